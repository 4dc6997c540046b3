/- Parts of a proof, laid together. Each part says its own conditions. -/
import Derived.Test.YtmfkkkhddigkfaaGreatDoorR21
import Derived.Test.YtmfkkkhddigkfaaGreatDoorR24
import Derived.Test.YtmfkkkhddigkfaaGreatDoorR19
namespace Go.Proofs.YtmfkkkhddigkfaaGreatDoor
open Go Go.RowKit
section
variable {P : Program} {ρ : Operand → Value} {o : Oper} {T : TypeId} {p q : Operand} {w : World} {A : Option Addr} {n c k s : Nat}
def restA (A : Option Addr) (k c s : Nat) : Option Addr := if c = k then A else A.map (·.add (k * s))
theorem run_sl_lh {k2 : Nat} {r : Operand} (ho : o.op = .slice T p (some q) (some r) none) (hp : ρ p = .slice A n c) (hq : ρ q = .int .i64 (k : Int)) (hr : ρ r = .int .i64 (k2 : Int)) (ht : P.underlying T = some (.slice (P.elem T))) (hs : (sizeOf (P.elem T)).run P w = .ok s w) (hk : k ≤ k2) (hk2 : k2 ≤ c) : (execOp ρ o).run P w = .ok (.value (.slice (restA A k c s) (k2 - k) (c - k))) w := by
 have h := run_slice_lh (w := w) T A n c ht .i64 .i64 (k : Int) (k2 : Int) (by omega) (by omega) (by omega)
 rw [hs] at h
 simp only [Result.andThen_ok,sliced,Int.toNat_natCast] at h
 unfold execOp
 simp only [ho,hp,hq,hr,Option.map]
 rw [Sem.run_bind,run_sliceAt_slice _ _ _ _ _ _ ht,h]
 simp [restA]
end
theorem SlAt.upto {α : Type} {enc : α → List Value} {kk : Nat} {w : World} {A : Option Addr} {xs : List α} (h : SlAt enc kk w A xs) (n : Nat) : SlAt enc kk w A (xs.take n) := fun hne => by
 obtain ⟨b,off,hA,hlt,hc⟩ := h (by rintro rfl; simp at hne)
 refine ⟨b,off,hA,hlt,fun i x hx j u hu => hc i x ?_ j u hu⟩
 rw [List.getElem?_take] at hx
 split at hx
 ·exact hx
 ·cases hx
theorem SlAt.rest {α : Type} {enc : α → List Value} {kk : Nat} {w : World} {A : Option Addr} {xs : List α} (h : SlAt enc kk w A xs) (k c : Nat) (hc : xs.length ≤ c) : SlAt enc kk w (restA A k c kk) (xs.drop k) := fun hne => by
 have hlt : k < xs.length := by
  rcases Nat.lt_or_ge k xs.length with h1 | h1
  ·exact h1
  ·exact absurd (List.drop_eq_nil_of_le h1) hne
 obtain ⟨b,off,rfl,hb,hx⟩ := h (by rintro rfl; simp at hlt)
 refine ⟨b,off + k * kk, ?_,hb,fun i x hi j u hu => ?_⟩
 ·unfold restA
  rw [if_neg (by omega)]
  simp [Addr.add]
 ·rw [List.getElem?_drop] at hi
  have := hx (k + i) x hi j u hu
  rw [Nat.add_mul] at this
  rw [show off + k * kk + i * kk + j = off + (k * kk + i * kk) + j by omega]
  exact this
end Go.Proofs.YtmfkkkhddigkfaaGreatDoor
namespace Go.Proofs.YtmfkkkhddigkfaaGreatDoor
open Go Go.RowKit
attribute [local go_sem] qUpon lUpon
set_option maxRecDepth 100000 in
set_option maxHeartbeats 4000000 in
theorem of_any (A : Option Addr) (L : List Int) (cL : Nat) (w : World) (hL : SlAt encI 1 w A L) (hl : L.length ≤ 4611686018427387904) :
  Calls Tryz.prog 66 #[.slice A L.length cL] w fun e w' => e = .returned (.agg (setC (fromS L))) ∧ Ext w w' := by
 have hL' := hide hL
 have hB2 := hide ((Blk.new w 51 (setC 0)).ext (ext_self1 _ (.cells (setC 0) 51)))
 have hB3 := hide (Blk.new (w.alloc (.cells (setC 0) 51)) 51 (setC 0))
 have hx1 := hide (ext_self2 w (.cells (setC 0) 51) (.cells (setC 0) 51))
 simp only [World.size_alloc] at hB3
 clear hL
 go_enter Tryz.func66,Tryz.ntmps66
 go_wp2_with fail
 have hz : setC 0 = #[.int .u64 0, .int .u64 0, .int .u64 0, .int .u64 0, .int .u64 0, .int .u64 0, .int .u64 0, .int .u64 0, .int .u64 0, .int .u64 0, .int .u64 0, .int .u64 0, .int .u64 0, .int .u64 0, .int .u64 0, .int .u64 0] := rfl
 rw [hz] at hx1 hB2 hB3
 generalize (w.alloc (.cells #[.int .u64 0, .int .u64 0, .int .u64 0, .int .u64 0, .int .u64 0, .int .u64 0, .int .u64 0, .int .u64 0, .int .u64 0, .int .u64 0, .int .u64 0, .int .u64 0, .int .u64 0, .int .u64 0, .int .u64 0, .int .u64 0] 51)).alloc (.cells #[.int .u64 0, .int .u64 0, .int .u64 0, .int .u64 0, .int .u64 0, .int .u64 0, .int .u64 0, .int .u64 0, .int .u64 0, .int .u64 0, .int .u64 0, .int .u64 0, .int .u64 0, .int .u64 0, .int .u64 0, .int .u64 0] 51) = W1 at *
 rw [← hz] at hB2 hB3
 clear hz
 go_loopw [8] (fun i wr => ∃ k : Nat,k ≤ L.length ∧ i = .int .i64 k ∧ Blk wr w.heap.size 51 (setC 0) ∧ Blk wr (w.heap.size + 1) 51 (setC (fromS (L.take k))) ∧ Ext w wr) (fun i _ => L.length - (intOf i).toNat)
 case atStart => exact ⟨0,Nat.zero_le _,rfl,unhide hB2,by rw [List.take_zero]; exact unhide hB3,unhide hx1⟩
 case round =>
  obtain ⟨k,hk,rfl,hB,hC,hx⟩ := hrel
  have hB' := hide hB
  have hC' := hide hC
  have hx' := hide hx
  clear hB2 hB3 hx1
  by_cases hlt : k < L.length
  ·have hLr := (unhide hL').ext hx
   obtain ⟨b,off,rfl,c0⟩ := atI hLr hlt
   have hst := hide (fromS_next L k hlt)
   generalize L[k] = x at c0 hst
   have hself := Ext.refl wr
   clear hB hC hx hLr
   try dsimp only
   repeat (first | (with_reducible refine wp_reg (id := 5) ?_) | go_values | go_step | go_guarded | go_upon | go_in | go_back | fail)
   refine wpO_val rfl (load_SetR (N := fromS (L.take k)) rfl rfl (unhide hC').whole) ?_
   refine wpO_want rfl ?_
   go_simp
   refine wpO_want rfl ?_
   go_simp
   refine (with_any (fromS (L.take k)) x wr).mono ?_
   rintro e W7 ⟨rfl,hx7⟩
   refine ⟨_,rfl, ?_⟩
   have hC7 := (unhide hC').ext hx7
   refine wpO_skip rfl (store_SetR (N := withS (fromS (L.take k)) x) rfl rfl rfl hC7) (wpO_done ?_)
   rw [← unhide hst]
   have hC8 := hide (hC7.row (setC (fromS (L.take (k + 1)))))
   have hB8 := hide (((unhide hB').ext hx7).keep (Keep.setRow W7 (w.heap.size + 1) (setC (fromS (L.take (k + 1))))) (by simp))
   have hx8 := hide (((unhide hx').trans hx7).of_new (Keep.setRow W7 (w.heap.size + 1) (setC (fromS (L.take (k + 1))))) (by simp))
   clear hB' hC' hx' hx7 hC7 c0 hself
   generalize W7.setRow (w.heap.size + 1) (setC (fromS (L.take (k + 1)))) = W8 at *
   go_wp2_with fail
   go_roundw
   case rel => exact ⟨k + 1,by omega,by go_num,unhide hB8,unhide hC8,unhide hx8⟩
   case measure => simp [intOf]; omega
  ·have hke : k = L.length := by omega
   subst hke
   rw [List.take_length] at hC'
   clear hB hC hx
   try dsimp only
   repeat (first | (with_reducible refine wp_reg (id := 7) ?_) | go_values | go_step | go_guarded | go_upon | go_in | go_back | fail)
   refine wpO_val rfl (load_SetR (N := fromS L) rfl rfl (unhide hC').whole) ?_
   refine wpO_skip rfl (store_SetR (N := fromS L) rfl rfl rfl (unhide hB')) (wpO_done ?_)
   go_wp2_with fail
   refine bodyPost_ret (ret_cell1 rfl rfl (load_Set _ w.heap.size (fromS L) ((unhide hB').row _))) rfl ?_
   exact ⟨rfl,(unhide hx').of_new (Keep.setRow wr w.heap.size _) (by simp)⟩
end Go.Proofs.YtmfkkkhddigkfaaGreatDoor
