/- Parts of a proof, laid together. Each part says its own conditions. -/
import Derived.Test.YtoacpebmhbkmbaaGreatDoorT16
import Derived.Test.YtoacpebmhbkmbaaGreatDoorT12
import Derived.Test.YtoacpebmhbkmbaaGreatDoorT5
import Derived.Test.YtoacpebmhbkmbaaGreatDoorT19
import Derived.Laws.BitsAllLaws
import Derived.Test.YtoacpebmhbkmbaaGreatDoorT4
namespace Go.Proofs.YtoacpebmhbkmbaaGreatDoor
open Go Go.RowKit
attribute [local go_sem] qUpon lUpon
def minusS (N M : Nat) : Nat := N ^^^ (N &&& M)
theorem minusS_bit (N M k : Nat) : (minusS N M).testBit k = (N.testBit k && !M.testBit k) := by
 unfold minusS
 rw [Nat.testBit_xor,Nat.testBit_and]
 cases N.testBit k <;> cases M.testBit k <;> rfl
theorem wdN_minus (N M i : Nat) : wdN (minusS N M) i = wdN N i &&& (18446744073709551615 - wdN M i) := by
 apply Nat.eq_of_testBit_eq
 intro k
 have h : (18446744073709551615 - wdN M i).testBit k = (decide (k < 64) && !(wdN M i).testBit k) := by
  rw [show 18446744073709551615 - wdN M i = 2 ^ 64 - (wdN M i + 1) by have := wdN_lt M i; omega,Nat.testBit_two_pow_sub_succ (wdN_lt M i)]
 rw [Nat.testBit_and,h,wdN_bit,wdN_bit,wdN_bit,minusS_bit]
 cases decide (k < 64) <;> cases N.testBit (64 * i + k) <;> simp
theorem wd_minus (N M i : Nat) : bits .andNot .u64 (wd N i) (wd M i) = wd (minusS N M) i := by
 unfold wd
 rw [u64_andNot_nat _ _ (wdN_lt _ _) (wdN_lt _ _),wdN_minus]
theorem wdN_and (N M i : Nat) : wdN (N &&& M) i = wdN N i &&& wdN M i := by
 apply Nat.eq_of_testBit_eq
 intro k
 rw [wdN_bit,Nat.testBit_and,Nat.testBit_and,wdN_bit,wdN_bit]
 cases decide (k < 64) <;> simp
theorem wd_or (N M i : Nat) : bits .or .u64 (wd N i) (wd M i) = wd (N ||| M) i := by
 unfold wd
 rw [u64_or_nat _ _ (wdN_lt _ _) (wdN_lt _ _),wdN_or]
theorem wd_and (N M i : Nat) : bits .and .u64 (wd N i) (wd M i) = wd (N &&& M) i := by
 unfold wd
 rw [u64_and_nat _ _ (wdN_lt _ _) (wdN_lt _ _),wdN_and]
theorem setC_ext {N M : Nat} (h : ∀ i,i < 16 → wdN N i = wdN M i) : setC N = setC M := by
 apply Array.ext_getElem?
 intro i
 by_cases hi : i < 16
 ·rw [setC_get _ hi,setC_get _ hi]
  unfold wd
  rw [h i hi]
 ·have h1 : ∀ a : Array Value,a.size = 16 → a[i]? = none := fun a h => Array.getElem?_eq_none (by omega)
  rw [h1 _ (setC_size _),h1 _ (setC_size _)]
def mixS (R N k : Nat) : Nat := 2 ^ (64 * k) * (N >>> (64 * k)) + R % 2 ^ (64 * k)
theorem mixS_bit (R N k j : Nat) : (mixS R N k).testBit j = if j < 64 * k then R.testBit j else N.testBit j := by
 unfold mixS
 rw [Nat.testBit_two_pow_mul_add _ (Nat.mod_lt _ (Nat.pow_pos (by decide)))]
 by_cases h : j < 64 * k
 ·rw [if_pos h,if_pos h,Nat.testBit_mod_two_pow]
  simp [h]
 ·rw [if_neg h,if_neg h,Nat.testBit_shiftRight]
  congr 1
  omega
theorem mixS_word (R N k i : Nat) : wdN (mixS R N k) i = if i < k then wdN R i else wdN N i := by
 apply Nat.eq_of_testBit_eq
 intro j
 rw [wdN_bit,mixS_bit]
 by_cases hj : j < 64
 ·by_cases h : i < k
  ·rw [if_pos (by omega),if_pos h,wdN_bit]
  ·rw [if_neg (by omega),if_neg h,wdN_bit]
 ·have : decide (j < 64) = false := by simp [hj]
  rw [this,Bool.false_and]
  split <;> rw [wdN_bit,this,Bool.false_and]
theorem mixS_at (R N k : Nat) : wd (mixS R N k) k = wd N k := by
 unfold wd
 rw [mixS_word,if_neg (by omega)]
theorem setC_mix0 (R N : Nat) : setC (mixS R N 0) = setC N := setC_ext fun i _ => by rw [mixS_word,if_neg (by omega)]
theorem setC_mix16 (R N : Nat) : setC (mixS R N 16) = setC R := setC_ext fun i hi => by rw [mixS_word,if_pos hi]
theorem setC_mix (R N k : Nat) (_hk : k < 16) : (setC (mixS R N k)).setIfInBounds k (.int .u64 (wd R k)) = setC (mixS R N (k + 1)) := by
 apply Array.ext_getElem?
 intro i
 by_cases hi : i < 16
 ·rw [setC_get _ hi]
  by_cases he : k = i
  ·subst he
   rw [Array.getElem?_setIfInBounds_self_of_lt (by rw [setC_size]; omega)]
   unfold wd
   rw [mixS_word,if_pos (by omega)]
  ·rw [Array.getElem?_setIfInBounds_ne he,setC_get _ hi]
   unfold wd
   rw [mixS_word,mixS_word]
   by_cases h : i < k
   ·rw [if_pos h,if_pos (by omega)]
   ·rw [if_neg h,if_neg (by omega)]
 ·have h1 : ∀ a : Array Value,a.size = 16 → a[i]? = none := fun a h => Array.getElem?_eq_none (by omega)
  rw [h1 _ (by simp [setC_size]),h1 _ (setC_size _)]
set_option maxRecDepth 100000 in
theorem load_SetR {ρ : Operand → Value} {o : Oper} {x : Operand} {w : World} {b off N : Nat} (ho : o.op = .load 76 x) (hx : ρ x = .pointer (some ⟨b,off,none⟩)) (hc : ∀ (j : Nat) v,(setC N)[j]? = some v → w.cell? ⟨b,off + j,none⟩ = some v) : (execOp ρ o).run Tryz.prog w = .ok (.value (.agg (setC N))) w :=
 run_load_agg ho hx (by simp [go_sem]) (by simp [go_sem]; rfl) hc
theorem setC_one (N : Nat) : ∀ u ∈ (setC N).toList,u.oneCell' = true := by
 intro u hu
 obtain ⟨i,hi,rfl⟩ := List.getElem_of_mem hu
 have h16 : i < 16 := by simpa [setC_size] using hi
 have := setC_get N h16
 rw [← Array.getElem?_toList,List.getElem?_eq_getElem hi] at this
 injection this with this
 rw [this]
 rfl
set_option maxRecDepth 100000 in
theorem store_SetR {ρ : Operand → Value} {o : Oper} {p x : Operand} {w : World} {b N M : Nat} (ho : o.op = .store 76 p x) (hp : ρ p = .pointer (some ⟨b,0,none⟩)) (hx : ρ x = .agg (setC N)) (hb : Blk w b 76 (setC M)) : (execOp ρ o).run Tryz.prog w = .ok .skip (w.setRow b (setC N)) :=
 run_store_row (v := .agg (setC N)) ho hp hx (by simp [go_sem]; rfl) hb rfl (setC_one N)
set_option maxRecDepth 100000 in
set_option maxHeartbeats 4000000 in
theorem minus_any (N M : Nat) (w : World) : Calls Tryz.prog 84 #[.agg (setC N), .agg (setC M)] w fun e w' => e = .returned (.agg (setC (minusS N M))) ∧ Ext w w' := by
 obtain ⟨R,hR⟩ : ∃ R,R = minusS N M := ⟨_,rfl⟩
 rw [← hR]
 have hR' := hide hR
 clear hR
 have hB2 := hide (((Blk.new w 76 (setC N)).ext (ext_self1 _ (.cells (setC M) 76))).ext (ext_self1 _ (.cells (setC 0) 76)))
 have hB3 := hide ((Blk.new (w.alloc (.cells (setC N) 76)) 76 (setC M)).ext (ext_self1 _ (.cells (setC 0) 76)))
 have hB4 := hide (Blk.new ((w.alloc (.cells (setC N) 76)).alloc (.cells (setC M) 76)) 76 (setC 0))
 have hx1 := hide (ext_self3 w (.cells (setC N) 76) (.cells (setC M) 76) (.cells (setC 0) 76))
 simp only [World.size_alloc] at hB3 hB4
 go_enter Tryz.func84,Tryz.ntmps84
 go_wp2_with fail
 have hz : setC 0 = #[.int .u64 0, .int .u64 0, .int .u64 0, .int .u64 0, .int .u64 0, .int .u64 0, .int .u64 0, .int .u64 0, .int .u64 0, .int .u64 0, .int .u64 0, .int .u64 0, .int .u64 0, .int .u64 0, .int .u64 0, .int .u64 0] := rfl
 rw [hz] at hx1 hB2 hB3 hB4
 generalize ((w.alloc (.cells (setC N) 76)).alloc (.cells (setC M) 76)).alloc (.cells #[.int .u64 0, .int .u64 0, .int .u64 0, .int .u64 0, .int .u64 0, .int .u64 0, .int .u64 0, .int .u64 0, .int .u64 0, .int .u64 0, .int .u64 0, .int .u64 0, .int .u64 0, .int .u64 0, .int .u64 0, .int .u64 0] 76) = W1 at *
 rw [← hz] at hB4
 clear hz
 have hne := hide (show w.heap.size ≠ w.heap.size + 1 ∧ w.heap.size ≠ w.heap.size + 1 + 1 ∧ w.heap.size + 1 ≠ w.heap.size + 1 + 1 by omega)
 have hge := hide (show w.heap.size ≤ w.heap.size ∧ w.heap.size ≤ w.heap.size + 1 + 1 by omega)
 generalize hb4e : w.heap.size + 1 + 1 = b4 at *
 generalize hb3e : w.heap.size + 1 = b3 at *
 generalize hb2e : w.heap.size = b2 at *
 rw [← hb2e] at hge
 rw [hb2e] at hge
 have hsz := hide hb2e
 clear hb2e hb3e hb4e
 go_loopw [6] (fun i wr => ∃ k : Nat,k ≤ 16 ∧ i = .int .i64 k ∧ Blk wr b2 76 (setC (mixS R N k)) ∧ Blk wr b3 76 (setC M) ∧ Blk wr b4 76 (setC 0) ∧ Ext w wr) (fun i _ => 16 - (intOf i).toNat)
 case atStart => exact ⟨0,Nat.zero_le _,rfl,by rw [setC_mix0]; exact unhide hB2,unhide hB3,unhide hB4,unhide hx1⟩
 case round =>
  obtain ⟨k,hk,rfl,hB,hC,hA,hx⟩ := hrel
  have hB' := hide hB
  have hC' := hide hC
  have hA' := hide hA
  have hx' := hide hx
  clear hB2 hB3 hB4 hx1
  by_cases hlt : k < 16
  ·have c0 := hB.cells k (setC_get (mixS R N k) hlt)
   rw [mixS_at] at c0
   have c1 := hC.cells k (setC_get M hlt)
   have hself := Ext.refl wr
   clear hB hC hA hx
   go_wp2_with fail
   refine wp_region_still (P := Tryz.prog) [0,1,2,3,4,5,6,7] [8] 1 #[true,true,true,true,true,true,true,true,false] (by kernel_rfl) (by kernel_rfl) rfl (by rfl) ?_
   iterate 8
    refine ql_want (v := ?_) rfl (by rfl) (fun W hW => ?_) ?_
    rotate_left
    ·go_simp
     first | done | rfl
    go_frame
   refine wpQL_nil (fun w3 hx3 => ?_)
   have c2 := c0 w3 hx3
   have f2 := ((unhide hB').ext hx3).frozen k
   refine lx_one (i := 8) (by kernel_rfl) rfl (by rfl) #[true,true,true,true,true,true,true,true,true] (by rfl) ?_
   go_simp
   rw [wd_minus, ← unhide hR']
   refine wpX_done (by kernel_rfl) ?_
   try go_frame
   have hB4' := hide (((unhide hB').ext hx3).set k (.int .u64 (wd R k)))
   have hC4' := hide (((unhide hC').ext hx3).keep (Keep.setCell w3 b2 k (.int .u64 (wd R k))) (by simpa using (unhide hne).1.symm))
   have hA4' := hide (((unhide hA').ext hx3).keep (Keep.setCell w3 b2 k (.int .u64 (wd R k))) (by simpa using (unhide hne).2.1.symm))
   have hx4' := hide (((unhide hx').trans hx3).of_new (Keep.setCell w3 b2 k (.int .u64 (wd R k))) (by rw [← unhide hsz]; simp))
   clear hB' hC' hA' hx' hx3 c0 c1 c2 f2 hself
   go_wp2_with fail
   go_roundw
   case rel => exact ⟨k + 1,by omega,by go_num,by have h := unhide hB4'; rw [setC_mix _ _ _ hlt] at h; exact h,unhide hC4',unhide hA4',unhide hx4'⟩
   case measure => simp [intOf]; omega
  ·have hke : k = 16 := by omega
   subst hke
   rw [setC_mix16] at hB hB'
   have hself := Ext.refl wr
   clear hB hC hA hx
   repeat (first | (with_reducible refine wp_reg (id := 6) ?_) | go_step | go_guarded | go_upon | go_in | go_back | fail)
   refine wpO_val rfl (load_SetR rfl rfl (unhide hB').whole) (wpO_skip rfl (store_SetR rfl rfl rfl (unhide hA')) (wpO_done ?_))
   go_wp2_with fail
   refine bodyPost_ret (ret_cell1 rfl rfl (load_Set _ b4 R ((unhide hA').row _))) rfl ?_
   exact ⟨rfl,(unhide hx').of_new (Keep.setRow wr b4 _) (by have := (unhide hne).2.1; have := unhide hsz; have := (unhide hge).2; simp; omega)⟩
set_option maxRecDepth 100000 in
set_option maxHeartbeats 4000000 in
theorem union_any (N M : Nat) (w : World) : Calls Tryz.prog 127 #[.agg (setC N), .agg (setC M)] w fun e w' => e = .returned (.agg (setC (N ||| M))) ∧ Ext w w' := by
 obtain ⟨R,hR⟩ : ∃ R,R = N ||| M := ⟨_,rfl⟩
 rw [← hR]
 have hR' := hide hR
 clear hR
 have hB2 := hide (((Blk.new w 76 (setC N)).ext (ext_self1 _ (.cells (setC M) 76))).ext (ext_self1 _ (.cells (setC 0) 76)))
 have hB3 := hide ((Blk.new (w.alloc (.cells (setC N) 76)) 76 (setC M)).ext (ext_self1 _ (.cells (setC 0) 76)))
 have hB4 := hide (Blk.new ((w.alloc (.cells (setC N) 76)).alloc (.cells (setC M) 76)) 76 (setC 0))
 have hx1 := hide (ext_self3 w (.cells (setC N) 76) (.cells (setC M) 76) (.cells (setC 0) 76))
 simp only [World.size_alloc] at hB3 hB4
 go_enter Tryz.func127,Tryz.ntmps127
 go_wp2_with fail
 have hz : setC 0 = #[.int .u64 0, .int .u64 0, .int .u64 0, .int .u64 0, .int .u64 0, .int .u64 0, .int .u64 0, .int .u64 0, .int .u64 0, .int .u64 0, .int .u64 0, .int .u64 0, .int .u64 0, .int .u64 0, .int .u64 0, .int .u64 0] := rfl
 rw [hz] at hx1 hB2 hB3 hB4
 generalize ((w.alloc (.cells (setC N) 76)).alloc (.cells (setC M) 76)).alloc (.cells #[.int .u64 0, .int .u64 0, .int .u64 0, .int .u64 0, .int .u64 0, .int .u64 0, .int .u64 0, .int .u64 0, .int .u64 0, .int .u64 0, .int .u64 0, .int .u64 0, .int .u64 0, .int .u64 0, .int .u64 0, .int .u64 0] 76) = W1 at *
 rw [← hz] at hB4
 clear hz
 have hne := hide (show w.heap.size ≠ w.heap.size + 1 ∧ w.heap.size ≠ w.heap.size + 1 + 1 ∧ w.heap.size + 1 ≠ w.heap.size + 1 + 1 by omega)
 have hge := hide (show w.heap.size ≤ w.heap.size ∧ w.heap.size ≤ w.heap.size + 1 + 1 by omega)
 generalize hb4e : w.heap.size + 1 + 1 = b4 at *
 generalize hb3e : w.heap.size + 1 = b3 at *
 generalize hb2e : w.heap.size = b2 at *
 rw [← hb2e] at hge
 rw [hb2e] at hge
 have hsz := hide hb2e
 clear hb2e hb3e hb4e
 go_loopw [6] (fun i wr => ∃ k : Nat,k ≤ 16 ∧ i = .int .i64 k ∧ Blk wr b2 76 (setC (mixS R N k)) ∧ Blk wr b3 76 (setC M) ∧ Blk wr b4 76 (setC 0) ∧ Ext w wr) (fun i _ => 16 - (intOf i).toNat)
 case atStart => exact ⟨0,Nat.zero_le _,rfl,by rw [setC_mix0]; exact unhide hB2,unhide hB3,unhide hB4,unhide hx1⟩
 case round =>
  obtain ⟨k,hk,rfl,hB,hC,hA,hx⟩ := hrel
  have hB' := hide hB
  have hC' := hide hC
  have hA' := hide hA
  have hx' := hide hx
  clear hB2 hB3 hB4 hx1
  by_cases hlt : k < 16
  ·have c0 := hB.cells k (setC_get (mixS R N k) hlt)
   rw [mixS_at] at c0
   have c1 := hC.cells k (setC_get M hlt)
   have hself := Ext.refl wr
   clear hB hC hA hx
   go_wp2_with fail
   refine wp_region_still (P := Tryz.prog) [0,1,2,3,4,5,6,7] [8] 1 #[true,true,true,true,true,true,true,true,false] (by kernel_rfl) (by kernel_rfl) rfl (by rfl) ?_
   iterate 8
    refine ql_want (v := ?_) rfl (by rfl) (fun W hW => ?_) ?_
    rotate_left
    ·go_simp
     first | done | rfl
    go_frame
   refine wpQL_nil (fun w3 hx3 => ?_)
   have c2 := c0 w3 hx3
   have f2 := ((unhide hB').ext hx3).frozen k
   refine lx_one (i := 8) (by kernel_rfl) rfl (by rfl) #[true,true,true,true,true,true,true,true,true] (by rfl) ?_
   go_simp
   rw [wd_or, ← unhide hR']
   refine wpX_done (by kernel_rfl) ?_
   try go_frame
   have hB4' := hide (((unhide hB').ext hx3).set k (.int .u64 (wd R k)))
   have hC4' := hide (((unhide hC').ext hx3).keep (Keep.setCell w3 b2 k (.int .u64 (wd R k))) (by simpa using (unhide hne).1.symm))
   have hA4' := hide (((unhide hA').ext hx3).keep (Keep.setCell w3 b2 k (.int .u64 (wd R k))) (by simpa using (unhide hne).2.1.symm))
   have hx4' := hide (((unhide hx').trans hx3).of_new (Keep.setCell w3 b2 k (.int .u64 (wd R k))) (by rw [← unhide hsz]; simp))
   clear hB' hC' hA' hx' hx3 c0 c1 c2 f2 hself
   go_wp2_with fail
   go_roundw
   case rel => exact ⟨k + 1,by omega,by go_num,by have h := unhide hB4'; rw [setC_mix _ _ _ hlt] at h; exact h,unhide hC4',unhide hA4',unhide hx4'⟩
   case measure => simp [intOf]; omega
  ·have hke : k = 16 := by omega
   subst hke
   rw [setC_mix16] at hB hB'
   have hself := Ext.refl wr
   clear hB hC hA hx
   repeat (first | (with_reducible refine wp_reg (id := 6) ?_) | go_step | go_guarded | go_upon | go_in | go_back | fail)
   refine wpO_val rfl (load_SetR rfl rfl (unhide hB').whole) (wpO_skip rfl (store_SetR rfl rfl rfl (unhide hA')) (wpO_done ?_))
   go_wp2_with fail
   refine bodyPost_ret (ret_cell1 rfl rfl (load_Set _ b4 R ((unhide hA').row _))) rfl ?_
   exact ⟨rfl,(unhide hx').of_new (Keep.setRow wr b4 _) (by have := (unhide hne).2.1; have := unhide hsz; have := (unhide hge).2; simp; omega)⟩
end Go.Proofs.YtoacpebmhbkmbaaGreatDoor
namespace Go.Proofs.YtoacpebmhbkmbaaGreatDoor
open Go Go.RowKit
section
variable {P : Program} {κ τ : Type} [DecidableEq κ] {ek : κ → Value} {ev : τ → Value} {ok : κ → Prop} {kt et t : TypeId} {w : World} {b : Nat} {m : List (κ × τ)}
theorem run_lookup1_op (K : KE P kt ek ok) (ht : P.underlying t = some (.map kt et)) (h : MapIs ek ev ok w b m) {z0 : τ} (hz : (zeroValue et).run P w = .ok (ev z0) w) {x : κ} (hx : ok x)
  {ρ : Operand → Value} {o : Oper} {p q : Operand} (ho : o.op = .lookup t p q false) (hp : ρ p = .map (some b)) (hq : ρ q = ek x) : (execOp ρ o).run P w = .ok (.value (ev ((lookM m x).getD z0))) w := by
 have := h.lookup1 K ht hz hx
 unfold execOp
 simp only [ho,hp,hq]
 simp [this,go_sem]
theorem run_update_op (K : KE P kt ek ok) (ht : P.underlying t = some (.map kt et)) (h : MapIs ek ev ok w b m) {x : κ} (hx : ok x) (v : τ)
  {ρ : Operand → Value} {o : Oper} {p q r : Operand} (ho : o.op = .mapUpdate t p q r) (hp : ρ p = .map (some b)) (hq : ρ q = ek x) (hr : ρ r = ev v) :
  ∃ w',(execOp ρ o).run P w = .ok .skip w' ∧ MapIs ek ev ok w' b (putM m x v) ∧ Keep [b] w w' ∧ w'.heap.size = w.heap.size := by
 obtain ⟨w',h1,h2,h3,h4⟩ := h.update K ht hx v
 refine ⟨w', ?_,h2,h3,h4⟩
 unfold execOp
 simp only [ho,hp,hq,hr]
 simp [h1,go_sem]
end
def evS (N : Nat) : Value := .agg (setC N)
theorem zeroS (w : World) : (zeroValue 76).run Tryz.prog w = .ok (evS 0) w := by kernel_rfl
theorem okK {x : Int} (h : 0 ≤ x ∧ x < 1024) : i64ok x := by unfold i64ok; omega
end Go.Proofs.YtoacpebmhbkmbaaGreatDoor
