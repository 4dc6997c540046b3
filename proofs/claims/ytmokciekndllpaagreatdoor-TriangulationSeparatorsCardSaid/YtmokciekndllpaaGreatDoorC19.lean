/- Parts of a proof, laid together. Each part says its own conditions. -/
import Derived.Test.YtmokciekndllpaaGreatDoorC14
import Derived.Test.YtmokciekndllpaaGreatDoorC10
import Derived.Test.YtmokciekndllpaaGreatDoorC4
import Derived.Test.YtmokciekndllpaaGreatDoorC16
import Derived.Laws.BitsAllLaws
import Derived.Test.YtmokciekndllpaaGreatDoorC3
import Derived.Test.YtmokciekndllpaaGreatDoorC18
import Derived.Test.YtmokciekndllpaaGreatDoorC17
namespace Go.Proofs.YtmokciekndllpaaGreatDoor
open Go Go.RowKit
attribute [local go_sem] qUpon lUpon
def minusS (N M : Nat) : Nat := N ^^^ (N &&& M)
theorem minusS_bit (N M k : Nat) : (minusS N M).testBit k = (N.testBit k && !M.testBit k) := by
 unfold minusS
 rw [Nat.testBit_xor,Nat.testBit_and]
 cases N.testBit k <;> cases M.testBit k <;> rfl
theorem wdN_minus (N M i : Nat) : wdN (minusS N M) i = wdN N i &&& (18446744073709551615 - wdN M i) := by
 apply Nat.eq_of_testBit_eq
 intro k
 have h : (18446744073709551615 - wdN M i).testBit k = (decide (k < 64) && !(wdN M i).testBit k) := by
  rw [show 18446744073709551615 - wdN M i = 2 ^ 64 - (wdN M i + 1) by have := wdN_lt M i; omega,Nat.testBit_two_pow_sub_succ (wdN_lt M i)]
 rw [Nat.testBit_and,h,wdN_bit,wdN_bit,wdN_bit,minusS_bit]
 cases decide (k < 64) <;> cases N.testBit (64 * i + k) <;> simp
theorem wd_minus (N M i : Nat) : bits .andNot .u64 (wd N i) (wd M i) = wd (minusS N M) i := by
 unfold wd
 rw [u64_andNot_nat _ _ (wdN_lt _ _) (wdN_lt _ _),wdN_minus]
theorem wdN_and (N M i : Nat) : wdN (N &&& M) i = wdN N i &&& wdN M i := by
 apply Nat.eq_of_testBit_eq
 intro k
 rw [wdN_bit,Nat.testBit_and,Nat.testBit_and,wdN_bit,wdN_bit]
 cases decide (k < 64) <;> simp
theorem wd_or (N M i : Nat) : bits .or .u64 (wd N i) (wd M i) = wd (N ||| M) i := by
 unfold wd
 rw [u64_or_nat _ _ (wdN_lt _ _) (wdN_lt _ _),wdN_or]
theorem wd_and (N M i : Nat) : bits .and .u64 (wd N i) (wd M i) = wd (N &&& M) i := by
 unfold wd
 rw [u64_and_nat _ _ (wdN_lt _ _) (wdN_lt _ _),wdN_and]
theorem setC_ext {N M : Nat} (h : ∀ i,i < 16 → wdN N i = wdN M i) : setC N = setC M := by
 apply Array.ext_getElem?
 intro i
 by_cases hi : i < 16
 ·rw [setC_get _ hi,setC_get _ hi]
  unfold wd
  rw [h i hi]
 ·have h1 : ∀ a : Array Value,a.size = 16 → a[i]? = none := fun a h => Array.getElem?_eq_none (by omega)
  rw [h1 _ (setC_size _),h1 _ (setC_size _)]
def mixS (R N k : Nat) : Nat := 2 ^ (64 * k) * (N >>> (64 * k)) + R % 2 ^ (64 * k)
theorem mixS_bit (R N k j : Nat) : (mixS R N k).testBit j = if j < 64 * k then R.testBit j else N.testBit j := by
 unfold mixS
 rw [Nat.testBit_two_pow_mul_add _ (Nat.mod_lt _ (Nat.pow_pos (by decide)))]
 by_cases h : j < 64 * k
 ·rw [if_pos h,if_pos h,Nat.testBit_mod_two_pow]
  simp [h]
 ·rw [if_neg h,if_neg h,Nat.testBit_shiftRight]
  congr 1
  omega
theorem mixS_word (R N k i : Nat) : wdN (mixS R N k) i = if i < k then wdN R i else wdN N i := by
 apply Nat.eq_of_testBit_eq
 intro j
 rw [wdN_bit,mixS_bit]
 by_cases hj : j < 64
 ·by_cases h : i < k
  ·rw [if_pos (by omega),if_pos h,wdN_bit]
  ·rw [if_neg (by omega),if_neg h,wdN_bit]
 ·have : decide (j < 64) = false := by simp [hj]
  rw [this,Bool.false_and]
  split <;> rw [wdN_bit,this,Bool.false_and]
theorem mixS_at (R N k : Nat) : wd (mixS R N k) k = wd N k := by
 unfold wd
 rw [mixS_word,if_neg (by omega)]
theorem setC_mix0 (R N : Nat) : setC (mixS R N 0) = setC N := setC_ext fun i _ => by rw [mixS_word,if_neg (by omega)]
theorem setC_mix16 (R N : Nat) : setC (mixS R N 16) = setC R := setC_ext fun i hi => by rw [mixS_word,if_pos hi]
theorem setC_mix (R N k : Nat) (_hk : k < 16) : (setC (mixS R N k)).setIfInBounds k (.int .u64 (wd R k)) = setC (mixS R N (k + 1)) := by
 apply Array.ext_getElem?
 intro i
 by_cases hi : i < 16
 ·rw [setC_get _ hi]
  by_cases he : k = i
  ·subst he
   rw [Array.getElem?_setIfInBounds_self_of_lt (by rw [setC_size]; omega)]
   unfold wd
   rw [mixS_word,if_pos (by omega)]
  ·rw [Array.getElem?_setIfInBounds_ne he,setC_get _ hi]
   unfold wd
   rw [mixS_word,mixS_word]
   by_cases h : i < k
   ·rw [if_pos h,if_pos (by omega)]
   ·rw [if_neg h,if_neg (by omega)]
 ·have h1 : ∀ a : Array Value,a.size = 16 → a[i]? = none := fun a h => Array.getElem?_eq_none (by omega)
  rw [h1 _ (by simp [setC_size]),h1 _ (setC_size _)]
set_option maxRecDepth 100000 in
theorem load_SetR {ρ : Operand → Value} {o : Oper} {x : Operand} {w : World} {b off N : Nat} (ho : o.op = .load 25 x) (hx : ρ x = .pointer (some ⟨b,off,none⟩)) (hc : ∀ (j : Nat) v,(setC N)[j]? = some v → w.cell? ⟨b,off + j,none⟩ = some v) : (execOp ρ o).run Tryz.prog w = .ok (.value (.agg (setC N))) w :=
 run_load_agg ho hx (by simp [go_sem]) (by simp [go_sem]; rfl) hc
theorem setC_one (N : Nat) : ∀ u ∈ (setC N).toList,u.oneCell' = true := by
 intro u hu
 obtain ⟨i,hi,rfl⟩ := List.getElem_of_mem hu
 have h16 : i < 16 := by simpa [setC_size] using hi
 have := setC_get N h16
 rw [← Array.getElem?_toList,List.getElem?_eq_getElem hi] at this
 injection this with this
 rw [this]
 rfl
set_option maxRecDepth 100000 in
theorem store_SetR {ρ : Operand → Value} {o : Oper} {p x : Operand} {w : World} {b N M : Nat} (ho : o.op = .store 25 p x) (hp : ρ p = .pointer (some ⟨b,0,none⟩)) (hx : ρ x = .agg (setC N)) (hb : Blk w b 25 (setC M)) : (execOp ρ o).run Tryz.prog w = .ok .skip (w.setRow b (setC N)) :=
 run_store_row (v := .agg (setC N)) ho hp hx (by simp [go_sem]; rfl) hb rfl (setC_one N)
set_option maxRecDepth 100000 in
set_option maxHeartbeats 4000000 in
theorem minus_any (N M : Nat) (w : World) : Calls Tryz.prog 69 #[.agg (setC N), .agg (setC M)] w fun e w' => e = .returned (.agg (setC (minusS N M))) ∧ Ext w w' := by
 obtain ⟨R,hR⟩ : ∃ R,R = minusS N M := ⟨_,rfl⟩
 rw [← hR]
 have hR' := hide hR
 clear hR
 have hB2 := hide (((Blk.new w 25 (setC N)).ext (ext_self1 _ (.cells (setC M) 25))).ext (ext_self1 _ (.cells (setC 0) 25)))
 have hB3 := hide ((Blk.new (w.alloc (.cells (setC N) 25)) 25 (setC M)).ext (ext_self1 _ (.cells (setC 0) 25)))
 have hB4 := hide (Blk.new ((w.alloc (.cells (setC N) 25)).alloc (.cells (setC M) 25)) 25 (setC 0))
 have hx1 := hide (ext_self3 w (.cells (setC N) 25) (.cells (setC M) 25) (.cells (setC 0) 25))
 simp only [World.size_alloc] at hB3 hB4
 go_enter Tryz.func69,Tryz.ntmps69
 go_wp2_with fail
 have hz : setC 0 = #[.int .u64 0, .int .u64 0, .int .u64 0, .int .u64 0, .int .u64 0, .int .u64 0, .int .u64 0, .int .u64 0, .int .u64 0, .int .u64 0, .int .u64 0, .int .u64 0, .int .u64 0, .int .u64 0, .int .u64 0, .int .u64 0] := rfl
 rw [hz] at hx1 hB2 hB3 hB4
 generalize ((w.alloc (.cells (setC N) 25)).alloc (.cells (setC M) 25)).alloc (.cells #[.int .u64 0, .int .u64 0, .int .u64 0, .int .u64 0, .int .u64 0, .int .u64 0, .int .u64 0, .int .u64 0, .int .u64 0, .int .u64 0, .int .u64 0, .int .u64 0, .int .u64 0, .int .u64 0, .int .u64 0, .int .u64 0] 25) = W1 at *
 rw [← hz] at hB4
 clear hz
 have hne := hide (show w.heap.size ≠ w.heap.size + 1 ∧ w.heap.size ≠ w.heap.size + 1 + 1 ∧ w.heap.size + 1 ≠ w.heap.size + 1 + 1 by omega)
 have hge := hide (show w.heap.size ≤ w.heap.size ∧ w.heap.size ≤ w.heap.size + 1 + 1 by omega)
 generalize hb4e : w.heap.size + 1 + 1 = b4 at *
 generalize hb3e : w.heap.size + 1 = b3 at *
 generalize hb2e : w.heap.size = b2 at *
 rw [← hb2e] at hge
 rw [hb2e] at hge
 have hsz := hide hb2e
 clear hb2e hb3e hb4e
 go_loopw [6] (fun i wr => ∃ k : Nat,k ≤ 16 ∧ i = .int .i64 k ∧ Blk wr b2 25 (setC (mixS R N k)) ∧ Blk wr b3 25 (setC M) ∧ Blk wr b4 25 (setC 0) ∧ Ext w wr) (fun i _ => 16 - (intOf i).toNat)
 case atStart => exact ⟨0,Nat.zero_le _,rfl,by rw [setC_mix0]; exact unhide hB2,unhide hB3,unhide hB4,unhide hx1⟩
 case round =>
  obtain ⟨k,hk,rfl,hB,hC,hA,hx⟩ := hrel
  have hB' := hide hB
  have hC' := hide hC
  have hA' := hide hA
  have hx' := hide hx
  clear hB2 hB3 hB4 hx1
  by_cases hlt : k < 16
  ·have c0 := hB.cells k (setC_get (mixS R N k) hlt)
   rw [mixS_at] at c0
   have c1 := hC.cells k (setC_get M hlt)
   have hself := Ext.refl wr
   clear hB hC hA hx
   go_wp2_with fail
   refine wp_region_still (P := Tryz.prog) [0,1,2,3,4,5,6,7] [8] 1 #[true,true,true,true,true,true,true,true,false] (by kernel_rfl) (by kernel_rfl) rfl (by rfl) ?_
   iterate 8
    refine ql_want (v := ?_) rfl (by rfl) (fun W hW => ?_) ?_
    rotate_left
    ·go_simp
     first | done | rfl
    go_frame
   refine wpQL_nil (fun w3 hx3 => ?_)
   have c2 := c0 w3 hx3
   have f2 := ((unhide hB').ext hx3).frozen k
   refine lx_one (i := 8) (by kernel_rfl) rfl (by rfl) #[true,true,true,true,true,true,true,true,true] (by rfl) ?_
   go_simp
   rw [wd_minus, ← unhide hR']
   refine wpX_done (by kernel_rfl) ?_
   try go_frame
   have hB4' := hide (((unhide hB').ext hx3).set k (.int .u64 (wd R k)))
   have hC4' := hide (((unhide hC').ext hx3).keep (Keep.setCell w3 b2 k (.int .u64 (wd R k))) (by simpa using (unhide hne).1.symm))
   have hA4' := hide (((unhide hA').ext hx3).keep (Keep.setCell w3 b2 k (.int .u64 (wd R k))) (by simpa using (unhide hne).2.1.symm))
   have hx4' := hide (((unhide hx').trans hx3).of_new (Keep.setCell w3 b2 k (.int .u64 (wd R k))) (by rw [← unhide hsz]; simp))
   clear hB' hC' hA' hx' hx3 c0 c1 c2 f2 hself
   go_wp2_with fail
   go_roundw
   case rel => exact ⟨k + 1,by omega,by go_num,by have h := unhide hB4'; rw [setC_mix _ _ _ hlt] at h; exact h,unhide hC4',unhide hA4',unhide hx4'⟩
   case measure => simp [intOf]; omega
  ·have hke : k = 16 := by omega
   subst hke
   rw [setC_mix16] at hB hB'
   have hself := Ext.refl wr
   clear hB hC hA hx
   repeat (first | (with_reducible refine wp_reg (id := 6) ?_) | go_step | go_guarded | go_upon | go_in | go_back | fail)
   refine wpO_val rfl (load_SetR rfl rfl (unhide hB').whole) (wpO_skip rfl (store_SetR rfl rfl rfl (unhide hA')) (wpO_done ?_))
   go_wp2_with fail
   refine bodyPost_ret (ret_cell1 rfl rfl (load_Set _ b4 R ((unhide hA').row _))) rfl ?_
   exact ⟨rfl,(unhide hx').of_new (Keep.setRow wr b4 _) (by have := (unhide hne).2.1; have := unhide hsz; have := (unhide hge).2; simp; omega)⟩
set_option maxRecDepth 100000 in
set_option maxHeartbeats 4000000 in
theorem union_any (N M : Nat) (w : World) : Calls Tryz.prog 57 #[.agg (setC N), .agg (setC M)] w fun e w' => e = .returned (.agg (setC (N ||| M))) ∧ Ext w w' := by
 obtain ⟨R,hR⟩ : ∃ R,R = N ||| M := ⟨_,rfl⟩
 rw [← hR]
 have hR' := hide hR
 clear hR
 have hB2 := hide (((Blk.new w 25 (setC N)).ext (ext_self1 _ (.cells (setC M) 25))).ext (ext_self1 _ (.cells (setC 0) 25)))
 have hB3 := hide ((Blk.new (w.alloc (.cells (setC N) 25)) 25 (setC M)).ext (ext_self1 _ (.cells (setC 0) 25)))
 have hB4 := hide (Blk.new ((w.alloc (.cells (setC N) 25)).alloc (.cells (setC M) 25)) 25 (setC 0))
 have hx1 := hide (ext_self3 w (.cells (setC N) 25) (.cells (setC M) 25) (.cells (setC 0) 25))
 simp only [World.size_alloc] at hB3 hB4
 go_enter Tryz.func57,Tryz.ntmps57
 go_wp2_with fail
 have hz : setC 0 = #[.int .u64 0, .int .u64 0, .int .u64 0, .int .u64 0, .int .u64 0, .int .u64 0, .int .u64 0, .int .u64 0, .int .u64 0, .int .u64 0, .int .u64 0, .int .u64 0, .int .u64 0, .int .u64 0, .int .u64 0, .int .u64 0] := rfl
 rw [hz] at hx1 hB2 hB3 hB4
 generalize ((w.alloc (.cells (setC N) 25)).alloc (.cells (setC M) 25)).alloc (.cells #[.int .u64 0, .int .u64 0, .int .u64 0, .int .u64 0, .int .u64 0, .int .u64 0, .int .u64 0, .int .u64 0, .int .u64 0, .int .u64 0, .int .u64 0, .int .u64 0, .int .u64 0, .int .u64 0, .int .u64 0, .int .u64 0] 25) = W1 at *
 rw [← hz] at hB4
 clear hz
 have hne := hide (show w.heap.size ≠ w.heap.size + 1 ∧ w.heap.size ≠ w.heap.size + 1 + 1 ∧ w.heap.size + 1 ≠ w.heap.size + 1 + 1 by omega)
 have hge := hide (show w.heap.size ≤ w.heap.size ∧ w.heap.size ≤ w.heap.size + 1 + 1 by omega)
 generalize hb4e : w.heap.size + 1 + 1 = b4 at *
 generalize hb3e : w.heap.size + 1 = b3 at *
 generalize hb2e : w.heap.size = b2 at *
 rw [← hb2e] at hge
 rw [hb2e] at hge
 have hsz := hide hb2e
 clear hb2e hb3e hb4e
 go_loopw [6] (fun i wr => ∃ k : Nat,k ≤ 16 ∧ i = .int .i64 k ∧ Blk wr b2 25 (setC (mixS R N k)) ∧ Blk wr b3 25 (setC M) ∧ Blk wr b4 25 (setC 0) ∧ Ext w wr) (fun i _ => 16 - (intOf i).toNat)
 case atStart => exact ⟨0,Nat.zero_le _,rfl,by rw [setC_mix0]; exact unhide hB2,unhide hB3,unhide hB4,unhide hx1⟩
 case round =>
  obtain ⟨k,hk,rfl,hB,hC,hA,hx⟩ := hrel
  have hB' := hide hB
  have hC' := hide hC
  have hA' := hide hA
  have hx' := hide hx
  clear hB2 hB3 hB4 hx1
  by_cases hlt : k < 16
  ·have c0 := hB.cells k (setC_get (mixS R N k) hlt)
   rw [mixS_at] at c0
   have c1 := hC.cells k (setC_get M hlt)
   have hself := Ext.refl wr
   clear hB hC hA hx
   go_wp2_with fail
   refine wp_region_still (P := Tryz.prog) [0,1,2,3,4,5,6,7] [8] 1 #[true,true,true,true,true,true,true,true,false] (by kernel_rfl) (by kernel_rfl) rfl (by rfl) ?_
   iterate 8
    refine ql_want (v := ?_) rfl (by rfl) (fun W hW => ?_) ?_
    rotate_left
    ·go_simp
     first | done | rfl
    go_frame
   refine wpQL_nil (fun w3 hx3 => ?_)
   have c2 := c0 w3 hx3
   have f2 := ((unhide hB').ext hx3).frozen k
   refine lx_one (i := 8) (by kernel_rfl) rfl (by rfl) #[true,true,true,true,true,true,true,true,true] (by rfl) ?_
   go_simp
   rw [wd_or, ← unhide hR']
   refine wpX_done (by kernel_rfl) ?_
   try go_frame
   have hB4' := hide (((unhide hB').ext hx3).set k (.int .u64 (wd R k)))
   have hC4' := hide (((unhide hC').ext hx3).keep (Keep.setCell w3 b2 k (.int .u64 (wd R k))) (by simpa using (unhide hne).1.symm))
   have hA4' := hide (((unhide hA').ext hx3).keep (Keep.setCell w3 b2 k (.int .u64 (wd R k))) (by simpa using (unhide hne).2.1.symm))
   have hx4' := hide (((unhide hx').trans hx3).of_new (Keep.setCell w3 b2 k (.int .u64 (wd R k))) (by rw [← unhide hsz]; simp))
   clear hB' hC' hA' hx' hx3 c0 c1 c2 f2 hself
   go_wp2_with fail
   go_roundw
   case rel => exact ⟨k + 1,by omega,by go_num,by have h := unhide hB4'; rw [setC_mix _ _ _ hlt] at h; exact h,unhide hC4',unhide hA4',unhide hx4'⟩
   case measure => simp [intOf]; omega
  ·have hke : k = 16 := by omega
   subst hke
   rw [setC_mix16] at hB hB'
   have hself := Ext.refl wr
   clear hB hC hA hx
   repeat (first | (with_reducible refine wp_reg (id := 6) ?_) | go_step | go_guarded | go_upon | go_in | go_back | fail)
   refine wpO_val rfl (load_SetR rfl rfl (unhide hB').whole) (wpO_skip rfl (store_SetR rfl rfl rfl (unhide hA')) (wpO_done ?_))
   go_wp2_with fail
   refine bodyPost_ret (ret_cell1 rfl rfl (load_Set _ b4 R ((unhide hA').row _))) rfl ?_
   exact ⟨rfl,(unhide hx').of_new (Keep.setRow wr b4 _) (by have := (unhide hne).2.1; have := unhide hsz; have := (unhide hge).2; simp; omega)⟩
end Go.Proofs.YtmokciekndllpaaGreatDoor
namespace Go.Proofs.YtmokciekndllpaaGreatDoor
open Go Go.RowKit
section
variable {P : Program} {κ τ : Type} [DecidableEq κ] {ek : κ → Value} {ev : τ → Value} {ok : κ → Prop} {kt et t : TypeId} {w : World} {b : Nat} {m : List (κ × τ)}
theorem run_lookup1_op (K : KE P kt ek ok) (ht : P.underlying t = some (.map kt et)) (h : MapIs ek ev ok w b m) {z0 : τ} (hz : (zeroValue et).run P w = .ok (ev z0) w) {x : κ} (hx : ok x)
  {ρ : Operand → Value} {o : Oper} {p q : Operand} (ho : o.op = .lookup t p q false) (hp : ρ p = .map (some b)) (hq : ρ q = ek x) : (execOp ρ o).run P w = .ok (.value (ev ((lookM m x).getD z0))) w := by
 have := h.lookup1 K ht hz hx
 unfold execOp
 simp only [ho,hp,hq]
 simp [this,go_sem]
theorem run_update_op (K : KE P kt ek ok) (ht : P.underlying t = some (.map kt et)) (h : MapIs ek ev ok w b m) {x : κ} (hx : ok x) (v : τ)
  {ρ : Operand → Value} {o : Oper} {p q r : Operand} (ho : o.op = .mapUpdate t p q r) (hp : ρ p = .map (some b)) (hq : ρ q = ek x) (hr : ρ r = ev v) :
  ∃ w',(execOp ρ o).run P w = .ok .skip w' ∧ MapIs ek ev ok w' b (putM m x v) ∧ Keep [b] w w' ∧ w'.heap.size = w.heap.size := by
 obtain ⟨w',h1,h2,h3,h4⟩ := h.update K ht hx v
 refine ⟨w', ?_,h2,h3,h4⟩
 unfold execOp
 simp only [ho,hp,hq,hr]
 simp [h1,go_sem]
end
def evS (N : Nat) : Value := .agg (setC N)
theorem zeroS (w : World) : (zeroValue 25).run Tryz.prog w = .ok (evS 0) w := by kernel_rfl
theorem okK {x : Int} (h : 0 ≤ x ∧ x < 1024) : i64ok x := by unfold i64ok; omega
end Go.Proofs.YtmokciekndllpaaGreatDoor
namespace Go.Proofs.YtmokciekndllpaaGreatDoor
open Go Go.RowKit Go.Shelf
section
variable {κ τ : Type} {ek : κ → Value} {ev : τ → Value} {ok : κ → Prop}
def mapXs (ek : κ → Value) (ev : τ → Value) (m : List (κ × τ)) : List Value := m.flatMap fun p => [ek p.1,ev p.2]
theorem pairs_eq : ∀ {es : List MapEntry} {m : List (κ × τ)},es.flatMap (fun e => [e.key,e.val]) = mapXs ek ev m ↔ es.map kv = m.map (fun p => (ek p.1,ev p.2))
 | [],[] => by simp [mapXs]
 | [],p :: m => by simp [mapXs]
 | e :: es,[] => by simp [mapXs]
 | e :: es,p :: m => by
  have ih := pairs_eq (es := es) (m := m)
  unfold mapXs at ih ⊢
  simp only [List.flatMap_cons,List.cons_append,List.nil_append,List.cons.injEq,List.map_cons,ih,kv,Prod.mk.injEq,and_assoc]
theorem MapIs.raw {W : World} {b : Nat} {m : List (κ × τ)} (h : MapIs ek ev ok W b m) : MapRaw W b (mapXs ek ev m) := by
 obtain ⟨es,clock,h1,h2,h3,_⟩ := h
 exact ⟨es,clock,h1,h2,pairs_eq.2 h3⟩
theorem MapRaw.is {W : World} {b : Nat} {m : List (κ × τ)} (h : MapRaw W b (mapXs ek ev m)) (ho : ∀ p ∈ m,ok p.1) : MapIs ek ev ok W b m := by
 obtain ⟨es,clock,h1,h2,h3⟩ := h
 exact ⟨es,clock,h1,h2,pairs_eq.1 h3,ho⟩
end
section
variable {κ τ : Type} {ek : κ → Value} {ev : τ → Value} {ok : κ → Prop} {P : Program} {kt et t T : TypeId} {wf : World} {T0 : List Nat} {w W : World} {ds : List Deferred} {L : List Cl} {Rs : List Rw} {l : List Oper} {K : Act → World → Prop} {r : List Oper} {o : Oper} {a : Act} {mb n : Nat} {m : List (κ × τ)}
theorem Sp.map (h : Sp wf T0 w ds L Rs W) (i : Nat) (hi : Rs[i]? = some (T,0, .map (some mb),n,mapXs ek ev m)) (ho : ∀ p ∈ m,ok p.1) : MapIs ek ev ok W mb m := by
 have h1 := h.st.rows _ (List.mem_of_getElem? hi)
 unfold RowIs at h1
 rw [if_pos rfl] at h1
 obtain ⟨b,e,_,h2⟩ := h1
 injection e with e
 injection e with e
 subst e
 exact h2.is ho
theorem Sp.map_ge (h : Sp wf T0 w ds L Rs W) (i : Nat) {xs : List Value} (hi : Rs[i]? = some (T,0, .map (some mb),n,xs)) : wf.heap.size ≤ mb ∧ mb ∈ stT L Rs := by
 have hm : mb ∈ stT L Rs := List.mem_append.2 (.inr (mem_rwT.2 ⟨_,List.mem_of_getElem? hi,rfl⟩))
 exact ⟨h.st.ge _ hm,hm⟩
theorem Sp.mapNew (h : Sp wf T0 w ds L Rs W) (T n : Nat) : Sp wf T0 w ds L (Rs ++ [(T,0, .map (some W.heap.size),n,[])]) (W.alloc (.map #[] 0)) := by
 have hx := ext_self1 W (.map #[] 0)
 have h1 := h.st.ext hx
 have hs : stT L (Rs ++ [(T,0, .map (some W.heap.size),n,[])]) = stT L Rs ++ [W.heap.size] := by
  unfold stT rwT
  rw [List.flatMap_append, ← List.append_assoc]
  rfl
 have hb := h.size
 refine h.step (hx.keep []) (by simp) ⟨h1.cells,fun q hq => ?_, ?_,fun x hx' => ?_⟩ (fun x hx' => ?_)
 ·rcases List.mem_append.1 hq with hq | hq
  ·exact h1.rows q hq
  ·rw [List.mem_singleton] at hq
   subst hq
   unfold RowIs
   rw [if_pos rfl]
   exact ⟨_,rfl,hb, #[],0,(MapKept.heap_alloc W _).1,MapKept.stamped_empty 0,by simp⟩
 ·rw [hs,List.nodup_append]
  refine ⟨h.st.nd,by simp,fun x hx1 y hy e => ?_⟩
  rw [List.mem_singleton] at hy
  have := h.lt x hx1
  omega
 ·rw [hs] at hx'
  rcases List.mem_append.1 hx' with h2 | h2
  ·exact h.st.ge x h2
  ·rw [List.mem_singleton] at h2
   omega
 ·rw [hs] at hx'
  rcases List.mem_append.1 hx' with h2 | h2
  ·exact .inl h2
  ·rw [List.mem_singleton] at h2
   exact .inr (by omega)
theorem Sp.mapSet (h : Sp wf T0 w ds L Rs W) (i : Nat) {xs xs' : List Value} (hi : Rs[i]? = some (T,0, .map (some mb),n,xs)) {n' : Nat} {W' : World} (hr : MapRaw W' mb xs') (hk : Keep [mb] W W') : Sp wf T0 w ds L (Rs.set i (T,0, .map (some mb),n',xs')) W' := by
 have hlt := (List.getElem?_eq_some_iff.1 hi).1
 have hei := (List.getElem?_eq_some_iff.1 hi).2
 have hge := h.map_ge i hi
 have hs : stT L (Rs.set i (T,0, .map (some mb),n',xs')) = stT L Rs := by
  unfold stT rwT
  congr 1
  rw [List.flatMap_def,List.flatMap_def]
  congr 1
  rw [List.map_set]
  exact set_self (by rw [List.getElem?_map,hi]; rfl)
 have hn := h.st.nd
 unfold stT at hn
 rw [List.nodup_append] at hn
 refine h.step hk (fun x hx => by rw [List.mem_singleton] at hx; subst hx; exact .inl hge.2) ⟨fun e he => ?_,fun q hq => ?_,by rw [hs]; exact h.st.nd,by rw [hs]; exact h.st.ge⟩ (by rw [hs]; exact .refl _ _)
 ·refine (h.st.cells e he).keep hk fun hm => ?_
  rw [List.mem_singleton] at hm
  exact hn.2.2 _ (List.mem_map.2 ⟨e,he,rfl⟩) _ (mem_rwT.2 ⟨_,List.mem_of_getElem? hi,rfl⟩) hm
 ·obtain ⟨j,hj⟩ := List.getElem?_of_mem hq
  by_cases hij : i = j
  ·subst hij
   rw [List.getElem?_set_self hlt] at hj
   cases hj
   unfold RowIs
   rw [if_pos rfl]
   exact ⟨mb,rfl,hge.1,hr⟩
  ·rw [List.getElem?_set_ne hij] at hj
   refine (h.st.rows q (List.mem_of_getElem? hj)).keep hk fun g hg e => ?_
   rw [List.mem_singleton] at hg
   subst hg
   have hp := hn.2.1
   unfold rwT at hp
   have hpw := List.pairwise_flatMap.1 hp
   have h3 := List.pairwise_iff_getElem.1 hpw.2
   have hj' := List.getElem?_eq_some_iff.1 hj
   rcases Nat.lt_or_gt_of_ne hij with hlt2 | hlt2
   ·exact h3 i j hlt hj'.1 hlt2 g (by rw [hei]; simp [rwB,mapB]) g (by rw [hj'.2,e]; simp) rfl
   ·exact h3 j i hj'.1 hlt hlt2 g (by rw [hj'.2,e]; simp) g (by rw [hei]; simp [rwB,mapB]) rfl
theorem run_makeMapO {ρ : Operand → Value} {o : Oper} {w : World} (ho : o.op = .makeMap t none) : (execOp ρ o).run P w = .ok (.value (.map (some w.heap.size))) (w.alloc (.map #[] 0)) := by
 unfold execOp
 simp only [ho]
 simp [run_makeMap,go_sem]
theorem Sp.mapNewO (h : Sp wf T0 w ds L Rs W) (T n : Nat) (hw : Region.wanted o (yielded l.toArray a.tmps) = true) (hrun : (execOp a.eval o).run P W = .ok (.value (.map (some W.heap.size))) (W.alloc (.map #[] 0)))
  (hk : ∀ b W',Sp wf T0 w ds L (Rs ++ [(T,0, .map (some b),n,[])]) W' → wpO P l K r (a.put o.dst (.map (some b))) W') : wpO P l K (o :: r) a W := wpO_val hw hrun (hk _ _ (h.mapNew T n))
variable [DecidableEq κ]
theorem putM_ok {x : κ} {v : τ} (ho : ∀ p ∈ m,ok p.1) (hx : ok x) : ∀ p ∈ putM m x v,ok p.1 := by
 intro p hp
 unfold putM at hp
 split at hp
 ·obtain ⟨q,hq,rfl⟩ := List.mem_map.1 hp
  split
  ·exact hx
  ·exact ho q hq
 ·rcases List.mem_append.1 hp with hp | hp
  ·exact ho p hp
  ·rw [List.mem_singleton] at hp
   subst hp
   exact hx
theorem Sp.mapPutO (h : Sp wf T0 w ds L Rs W) (i : Nat) (hi : Rs[i]? = some (T,0, .map (some mb),n,mapXs ek ev m)) (hok : ∀ p ∈ m,ok p.1) (hw : Region.wanted o (yielded l.toArray a.tmps) = true) (Kk : KE P kt ek ok) (ht : P.underlying t = some (.map kt et)) {x : κ} (hx : ok x) (v : τ)
  {p q s : Operand} (ho : o.op = .mapUpdate t p q s) (hp : a.eval p = .map (some mb)) (hq : a.eval q = ek x) (hs : a.eval s = ev v) (n' : Nat)
  (hk : ∀ W',Sp wf T0 w ds L (Rs.set i (T,0, .map (some mb),n',mapXs ek ev (putM m x v))) W' → wpO P l K r (a.put o.dst undef) W') : wpO P l K (o :: r) a W := by
 obtain ⟨w',h1,h2,h3,_⟩ := run_update_op Kk ht (h.map i hi hok) hx v ho hp hq hs
 exact wpO_skip hw h1 (hk _ (h.mapSet i hi h2.raw h3))
theorem Sp.look1O (h : Sp wf T0 w ds L Rs W) (i : Nat) (hi : Rs[i]? = some (T,0, .map (some mb),n,mapXs ek ev m)) (hok : ∀ p ∈ m,ok p.1) (hw : Region.wanted o (yielded l.toArray a.tmps) = true) (Kk : KE P kt ek ok) (ht : P.underlying t = some (.map kt et)) {z0 : τ} (hz : (zeroValue et).run P W = .ok (ev z0) W) {x : κ} (hx : ok x)
  {p q : Operand} (ho : o.op = .lookup t p q false) (hp : a.eval p = .map (some mb)) (hq : a.eval q = ek x) (hk : wpO P l K r (a.put o.dst (ev ((lookM m x).getD z0))) W) : wpO P l K (o :: r) a W :=
 wpO_val hw (run_lookup1_op Kk ht (h.map i hi hok) hz hx ho hp hq) hk
end
section
variable {α : Type} {enc : α → List Value} {T ST : TypeId} {kk byt : Nat} {l : List Oper} {s x : Operand} {o : Oper} {a : Act} {W w wf : World} {T0 : List Nat} {ds : List Deferred} {L : List Cl} {Rs : List Rw}
variable {S : List Nat} {w1 : World} {safe : Nat → Bool} {q : Prop} {Q : Act → World → Prop} {n : Nat} {li : Array Bool}
theorem off_new {v' v : Value} {b0 b1 : Nat} (hat : v'.ownBlock = v.ownBlock ∨ v'.ownBlock = some b1) (hb : b0 ≤ b1) (hS : ∀ z ∈ v.ownBlock.toList,z ∈ S ∨ b0 ≤ z) : ∀ z ∈ v'.ownBlock.toList,z ∈ S ∨ b0 ≤ z := by
 intro z hz
 rcases hat with e | e
 ·rw [e] at hz; exact hS z hz
 ·rw [e] at hz
  simp only [Option.toList,List.mem_singleton] at hz
  exact .inr (by omega)
theorem Sp.ap1L (h : Sp wf T0 w ds L Rs W) (hK : Keep S w1 W) (i : Nat) {v : Value} {m : Nat} {xs : List α} (hi : Rs[i]? = some (T,kk,v,m,xs.flatMap enc)) (hS : ∀ z ∈ v.ownBlock.toList,z ∈ S ∨ w1.heap.size ≤ z)
  (hi0 : (Tryz.prog.info? T).map (fun i => (i.zero.map (·.cells.size),i.size,i.bytes)) = some (some kk,kk,byt)) (hu : Tryz.prog.underlying ST = some (.slice T)) (hone : ∀ x, ∀ v ∈ enc x,v.oneCell' = true) (hlen : ∀ x,(enc x).length = kk) (hk : 0 < kk) (hby : byt ≤ 1000)
  (ho : o.op = .call { callee := .builtin .append,args := #[s,x],argTypes := #[ST,ST] }) (e : α) {g : Nat} {t : TypeId} (hs : a.eval s = v) (hx : a.eval x = .slice (some ⟨g,0,none⟩) 1 1) (hg : Blk W g t (enc e).toArray) (hl : m ≤ 10000000)
  (hk2 : ∀ A' c' W',Sp wf T0 w ds L (Rs.set i (T,kk, .slice A' (m + 1) c',m + 1,(xs ++ [e]).flatMap enc)) W' → Keep S w1 W' → (∀ z ∈ (Value.slice A' (m + 1) c').ownBlock.toList,z ∈ S ∨ w1.heap.size ≤ z) → wpX Tryz.prog l.toArray Ext (Keep S w1) safe Q n li (a.put o.dst (.slice A' (m + 1) c')) W') :
  lUpon Tryz.prog (fun v w' => (q → Keep S w1 w') ∧ ∀ w'',Ext w' w'' → wpX Tryz.prog l.toArray Ext (Keep S w1) safe Q n li (a.put o.dst v) w'') ((execOp a.eval o).run Tryz.prog W) := by
 obtain ⟨A',c',w',h1,h2,h3,h4⟩ := run_ap1 hi0 hu hone hlen hk hby ho e hs hx hg (h.row i hi (by omega)) hl h.size
 rw [h1]
 have hK2 : Keep S w1 w' := hK.of_new (Keep.of_grown h3) hS
 exact ⟨fun _ => hK2,fun W' hx' => hk2 A' c' W' ((h.push i (by omega) hi (Ext.refl W) h2 h3 h4).ext hx') (hK2.trans (hx'.keep S)) (off_new h4 hK.size hS)⟩
end
section
variable {P : Program} {l : List Oper} {o : Oper} {a : Act} {W w wf : World} {T0 : List Nat} {ds : List Deferred} {L : List Cl} {Rs : List Rw} {S : List Nat} {w1 : World} {safe : Nat → Bool} {q : Prop} {Q : Act → World → Prop} {n : Nat} {li : Array Bool}
theorem Sp.valL (h : Sp wf T0 w ds L Rs W) (hK : Keep S w1 W) {v : Value} (hrun : (execOp a.eval o).run P W = .ok (.value v) W)
  (hk : ∀ W',Sp wf T0 w ds L Rs W' → Keep S w1 W' → wpX P l.toArray Ext (Keep S w1) safe Q n li (a.put o.dst v) W') : lUpon P (fun v w' => (q → Keep S w1 w') ∧ ∀ w'',Ext w' w'' → wpX P l.toArray Ext (Keep S w1) safe Q n li (a.put o.dst v) w'') ((execOp a.eval o).run P W) := by
 rw [hrun]
 exact ⟨fun _ => hK,fun W' hx => hk W' (h.ext hx) (hK.trans (hx.keep S))⟩
theorem Sp.allocL (h : Sp wf T0 w ds L Rs W) (hK : Keep S w1 W) {v : Nat → Value} (t : TypeId) (cs : Array Value) (hrun : (execOp a.eval o).run P W = .ok (.value (v W.heap.size)) (W.alloc (.cells cs t)))
  (hk : ∀ b W',Sp wf T0 w ds (L ++ [(b,t,cs)]) Rs W' → Keep S w1 W' → w1.heap.size ≤ b → wpX P l.toArray Ext (Keep S w1) safe Q n li (a.put o.dst (v b)) W') : lUpon P (fun v w' => (q → Keep S w1 w') ∧ ∀ w'',Ext w' w'' → wpX P l.toArray Ext (Keep S w1) safe Q n li (a.put o.dst v) w'') ((execOp a.eval o).run P W) := by
 rw [hrun]
 have hK2 : Keep S w1 (W.alloc (.cells cs t)) := hK.trans ((ext_self1 W _).keep S)
 exact ⟨fun _ => hK2,fun W' hx => hk _ W' ((h.alloc t cs).ext hx) (hK2.trans (hx.keep S)) hK.size⟩
theorem Sp.setL (h : Sp wf T0 w ds L Rs W) (hK : Keep S w1 W) (i : Nat) {c : Nat} {t : TypeId} {cs : Array Value} (cs' : Array Value) (hi : L[i]? = some (c,t,cs)) (hc : c ∈ S) (hrun : Blk W c t cs → (execOp a.eval o).run P W = .ok .skip (W.setRow c cs'))
  (hk : ∀ W',Sp wf T0 w ds (L.set i (c,t,cs')) Rs W' → Keep S w1 W' → wpX P l.toArray Ext (Keep S w1) safe Q n li (a.put o.dst undef) W') : lUpon P (fun v w' => (q → Keep S w1 w') ∧ ∀ w'',Ext w' w'' → wpX P l.toArray Ext (Keep S w1) safe Q n li (a.put o.dst v) w'') ((execOp a.eval o).run P W) := by
 rw [hrun (h.get i hi)]
 have hK2 : Keep S w1 (W.setRow c cs') := hK.trans ((Keep.setRow W c cs').mono fun x hx => by rw [List.mem_singleton] at hx; subst hx; exact hc)
 exact lUpon_skip ⟨fun _ => hK2,fun W' hx => hk W' ((h.set i hi).ext hx) (hK2.trans (hx.keep S))⟩
end
section
variable {P : Program} {C : World → Prop} {safe : Nat → Bool} {Q : Act → World → Prop}
theorem lx_qlR {R : World → World → Prop} {l : List Oper} {a : Act} {w : World} (C2 : World → Prop) (qs ts : List Nat) (n m : Nat) (listed listed2 : Array Bool)
  (hB : mqB l.toArray qs ts (ancTab l.toArray) listed = true) (hn : n + qs.length = m) (hlst : qlListed l.toArray qs listed = listed2) (hsub : ∀ w,C2 w → C w)
  (hR : ∀ w,R w w) (hRt : ∀ a b c,R a b → R b c → R a c) (hCR : ∀ w w',C2 w → R w w' → C2 w') (hC : C2 w)
  (h : wpQL P l.toArray R C2 (fun a' => ∀ w',R w w' → wpX P l.toArray R C2 (fun j => !ts.contains j) Q n listed2 a' w') qs a) : wpX P l.toArray R C (fun j => !ts.contains j) Q m listed a w := by
 subst hlst hn
 simp only [mqB,Bool.and_eq_true] at hB
 obtain ⟨⟨⟨⟨h1,h2⟩,h3⟩,h5⟩,h4⟩ := hB
 refine wpX_sub hsub _ _ _ _ (wpX_qlx (ancOk_of h1) (fun j hj => ?_) h2 hR hRt hCR n qs listed a w (closed_of h5) h4 hC h)
 simp only [Bool.not_eq_true',List.contains_eq_mem,decide_eq_false_iff_not]
 intro hin
 have := List.all_eq_true.1 h3 j hin
 simp at this
 simp at hj
 omega
theorem lx_rekeep {l : List Oper} {a : Act} {W w1 : World} {S : List Nat} (hK : Keep S w1 W) (qs ts : List Nat) (n m : Nat) (listed listed2 : Array Bool)
  (hB : mqB l.toArray qs ts (ancTab l.toArray) listed = true) (hn : n + qs.length = m) (hlst : qlListed l.toArray qs listed = listed2)
  (h : wpQL P l.toArray Ext (Keep S W) (fun a' => ∀ w',Ext W w' → wpX P l.toArray Ext (Keep S W) (fun j => !ts.contains j) Q n listed2 a' w') qs a) : wpX P l.toArray Ext (Keep S w1) (fun j => !ts.contains j) Q m listed a W :=
 lx_qlR (Keep S W) qs ts n m listed listed2 hB hn hlst (fun _ h => hK.trans h) Ext.refl (fun _ _ _ => Ext.trans) (fun _ _ h e => h.trans (e.keep _)) (Keep.refl _ _) h
end
theorem slat_blk {α : Type} {enc : α → List Value} {k : Nat} {W : World} {b : Nat} {T : TypeId} (L : List α) (h : Blk W b T (L.flatMap enc).toArray) (hs : (L.flatMap enc).length = L.length * k) (hk : ∀ x,(enc x).length = k) (hl : L.length ≤ 1000000) : SlAt enc k W (some ⟨b,0,none⟩) L := by
 have h1 : W.ownsRow 0 T k (.slice (some ⟨b,0,none⟩) L.length L.length) L.length (L.flatMap enc) :=
  ⟨hs, .inr ⟨b,L.length,(L.flatMap enc).toArray,rfl,Nat.zero_le _,h,Nat.le_refl _,by unfold maxLen; omega,by simpa using hs,List.take_of_length_le (by simp [hs])⟩⟩
 exact own_at h1 hk
theorem ret_tct24 {P : Program} {fn : Func} {t c T u : Nat} {tmps : Array Value} {p : Addr} {W : World} {v : Value} (h : fn.results = #[.tmp t, .cell c T, .tmp u]) (hp : tmps.getD c undef = .pointer (some p)) (hl : (loadVar T p).run P W = .ok v W) :
  (results fn tmps).run P W = .ok (.tuple #[tmps.getD t undef,v,tmps.getD u undef]) W := by
 simp only [Array.getD_eq_getD_getElem?] at hp
 simp [results,h,hp,asAddr,hl]
section
variable {P : Program} {C : World → Prop} {safe : Nat → Bool} {Q : Act → World → Prop} {l : List Oper} {r : List Oper} {K : Act → World → Prop} {o : Oper} {a : Act} {W w wf : World} {T0 : List Nat} {ds : List Deferred} {L : List Cl} {Rs : List Rw} {n j : Nat} {li : Array Bool}
theorem Sp.allocT (h : Sp wf T0 w ds L Rs W) (t : TypeId) (cs : Array Value) (hw : Region.wanted o (yielded l.toArray a.tmps) = true) (hrun : (execOp a.eval o).run P W = .ok (.value (.pointer (some ⟨W.heap.size,0,none⟩))) (W.alloc (.cells cs t)))
  (hk : ∀ b W',Sp wf T0 w ds (L ++ [(b,t,cs)]) Rs W' → Ext W W' → W.heap.size ≤ b → wpO P l K r (a.put o.dst (.pointer (some ⟨b,0,none⟩))) W') : wpO P l K (o :: r) a W := wpO_val hw hrun (hk _ _ (h.alloc t cs) (ext_self1 W _) (Nat.le_refl _))
theorem Sp.setT (h : Sp wf T0 w ds L Rs W) (i : Nat) {c : Nat} {t : TypeId} {cs : Array Value} (cs' : Array Value) (hi : L[i]? = some (c,t,cs)) (hw : Region.wanted o (yielded l.toArray a.tmps) = true) (hrun : Blk W c t cs → (execOp a.eval o).run P W = .ok .skip (W.setRow c cs'))
  (hk : ∀ W',Sp wf T0 w ds (L.set i (c,t,cs')) Rs W' → Keep [c] W W' → wpO P l K r (a.put o.dst undef) W') : wpO P l K (o :: r) a W := wpO_skip hw (hrun (h.get i hi)) (hk _ (h.set i hi) (Keep.setRow W c cs'))
end
end Go.Proofs.YtmokciekndllpaaGreatDoor
namespace Go.Proofs.YtmokciekndllpaaGreatDoor
def toK (N k : Nat) : List Int := ((List.range k).filter N.testBit).map fun (i : Nat) => (i : Int)
def toL (N : Nat) : List Int := toK N 1024
theorem toK_le (N k : Nat) : (toK N k).length ≤ k := by
 unfold toK
 rw [List.length_map]
 have := List.length_filter_le N.testBit (List.range k)
 simpa using this
end Go.Proofs.YtmokciekndllpaaGreatDoor
