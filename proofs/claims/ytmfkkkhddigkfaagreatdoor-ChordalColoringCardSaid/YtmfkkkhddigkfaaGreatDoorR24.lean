/- Parts of a proof, laid together. Each part says its own conditions. -/
import Derived.Test.YtmfkkkhddigkfaaGreatDoorR13
import Derived.Test.YtmfkkkhddigkfaaGreatDoorR18
import Derived.Test.YtmfkkkhddigkfaaGreatDoorR5
import Derived.Test.YtmfkkkhddigkfaaGreatDoorR21
import Derived.Laws.BitsAllLaws
import Derived.Lib.TrailingZeros
import Derived.Test.YtmfkkkhddigkfaaGreatDoorR19
import Derived.Laws.Bits128
import Derived.Shelf.Spec.TrailingZeros
namespace Go.Proofs.YtmfkkkhddigkfaaGreatDoor
def toK (N k : Nat) : List Int := ((List.range k).filter N.testBit).map fun (i : Nat) => (i : Int)
def toL (N : Nat) : List Int := toK N 1024
end Go.Proofs.YtmfkkkhddigkfaaGreatDoor
namespace Go.Proofs.YtmfkkkhddigkfaaGreatDoor
open Go Go.RowKit
attribute [local go_sem] qUpon lUpon
def minusS (N M : Nat) : Nat := N ^^^ (N &&& M)
theorem minusS_bit (N M k : Nat) : (minusS N M).testBit k = (N.testBit k && !M.testBit k) := by
 unfold minusS
 rw [Nat.testBit_xor,Nat.testBit_and]
 cases N.testBit k <;> cases M.testBit k <;> rfl
theorem wdN_minus (N M i : Nat) : wdN (minusS N M) i = wdN N i &&& (18446744073709551615 - wdN M i) := by
 apply Nat.eq_of_testBit_eq
 intro k
 have h : (18446744073709551615 - wdN M i).testBit k = (decide (k < 64) && !(wdN M i).testBit k) := by
  rw [show 18446744073709551615 - wdN M i = 2 ^ 64 - (wdN M i + 1) by have := wdN_lt M i; omega,Nat.testBit_two_pow_sub_succ (wdN_lt M i)]
 rw [Nat.testBit_and,h,wdN_bit,wdN_bit,wdN_bit,minusS_bit]
 cases decide (k < 64) <;> cases N.testBit (64 * i + k) <;> simp
theorem wd_minus (N M i : Nat) : bits .andNot .u64 (wd N i) (wd M i) = wd (minusS N M) i := by
 unfold wd
 rw [u64_andNot_nat _ _ (wdN_lt _ _) (wdN_lt _ _),wdN_minus]
theorem wdN_and (N M i : Nat) : wdN (N &&& M) i = wdN N i &&& wdN M i := by
 apply Nat.eq_of_testBit_eq
 intro k
 rw [wdN_bit,Nat.testBit_and,Nat.testBit_and,wdN_bit,wdN_bit]
 cases decide (k < 64) <;> simp
theorem wd_or (N M i : Nat) : bits .or .u64 (wd N i) (wd M i) = wd (N ||| M) i := by
 unfold wd
 rw [u64_or_nat _ _ (wdN_lt _ _) (wdN_lt _ _),wdN_or]
theorem wd_and (N M i : Nat) : bits .and .u64 (wd N i) (wd M i) = wd (N &&& M) i := by
 unfold wd
 rw [u64_and_nat _ _ (wdN_lt _ _) (wdN_lt _ _),wdN_and]
theorem setC_ext {N M : Nat} (h : ∀ i,i < 16 → wdN N i = wdN M i) : setC N = setC M := by
 apply Array.ext_getElem?
 intro i
 by_cases hi : i < 16
 ·rw [setC_get _ hi,setC_get _ hi]
  unfold wd
  rw [h i hi]
 ·have h1 : ∀ a : Array Value,a.size = 16 → a[i]? = none := fun a h => Array.getElem?_eq_none (by omega)
  rw [h1 _ (setC_size _),h1 _ (setC_size _)]
def mixS (R N k : Nat) : Nat := 2 ^ (64 * k) * (N >>> (64 * k)) + R % 2 ^ (64 * k)
theorem mixS_bit (R N k j : Nat) : (mixS R N k).testBit j = if j < 64 * k then R.testBit j else N.testBit j := by
 unfold mixS
 rw [Nat.testBit_two_pow_mul_add _ (Nat.mod_lt _ (Nat.pow_pos (by decide)))]
 by_cases h : j < 64 * k
 ·rw [if_pos h,if_pos h,Nat.testBit_mod_two_pow]
  simp [h]
 ·rw [if_neg h,if_neg h,Nat.testBit_shiftRight]
  congr 1
  omega
theorem mixS_word (R N k i : Nat) : wdN (mixS R N k) i = if i < k then wdN R i else wdN N i := by
 apply Nat.eq_of_testBit_eq
 intro j
 rw [wdN_bit,mixS_bit]
 by_cases hj : j < 64
 ·by_cases h : i < k
  ·rw [if_pos (by omega),if_pos h,wdN_bit]
  ·rw [if_neg (by omega),if_neg h,wdN_bit]
 ·have : decide (j < 64) = false := by simp [hj]
  rw [this,Bool.false_and]
  split <;> rw [wdN_bit,this,Bool.false_and]
theorem mixS_at (R N k : Nat) : wd (mixS R N k) k = wd N k := by
 unfold wd
 rw [mixS_word,if_neg (by omega)]
theorem setC_mix0 (R N : Nat) : setC (mixS R N 0) = setC N := setC_ext fun i _ => by rw [mixS_word,if_neg (by omega)]
theorem setC_mix16 (R N : Nat) : setC (mixS R N 16) = setC R := setC_ext fun i hi => by rw [mixS_word,if_pos hi]
theorem setC_mix (R N k : Nat) (_hk : k < 16) : (setC (mixS R N k)).setIfInBounds k (.int .u64 (wd R k)) = setC (mixS R N (k + 1)) := by
 apply Array.ext_getElem?
 intro i
 by_cases hi : i < 16
 ·rw [setC_get _ hi]
  by_cases he : k = i
  ·subst he
   rw [Array.getElem?_setIfInBounds_self_of_lt (by rw [setC_size]; omega)]
   unfold wd
   rw [mixS_word,if_pos (by omega)]
  ·rw [Array.getElem?_setIfInBounds_ne he,setC_get _ hi]
   unfold wd
   rw [mixS_word,mixS_word]
   by_cases h : i < k
   ·rw [if_pos h,if_pos (by omega)]
   ·rw [if_neg h,if_neg (by omega)]
 ·have h1 : ∀ a : Array Value,a.size = 16 → a[i]? = none := fun a h => Array.getElem?_eq_none (by omega)
  rw [h1 _ (by simp [setC_size]),h1 _ (setC_size _)]
set_option maxRecDepth 100000 in
theorem load_SetR {ρ : Operand → Value} {o : Oper} {x : Operand} {w : World} {b off N : Nat} (ho : o.op = .load 51 x) (hx : ρ x = .pointer (some ⟨b,off,none⟩)) (hc : ∀ (j : Nat) v,(setC N)[j]? = some v → w.cell? ⟨b,off + j,none⟩ = some v) : (execOp ρ o).run Tryz.prog w = .ok (.value (.agg (setC N))) w :=
 run_load_agg ho hx (by simp [go_sem]) (by simp [go_sem]; rfl) hc
theorem setC_one (N : Nat) : ∀ u ∈ (setC N).toList,u.oneCell' = true := by
 intro u hu
 obtain ⟨i,hi,rfl⟩ := List.getElem_of_mem hu
 have h16 : i < 16 := by simpa [setC_size] using hi
 have := setC_get N h16
 rw [← Array.getElem?_toList,List.getElem?_eq_getElem hi] at this
 injection this with this
 rw [this]
 rfl
set_option maxRecDepth 100000 in
theorem store_SetR {ρ : Operand → Value} {o : Oper} {p x : Operand} {w : World} {b N M : Nat} (ho : o.op = .store 51 p x) (hp : ρ p = .pointer (some ⟨b,0,none⟩)) (hx : ρ x = .agg (setC N)) (hb : Blk w b 51 (setC M)) : (execOp ρ o).run Tryz.prog w = .ok .skip (w.setRow b (setC N)) :=
 run_store_row (v := .agg (setC N)) ho hp hx (by simp [go_sem]; rfl) hb rfl (setC_one N)
set_option maxRecDepth 100000 in
set_option maxHeartbeats 4000000 in
theorem minus_any (N M : Nat) (w : World) : Calls Tryz.prog 51 #[.agg (setC N), .agg (setC M)] w fun e w' => e = .returned (.agg (setC (minusS N M))) ∧ Ext w w' := by
 obtain ⟨R,hR⟩ : ∃ R,R = minusS N M := ⟨_,rfl⟩
 rw [← hR]
 have hR' := hide hR
 clear hR
 have hB2 := hide (((Blk.new w 51 (setC N)).ext (ext_self1 _ (.cells (setC M) 51))).ext (ext_self1 _ (.cells (setC 0) 51)))
 have hB3 := hide ((Blk.new (w.alloc (.cells (setC N) 51)) 51 (setC M)).ext (ext_self1 _ (.cells (setC 0) 51)))
 have hB4 := hide (Blk.new ((w.alloc (.cells (setC N) 51)).alloc (.cells (setC M) 51)) 51 (setC 0))
 have hx1 := hide (ext_self3 w (.cells (setC N) 51) (.cells (setC M) 51) (.cells (setC 0) 51))
 simp only [World.size_alloc] at hB3 hB4
 go_enter Tryz.func51,Tryz.ntmps51
 go_wp2_with fail
 have hz : setC 0 = #[.int .u64 0, .int .u64 0, .int .u64 0, .int .u64 0, .int .u64 0, .int .u64 0, .int .u64 0, .int .u64 0, .int .u64 0, .int .u64 0, .int .u64 0, .int .u64 0, .int .u64 0, .int .u64 0, .int .u64 0, .int .u64 0] := rfl
 rw [hz] at hx1 hB2 hB3 hB4
 generalize ((w.alloc (.cells (setC N) 51)).alloc (.cells (setC M) 51)).alloc (.cells #[.int .u64 0, .int .u64 0, .int .u64 0, .int .u64 0, .int .u64 0, .int .u64 0, .int .u64 0, .int .u64 0, .int .u64 0, .int .u64 0, .int .u64 0, .int .u64 0, .int .u64 0, .int .u64 0, .int .u64 0, .int .u64 0] 51) = W1 at *
 rw [← hz] at hB4
 clear hz
 have hne := hide (show w.heap.size ≠ w.heap.size + 1 ∧ w.heap.size ≠ w.heap.size + 1 + 1 ∧ w.heap.size + 1 ≠ w.heap.size + 1 + 1 by omega)
 have hge := hide (show w.heap.size ≤ w.heap.size ∧ w.heap.size ≤ w.heap.size + 1 + 1 by omega)
 generalize hb4e : w.heap.size + 1 + 1 = b4 at *
 generalize hb3e : w.heap.size + 1 = b3 at *
 generalize hb2e : w.heap.size = b2 at *
 rw [← hb2e] at hge
 rw [hb2e] at hge
 have hsz := hide hb2e
 clear hb2e hb3e hb4e
 go_loopw [6] (fun i wr => ∃ k : Nat,k ≤ 16 ∧ i = .int .i64 k ∧ Blk wr b2 51 (setC (mixS R N k)) ∧ Blk wr b3 51 (setC M) ∧ Blk wr b4 51 (setC 0) ∧ Ext w wr) (fun i _ => 16 - (intOf i).toNat)
 case atStart => exact ⟨0,Nat.zero_le _,rfl,by rw [setC_mix0]; exact unhide hB2,unhide hB3,unhide hB4,unhide hx1⟩
 case round =>
  obtain ⟨k,hk,rfl,hB,hC,hA,hx⟩ := hrel
  have hB' := hide hB
  have hC' := hide hC
  have hA' := hide hA
  have hx' := hide hx
  clear hB2 hB3 hB4 hx1
  by_cases hlt : k < 16
  ·have c0 := hB.cells k (setC_get (mixS R N k) hlt)
   rw [mixS_at] at c0
   have c1 := hC.cells k (setC_get M hlt)
   have hself := Ext.refl wr
   clear hB hC hA hx
   go_wp2_with fail
   refine wp_region_still (P := Tryz.prog) [0,1,2,3,4,5,6,7] [8] 1 #[true,true,true,true,true,true,true,true,false] (by kernel_rfl) (by kernel_rfl) rfl (by rfl) ?_
   iterate 8
    refine ql_want (v := ?_) rfl (by rfl) (fun W hW => ?_) ?_
    rotate_left
    ·go_simp
     first | done | rfl
    go_frame
   refine wpQL_nil (fun w3 hx3 => ?_)
   have c2 := c0 w3 hx3
   have f2 := ((unhide hB').ext hx3).frozen k
   refine lx_one (i := 8) (by kernel_rfl) rfl (by rfl) #[true,true,true,true,true,true,true,true,true] (by rfl) ?_
   go_simp
   rw [wd_minus, ← unhide hR']
   refine wpX_done (by kernel_rfl) ?_
   try go_frame
   have hB4' := hide (((unhide hB').ext hx3).set k (.int .u64 (wd R k)))
   have hC4' := hide (((unhide hC').ext hx3).keep (Keep.setCell w3 b2 k (.int .u64 (wd R k))) (by simpa using (unhide hne).1.symm))
   have hA4' := hide (((unhide hA').ext hx3).keep (Keep.setCell w3 b2 k (.int .u64 (wd R k))) (by simpa using (unhide hne).2.1.symm))
   have hx4' := hide (((unhide hx').trans hx3).of_new (Keep.setCell w3 b2 k (.int .u64 (wd R k))) (by rw [← unhide hsz]; simp))
   clear hB' hC' hA' hx' hx3 c0 c1 c2 f2 hself
   go_wp2_with fail
   go_roundw
   case rel => exact ⟨k + 1,by omega,by go_num,by have h := unhide hB4'; rw [setC_mix _ _ _ hlt] at h; exact h,unhide hC4',unhide hA4',unhide hx4'⟩
   case measure => simp [intOf]; omega
  ·have hke : k = 16 := by omega
   subst hke
   rw [setC_mix16] at hB hB'
   have hself := Ext.refl wr
   clear hB hC hA hx
   repeat (first | (with_reducible refine wp_reg (id := 6) ?_) | go_step | go_guarded | go_upon | go_in | go_back | fail)
   refine wpO_val rfl (load_SetR rfl rfl (unhide hB').whole) (wpO_skip rfl (store_SetR rfl rfl rfl (unhide hA')) (wpO_done ?_))
   go_wp2_with fail
   refine bodyPost_ret (ret_cell1 rfl rfl (load_Set _ b4 R ((unhide hA').row _))) rfl ?_
   exact ⟨rfl,(unhide hx').of_new (Keep.setRow wr b4 _) (by have := (unhide hne).2.1; have := unhide hsz; have := (unhide hge).2; simp; omega)⟩
set_option maxRecDepth 100000 in
set_option maxHeartbeats 4000000 in
theorem union_any (N M : Nat) (w : World) : Calls Tryz.prog 82 #[.agg (setC N), .agg (setC M)] w fun e w' => e = .returned (.agg (setC (N ||| M))) ∧ Ext w w' := by
 obtain ⟨R,hR⟩ : ∃ R,R = N ||| M := ⟨_,rfl⟩
 rw [← hR]
 have hR' := hide hR
 clear hR
 have hB2 := hide (((Blk.new w 51 (setC N)).ext (ext_self1 _ (.cells (setC M) 51))).ext (ext_self1 _ (.cells (setC 0) 51)))
 have hB3 := hide ((Blk.new (w.alloc (.cells (setC N) 51)) 51 (setC M)).ext (ext_self1 _ (.cells (setC 0) 51)))
 have hB4 := hide (Blk.new ((w.alloc (.cells (setC N) 51)).alloc (.cells (setC M) 51)) 51 (setC 0))
 have hx1 := hide (ext_self3 w (.cells (setC N) 51) (.cells (setC M) 51) (.cells (setC 0) 51))
 simp only [World.size_alloc] at hB3 hB4
 go_enter Tryz.func82,Tryz.ntmps82
 go_wp2_with fail
 have hz : setC 0 = #[.int .u64 0, .int .u64 0, .int .u64 0, .int .u64 0, .int .u64 0, .int .u64 0, .int .u64 0, .int .u64 0, .int .u64 0, .int .u64 0, .int .u64 0, .int .u64 0, .int .u64 0, .int .u64 0, .int .u64 0, .int .u64 0] := rfl
 rw [hz] at hx1 hB2 hB3 hB4
 generalize ((w.alloc (.cells (setC N) 51)).alloc (.cells (setC M) 51)).alloc (.cells #[.int .u64 0, .int .u64 0, .int .u64 0, .int .u64 0, .int .u64 0, .int .u64 0, .int .u64 0, .int .u64 0, .int .u64 0, .int .u64 0, .int .u64 0, .int .u64 0, .int .u64 0, .int .u64 0, .int .u64 0, .int .u64 0] 51) = W1 at *
 rw [← hz] at hB4
 clear hz
 have hne := hide (show w.heap.size ≠ w.heap.size + 1 ∧ w.heap.size ≠ w.heap.size + 1 + 1 ∧ w.heap.size + 1 ≠ w.heap.size + 1 + 1 by omega)
 have hge := hide (show w.heap.size ≤ w.heap.size ∧ w.heap.size ≤ w.heap.size + 1 + 1 by omega)
 generalize hb4e : w.heap.size + 1 + 1 = b4 at *
 generalize hb3e : w.heap.size + 1 = b3 at *
 generalize hb2e : w.heap.size = b2 at *
 rw [← hb2e] at hge
 rw [hb2e] at hge
 have hsz := hide hb2e
 clear hb2e hb3e hb4e
 go_loopw [6] (fun i wr => ∃ k : Nat,k ≤ 16 ∧ i = .int .i64 k ∧ Blk wr b2 51 (setC (mixS R N k)) ∧ Blk wr b3 51 (setC M) ∧ Blk wr b4 51 (setC 0) ∧ Ext w wr) (fun i _ => 16 - (intOf i).toNat)
 case atStart => exact ⟨0,Nat.zero_le _,rfl,by rw [setC_mix0]; exact unhide hB2,unhide hB3,unhide hB4,unhide hx1⟩
 case round =>
  obtain ⟨k,hk,rfl,hB,hC,hA,hx⟩ := hrel
  have hB' := hide hB
  have hC' := hide hC
  have hA' := hide hA
  have hx' := hide hx
  clear hB2 hB3 hB4 hx1
  by_cases hlt : k < 16
  ·have c0 := hB.cells k (setC_get (mixS R N k) hlt)
   rw [mixS_at] at c0
   have c1 := hC.cells k (setC_get M hlt)
   have hself := Ext.refl wr
   clear hB hC hA hx
   go_wp2_with fail
   refine wp_region_still (P := Tryz.prog) [0,1,2,3,4,5,6,7] [8] 1 #[true,true,true,true,true,true,true,true,false] (by kernel_rfl) (by kernel_rfl) rfl (by rfl) ?_
   iterate 8
    refine ql_want (v := ?_) rfl (by rfl) (fun W hW => ?_) ?_
    rotate_left
    ·go_simp
     first | done | rfl
    go_frame
   refine wpQL_nil (fun w3 hx3 => ?_)
   have c2 := c0 w3 hx3
   have f2 := ((unhide hB').ext hx3).frozen k
   refine lx_one (i := 8) (by kernel_rfl) rfl (by rfl) #[true,true,true,true,true,true,true,true,true] (by rfl) ?_
   go_simp
   rw [wd_or, ← unhide hR']
   refine wpX_done (by kernel_rfl) ?_
   try go_frame
   have hB4' := hide (((unhide hB').ext hx3).set k (.int .u64 (wd R k)))
   have hC4' := hide (((unhide hC').ext hx3).keep (Keep.setCell w3 b2 k (.int .u64 (wd R k))) (by simpa using (unhide hne).1.symm))
   have hA4' := hide (((unhide hA').ext hx3).keep (Keep.setCell w3 b2 k (.int .u64 (wd R k))) (by simpa using (unhide hne).2.1.symm))
   have hx4' := hide (((unhide hx').trans hx3).of_new (Keep.setCell w3 b2 k (.int .u64 (wd R k))) (by rw [← unhide hsz]; simp))
   clear hB' hC' hA' hx' hx3 c0 c1 c2 f2 hself
   go_wp2_with fail
   go_roundw
   case rel => exact ⟨k + 1,by omega,by go_num,by have h := unhide hB4'; rw [setC_mix _ _ _ hlt] at h; exact h,unhide hC4',unhide hA4',unhide hx4'⟩
   case measure => simp [intOf]; omega
  ·have hke : k = 16 := by omega
   subst hke
   rw [setC_mix16] at hB hB'
   have hself := Ext.refl wr
   clear hB hC hA hx
   repeat (first | (with_reducible refine wp_reg (id := 6) ?_) | go_step | go_guarded | go_upon | go_in | go_back | fail)
   refine wpO_val rfl (load_SetR rfl rfl (unhide hB').whole) (wpO_skip rfl (store_SetR rfl rfl rfl (unhide hA')) (wpO_done ?_))
   go_wp2_with fail
   refine bodyPost_ret (ret_cell1 rfl rfl (load_Set _ b4 R ((unhide hA').row _))) rfl ?_
   exact ⟨rfl,(unhide hx').of_new (Keep.setRow wr b4 _) (by have := (unhide hne).2.1; have := unhide hsz; have := (unhide hge).2; simp; omega)⟩
end Go.Proofs.YtmfkkkhddigkfaaGreatDoor
namespace Go.Proofs.YtmfkkkhddigkfaaGreatDoor
theorem mem_toL' {N : Nat} {x : Int} : x ∈ toL N ↔ 0 ≤ x ∧ x < 1024 ∧ N.testBit x.toNat = true := by
 unfold toL toK
 rw [List.mem_map]
 simp only [List.mem_filter,List.mem_range]
 constructor
 ·rintro ⟨i,⟨h1,h2⟩,rfl⟩
  exact ⟨by omega,by omega,by rw [Int.toNat_natCast]; exact h2⟩
 ·rintro ⟨h1,h2,h3⟩
  exact ⟨x.toNat,⟨by omega,h3⟩,by omega⟩
theorem toL_sorted (N : Nat) : (toL N).Pairwise (· < ·) := by
 unfold toL toK
 rw [List.pairwise_map]
 refine (List.pairwise_lt_range.filter _).imp fun {a b} h => ?_
 omega
theorem toL_nodup (N : Nat) : (toL N).Nodup := (toL_sorted N).imp fun {_ _} h => by omega
theorem toL_nil {N : Nat} (h : ∀ k,k < 1024 → N.testBit k = false) : toL N = [] := by
 unfold toL toK
 rw [List.map_eq_nil_iff,List.filter_eq_nil_iff]
 intro k hk
 rw [h k (List.mem_range.1 hk)]
 simp
theorem toL_cons {N j : Nat} (hj : j < 1024) (h0 : ∀ k,k < j → N.testBit k = false) (h1 : N.testBit j = true) : toL N = (j : Int) :: toL (minusS N (2 ^ j)) := by
 unfold toL toK
 have e : List.range 1024 = List.range' 0 j ++ ([j] ++ List.range' (j + 1) (1023 - j)) := by
  rw [List.range_eq_range']
  have a1 := List.range'_append (s := j) (m := 1) (n := 1023 - j) (step := 1)
  have a2 := List.range'_append (s := 0) (m := j) (n := 1 + (1023 - j)) (step := 1)
  simp only [Nat.one_mul,Nat.zero_add] at a1 a2
  rw [show List.range' j 1 = [j] from rfl] at a1
  rw [a1,a2]
  congr 1
  omega
 rw [e,List.filter_append,List.filter_append,List.filter_append,List.filter_append]
 have z1 : (List.range' 0 j).filter N.testBit = [] := by
  rw [List.filter_eq_nil_iff]
  intro k hk
  rw [List.mem_range'_1] at hk
  rw [h0 k (by omega)]; simp
 have z2 : (List.range' 0 j).filter (minusS N (2 ^ j)).testBit = [] := by
  rw [List.filter_eq_nil_iff]
  intro k hk
  rw [List.mem_range'_1] at hk
  rw [minusS_bit,h0 k (by omega)]; simp
 have z3 : [j].filter (minusS N (2 ^ j)).testBit = [] := by
  rw [List.filter_eq_nil_iff]
  intro k hk
  have : k = j := by simpa using hk
  subst this
  rw [minusS_bit,Nat.testBit_two_pow_self]; simp
 have z4 : [j].filter N.testBit = [j] := by simp [h1]
 rw [z1,z2,z3,z4,List.nil_append,List.nil_append,List.nil_append,List.map_append]
 have z5 : (List.range' (j + 1) (1023 - j)).filter N.testBit = (List.range' (j + 1) (1023 - j)).filter (minusS N (2 ^ j)).testBit := by
  refine List.filter_congr fun k hk => ?_
  rw [List.mem_range'_1] at hk
  rw [minusS_bit,Nat.testBit_two_pow]
  have : decide (j = k) = false := by simp; omega
  rw [this]; simp
 rw [z5]
 rfl
theorem ctz_bit {x : Nat} (h0 : x ≠ 0) (h : x < 18446744073709551616) : Lib.ctz 64 x < 64 ∧ x.testBit (Lib.ctz 64 x) = true ∧ ∀ i,i < Lib.ctz 64 x → x.testBit i = false := by
 obtain ⟨m,hm,hk⟩ := Lib.ctzFrom_spec 64 x (by omega) h
 have e : Lib.ctz 64 x = Lib.ctzFrom 64 x := by simp [Lib.ctz,h0]
 rw [e]
 generalize Lib.ctzFrom 64 x = c at *
 refine ⟨hk, ?_,fun i hi => ?_⟩
 ·rw [hm,Nat.testBit_two_pow_mul]
  simp [Nat.testBit_zero]
 ·rw [hm,Nat.testBit_two_pow_mul]
  simp; omega
def zeroTo (N k : Nat) : Prop := ∀ j,j < 64 * k → N.testBit j = false
theorem zeroTo_next {N k : Nat} (h : zeroTo N k) (hw : wdN N k = 0) : zeroTo N (k + 1) := by
 intro j hj
 by_cases h1 : j < 64 * k
 ·exact h j h1
 ·have := wdN_bit N k (j - 64 * k)
  rw [hw,Nat.zero_testBit,show 64 * k + (j - 64 * k) = j by omega] at this
  have h2 : decide (j - 64 * k < 64) = true := by simp; omega
  rw [h2,Bool.true_and] at this
  exact this.symm
theorem toL_zero {N : Nat} (h : zeroTo N 16) : toL N = [] := toL_nil fun k hk => h k (by omega)
theorem toL_word {N k : Nat} (hk : k < 16) (h : zeroTo N k) (hw : wdN N k ≠ 0) : toL N = ((64 * k + Lib.ctz 64 (wdN N k) : Nat) : Int) :: toL (minusS N (2 ^ (64 * k + Lib.ctz 64 (wdN N k)))) := by
 obtain ⟨h1,h2,h3⟩ := ctz_bit hw (wdN_lt N k)
 generalize Lib.ctz 64 (wdN N k) = c at *
 refine toL_cons (by omega) (fun j hj => ?_) ?_
 ·by_cases hj2 : j < 64 * k
  ·exact h j hj2
  ·have := h3 (j - 64 * k) (by omega)
   rw [wdN_bit,show 64 * k + (j - 64 * k) = j by omega] at this
   have h4 : decide (j - 64 * k < 64) = true := by simp; omega
   rw [h4,Bool.true_and] at this
   exact this
 ·rw [wdN_bit] at h2
  simp only [Bool.and_eq_true] at h2
  exact h2.2
def minV (N : Nat) : Int := (toL N).headD 0
def anyB (N : Nat) : Bool := !(toL N).isEmpty
theorem min_nil {N : Nat} (h : toL N = []) : minV N = 0 ∧ anyB N = false := by unfold minV anyB; rw [h]; exact ⟨rfl,rfl⟩
theorem min_cons {N : Nat} {x : Int} {r : List Int} (h : toL N = x :: r) : minV N = x ∧ anyB N = true := by unfold minV anyB; rw [h]; exact ⟨rfl,rfl⟩
end Go.Proofs.YtmfkkkhddigkfaaGreatDoor
namespace Go.Proofs.YtmfkkkhddigkfaaGreatDoor
open Go Go.RowKit
theorem idxS0 (N : Nat) (w : World) : (Instr.index 51 (.agg (setC N)) (.int .i64 0)).run Tryz.prog w = .ok (.int .u64 (wd N 0)) w := by kernel_rfl
theorem idxS1 (N : Nat) (w : World) : (Instr.index 51 (.agg (setC N)) (.int .i64 1)).run Tryz.prog w = .ok (.int .u64 (wd N 1)) w := by kernel_rfl
theorem idxS2 (N : Nat) (w : World) : (Instr.index 51 (.agg (setC N)) (.int .i64 2)).run Tryz.prog w = .ok (.int .u64 (wd N 2)) w := by kernel_rfl
theorem idxS3 (N : Nat) (w : World) : (Instr.index 51 (.agg (setC N)) (.int .i64 3)).run Tryz.prog w = .ok (.int .u64 (wd N 3)) w := by kernel_rfl
theorem idxS4 (N : Nat) (w : World) : (Instr.index 51 (.agg (setC N)) (.int .i64 4)).run Tryz.prog w = .ok (.int .u64 (wd N 4)) w := by kernel_rfl
theorem idxS5 (N : Nat) (w : World) : (Instr.index 51 (.agg (setC N)) (.int .i64 5)).run Tryz.prog w = .ok (.int .u64 (wd N 5)) w := by kernel_rfl
theorem idxS6 (N : Nat) (w : World) : (Instr.index 51 (.agg (setC N)) (.int .i64 6)).run Tryz.prog w = .ok (.int .u64 (wd N 6)) w := by kernel_rfl
theorem idxS7 (N : Nat) (w : World) : (Instr.index 51 (.agg (setC N)) (.int .i64 7)).run Tryz.prog w = .ok (.int .u64 (wd N 7)) w := by kernel_rfl
theorem idxS8 (N : Nat) (w : World) : (Instr.index 51 (.agg (setC N)) (.int .i64 8)).run Tryz.prog w = .ok (.int .u64 (wd N 8)) w := by kernel_rfl
theorem idxS9 (N : Nat) (w : World) : (Instr.index 51 (.agg (setC N)) (.int .i64 9)).run Tryz.prog w = .ok (.int .u64 (wd N 9)) w := by kernel_rfl
theorem idxS10 (N : Nat) (w : World) : (Instr.index 51 (.agg (setC N)) (.int .i64 10)).run Tryz.prog w = .ok (.int .u64 (wd N 10)) w := by kernel_rfl
theorem idxS11 (N : Nat) (w : World) : (Instr.index 51 (.agg (setC N)) (.int .i64 11)).run Tryz.prog w = .ok (.int .u64 (wd N 11)) w := by kernel_rfl
theorem idxS12 (N : Nat) (w : World) : (Instr.index 51 (.agg (setC N)) (.int .i64 12)).run Tryz.prog w = .ok (.int .u64 (wd N 12)) w := by kernel_rfl
theorem idxS13 (N : Nat) (w : World) : (Instr.index 51 (.agg (setC N)) (.int .i64 13)).run Tryz.prog w = .ok (.int .u64 (wd N 13)) w := by kernel_rfl
theorem idxS14 (N : Nat) (w : World) : (Instr.index 51 (.agg (setC N)) (.int .i64 14)).run Tryz.prog w = .ok (.int .u64 (wd N 14)) w := by kernel_rfl
theorem idxS15 (N : Nat) (w : World) : (Instr.index 51 (.agg (setC N)) (.int .i64 15)).run Tryz.prog w = .ok (.int .u64 (wd N 15)) w := by kernel_rfl
theorem idx_Set (N i : Nat) (hi : i < 16) (w : World) : (Instr.index 51 (.agg (setC N)) (.int .i64 i)).run Tryz.prog w = .ok (.int .u64 (wd N i)) w := by
 have : i = 0 ∨ i = 1 ∨ i = 2 ∨ i = 3 ∨ i = 4 ∨ i = 5 ∨ i = 6 ∨ i = 7 ∨ i = 8 ∨ i = 9 ∨ i = 10 ∨ i = 11 ∨ i = 12 ∨ i = 13 ∨ i = 14 ∨ i = 15 := by omega
 rcases this with rfl | rfl | rfl | rfl | rfl | rfl | rfl | rfl | rfl | rfl | rfl | rfl | rfl | rfl | rfl | rfl
 ·exact idxS0 N w
 ·exact idxS1 N w
 ·exact idxS2 N w
 ·exact idxS3 N w
 ·exact idxS4 N w
 ·exact idxS5 N w
 ·exact idxS6 N w
 ·exact idxS7 N w
 ·exact idxS8 N w
 ·exact idxS9 N w
 ·exact idxS10 N w
 ·exact idxS11 N w
 ·exact idxS12 N w
 ·exact idxS13 N w
 ·exact idxS14 N w
 ·exact idxS15 N w
end Go.Proofs.YtmfkkkhddigkfaaGreatDoor
namespace Go.Proofs.YtmfkkkhddigkfaaGreatDoor
open Go Go.RowKit
attribute [local go_sem] qUpon lUpon
def Tab (w : World) : Prop := TabAt 0 Lib.deBruijn64tab w
theorem Tab.lt {w : World} (h : Tab w) : 0 < w.heap.size := World.block_lt_of_cell? w _ (h 0 (by decide))
theorem Tab.keep {w w' : World} {S : List Nat} (h : Tab w) (k : Keep S w w') (hS : 0 ∉ S) : Tab w' := fun j hj => by
 rw [World.cell?_of_block (k.block _ h.lt hS)]
 exact h j hj
theorem Tab.ext {w w' : World} (h : Tab w) (k : Ext w w') : Tab w' := h.keep (k.keep []) (by simp)
set_option maxHeartbeats 1000000 in
theorem tz_core (x k idx : Nat) (w : World) (hx0 : ((x : Int) == 0) = false)
  (key : IntKind.u64.wrap (bits BinOp.and IntKind.u64 (x : Int) (IntKind.u64.wrap (-(x : Int))) * 285870213051353865) / 288230376151711744 = (idx : Int))
  (hi : idx < 64) (hk : k < 64) (hcell : w.cell? ⟨0,idx,none⟩ = some (.int .u8 k)) :
  Calls Tryz.prog 102 #[.int .u64 (x : Int)] w fun e w' => e = .returned (.int .i64 k) ∧ w' = w := by
 go_enter Tryz.func102,Tryz.ntmps102
 go_wp2_with (simp only [key])
 go_ret
 exact ⟨rfl,rfl⟩
theorem tz_any (x : Nat) (hx0 : x ≠ 0) (hx : x < 18446744073709551616) (w : World) (hT : Tab w) :
  Calls Tryz.prog 102 #[.int .u64 (x : Int)] w fun e w' => e = .returned (.int .i64 (Lib.ctz 64 x)) ∧ w' = w := by
 obtain ⟨hlow,hk⟩ := Lib.lowest_bit 64 x hx0 hx
 obtain ⟨hi,htab⟩ := Lib.deBruijn64_at _ hk
 have hcell := hT _ hi
 rw [htab] at hcell
 exact tz_core x _ _ w (by simp; omega) (tz64_key x _ hx hx0 hlow) hi hk hcell
theorem tz_wd (N k : Nat) (h0 : wdN N k ≠ 0) (w : World) (hT : Tab w) :
  Calls Tryz.prog 102 #[.int .u64 (wd N k)] w fun e w' => e = .returned (.int .i64 (Lib.ctz 64 (wdN N k))) ∧ w' = w := tz_any (wdN N k) h0 (wdN_lt N k) w hT
set_option maxRecDepth 100000 in
set_option maxHeartbeats 1000000 in
theorem min_any (N : Nat) (w : World) (hT : Tab w) : Calls Tryz.prog 79 #[.agg (setC N)] w fun e w' => e = .returned (.tuple #[.int .i64 (minV N), .bool (anyB N)]) ∧ Ext w w' := by
 have hT' := hide (hT.ext (ext_self1 w (.cells (setC N) 51)))
 have hB := Blk.new w 51 (setC N)
 have hx0 := hide (ext_self1 w (.cells (setC N) 51))
 generalize hw1 : w.alloc (.cells (setC N) 51) = w1 at *
 have hself := Ext.refl w1
 have e0 := hB.cells 0 (v := .int .u64 (wd N 0)) rfl
 have e1 := hB.cells 1 (v := .int .u64 (wd N 1)) rfl
 have e2 := hB.cells 2 (v := .int .u64 (wd N 2)) rfl
 have e3 := hB.cells 3 (v := .int .u64 (wd N 3)) rfl
 have e4 := hB.cells 4 (v := .int .u64 (wd N 4)) rfl
 have e5 := hB.cells 5 (v := .int .u64 (wd N 5)) rfl
 have e6 := hB.cells 6 (v := .int .u64 (wd N 6)) rfl
 have e7 := hB.cells 7 (v := .int .u64 (wd N 7)) rfl
 have e8 := hB.cells 8 (v := .int .u64 (wd N 8)) rfl
 have e9 := hB.cells 9 (v := .int .u64 (wd N 9)) rfl
 have e10 := hB.cells 10 (v := .int .u64 (wd N 10)) rfl
 have e11 := hB.cells 11 (v := .int .u64 (wd N 11)) rfl
 have e12 := hB.cells 12 (v := .int .u64 (wd N 12)) rfl
 have e13 := hB.cells 13 (v := .int .u64 (wd N 13)) rfl
 have e14 := hB.cells 14 (v := .int .u64 (wd N 14)) rfl
 have e15 := hB.cells 15 (v := .int .u64 (wd N 15)) rfl
 clear hB hT
 subst hw1
 go_enter Tryz.func79,Tryz.ntmps79
 go_wp2_with fail
 go_loop [7] (fun i => ∃ k : Nat,k ≤ 16 ∧ i = .int .i64 k ∧ zeroTo N k) (fun i => 16 - (intOf i).toNat)
 case atStart => exact ⟨0,by omega,rfl,fun j hj => by omega⟩
 case round =>
  obtain ⟨k,hk,rfl,hz⟩ := hrel
  by_cases hlt : k < 16
  ·have hix := idx_Set N k hlt
   unfold setC at hix
   by_cases hw : wdN N k = 0
   ·have hwd : wd N k = 0 := by unfold wd; rw [hw]; rfl
    have hn := hide (zeroTo_next hz hw)
    clear hw hz
    go_wp2_with fail
    go_round
    case rel => exact ⟨k + 1,by omega,by go_num,unhide hn⟩
    case measure => simp [intOf]; omega
   ·have hwd : (wd N k == 0) = false := by unfold wd; simp; omega
    have hl := hide (toL_word hlt hz hw)
    have hw' := hide hw
    obtain ⟨h64,_,_⟩ := ctz_bit hw (wdN_lt N k)
    clear hw hz
    go_wp2_with fail
    refine (tz_wd N k (unhide hw') _ (unhide hT')).mono ?_
    rintro e w' ⟨rfl,rfl⟩
    have e1 := unhide hl
    generalize Lib.ctz 64 (wdN N k) = c at *
    have s1 : IntKind.i64.wrap (64 * (k : Int)) = 64 * (k : Int) := IntWalk.i64_in _ (by omega)
    have s2 : IntKind.i64.wrap (64 * (k : Int) + (c : Int)) = ((64 * k + c : Nat) : Int) := by rw [IntWalk.i64_in _ (by omega)]; omega
    have e2 := hide e1
    clear e1 hl
    go_wp2_with fail
    go_ret2
    rw [(min_cons (unhide e2)).1,(min_cons (unhide e2)).2]
    exact ⟨rfl,unhide hx0⟩
  ·have : k = 16 := by omega
   subst this
   have hl := hide (toL_zero hz)
   clear hz
   go_wp2_with fail
   go_ret2
   rw [(min_nil (unhide hl)).1,(min_nil (unhide hl)).2]
   exact ⟨rfl,unhide hx0⟩
end Go.Proofs.YtmfkkkhddigkfaaGreatDoor
