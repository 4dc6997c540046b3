/- Parts of a proof, laid together. Each part says its own conditions. -/
import Derived.Test.YtoacpebmhbkmbaaGreatDoorT21
import Derived.Test.YtoacpebmhbkmbaaGreatDoorT23
import Derived.Test.YtoacpebmhbkmbaaGreatDoorT18
import Derived.Shelf.RegionOpen
import Derived.WalkKit
import Derived.OwnWalkIn
import Derived.TacticsInMore
import Derived.LoopNIn
import Derived.LoopIn
import Derived.Test.YtoacpebmhbkmbaaGreatDoorT20
import Derived.Test.YtoacpebmhbkmbaaGreatDoorT16
namespace Go.Proofs.YtoacpebmhbkmbaaGreatDoor
open Go Go.RowKit
attribute [local go_sem] qUpon lUpon
def withoutS (N : Nat) (n : Int) : Nat := if fitB n = true then minusS N (2 ^ n.toNat) else N
theorem setC_without (N k : Nat) : (setC N).setIfInBounds (k / 64) (.int .u64 (bits .andNot .u64 (wd N (k / 64)) (bitW k))) = setC (minusS N (2 ^ k)) := by
 have e1 : bitW k = wd (2 ^ k) (k / 64) := by
  unfold bitW wd
  rw [wdN_one,if_pos rfl]
 rw [e1,wd_minus]
 apply Array.ext_getElem?
 intro i
 by_cases hi : i < 16
 ·rw [setC_get _ hi]
  by_cases he : k / 64 = i
  ·subst he
   rw [Array.getElem?_setIfInBounds_self_of_lt (by rw [setC_size]; omega)]
  ·rw [Array.getElem?_setIfInBounds_ne he,setC_get _ hi]
   unfold wd
   rw [wdN_minus,wdN_one,if_neg (Ne.symm he),Nat.sub_zero,show (18446744073709551615 : Nat) = 2 ^ 64 - 1 from rfl,Nat.and_two_pow_sub_one_of_lt_two_pow (wdN_lt N i)]
 ·have h1 : ∀ a : Array Value,a.size = 16 → a[i]? = none := fun a h => Array.getElem?_eq_none (by omega)
  rw [h1 _ (by simp [setC_size]),h1 _ (setC_size _)]
set_option maxRecDepth 100000 in
set_option maxHeartbeats 4000000 in
theorem without_S (N : Nat) (n : Int) (w : World) :
  Calls Tryz.prog 42 #[.agg (setC N), .int .i64 n] w fun e w' => e = .returned (.agg (setC (withoutS N n))) ∧ Ext w w' := by
 have hB0 := Blk.new w 76 (setC N)
 by_cases hf : fitB n = true
 ·obtain ⟨k,rfl⟩ : ∃ k : Nat,n = k := ⟨n.toNat,by simp [fitB] at hf; omega⟩
  have hk : k < 1024 := by simp [fitB] at hf; omega
  obtain ⟨h1,hw,h6,h7,h8⟩ := idx_facts hk
  have h5 : fitB (k : Int) = true := hf
  have hN : withoutS N (k : Int) = minusS N (2 ^ k) := by rw [withoutS,if_pos h5,Int.toNat_natCast]
  have hN' := hide hN
  have hB0' := hide hB0
  clear hf hB0 hN
  go_enter Tryz.func42,Tryz.ntmps42
  go_wp2_with fail
  have hx1 := hide ((ext_self1 w (.cells (setC N) 76)).trans (ext_self1 _ (.cells (setC 0) 76)))
  have hB2 := hide ((unhide hB0').ext (ext_self1 (w.alloc (.cells (setC N) 76)) (.cells (setC 0) 76)))
  have hB4 := hide (Blk.new (w.alloc (.cells (setC N) 76)) 76 (setC 0))
  have hs : (w.alloc (.cells (setC N) 76)).heap.size = w.heap.size + 1 := World.size_alloc _ _
  rw [hs] at hB4
  clear hs hB0'
  have hz : setC 0 = #[.int .u64 0, .int .u64 0, .int .u64 0, .int .u64 0, .int .u64 0, .int .u64 0, .int .u64 0, .int .u64 0, .int .u64 0, .int .u64 0, .int .u64 0, .int .u64 0, .int .u64 0, .int .u64 0, .int .u64 0, .int .u64 0] := rfl
  rw [hz] at hx1 hB2 hB4
  generalize (w.alloc (.cells (setC N) 76)).alloc (.cells #[.int .u64 0, .int .u64 0, .int .u64 0, .int .u64 0, .int .u64 0, .int .u64 0, .int .u64 0, .int .u64 0, .int .u64 0, .int .u64 0, .int .u64 0, .int .u64 0, .int .u64 0, .int .u64 0, .int .u64 0, .int .u64 0] 76) = W1 at *
  rw [← hz] at hB4
  clear hz
  have hbb := hide (show w.heap.size + 1 ≠ w.heap.size by omega)
  generalize hb4e : w.heap.size + 1 = b4 at *
  generalize hb2e : w.heap.size = b2 at *
  refine (fits_any _ _).mono ?_
  rw [h5]
  rintro e w2 ⟨rfl,hx2⟩
  have c0 := cell_of ((unhide hB2).ext hx2) hk
  have hB2' := hide ((unhide hB2).ext hx2)
  have hB4' := hide ((unhide hB4).ext hx2)
  have hx2' := hide ((unhide hx1).trans hx2)
  clear hx2 hB2 hB4 hx1
  go_wp2_with fail
  refine wp_region_ext (P := Tryz.prog) [0,1,2,3,4,5,6,7] [8] 1 #[true,true,true,true,true,true,true,true,false] (by kernel_rfl) (by kernel_rfl) rfl (by rfl) ?_
  iterate 8
   refine ql_want (v := ?_) rfl (by rfl) (fun W hW => ?_) ?_
   rotate_left
   ·go_simp
    first | done | rfl | ((go_at_call 83; refine (bit_any k hk _).mono ?_; rintro _ _ ⟨h1,h2⟩; refine ⟨_,h1, ?_,h2⟩; rfl))
   go_frame
  refine wpQL_nil (fun w3 hx3 => ?_)
  have c1 := c0 w3 hx3
  have f1 := ((unhide hB2').ext hx3).frozen (k / 64)
  refine lx_one (i := 8) (by kernel_rfl) rfl (by rfl) #[true,true,true,true,true,true,true,true,true] (by rfl) ?_
  go_simp
  intro w4 hx4
  have hB2 := ((((unhide hB2').ext hx3).set (k / 64) (.int .u64 (bits .andNot .u64 (wd N (k / 64)) (bitW k)))).ext hx4)
  rw [setC_without N k] at hB2
  have hB4 := ((((unhide hB4').ext hx3).keep (Keep.setCell w3 b2 (k / 64) (.int .u64 (bits .andNot .u64 (wd N (k / 64)) (bitW k)))) (by simpa using unhide hbb)).ext hx4)
  have hx5 := hide ((((unhide hx2').trans hx3).of_new (Keep.setCell w3 b2 (k / 64) (.int .u64 (bits .andNot .u64 (wd N (k / 64)) (bitW k)))) (by simp [hb2e])).trans hx4)
  refine wpX_done (by kernel_rfl) ?_
  try go_frame
  clear hB2' hB4' hx2' hx3 hx4 c0 c1 f1 h1 hw h6 h7 h8
  generalize minusS N (2 ^ k) = M at *
  have hself := Ext.refl w4
  have hB2' := hide hB2
  have hB4' := hide hB4
  clear hB2 hB4
  try dsimp only
  repeat (first | (with_reducible refine wp_reg (id := 3) ?_) | go_values | go_step | go_guarded | go_upon | go_in | go_back | fail)
  refine wpO_val rfl (load_SetR (N := M) rfl rfl (unhide hB2').whole) ?_
  refine wpO_skip rfl (store_SetR (N := M) rfl rfl rfl (unhide hB4')) (wpO_done ?_)
  go_wp2_with fail
  rw [unhide hN']
  refine bodyPost_ret (ret_cell1 rfl rfl (load_Set _ b4 M ((unhide hB4').row _))) rfl ?_
  exact ⟨rfl,(unhide hx5).of_new (Keep.setRow w4 b4 _) (by simp; omega)⟩
 ·have h5 : fitB n = false := by simpa using hf
  have hN : withoutS N n = N := by rw [withoutS,if_neg hf]
  have hN' := hide hN
  have hB0' := hide hB0
  clear hf hB0 hN
  go_enter Tryz.func42,Tryz.ntmps42
  go_wp2_with fail
  have hx1 := hide ((ext_self1 w (.cells (setC N) 76)).trans (ext_self1 _ (.cells (setC 0) 76)))
  have hB2 := hide ((unhide hB0').ext (ext_self1 (w.alloc (.cells (setC N) 76)) (.cells (setC 0) 76)))
  have hB4 := hide (Blk.new (w.alloc (.cells (setC N) 76)) 76 (setC 0))
  have hs : (w.alloc (.cells (setC N) 76)).heap.size = w.heap.size + 1 := World.size_alloc _ _
  rw [hs] at hB4
  clear hs hB0'
  have hz : setC 0 = #[.int .u64 0, .int .u64 0, .int .u64 0, .int .u64 0, .int .u64 0, .int .u64 0, .int .u64 0, .int .u64 0, .int .u64 0, .int .u64 0, .int .u64 0, .int .u64 0, .int .u64 0, .int .u64 0, .int .u64 0, .int .u64 0] := rfl
  rw [hz] at hx1 hB2 hB4
  generalize (w.alloc (.cells (setC N) 76)).alloc (.cells #[.int .u64 0, .int .u64 0, .int .u64 0, .int .u64 0, .int .u64 0, .int .u64 0, .int .u64 0, .int .u64 0, .int .u64 0, .int .u64 0, .int .u64 0, .int .u64 0, .int .u64 0, .int .u64 0, .int .u64 0, .int .u64 0] 76) = W1 at *
  rw [← hz] at hB4
  clear hz
  generalize hb4e : w.heap.size + 1 = b4 at *
  generalize hb2e : w.heap.size = b2 at *
  refine (fits_any _ _).mono ?_
  rw [h5]
  rintro e w4 ⟨rfl,hx2⟩
  have hB2 := (unhide hB2).ext hx2
  have hB4 := (unhide hB4).ext hx2
  have hx5 := hide ((unhide hx1).trans hx2)
  clear hx2 hx1
  have hself := Ext.refl w4
  have hB2' := hide hB2
  have hB4' := hide hB4
  clear hB2 hB4
  try dsimp only
  repeat (first | (with_reducible refine wp_reg (id := 3) ?_) | go_values | go_step | go_guarded | go_upon | go_in | go_back | fail)
  refine wpO_val rfl (load_SetR (N := N) rfl rfl (unhide hB2').whole) ?_
  refine wpO_skip rfl (store_SetR (N := N) rfl rfl rfl (unhide hB4')) (wpO_done ?_)
  go_wp2_with fail
  rw [unhide hN']
  refine bodyPost_ret (ret_cell1 rfl rfl (load_Set _ b4 N ((unhide hB4').row _))) rfl ?_
  exact ⟨rfl,(unhide hx5).of_new (Keep.setRow w4 b4 _) (by simp; omega)⟩
end Go.Proofs.YtoacpebmhbkmbaaGreatDoor
namespace Go.Proofs.YtoacpebmhbkmbaaGreatDoor
open Go Go.RowKit Go.Shelf
attribute [local go_sem] qUpon lUpon
set_option maxRecDepth 100000 in
theorem all_any (N : Nat) (w : World) : Calls Tryz.prog 58 #[.agg (setC N)] w fun e w' => e = .returned (.func (.func 112) #[] #[.pointer (some ⟨w.heap.size,0,none⟩)]) ∧ w' = w.alloc (.cells (setC N) 76) := by
 have hsz := setC_size N
 go_enter Tryz.func58,Tryz.ntmps58
 go_wp2_with fail
 go_ret
 exact ⟨rfl,rfl⟩
def leftI (n is : Value) : Nat := match is with | .bool true => 1025 - (intOf n).toNat | _ => 0
theorem toL_head_lt {R : Nat} {x : Int} {r : List Int} (h : toL R = x :: r) : 0 ≤ x ∧ x < 1024 := by
 have := mem_toL'.1 (show x ∈ toL R by rw [h]; simp)
 exact ⟨this.1,this.2.1⟩
theorem toL_tail {R : Nat} {x : Int} {r : List Int} (h : toL R = x :: r) : toL (withoutS R x) = r := by
 have hx := toL_head_lt h
 have hs := toL_sorted R
 have hb := (mem_toL'.1 (show x ∈ toL R by rw [h]; simp)).2.2
 have h0 : ∀ k,k < x.toNat → R.testBit k = false := by
  intro k hk
  cases hkb : R.testBit k with
  | false => rfl
  | true =>
   have hm : (k : Int) ∈ toL R := mem_toL'.2 ⟨by omega,by omega,by rw [Int.toNat_natCast]; exact hkb⟩
   rw [h] at hm hs
   rcases List.mem_cons.1 hm with e | hm
   ·omega
   ·have := List.rel_of_pairwise_cons hs hm
    omega
 have e := toL_cons (N := R) (j := x.toNat) (by omega) h0 hb
 rw [h] at e
 have hf : fitB x = true := by simp [fitB]; omega
 rw [withoutS,if_pos hf]
 exact (List.cons.inj e).2.symm
set_option maxRecDepth 100000 in
set_option maxHeartbeats 4000000 in
theorem all_iter (N bN : Nat) (w : World) (hB : Blk w bN 76 (setC N)) (hT : Tab w) :
  Iter1 Tryz.prog 112 #[.pointer (some ⟨bN,0,none⟩)] (fun x : Int => #[.int .i64 x]) (toL N) 1 [0] w := by
 intro l J Jx W hW hJ hJx hY h0
 have hTW := hide (hT.ext hW)
 have hBW := hB.ext hW
 have hJ' := hide hJ
 have hJx' := hide hJx
 have hY' := hide hY
 have h0' := hide h0
 have hBW' := hide hBW
 clear hB hT hW hBW hJ hJx hY h0
 refine callsIn_of_wp Tryz.func112 rfl trivial ?_ rfl
 simp only [Tryz.ntmps112,List.size_toArray,List.length_cons,List.length_nil,Nat.reduceAdd,Nat.reduceSub,Array.replicate_succ,Array.replicate_zero,List.push_toArray,List.append_toArray,List.nil_append,List.cons_append]
 try dsimp only
 repeat (first | (with_reducible refine wpW_reg (id := 0) (by kernel_rfl) ?_) | go_values | gi_step | gi_guarded | gi_upon | gi_in | gi_back | fail)
 have hB0 : Blk (W.alloc (.cells #[.int .u64 0, .int .u64 0, .int .u64 0, .int .u64 0, .int .u64 0, .int .u64 0, .int .u64 0, .int .u64 0, .int .u64 0, .int .u64 0, .int .u64 0, .int .u64 0, .int .u64 0, .int .u64 0, .int .u64 0, .int .u64 0] 76)) W.heap.size 76 (setC 0) := Blk.new W 76 (setC 0)
 have hx0 := ext_self1 W (.cells #[.int .u64 0, .int .u64 0, .int .u64 0, .int .u64 0, .int .u64 0, .int .u64 0, .int .u64 0, .int .u64 0, .int .u64 0, .int .u64 0, .int .u64 0, .int .u64 0, .int .u64 0, .int .u64 0, .int .u64 0, .int .u64 0] 76)
 refine wpO_val rfl (load_SetR (N := N) rfl rfl (unhide hBW').whole) ?_
 refine wpO_want rfl ?_
 go_simp
 refine wpO_skip rfl (store_SetR (N := N) rfl rfl rfl hB0) (wpO_done ?_)
 have hB4 := hide (hB0.row (setC N))
 have hx4 := hide (hx0.of_new (Keep.setRow _ W.heap.size (setC N)) (by simp))
 clear hB0 hx0 hBW'
 generalize (W.alloc (.cells #[.int .u64 0, .int .u64 0, .int .u64 0, .int .u64 0, .int .u64 0, .int .u64 0, .int .u64 0, .int .u64 0, .int .u64 0, .int .u64 0, .int .u64 0, .int .u64 0, .int .u64 0, .int .u64 0, .int .u64 0, .int .u64 0] 76)).setRow W.heap.size (setC N) = W4 at *
 try dsimp only
 repeat (first | (with_reducible refine wpW_reg (id := 1) (by kernel_rfl) ?_) | go_values | gi_step | gi_guarded | gi_upon | gi_in | gi_back | fail)
 refine wpO_val rfl (load_SetR (N := N) rfl rfl (unhide hB4).whole) ?_
 refine wpO_want rfl ?_
 go_simp
 refine (min_any N W4 ((unhide hTW).ext (unhide hx4))).mono ?_
 rintro e W5 ⟨rfl,hx5⟩
 refine ⟨_,rfl, ?_⟩
 iterate 5
  refine wpO_want rfl ?_
  go_simp
 refine wpO_done ?_
 have hB5 := hide ((unhide hB4).ext hx5)
 have hx5' := hide ((unhide hx4).trans hx5)
 clear hB4 hx4 hx5
 gi_wp2_with fail
 gi_loopw [4,5] (fun n is wr => ∃ (pre : List Int) (R : Nat),toL N = pre ++ toL R ∧ n = .int .i64 (minV R) ∧ is = .bool (anyB R) ∧ Blk wr W.heap.size 76 (setC R) ∧ Tab wr ∧ J pre wr ∧ W.heap.size + 1 ≤ wr.heap.size) (fun n is _ => leftI n is)
 case atStart =>
  exact ⟨[],N,rfl,rfl,rfl,unhide hB5,(unhide hTW).ext (unhide hx5'),unhide hJ' _ _ _ (unhide h0') ((unhide hx5').keep _),(unhide hB5).lt⟩
 case round =>
  obtain ⟨pre,R,hpre,rfl,rfl,hB,hT,hJp,hsz⟩ := hrel
  cases hR : toL R with
  | nil =>
   have hR' := hR
   rw [hR,List.append_nil] at hpre
   have hJp' := hide hJp
   have hpre' := hide hpre
   clear hB hT hJp hpre hR hTW hJ' hJx' hY' h0' hB5 hx5' hsz
   rw [(min_nil hR').1,(min_nil hR').2]
   clear hR'
   gi_wp2_with fail
   go_end0
   exact ⟨⟨_,rfl⟩, .inl (by rw [unhide hpre']; exact unhide hJp')⟩
  | cons x r =>
   have hp1 : (pre ++ [x]) <+: toL N := ⟨r,by rw [hpre,hR]; simp⟩
   obtain ⟨fn,tmps,assign,body,hy,hRd⟩ := unhide hY' pre x wr hJp hp1 hsz
   have hB' := hide hB
   have hT' := hide hT
   have hR' := hide hR
   have hpre' := hide hpre
   have hRd' := hide hRd
   have hsz' := hide hsz
   rw [(min_cons hR).1,(min_cons hR).2]
   have htl := (unhide hTW).lt
   have htl' := hide htl
   clear hB hT hJp hpre hR hTW h0' hB5 hx5' hRd hsz hp1 hY' htl
   gi_wp2_with fail
   refine ⟨rfl,(unhide hRd').mono ?_⟩
   rintro e W6 ⟨(⟨rfl,hJ6⟩ | ⟨rfl,hJx6⟩),hsame,hsz6⟩
   ·have hB6 := hide ((unhide hB').of_block (hsame W.heap.size (inX (by omega))))
    have hT6 : Tab W6 := fun j hj => by
     rw [World.cell?_of_block (hsame _ (List.mem_append.2 (.inr (List.mem_singleton.2 rfl))))]
     exact unhide hT' j hj
    have hT6' := hide hT6
    have hJ6' := hide hJ6
    have hsz6' := hide (Nat.le_trans (unhide hsz') hsz6)
    clear hsame hsz6 hB' hT' hJ6 hRd' hsz' hT6 hy
    try dsimp only
    repeat (first | (with_reducible refine wpW_reg (id := 5) (by kernel_rfl) ?_) | go_values | gi_step | gi_guarded | gi_upon | gi_in | gi_back | fail)
    refine wpO_val rfl (load_SetR (N := R) rfl rfl (unhide hB6).whole) ?_
    refine wpO_want rfl ?_
    go_simp
    refine wpO_want rfl ?_
    go_simp
    refine (without_S R x W6).mono ?_
    rintro e W7 ⟨rfl,hx7⟩
    refine ⟨_,rfl, ?_⟩
    have hB7 := (unhide hB6).ext hx7
    refine wpO_skip rfl (store_SetR (N := withoutS R x) rfl rfl rfl hB7) (wpO_done ?_)
    have hB8 := hide (hB7.row (setC (withoutS R x)))
    have hk8 := hide ((hx7.keep [W.heap.size]).trans (Keep.setRow W7 W.heap.size (setC (withoutS R x))))
    clear hB6 hx7 hB7
    generalize W7.setRow W.heap.size (setC (withoutS R x)) = W8 at *
    try dsimp only
    repeat (first | (with_reducible refine wpW_reg (id := 3) (by kernel_rfl) ?_) | go_values | gi_step | gi_guarded | gi_upon | gi_in | gi_back | fail)
    refine wpO_val rfl (load_SetR (N := withoutS R x) rfl rfl (unhide hB8).whole) ?_
    refine wpO_want rfl ?_
    go_simp
    have hT8 := (unhide hT6').keep (unhide hk8) (by have := unhide htl'; simp; omega)
    refine (min_any (withoutS R x) W8 hT8).mono ?_
    rintro e W9 ⟨rfl,hx9⟩
    refine ⟨_,rfl, ?_⟩
    iterate 5
     refine wpO_want rfl ?_
     go_simp
    refine wpO_done ?_
    have hB9 := hide ((unhide hB8).ext hx9)
    have hT9 := hide (hT8.ext hx9)
    have hk9 := hide ((unhide hk8).trans (hx9.keep _))
    clear hB8 hk8 hT8 hx9
    gi_wp2_with fail
    go_roundw
    case rel =>
     have ht := toL_tail (unhide hR')
     refine ⟨pre ++ [x],withoutS R x, ?_,rfl,rfl,unhide hB9,unhide hT9,unhide hJ' _ _ _ (unhide hJ6') ((unhide hk9).mono fun b hb => ?_),Nat.le_trans (unhide hsz6') (unhide hk9).size⟩
     ·rw [unhide hpre',unhide hR',ht]; simp
     ·rw [List.mem_singleton] at hb; rw [mem_privs]; omega
    case measure =>
     have hx0 := toL_head_lt (unhide hR')
     have hs := toL_sorted R
     rw [unhide hR'] at hs
     have ht := toL_tail (unhide hR')
     cases hr : toL (withoutS R x) with
     | nil => rw [(min_nil hr).1,(min_nil hr).2]; simp [leftI,intOf]; omega
     | cons y q =>
      rw [ht] at hr
      subst hr
      have := List.rel_of_pairwise_cons hs (List.mem_cons_self)
      have hy0 := toL_head_lt ht
      rw [(min_cons ht).1,(min_cons ht).2]
      simp [leftI,intOf]
      omega
   ·have hJx6' := hide hJx6
    clear hJx6 hsame hsz6 hy hRd'
    gi_wp2_with fail
    refine bodyPost_ret (results_none rfl _ _ _) rfl ?_
    exact ⟨⟨_,rfl⟩, .inr ⟨_,unhide hJx6'⟩⟩
end Go.Proofs.YtoacpebmhbkmbaaGreatDoor
namespace Go.Proofs.YtoacpebmhbkmbaaGreatDoor
open Go Go.RowKit Go.Shelf
theorem all_ext (N : Nat) (w : World) : Calls Tryz.prog 58 #[.agg (setC N)] w fun e w' => ∃ b,e = .returned (.func (.func 112) #[] #[.pointer (some ⟨b,0,none⟩)]) ∧ Blk w' b 76 (setC N) ∧ Ext w w' :=
 (all_any N w).mono fun _ _ ⟨h1,h2⟩ => ⟨_,h1,by rw [h2]; exact Blk.new w _ _,by rw [h2]; exact ext_self1 w _⟩
section
variable {wf w W : World} {T0 : List Nat} {ds : List Deferred} {L : List Cl} {Rs : List Rw}
end
def sPost (wf : World) (F : List Cl → List Rw → Prop) (Fx : Code → List Cl → List Rw → Prop) (T : List Nat) (W : World) : Exit → Act → World → Prop
 | .normal,_,W' => ∃ L Rs,F L Rs ∧ Sp wf T W [] L Rs W'
 | .ret,_,W' => ∃ L Rs,Fx .ret L Rs ∧ Sp wf T W [] L Rs W'
 | .exit id,_,W' => ∃ L Rs,Fx (.exit id) L Rs ∧ Sp wf T W [] L Rs W'
 | .goto t,_,W' => ∃ L Rs,Fx (.goto t) L Rs ∧ Sp wf T W [] L Rs W'
 | .panic _,_,_ => False
 | .outgrown,_,_ => False
section
variable {P : Program} {α : Type} {wf : World}
theorem bPost_of_sPost {F : List Cl → List Rw → Prop} {Fx : Code → List Cl → List Rw → Prop} {T : List Nat} {W : World} {e : Exit} {a : Act} {W' : World} (h : sPost wf F Fx T W e a W') :
  bPost (fun T' W' => ∃ L Rs,F L Rs ∧ T' = stT L Rs ∧ St wf.heap.size L Rs W') (fun c T' W' => ∃ L Rs,Fx c L Rs ∧ T' = stT L Rs ∧ St wf.heap.size L Rs W') T W e a W' := by
 cases e with
 | normal => obtain ⟨L,Rs,h1,h2⟩ := h; exact ⟨_,⟨L,Rs,h1,rfl,h2.st⟩,h2.keep,h2.tin⟩
 | ret => obtain ⟨L,Rs,h1,h2⟩ := h; exact ⟨_,⟨L,Rs,h1,rfl,h2.st⟩,h2.keep,h2.tin⟩
 | exit _ => obtain ⟨L,Rs,h1,h2⟩ := h; exact ⟨_,⟨L,Rs,h1,rfl,h2.st⟩,h2.keep,h2.tin⟩
 | goto _ => obtain ⟨L,Rs,h1,h2⟩ := h; exact ⟨_,⟨L,Rs,h1,rfl,h2.st⟩,h2.keep,h2.tin⟩
 | panic _ => exact h.elim
 | outgrown => exact h.elim
theorem wp_rngS {g : Operand} {ps : Array Tmp} {assign body : Code} {Q : Exit → Act → World → Prop} {a : Act} {w W : World} {T0 : List Nat} {ds : List Deferred} {L : List Cl} {Rs : List Rw} {gf : Nat} {lb : Array Value}
  (hP : Sp wf T0 w ds L Rs W) (hg : a.eval g = .func (.func gf) #[] lb) (eg : ∀ args w,(callFunc gf args).run P w = .ok (.enter gf args) w)
  {encs : α → Array Value} {xs : List α} {np : Nat} {ex : List Nat} (hex : ∀ b ∈ ex,b < W.heap.size ∧ b ∉ stT L Rs) (hit : Iter1 P gf lb encs xs np ex W) (hps : ∀ x,(encs x).size = ps.size)
  (F : List α → List Cl → List Rw → Prop) (Fx : Code → List Cl → List Rw → Prop) (Pa : Array Value → List Nat → α → Act → World → Prop)
  (hPa : ∀ T' x a1 A B,Pa a.tmps T' x a1 A → Keep (privs W.heap.size (2 + np)) A B → Pa a.tmps T' x a1 B) (h0 : F [] L Rs)
  (hassign : ∀ (T' : List Nat) (x : α) (W' : World) (K : Act → World → Prop),(∀ y ∈ T',y < W'.heap.size) → W.heap.size + (2 + np) ≤ W'.heap.size → (∀ a1 W1,Pa a.tmps T' x a1 W1 → Ext W' W1 → K a1 W1) →
   assign.wpIn (RF (W.heap.size + 1)) 0 P (Exit.then K (fun _ _ _ => False)) { tmps := (ps.zip (encs x)).foldl (fun t (p,v) => t.setIfInBounds p v) a.tmps,defers := [] } W')
  (hbody : ∀ (l : Nat) (pre : List α) (x : α) (a1 : Act) (L' : List Cl) (Rs' : List Rw) (W' : World),F pre L' Rs' → Sp wf (stT L' Rs') W' [] L' Rs' W' → Pa a.tmps (stT L' Rs') x a1 W' → (pre ++ [x]) <+: xs → (∃ r,W'.heap[l]? = some (.loop r)) → Keep (stT L Rs) W W' → tIn (stT L Rs) W.heap.size (stT L' Rs') →
   body.wpIn (RF l) 0 P (sPost wf (F (pre ++ [x])) Fx (stT L' Rs') W') a1 W')
  (hdone : ∀ (D : Nat) (L' : List Cl) (Rs' : List Rw) (W' : World),F xs L' Rs' → Keep (stT L Rs) W W' → Sp wf T0 w ({ target := .collected D,args := #[] } :: ds) L' Rs' W' → Q .normal { a with defers := { target := .collected D,args := #[] } :: a.defers } W')
  (hstop : ∀ (D : Nat) (c : Code) (L' : List Cl) (Rs' : List Rw) (W' : World),Fx c L' Rs' → Keep (stT L Rs) W W' → Sp wf T0 w ({ target := .collected D,args := #[] } :: ds) L' Rs' W' → c.wp P Q { a with defers := { target := .collected D,args := #[] } :: a.defers } W') :
  (Code.rangeFunc g ps assign body).wp P Q a W := by
 refine wp_rng hg eg (T := stT L Rs) hex hit hps (fun pre T' W' => ∃ L' Rs',F pre L' Rs' ∧ T' = stT L' Rs' ∧ St wf.heap.size L' Rs' W') (fun c T' W' => ∃ L' Rs',Fx c L' Rs' ∧ T' = stT L' Rs' ∧ St wf.heap.size L' Rs' W') Pa
  (fun pre T' A B S ⟨L',Rs',h1,h2,h3⟩ hk hS => ⟨L',Rs',h1,h2,h3.keep hk (by rw [← h2]; exact hS)⟩) (fun c T' A B S ⟨L',Rs',h1,h2,h3⟩ hk hS => ⟨L',Rs',h1,h2,h3.keep hk (by rw [← h2]; exact hS)⟩)
  (fun pre T' A ⟨L',Rs',_,h2,h3⟩ => by rw [h2]; exact h3.lt) hPa hP.lt ⟨L,Rs,h0,rfl,hP.st⟩ hassign ?_ ?_ ?_
 ·rintro pre x a1 T' W' ⟨L',Rs',h1,rfl,h3⟩ hk hT hp hpx hsz hr
  exact wpIn_mono (hbody _ pre x a1 L' Rs' W' h1 (hP.round hk h3) hp hpx hr hk (fun x hx => (hT x hx).imp id (fun h => by omega))) fun e a2 W2 h => bPost_of_sPost h
 ·rintro T' W' ⟨L',Rs',h1,rfl,h3⟩ hk hT hD
  exact hdone _ L' Rs' W' h1 hk (hP.mark h3 hk hT hD)
 ·rintro c T' W' ⟨L',Rs',h1,rfl,h3⟩ hk hT hD
  exact hstop _ c L' Rs' W' h1 hk (hP.mark h3 hk hT hD)
end
theorem Sp.tab {wf w W : World} {T0 : List Nat} {ds : List Deferred} {L : List Cl} {Rs : List Rw} (h : Sp wf T0 w ds L Rs W) (hT : Tab wf) : ∀ b ∈ [0],b < W.heap.size ∧ b ∉ stT L Rs := by
 intro b hb
 rw [List.mem_singleton] at hb
 subst hb
 have h1 := hT.lt
 have h2 := h.size
 exact ⟨by omega,fun hm => by have := h.st.ge _ hm; omega⟩
end Go.Proofs.YtoacpebmhbkmbaaGreatDoor
namespace Go.Proofs.YtoacpebmhbkmbaaGreatDoor
open Go Go.RowKit
attribute [local go_sem] qUpon lUpon
def nearF (id : Int) (a : Nat) (e : (Int × Int) × Thing) : Nat := if id = e.1.1 then withS a e.1.2 else if id = e.1.2 then withS a e.1.1 else a
def nearS (id : Int) (E : List ((Int × Int) × Thing)) : Nat := E.foldl (nearF id) 0
theorem nearS_next (id : Int) (E : List ((Int × Int) × Thing)) (k : Nat) (h : k < E.length) : nearS id (E.take (k + 1)) = nearF id (nearS id (E.take k)) E[k] := by
 unfold nearS
 rw [List.take_succ_eq_append_getElem h,List.foldl_append,List.foldl_cons,List.foldl_nil]
set_option maxRecDepth 100000 in
set_option maxHeartbeats 8000000 in
theorem near_gen (g : Value) (id : Int) (E : List ((Int × Int) × Thing)) (w : World) (hl : E.length ≤ 4096) (hL : ∀ W,Ext w W → Calls Tryz.prog 80 #[g] W fun e w' => ∃ A c,e = .returned (.slice A E.length c) ∧ SlAt encE 4 w' A E ∧ Ext W w') :
  Calls Tryz.prog 44 #[g, .int .i64 id] w fun e w' => e = .returned (.agg (setC (nearS id E))) ∧ Ext w w' := by
 have hB0 := hide (Blk.new w 76 (setC 0))
 have hL' := hide hL
 clear hL
 go_enter Tryz.func44,Tryz.ntmps44
 go_wp2_with fail
 have hx1 := hide ((ext_self1 w (.cells (setC 0) 76)).trans (ext_self1 _ (.cells (setC 0) 76)))
 have hB2 := hide ((unhide hB0).ext (ext_self1 (w.alloc (.cells (setC 0) 76)) (.cells (setC 0) 76)))
 have hB4 := hide (Blk.new (w.alloc (.cells (setC 0) 76)) 76 (setC 0))
 have hs : (w.alloc (.cells (setC 0) 76)).heap.size = w.heap.size + 1 := World.size_alloc _ _
 rw [hs] at hB4
 clear hs hB0
 have hz : setC 0 = #[.int .u64 0, .int .u64 0, .int .u64 0, .int .u64 0, .int .u64 0, .int .u64 0, .int .u64 0, .int .u64 0, .int .u64 0, .int .u64 0, .int .u64 0, .int .u64 0, .int .u64 0, .int .u64 0, .int .u64 0, .int .u64 0] := rfl
 rw [hz] at hx1 hB2 hB4
 generalize (w.alloc (.cells #[.int .u64 0, .int .u64 0, .int .u64 0, .int .u64 0, .int .u64 0, .int .u64 0, .int .u64 0, .int .u64 0, .int .u64 0, .int .u64 0, .int .u64 0, .int .u64 0, .int .u64 0, .int .u64 0, .int .u64 0, .int .u64 0] 76)).alloc (.cells #[.int .u64 0, .int .u64 0, .int .u64 0, .int .u64 0, .int .u64 0, .int .u64 0, .int .u64 0, .int .u64 0, .int .u64 0, .int .u64 0, .int .u64 0, .int .u64 0, .int .u64 0, .int .u64 0, .int .u64 0, .int .u64 0] 76) = W1 at *
 rw [← hz] at hB4 hB2
 clear hz
 generalize hb4e : w.heap.size + 1 = b4 at *
 generalize hb2e : w.heap.size = b2 at *
 refine (unhide hL' _ (unhide hx1)).mono ?_
 rintro e w2 ⟨A,c,rfl,hs2,hx2⟩
 have hB2' := hide ((unhide hB2).ext hx2)
 have hB4' := hide ((unhide hB4).ext hx2)
 have hx2' := hide ((unhide hx1).trans hx2)
 have hs2' := hide hs2
 clear hx1 hx2 hB2 hB4 hs2 hL'
 go_wp2_with fail
 go_loopw [11] (fun i wr => ∃ k : Nat,k ≤ E.length ∧ i = .int .i64 k ∧ Blk wr b4 76 (setC (nearS id (E.take k))) ∧ Blk wr b2 76 (setC 0) ∧ SlAt encE 4 wr A E ∧ Ext w wr) (fun i _ => E.length - (intOf i).toNat)
 case atStart => exact ⟨0,Nat.zero_le _,rfl,unhide hB4',unhide hB2',unhide hs2',unhide hx2'⟩
 case round =>
  obtain ⟨k,hk,rfl,hB,hA,hs,hx⟩ := hrel
  have hB' := hide hB
  have hA' := hide hA
  have hs' := hide hs
  have hx' := hide hx
  clear hB4' hB2' hx2' hs2' hB hA hs hx
  by_cases hlt : k < E.length
  ·have hB := unhide hB'
   obtain ⟨bb,off,rfl,c0,c1,c2,c3⟩ := atE (unhide hs') hlt
   have hn' := hide (nearS_next id E k hlt)
   generalize E[k] = y at c0 c1 c2 c3 hn'
   obtain ⟨⟨u,v⟩,⟨lab,wt⟩⟩ := y
   generalize nearS id (E.take k) = N at hB hB' hn'
   simp only at c0 c1 c2 c3
   have hself := Ext.refl wr
   have e0 := hB.cells 0 (v := .int .u64 (wd N 0)) rfl
   have e1 := hB.cells 1 (v := .int .u64 (wd N 1)) rfl
   have e2 := hB.cells 2 (v := .int .u64 (wd N 2)) rfl
   have e3 := hB.cells 3 (v := .int .u64 (wd N 3)) rfl
   have e4 := hB.cells 4 (v := .int .u64 (wd N 4)) rfl
   have e5 := hB.cells 5 (v := .int .u64 (wd N 5)) rfl
   have e6 := hB.cells 6 (v := .int .u64 (wd N 6)) rfl
   have e7 := hB.cells 7 (v := .int .u64 (wd N 7)) rfl
   have e8 := hB.cells 8 (v := .int .u64 (wd N 8)) rfl
   have e9 := hB.cells 9 (v := .int .u64 (wd N 9)) rfl
   have e10 := hB.cells 10 (v := .int .u64 (wd N 10)) rfl
   have e11 := hB.cells 11 (v := .int .u64 (wd N 11)) rfl
   have e12 := hB.cells 12 (v := .int .u64 (wd N 12)) rfl
   have e13 := hB.cells 13 (v := .int .u64 (wd N 13)) rfl
   have e14 := hB.cells 14 (v := .int .u64 (wd N 14)) rfl
   have e15 := hB.cells 15 (v := .int .u64 (wd N 15)) rfl
   clear hB
   by_cases h1 : id = u
   ·subst h1
    have hn2 := hide (show nearF id N ((id,v),(lab,wt)) = withS N v by simp [nearF])
    go_wp2_with fail
    refine (with_any N v _).mono ?_
    rintro e w5 ⟨rfl,hx5⟩
    have hxx := hide ((ext_self1 wr (.cells #[.int .i64 id, .int .i64 v, .int .u8 lab, .int .i64 wt] 137)).trans hx5)
    have hB5 := (unhide hB').ext (unhide hxx)
    have hA5 := hide ((unhide hA').ext (unhide hxx))
    have hs5 := hide ((unhide hs').ext (unhide hxx))
    have hx6 := hide ((unhide hx').trans (unhide hxx))
    have hself5 := Ext.refl w5
    clear hx5 hB' hA' hs' hx' e0 e1 e2 e3 e4 e5 e6 e7 e8 e9 e10 e11 e12 e13 e14 e15 hself hxx c0 c1 c2 c3
    have hst := store_Set (withS N v) hB5
    have hB5' := hide hB5
    clear hB5
    go_wp2_with fail
    go_roundw
    case rel => exact ⟨k + 1,by omega,by go_num,by rw [unhide hn',unhide hn2]; exact Blk.putS _ (unhide hB5'),(unhide hA5).keep (Keep.putS w5 b4 _) (by simp; omega),(unhide hs5).keep_S (unhide hB5') encE_nu encE0 (Keep.putS w5 b4 _),(unhide hx6).of_new (Keep.putS w5 b4 _) (by simp; omega)⟩
    case measure => simp [intOf]; omega
   ·have h1b : (id == u) = false := by simpa using h1
    by_cases h2 : id = v
    ·subst h2
     have hn2 := hide (show nearF id N ((u,id),(lab,wt)) = withS N u by simp [nearF,h1])
     go_wp2_with fail
     refine (with_any N u _).mono ?_
     rintro e w5 ⟨rfl,hx5⟩
     have hxx := hide ((ext_self1 wr (.cells #[.int .i64 u, .int .i64 id, .int .u8 lab, .int .i64 wt] 137)).trans hx5)
     have hB5 := (unhide hB').ext (unhide hxx)
     have hA5 := hide ((unhide hA').ext (unhide hxx))
     have hs5 := hide ((unhide hs').ext (unhide hxx))
     have hx6 := hide ((unhide hx').trans (unhide hxx))
     have hself5 := Ext.refl w5
     clear hx5 hB' hA' hs' hx' e0 e1 e2 e3 e4 e5 e6 e7 e8 e9 e10 e11 e12 e13 e14 e15 hself hxx c0 c1 c2 c3
     have hst := store_Set (withS N u) hB5
     have hB5' := hide hB5
     clear hB5
     go_wp2_with fail
     go_roundw
     case rel => exact ⟨k + 1,by omega,by go_num,by rw [unhide hn',unhide hn2]; exact Blk.putS _ (unhide hB5'),(unhide hA5).keep (Keep.putS w5 b4 _) (by simp; omega),(unhide hs5).keep_S (unhide hB5') encE_nu encE0 (Keep.putS w5 b4 _),(unhide hx6).of_new (Keep.putS w5 b4 _) (by simp; omega)⟩
     case measure => simp [intOf]; omega
    ·have h2b : (id == v) = false := by simpa using h2
     have hn2 := hide (show nearF id N ((u,v),(lab,wt)) = N by simp [nearF,h1,h2])
     clear e0 e1 e2 e3 e4 e5 e6 e7 e8 e9 e10 e11 e12 e13 e14 e15
     have hxx := hide (ext_self1 wr (.cells #[.int .i64 u, .int .i64 v, .int .u8 lab, .int .i64 wt] 137))
     go_wp2_with fail
     go_roundw
     case rel => exact ⟨k + 1,by omega,by go_num,by rw [unhide hn',unhide hn2]; exact (unhide hB').ext (unhide hxx),(unhide hA').ext (unhide hxx),(unhide hs').ext (unhide hxx),(unhide hx').trans (unhide hxx)⟩
     case measure => simp [intOf]; omega
  ·have hke : k = E.length := by omega
   have hB := unhide hB'
   have hA := unhide hA'
   rw [hke,List.take_length] at hB hB'
   have hself := Ext.refl wr
   clear hlt
   obtain ⟨N,hN⟩ : ∃ N,nearS id E = N := ⟨_,rfl⟩
   rw [hN] at hB hB'
   have hN' := hide hN
   clear hN
   have e0 := hB.cells 0 (v := .int .u64 (wd N 0)) rfl
   have e1 := hB.cells 1 (v := .int .u64 (wd N 1)) rfl
   have e2 := hB.cells 2 (v := .int .u64 (wd N 2)) rfl
   have e3 := hB.cells 3 (v := .int .u64 (wd N 3)) rfl
   have e4 := hB.cells 4 (v := .int .u64 (wd N 4)) rfl
   have e5 := hB.cells 5 (v := .int .u64 (wd N 5)) rfl
   have e6 := hB.cells 6 (v := .int .u64 (wd N 6)) rfl
   have e7 := hB.cells 7 (v := .int .u64 (wd N 7)) rfl
   have e8 := hB.cells 8 (v := .int .u64 (wd N 8)) rfl
   have e9 := hB.cells 9 (v := .int .u64 (wd N 9)) rfl
   have e10 := hB.cells 10 (v := .int .u64 (wd N 10)) rfl
   have e11 := hB.cells 11 (v := .int .u64 (wd N 11)) rfl
   have e12 := hB.cells 12 (v := .int .u64 (wd N 12)) rfl
   have e13 := hB.cells 13 (v := .int .u64 (wd N 13)) rfl
   have e14 := hB.cells 14 (v := .int .u64 (wd N 14)) rfl
   have e15 := hB.cells 15 (v := .int .u64 (wd N 15)) rfl
   have g0 := hA.frozen 0
   have g1 := hA.frozen 1
   have g2 := hA.frozen 2
   have g3 := hA.frozen 3
   have g4 := hA.frozen 4
   have g5 := hA.frozen 5
   have g6 := hA.frozen 6
   have g7 := hA.frozen 7
   have g8 := hA.frozen 8
   have g9 := hA.frozen 9
   have g10 := hA.frozen 10
   have g11 := hA.frozen 11
   have g12 := hA.frozen 12
   have g13 := hA.frozen 13
   have g14 := hA.frozen 14
   have g15 := hA.frozen 15
   have z0 := hA.cells 0 (v := .int .u64 (wd 0 0)) rfl
   have z1 := hA.cells 1 (v := .int .u64 (wd 0 1)) rfl
   have z2 := hA.cells 2 (v := .int .u64 (wd 0 2)) rfl
   have z3 := hA.cells 3 (v := .int .u64 (wd 0 3)) rfl
   have z4 := hA.cells 4 (v := .int .u64 (wd 0 4)) rfl
   have z5 := hA.cells 5 (v := .int .u64 (wd 0 5)) rfl
   have z6 := hA.cells 6 (v := .int .u64 (wd 0 6)) rfl
   have z7 := hA.cells 7 (v := .int .u64 (wd 0 7)) rfl
   have z8 := hA.cells 8 (v := .int .u64 (wd 0 8)) rfl
   have z9 := hA.cells 9 (v := .int .u64 (wd 0 9)) rfl
   have z10 := hA.cells 10 (v := .int .u64 (wd 0 10)) rfl
   have z11 := hA.cells 11 (v := .int .u64 (wd 0 11)) rfl
   have z12 := hA.cells 12 (v := .int .u64 (wd 0 12)) rfl
   have z13 := hA.cells 13 (v := .int .u64 (wd 0 13)) rfl
   have z14 := hA.cells 14 (v := .int .u64 (wd 0 14)) rfl
   have z15 := hA.cells 15 (v := .int .u64 (wd 0 15)) rfl
   clear hB hA
   go_wp2_with fail
   refine bodyPost_ret (ret_cell1 rfl rfl (load_Set _ b2 N (Blk.set16 N (unhide hA')))) rfl ?_
   exact ⟨by rw [unhide hN'],(unhide hx').of_new (Keep.set16 wr b2 N) (by simp; omega)⟩
end Go.Proofs.YtoacpebmhbkmbaaGreatDoor
