/- Parts of a proof, laid together. Each part says its own conditions. -/
import Derived.Test.YtmokciekndllpaaGreatDoorC19
import Derived.Lib.TrailingZeros
import Derived.Test.YtmokciekndllpaaGreatDoorC14
import Derived.Test.YtmokciekndllpaaGreatDoorC11
import Derived.Test.YtmokciekndllpaaGreatDoorC15
import Derived.Laws.Bits128
import Derived.Shelf.Spec.TrailingZeros
import Derived.Test.YtmokciekndllpaaGreatDoorC16
import Derived.Shelf.RegionOpen
import Derived.WalkKit
import Derived.OwnWalkIn
import Derived.TacticsInMore
import Derived.LoopNIn
import Derived.LoopIn
import Derived.Test.YtmokciekndllpaaGreatDoorC18
namespace Go.Proofs.YtmokciekndllpaaGreatDoor
theorem mem_toL' {N : Nat} {x : Int} : x ∈ toL N ↔ 0 ≤ x ∧ x < 1024 ∧ N.testBit x.toNat = true := by
 unfold toL toK
 rw [List.mem_map]
 simp only [List.mem_filter,List.mem_range]
 constructor
 ·rintro ⟨i,⟨h1,h2⟩,rfl⟩
  exact ⟨by omega,by omega,by rw [Int.toNat_natCast]; exact h2⟩
 ·rintro ⟨h1,h2,h3⟩
  exact ⟨x.toNat,⟨by omega,h3⟩,by omega⟩
theorem toL_sorted (N : Nat) : (toL N).Pairwise (· < ·) := by
 unfold toL toK
 rw [List.pairwise_map]
 refine (List.pairwise_lt_range.filter _).imp fun {a b} h => ?_
 omega
theorem toL_nodup (N : Nat) : (toL N).Nodup := (toL_sorted N).imp fun {_ _} h => by omega
theorem toL_nil {N : Nat} (h : ∀ k,k < 1024 → N.testBit k = false) : toL N = [] := by
 unfold toL toK
 rw [List.map_eq_nil_iff,List.filter_eq_nil_iff]
 intro k hk
 rw [h k (List.mem_range.1 hk)]
 simp
theorem toL_cons {N j : Nat} (hj : j < 1024) (h0 : ∀ k,k < j → N.testBit k = false) (h1 : N.testBit j = true) : toL N = (j : Int) :: toL (minusS N (2 ^ j)) := by
 unfold toL toK
 have e : List.range 1024 = List.range' 0 j ++ ([j] ++ List.range' (j + 1) (1023 - j)) := by
  rw [List.range_eq_range']
  have a1 := List.range'_append (s := j) (m := 1) (n := 1023 - j) (step := 1)
  have a2 := List.range'_append (s := 0) (m := j) (n := 1 + (1023 - j)) (step := 1)
  simp only [Nat.one_mul,Nat.zero_add] at a1 a2
  rw [show List.range' j 1 = [j] from rfl] at a1
  rw [a1,a2]
  congr 1
  omega
 rw [e,List.filter_append,List.filter_append,List.filter_append,List.filter_append]
 have z1 : (List.range' 0 j).filter N.testBit = [] := by
  rw [List.filter_eq_nil_iff]
  intro k hk
  rw [List.mem_range'_1] at hk
  rw [h0 k (by omega)]; simp
 have z2 : (List.range' 0 j).filter (minusS N (2 ^ j)).testBit = [] := by
  rw [List.filter_eq_nil_iff]
  intro k hk
  rw [List.mem_range'_1] at hk
  rw [minusS_bit,h0 k (by omega)]; simp
 have z3 : [j].filter (minusS N (2 ^ j)).testBit = [] := by
  rw [List.filter_eq_nil_iff]
  intro k hk
  have : k = j := by simpa using hk
  subst this
  rw [minusS_bit,Nat.testBit_two_pow_self]; simp
 have z4 : [j].filter N.testBit = [j] := by simp [h1]
 rw [z1,z2,z3,z4,List.nil_append,List.nil_append,List.nil_append,List.map_append]
 have z5 : (List.range' (j + 1) (1023 - j)).filter N.testBit = (List.range' (j + 1) (1023 - j)).filter (minusS N (2 ^ j)).testBit := by
  refine List.filter_congr fun k hk => ?_
  rw [List.mem_range'_1] at hk
  rw [minusS_bit,Nat.testBit_two_pow]
  have : decide (j = k) = false := by simp; omega
  rw [this]; simp
 rw [z5]
 rfl
theorem ctz_bit {x : Nat} (h0 : x ≠ 0) (h : x < 18446744073709551616) : Lib.ctz 64 x < 64 ∧ x.testBit (Lib.ctz 64 x) = true ∧ ∀ i,i < Lib.ctz 64 x → x.testBit i = false := by
 obtain ⟨m,hm,hk⟩ := Lib.ctzFrom_spec 64 x (by omega) h
 have e : Lib.ctz 64 x = Lib.ctzFrom 64 x := by simp [Lib.ctz,h0]
 rw [e]
 generalize Lib.ctzFrom 64 x = c at *
 refine ⟨hk, ?_,fun i hi => ?_⟩
 ·rw [hm,Nat.testBit_two_pow_mul]
  simp [Nat.testBit_zero]
 ·rw [hm,Nat.testBit_two_pow_mul]
  simp; omega
def zeroTo (N k : Nat) : Prop := ∀ j,j < 64 * k → N.testBit j = false
theorem zeroTo_next {N k : Nat} (h : zeroTo N k) (hw : wdN N k = 0) : zeroTo N (k + 1) := by
 intro j hj
 by_cases h1 : j < 64 * k
 ·exact h j h1
 ·have := wdN_bit N k (j - 64 * k)
  rw [hw,Nat.zero_testBit,show 64 * k + (j - 64 * k) = j by omega] at this
  have h2 : decide (j - 64 * k < 64) = true := by simp; omega
  rw [h2,Bool.true_and] at this
  exact this.symm
theorem toL_zero {N : Nat} (h : zeroTo N 16) : toL N = [] := toL_nil fun k hk => h k (by omega)
theorem toL_word {N k : Nat} (hk : k < 16) (h : zeroTo N k) (hw : wdN N k ≠ 0) : toL N = ((64 * k + Lib.ctz 64 (wdN N k) : Nat) : Int) :: toL (minusS N (2 ^ (64 * k + Lib.ctz 64 (wdN N k)))) := by
 obtain ⟨h1,h2,h3⟩ := ctz_bit hw (wdN_lt N k)
 generalize Lib.ctz 64 (wdN N k) = c at *
 refine toL_cons (by omega) (fun j hj => ?_) ?_
 ·by_cases hj2 : j < 64 * k
  ·exact h j hj2
  ·have := h3 (j - 64 * k) (by omega)
   rw [wdN_bit,show 64 * k + (j - 64 * k) = j by omega] at this
   have h4 : decide (j - 64 * k < 64) = true := by simp; omega
   rw [h4,Bool.true_and] at this
   exact this
 ·rw [wdN_bit] at h2
  simp only [Bool.and_eq_true] at h2
  exact h2.2
def minV (N : Nat) : Int := (toL N).headD 0
def anyB (N : Nat) : Bool := !(toL N).isEmpty
theorem min_nil {N : Nat} (h : toL N = []) : minV N = 0 ∧ anyB N = false := by unfold minV anyB; rw [h]; exact ⟨rfl,rfl⟩
theorem min_cons {N : Nat} {x : Int} {r : List Int} (h : toL N = x :: r) : minV N = x ∧ anyB N = true := by unfold minV anyB; rw [h]; exact ⟨rfl,rfl⟩
end Go.Proofs.YtmokciekndllpaaGreatDoor
namespace Go.Proofs.YtmokciekndllpaaGreatDoor
open Go Go.RowKit
theorem idxS0 (N : Nat) (w : World) : (Instr.index 25 (.agg (setC N)) (.int .i64 0)).run Tryz.prog w = .ok (.int .u64 (wd N 0)) w := by kernel_rfl
theorem idxS1 (N : Nat) (w : World) : (Instr.index 25 (.agg (setC N)) (.int .i64 1)).run Tryz.prog w = .ok (.int .u64 (wd N 1)) w := by kernel_rfl
theorem idxS2 (N : Nat) (w : World) : (Instr.index 25 (.agg (setC N)) (.int .i64 2)).run Tryz.prog w = .ok (.int .u64 (wd N 2)) w := by kernel_rfl
theorem idxS3 (N : Nat) (w : World) : (Instr.index 25 (.agg (setC N)) (.int .i64 3)).run Tryz.prog w = .ok (.int .u64 (wd N 3)) w := by kernel_rfl
theorem idxS4 (N : Nat) (w : World) : (Instr.index 25 (.agg (setC N)) (.int .i64 4)).run Tryz.prog w = .ok (.int .u64 (wd N 4)) w := by kernel_rfl
theorem idxS5 (N : Nat) (w : World) : (Instr.index 25 (.agg (setC N)) (.int .i64 5)).run Tryz.prog w = .ok (.int .u64 (wd N 5)) w := by kernel_rfl
theorem idxS6 (N : Nat) (w : World) : (Instr.index 25 (.agg (setC N)) (.int .i64 6)).run Tryz.prog w = .ok (.int .u64 (wd N 6)) w := by kernel_rfl
theorem idxS7 (N : Nat) (w : World) : (Instr.index 25 (.agg (setC N)) (.int .i64 7)).run Tryz.prog w = .ok (.int .u64 (wd N 7)) w := by kernel_rfl
theorem idxS8 (N : Nat) (w : World) : (Instr.index 25 (.agg (setC N)) (.int .i64 8)).run Tryz.prog w = .ok (.int .u64 (wd N 8)) w := by kernel_rfl
theorem idxS9 (N : Nat) (w : World) : (Instr.index 25 (.agg (setC N)) (.int .i64 9)).run Tryz.prog w = .ok (.int .u64 (wd N 9)) w := by kernel_rfl
theorem idxS10 (N : Nat) (w : World) : (Instr.index 25 (.agg (setC N)) (.int .i64 10)).run Tryz.prog w = .ok (.int .u64 (wd N 10)) w := by kernel_rfl
theorem idxS11 (N : Nat) (w : World) : (Instr.index 25 (.agg (setC N)) (.int .i64 11)).run Tryz.prog w = .ok (.int .u64 (wd N 11)) w := by kernel_rfl
theorem idxS12 (N : Nat) (w : World) : (Instr.index 25 (.agg (setC N)) (.int .i64 12)).run Tryz.prog w = .ok (.int .u64 (wd N 12)) w := by kernel_rfl
theorem idxS13 (N : Nat) (w : World) : (Instr.index 25 (.agg (setC N)) (.int .i64 13)).run Tryz.prog w = .ok (.int .u64 (wd N 13)) w := by kernel_rfl
theorem idxS14 (N : Nat) (w : World) : (Instr.index 25 (.agg (setC N)) (.int .i64 14)).run Tryz.prog w = .ok (.int .u64 (wd N 14)) w := by kernel_rfl
theorem idxS15 (N : Nat) (w : World) : (Instr.index 25 (.agg (setC N)) (.int .i64 15)).run Tryz.prog w = .ok (.int .u64 (wd N 15)) w := by kernel_rfl
theorem idx_Set (N i : Nat) (hi : i < 16) (w : World) : (Instr.index 25 (.agg (setC N)) (.int .i64 i)).run Tryz.prog w = .ok (.int .u64 (wd N i)) w := by
 have : i = 0 ∨ i = 1 ∨ i = 2 ∨ i = 3 ∨ i = 4 ∨ i = 5 ∨ i = 6 ∨ i = 7 ∨ i = 8 ∨ i = 9 ∨ i = 10 ∨ i = 11 ∨ i = 12 ∨ i = 13 ∨ i = 14 ∨ i = 15 := by omega
 rcases this with rfl | rfl | rfl | rfl | rfl | rfl | rfl | rfl | rfl | rfl | rfl | rfl | rfl | rfl | rfl | rfl
 ·exact idxS0 N w
 ·exact idxS1 N w
 ·exact idxS2 N w
 ·exact idxS3 N w
 ·exact idxS4 N w
 ·exact idxS5 N w
 ·exact idxS6 N w
 ·exact idxS7 N w
 ·exact idxS8 N w
 ·exact idxS9 N w
 ·exact idxS10 N w
 ·exact idxS11 N w
 ·exact idxS12 N w
 ·exact idxS13 N w
 ·exact idxS14 N w
 ·exact idxS15 N w
end Go.Proofs.YtmokciekndllpaaGreatDoor
namespace Go.Proofs.YtmokciekndllpaaGreatDoor
open Go Go.RowKit
attribute [local go_sem] qUpon lUpon
def Tab (w : World) : Prop := TabAt 0 Lib.deBruijn64tab w
theorem Tab.lt {w : World} (h : Tab w) : 0 < w.heap.size := World.block_lt_of_cell? w _ (h 0 (by decide))
theorem Tab.keep {w w' : World} {S : List Nat} (h : Tab w) (k : Keep S w w') (hS : 0 ∉ S) : Tab w' := fun j hj => by
 rw [World.cell?_of_block (k.block _ h.lt hS)]
 exact h j hj
theorem Tab.ext {w w' : World} (h : Tab w) (k : Ext w w') : Tab w' := h.keep (k.keep []) (by simp)
set_option maxHeartbeats 1000000 in
theorem tz_core (x k idx : Nat) (w : World) (hx0 : ((x : Int) == 0) = false)
  (key : IntKind.u64.wrap (bits BinOp.and IntKind.u64 (x : Int) (IntKind.u64.wrap (-(x : Int))) * 285870213051353865) / 288230376151711744 = (idx : Int))
  (hi : idx < 64) (hk : k < 64) (hcell : w.cell? ⟨0,idx,none⟩ = some (.int .u8 k)) :
  Calls Tryz.prog 117 #[.int .u64 (x : Int)] w fun e w' => e = .returned (.int .i64 k) ∧ w' = w := by
 go_enter Tryz.func117,Tryz.ntmps117
 go_wp2_with (simp only [key])
 go_ret
 exact ⟨rfl,rfl⟩
theorem tz_any (x : Nat) (hx0 : x ≠ 0) (hx : x < 18446744073709551616) (w : World) (hT : Tab w) :
  Calls Tryz.prog 117 #[.int .u64 (x : Int)] w fun e w' => e = .returned (.int .i64 (Lib.ctz 64 x)) ∧ w' = w := by
 obtain ⟨hlow,hk⟩ := Lib.lowest_bit 64 x hx0 hx
 obtain ⟨hi,htab⟩ := Lib.deBruijn64_at _ hk
 have hcell := hT _ hi
 rw [htab] at hcell
 exact tz_core x _ _ w (by simp; omega) (tz64_key x _ hx hx0 hlow) hi hk hcell
theorem tz_wd (N k : Nat) (h0 : wdN N k ≠ 0) (w : World) (hT : Tab w) :
  Calls Tryz.prog 117 #[.int .u64 (wd N k)] w fun e w' => e = .returned (.int .i64 (Lib.ctz 64 (wdN N k))) ∧ w' = w := tz_any (wdN N k) h0 (wdN_lt N k) w hT
set_option maxRecDepth 100000 in
set_option maxHeartbeats 1000000 in
theorem min_any (N : Nat) (w : World) (hT : Tab w) : Calls Tryz.prog 70 #[.agg (setC N)] w fun e w' => e = .returned (.tuple #[.int .i64 (minV N), .bool (anyB N)]) ∧ Ext w w' := by
 have hT' := hide (hT.ext (ext_self1 w (.cells (setC N) 25)))
 have hB := Blk.new w 25 (setC N)
 have hx0 := hide (ext_self1 w (.cells (setC N) 25))
 generalize hw1 : w.alloc (.cells (setC N) 25) = w1 at *
 have hself := Ext.refl w1
 have e0 := hB.cells 0 (v := .int .u64 (wd N 0)) rfl
 have e1 := hB.cells 1 (v := .int .u64 (wd N 1)) rfl
 have e2 := hB.cells 2 (v := .int .u64 (wd N 2)) rfl
 have e3 := hB.cells 3 (v := .int .u64 (wd N 3)) rfl
 have e4 := hB.cells 4 (v := .int .u64 (wd N 4)) rfl
 have e5 := hB.cells 5 (v := .int .u64 (wd N 5)) rfl
 have e6 := hB.cells 6 (v := .int .u64 (wd N 6)) rfl
 have e7 := hB.cells 7 (v := .int .u64 (wd N 7)) rfl
 have e8 := hB.cells 8 (v := .int .u64 (wd N 8)) rfl
 have e9 := hB.cells 9 (v := .int .u64 (wd N 9)) rfl
 have e10 := hB.cells 10 (v := .int .u64 (wd N 10)) rfl
 have e11 := hB.cells 11 (v := .int .u64 (wd N 11)) rfl
 have e12 := hB.cells 12 (v := .int .u64 (wd N 12)) rfl
 have e13 := hB.cells 13 (v := .int .u64 (wd N 13)) rfl
 have e14 := hB.cells 14 (v := .int .u64 (wd N 14)) rfl
 have e15 := hB.cells 15 (v := .int .u64 (wd N 15)) rfl
 clear hB hT
 subst hw1
 go_enter Tryz.func70,Tryz.ntmps70
 go_wp2_with fail
 go_loop [7] (fun i => ∃ k : Nat,k ≤ 16 ∧ i = .int .i64 k ∧ zeroTo N k) (fun i => 16 - (intOf i).toNat)
 case atStart => exact ⟨0,by omega,rfl,fun j hj => by omega⟩
 case round =>
  obtain ⟨k,hk,rfl,hz⟩ := hrel
  by_cases hlt : k < 16
  ·have hix := idx_Set N k hlt
   unfold setC at hix
   by_cases hw : wdN N k = 0
   ·have hwd : wd N k = 0 := by unfold wd; rw [hw]; rfl
    have hn := hide (zeroTo_next hz hw)
    clear hw hz
    go_wp2_with fail
    go_round
    case rel => exact ⟨k + 1,by omega,by go_num,unhide hn⟩
    case measure => simp [intOf]; omega
   ·have hwd : (wd N k == 0) = false := by unfold wd; simp; omega
    have hl := hide (toL_word hlt hz hw)
    have hw' := hide hw
    obtain ⟨h64,_,_⟩ := ctz_bit hw (wdN_lt N k)
    clear hw hz
    go_wp2_with fail
    refine (tz_wd N k (unhide hw') _ (unhide hT')).mono ?_
    rintro e w' ⟨rfl,rfl⟩
    have e1 := unhide hl
    generalize Lib.ctz 64 (wdN N k) = c at *
    have s1 : IntKind.i64.wrap (64 * (k : Int)) = 64 * (k : Int) := IntWalk.i64_in _ (by omega)
    have s2 : IntKind.i64.wrap (64 * (k : Int) + (c : Int)) = ((64 * k + c : Nat) : Int) := by rw [IntWalk.i64_in _ (by omega)]; omega
    have e2 := hide e1
    clear e1 hl
    go_wp2_with fail
    go_ret2
    rw [(min_cons (unhide e2)).1,(min_cons (unhide e2)).2]
    exact ⟨rfl,unhide hx0⟩
  ·have : k = 16 := by omega
   subst this
   have hl := hide (toL_zero hz)
   clear hz
   go_wp2_with fail
   go_ret2
   rw [(min_nil (unhide hl)).1,(min_nil (unhide hl)).2]
   exact ⟨rfl,unhide hx0⟩
end Go.Proofs.YtmokciekndllpaaGreatDoor
namespace Go.Proofs.YtmokciekndllpaaGreatDoor
open Go Go.RowKit
attribute [local go_sem] qUpon lUpon
def withoutS (N : Nat) (n : Int) : Nat := if fitB n = true then minusS N (2 ^ n.toNat) else N
theorem setC_without (N k : Nat) : (setC N).setIfInBounds (k / 64) (.int .u64 (bits .andNot .u64 (wd N (k / 64)) (bitW k))) = setC (minusS N (2 ^ k)) := by
 have e1 : bitW k = wd (2 ^ k) (k / 64) := by
  unfold bitW wd
  rw [wdN_one,if_pos rfl]
 rw [e1,wd_minus]
 apply Array.ext_getElem?
 intro i
 by_cases hi : i < 16
 ·rw [setC_get _ hi]
  by_cases he : k / 64 = i
  ·subst he
   rw [Array.getElem?_setIfInBounds_self_of_lt (by rw [setC_size]; omega)]
  ·rw [Array.getElem?_setIfInBounds_ne he,setC_get _ hi]
   unfold wd
   rw [wdN_minus,wdN_one,if_neg (Ne.symm he),Nat.sub_zero,show (18446744073709551615 : Nat) = 2 ^ 64 - 1 from rfl,Nat.and_two_pow_sub_one_of_lt_two_pow (wdN_lt N i)]
 ·have h1 : ∀ a : Array Value,a.size = 16 → a[i]? = none := fun a h => Array.getElem?_eq_none (by omega)
  rw [h1 _ (by simp [setC_size]),h1 _ (setC_size _)]
set_option maxRecDepth 100000 in
set_option maxHeartbeats 4000000 in
theorem without_S (N : Nat) (n : Int) (w : World) :
  Calls Tryz.prog 85 #[.agg (setC N), .int .i64 n] w fun e w' => e = .returned (.agg (setC (withoutS N n))) ∧ Ext w w' := by
 have hB0 := Blk.new w 25 (setC N)
 by_cases hf : fitB n = true
 ·obtain ⟨k,rfl⟩ : ∃ k : Nat,n = k := ⟨n.toNat,by simp [fitB] at hf; omega⟩
  have hk : k < 1024 := by simp [fitB] at hf; omega
  obtain ⟨h1,hw,h6,h7,h8⟩ := idx_facts hk
  have h5 : fitB (k : Int) = true := hf
  have hN : withoutS N (k : Int) = minusS N (2 ^ k) := by rw [withoutS,if_pos h5,Int.toNat_natCast]
  have hN' := hide hN
  have hB0' := hide hB0
  clear hf hB0 hN
  go_enter Tryz.func85,Tryz.ntmps85
  go_wp2_with fail
  have hx1 := hide ((ext_self1 w (.cells (setC N) 25)).trans (ext_self1 _ (.cells (setC 0) 25)))
  have hB2 := hide ((unhide hB0').ext (ext_self1 (w.alloc (.cells (setC N) 25)) (.cells (setC 0) 25)))
  have hB4 := hide (Blk.new (w.alloc (.cells (setC N) 25)) 25 (setC 0))
  have hs : (w.alloc (.cells (setC N) 25)).heap.size = w.heap.size + 1 := World.size_alloc _ _
  rw [hs] at hB4
  clear hs hB0'
  have hz : setC 0 = #[.int .u64 0, .int .u64 0, .int .u64 0, .int .u64 0, .int .u64 0, .int .u64 0, .int .u64 0, .int .u64 0, .int .u64 0, .int .u64 0, .int .u64 0, .int .u64 0, .int .u64 0, .int .u64 0, .int .u64 0, .int .u64 0] := rfl
  rw [hz] at hx1 hB2 hB4
  generalize (w.alloc (.cells (setC N) 25)).alloc (.cells #[.int .u64 0, .int .u64 0, .int .u64 0, .int .u64 0, .int .u64 0, .int .u64 0, .int .u64 0, .int .u64 0, .int .u64 0, .int .u64 0, .int .u64 0, .int .u64 0, .int .u64 0, .int .u64 0, .int .u64 0, .int .u64 0] 25) = W1 at *
  rw [← hz] at hB4
  clear hz
  have hbb := hide (show w.heap.size + 1 ≠ w.heap.size by omega)
  generalize hb4e : w.heap.size + 1 = b4 at *
  generalize hb2e : w.heap.size = b2 at *
  refine (fits_any _ _).mono ?_
  rw [h5]
  rintro e w2 ⟨rfl,hx2⟩
  have c0 := cell_of ((unhide hB2).ext hx2) hk
  have hB2' := hide ((unhide hB2).ext hx2)
  have hB4' := hide ((unhide hB4).ext hx2)
  have hx2' := hide ((unhide hx1).trans hx2)
  clear hx2 hB2 hB4 hx1
  go_wp2_with fail
  refine wp_region_ext (P := Tryz.prog) [0,1,2,3,4,5,6,7] [8] 1 #[true,true,true,true,true,true,true,true,false] (by kernel_rfl) (by kernel_rfl) rfl (by rfl) ?_
  iterate 8
   refine ql_want (v := ?_) rfl (by rfl) (fun W hW => ?_) ?_
   rotate_left
   ·go_simp
    first | done | rfl | ((go_at_call 111; refine (bit_any k hk _).mono ?_; rintro _ _ ⟨h1,h2⟩; refine ⟨_,h1, ?_,h2⟩; rfl))
   go_frame
  refine wpQL_nil (fun w3 hx3 => ?_)
  have c1 := c0 w3 hx3
  have f1 := ((unhide hB2').ext hx3).frozen (k / 64)
  refine lx_one (i := 8) (by kernel_rfl) rfl (by rfl) #[true,true,true,true,true,true,true,true,true] (by rfl) ?_
  go_simp
  intro w4 hx4
  have hB2 := ((((unhide hB2').ext hx3).set (k / 64) (.int .u64 (bits .andNot .u64 (wd N (k / 64)) (bitW k)))).ext hx4)
  rw [setC_without N k] at hB2
  have hB4 := ((((unhide hB4').ext hx3).keep (Keep.setCell w3 b2 (k / 64) (.int .u64 (bits .andNot .u64 (wd N (k / 64)) (bitW k)))) (by simpa using unhide hbb)).ext hx4)
  have hx5 := hide ((((unhide hx2').trans hx3).of_new (Keep.setCell w3 b2 (k / 64) (.int .u64 (bits .andNot .u64 (wd N (k / 64)) (bitW k)))) (by simp [hb2e])).trans hx4)
  refine wpX_done (by kernel_rfl) ?_
  try go_frame
  clear hB2' hB4' hx2' hx3 hx4 c0 c1 f1 h1 hw h6 h7 h8
  generalize minusS N (2 ^ k) = M at *
  have hself := Ext.refl w4
  have hB2' := hide hB2
  have hB4' := hide hB4
  clear hB2 hB4
  try dsimp only
  repeat (first | (with_reducible refine wp_reg (id := 3) ?_) | go_values | go_step | go_guarded | go_upon | go_in | go_back | fail)
  refine wpO_val rfl (load_SetR (N := M) rfl rfl (unhide hB2').whole) ?_
  refine wpO_skip rfl (store_SetR (N := M) rfl rfl rfl (unhide hB4')) (wpO_done ?_)
  go_wp2_with fail
  rw [unhide hN']
  refine bodyPost_ret (ret_cell1 rfl rfl (load_Set _ b4 M ((unhide hB4').row _))) rfl ?_
  exact ⟨rfl,(unhide hx5).of_new (Keep.setRow w4 b4 _) (by simp; omega)⟩
 ·have h5 : fitB n = false := by simpa using hf
  have hN : withoutS N n = N := by rw [withoutS,if_neg hf]
  have hN' := hide hN
  have hB0' := hide hB0
  clear hf hB0 hN
  go_enter Tryz.func85,Tryz.ntmps85
  go_wp2_with fail
  have hx1 := hide ((ext_self1 w (.cells (setC N) 25)).trans (ext_self1 _ (.cells (setC 0) 25)))
  have hB2 := hide ((unhide hB0').ext (ext_self1 (w.alloc (.cells (setC N) 25)) (.cells (setC 0) 25)))
  have hB4 := hide (Blk.new (w.alloc (.cells (setC N) 25)) 25 (setC 0))
  have hs : (w.alloc (.cells (setC N) 25)).heap.size = w.heap.size + 1 := World.size_alloc _ _
  rw [hs] at hB4
  clear hs hB0'
  have hz : setC 0 = #[.int .u64 0, .int .u64 0, .int .u64 0, .int .u64 0, .int .u64 0, .int .u64 0, .int .u64 0, .int .u64 0, .int .u64 0, .int .u64 0, .int .u64 0, .int .u64 0, .int .u64 0, .int .u64 0, .int .u64 0, .int .u64 0] := rfl
  rw [hz] at hx1 hB2 hB4
  generalize (w.alloc (.cells (setC N) 25)).alloc (.cells #[.int .u64 0, .int .u64 0, .int .u64 0, .int .u64 0, .int .u64 0, .int .u64 0, .int .u64 0, .int .u64 0, .int .u64 0, .int .u64 0, .int .u64 0, .int .u64 0, .int .u64 0, .int .u64 0, .int .u64 0, .int .u64 0] 25) = W1 at *
  rw [← hz] at hB4
  clear hz
  generalize hb4e : w.heap.size + 1 = b4 at *
  generalize hb2e : w.heap.size = b2 at *
  refine (fits_any _ _).mono ?_
  rw [h5]
  rintro e w4 ⟨rfl,hx2⟩
  have hB2 := (unhide hB2).ext hx2
  have hB4 := (unhide hB4).ext hx2
  have hx5 := hide ((unhide hx1).trans hx2)
  clear hx2 hx1
  have hself := Ext.refl w4
  have hB2' := hide hB2
  have hB4' := hide hB4
  clear hB2 hB4
  try dsimp only
  repeat (first | (with_reducible refine wp_reg (id := 3) ?_) | go_values | go_step | go_guarded | go_upon | go_in | go_back | fail)
  refine wpO_val rfl (load_SetR (N := N) rfl rfl (unhide hB2').whole) ?_
  refine wpO_skip rfl (store_SetR (N := N) rfl rfl rfl (unhide hB4')) (wpO_done ?_)
  go_wp2_with fail
  rw [unhide hN']
  refine bodyPost_ret (ret_cell1 rfl rfl (load_Set _ b4 N ((unhide hB4').row _))) rfl ?_
  exact ⟨rfl,(unhide hx5).of_new (Keep.setRow w4 b4 _) (by simp; omega)⟩
end Go.Proofs.YtmokciekndllpaaGreatDoor
namespace Go.Proofs.YtmokciekndllpaaGreatDoor
open Go Go.RowKit Go.Shelf
attribute [local go_sem] qUpon lUpon
set_option maxRecDepth 100000 in
theorem all_any (N : Nat) (w : World) : Calls Tryz.prog 54 #[.agg (setC N)] w fun e w' => e = .returned (.func (.func 109) #[] #[.pointer (some ⟨w.heap.size,0,none⟩)]) ∧ w' = w.alloc (.cells (setC N) 25) := by
 have hsz := setC_size N
 go_enter Tryz.func54,Tryz.ntmps54
 go_wp2_with fail
 go_ret
 exact ⟨rfl,rfl⟩
def leftI (n is : Value) : Nat := match is with | .bool true => 1025 - (intOf n).toNat | _ => 0
theorem toL_head_lt {R : Nat} {x : Int} {r : List Int} (h : toL R = x :: r) : 0 ≤ x ∧ x < 1024 := by
 have := mem_toL'.1 (show x ∈ toL R by rw [h]; simp)
 exact ⟨this.1,this.2.1⟩
theorem toL_tail {R : Nat} {x : Int} {r : List Int} (h : toL R = x :: r) : toL (withoutS R x) = r := by
 have hx := toL_head_lt h
 have hs := toL_sorted R
 have hb := (mem_toL'.1 (show x ∈ toL R by rw [h]; simp)).2.2
 have h0 : ∀ k,k < x.toNat → R.testBit k = false := by
  intro k hk
  cases hkb : R.testBit k with
  | false => rfl
  | true =>
   have hm : (k : Int) ∈ toL R := mem_toL'.2 ⟨by omega,by omega,by rw [Int.toNat_natCast]; exact hkb⟩
   rw [h] at hm hs
   rcases List.mem_cons.1 hm with e | hm
   ·omega
   ·have := List.rel_of_pairwise_cons hs hm
    omega
 have e := toL_cons (N := R) (j := x.toNat) (by omega) h0 hb
 rw [h] at e
 have hf : fitB x = true := by simp [fitB]; omega
 rw [withoutS,if_pos hf]
 exact (List.cons.inj e).2.symm
set_option maxRecDepth 100000 in
set_option maxHeartbeats 4000000 in
theorem all_iter (N bN : Nat) (w : World) (hB : Blk w bN 25 (setC N)) (hT : Tab w) :
  Iter1 Tryz.prog 109 #[.pointer (some ⟨bN,0,none⟩)] (fun x : Int => #[.int .i64 x]) (toL N) 1 [0] w := by
 intro l J Jx W hW hJ hJx hY h0
 have hTW := hide (hT.ext hW)
 have hBW := hB.ext hW
 have hJ' := hide hJ
 have hJx' := hide hJx
 have hY' := hide hY
 have h0' := hide h0
 have hBW' := hide hBW
 clear hB hT hW hBW hJ hJx hY h0
 refine callsIn_of_wp Tryz.func109 rfl trivial ?_ rfl
 simp only [Tryz.ntmps109,List.size_toArray,List.length_cons,List.length_nil,Nat.reduceAdd,Nat.reduceSub,Array.replicate_succ,Array.replicate_zero,List.push_toArray,List.append_toArray,List.nil_append,List.cons_append]
 try dsimp only
 repeat (first | (with_reducible refine wpW_reg (id := 0) (by kernel_rfl) ?_) | go_values | gi_step | gi_guarded | gi_upon | gi_in | gi_back | fail)
 have hB0 : Blk (W.alloc (.cells #[.int .u64 0, .int .u64 0, .int .u64 0, .int .u64 0, .int .u64 0, .int .u64 0, .int .u64 0, .int .u64 0, .int .u64 0, .int .u64 0, .int .u64 0, .int .u64 0, .int .u64 0, .int .u64 0, .int .u64 0, .int .u64 0] 25)) W.heap.size 25 (setC 0) := Blk.new W 25 (setC 0)
 have hx0 := ext_self1 W (.cells #[.int .u64 0, .int .u64 0, .int .u64 0, .int .u64 0, .int .u64 0, .int .u64 0, .int .u64 0, .int .u64 0, .int .u64 0, .int .u64 0, .int .u64 0, .int .u64 0, .int .u64 0, .int .u64 0, .int .u64 0, .int .u64 0] 25)
 refine wpO_val rfl (load_SetR (N := N) rfl rfl (unhide hBW').whole) ?_
 refine wpO_want rfl ?_
 go_simp
 refine wpO_skip rfl (store_SetR (N := N) rfl rfl rfl hB0) (wpO_done ?_)
 have hB4 := hide (hB0.row (setC N))
 have hx4 := hide (hx0.of_new (Keep.setRow _ W.heap.size (setC N)) (by simp))
 clear hB0 hx0 hBW'
 generalize (W.alloc (.cells #[.int .u64 0, .int .u64 0, .int .u64 0, .int .u64 0, .int .u64 0, .int .u64 0, .int .u64 0, .int .u64 0, .int .u64 0, .int .u64 0, .int .u64 0, .int .u64 0, .int .u64 0, .int .u64 0, .int .u64 0, .int .u64 0] 25)).setRow W.heap.size (setC N) = W4 at *
 try dsimp only
 repeat (first | (with_reducible refine wpW_reg (id := 1) (by kernel_rfl) ?_) | go_values | gi_step | gi_guarded | gi_upon | gi_in | gi_back | fail)
 refine wpO_val rfl (load_SetR (N := N) rfl rfl (unhide hB4).whole) ?_
 refine wpO_want rfl ?_
 go_simp
 refine (min_any N W4 ((unhide hTW).ext (unhide hx4))).mono ?_
 rintro e W5 ⟨rfl,hx5⟩
 refine ⟨_,rfl, ?_⟩
 iterate 5
  refine wpO_want rfl ?_
  go_simp
 refine wpO_done ?_
 have hB5 := hide ((unhide hB4).ext hx5)
 have hx5' := hide ((unhide hx4).trans hx5)
 clear hB4 hx4 hx5
 gi_wp2_with fail
 gi_loopw [4,5] (fun n is wr => ∃ (pre : List Int) (R : Nat),toL N = pre ++ toL R ∧ n = .int .i64 (minV R) ∧ is = .bool (anyB R) ∧ Blk wr W.heap.size 25 (setC R) ∧ Tab wr ∧ J pre wr ∧ W.heap.size + 1 ≤ wr.heap.size) (fun n is _ => leftI n is)
 case atStart =>
  exact ⟨[],N,rfl,rfl,rfl,unhide hB5,(unhide hTW).ext (unhide hx5'),unhide hJ' _ _ _ (unhide h0') ((unhide hx5').keep _),(unhide hB5).lt⟩
 case round =>
  obtain ⟨pre,R,hpre,rfl,rfl,hB,hT,hJp,hsz⟩ := hrel
  cases hR : toL R with
  | nil =>
   have hR' := hR
   rw [hR,List.append_nil] at hpre
   have hJp' := hide hJp
   have hpre' := hide hpre
   clear hB hT hJp hpre hR hTW hJ' hJx' hY' h0' hB5 hx5' hsz
   rw [(min_nil hR').1,(min_nil hR').2]
   clear hR'
   gi_wp2_with fail
   go_end0
   exact ⟨⟨_,rfl⟩, .inl (by rw [unhide hpre']; exact unhide hJp')⟩
  | cons x r =>
   have hp1 : (pre ++ [x]) <+: toL N := ⟨r,by rw [hpre,hR]; simp⟩
   obtain ⟨fn,tmps,assign,body,hy,hRd⟩ := unhide hY' pre x wr hJp hp1 hsz
   have hB' := hide hB
   have hT' := hide hT
   have hR' := hide hR
   have hpre' := hide hpre
   have hRd' := hide hRd
   have hsz' := hide hsz
   rw [(min_cons hR).1,(min_cons hR).2]
   have htl := (unhide hTW).lt
   have htl' := hide htl
   clear hB hT hJp hpre hR hTW h0' hB5 hx5' hRd hsz hp1 hY' htl
   gi_wp2_with fail
   refine ⟨rfl,(unhide hRd').mono ?_⟩
   rintro e W6 ⟨(⟨rfl,hJ6⟩ | ⟨rfl,hJx6⟩),hsame,hsz6⟩
   ·have hB6 := hide ((unhide hB').of_block (hsame W.heap.size (inX (by omega))))
    have hT6 : Tab W6 := fun j hj => by
     rw [World.cell?_of_block (hsame _ (List.mem_append.2 (.inr (List.mem_singleton.2 rfl))))]
     exact unhide hT' j hj
    have hT6' := hide hT6
    have hJ6' := hide hJ6
    have hsz6' := hide (Nat.le_trans (unhide hsz') hsz6)
    clear hsame hsz6 hB' hT' hJ6 hRd' hsz' hT6 hy
    try dsimp only
    repeat (first | (with_reducible refine wpW_reg (id := 5) (by kernel_rfl) ?_) | go_values | gi_step | gi_guarded | gi_upon | gi_in | gi_back | fail)
    refine wpO_val rfl (load_SetR (N := R) rfl rfl (unhide hB6).whole) ?_
    refine wpO_want rfl ?_
    go_simp
    refine wpO_want rfl ?_
    go_simp
    refine (without_S R x W6).mono ?_
    rintro e W7 ⟨rfl,hx7⟩
    refine ⟨_,rfl, ?_⟩
    have hB7 := (unhide hB6).ext hx7
    refine wpO_skip rfl (store_SetR (N := withoutS R x) rfl rfl rfl hB7) (wpO_done ?_)
    have hB8 := hide (hB7.row (setC (withoutS R x)))
    have hk8 := hide ((hx7.keep [W.heap.size]).trans (Keep.setRow W7 W.heap.size (setC (withoutS R x))))
    clear hB6 hx7 hB7
    generalize W7.setRow W.heap.size (setC (withoutS R x)) = W8 at *
    try dsimp only
    repeat (first | (with_reducible refine wpW_reg (id := 3) (by kernel_rfl) ?_) | go_values | gi_step | gi_guarded | gi_upon | gi_in | gi_back | fail)
    refine wpO_val rfl (load_SetR (N := withoutS R x) rfl rfl (unhide hB8).whole) ?_
    refine wpO_want rfl ?_
    go_simp
    have hT8 := (unhide hT6').keep (unhide hk8) (by have := unhide htl'; simp; omega)
    refine (min_any (withoutS R x) W8 hT8).mono ?_
    rintro e W9 ⟨rfl,hx9⟩
    refine ⟨_,rfl, ?_⟩
    iterate 5
     refine wpO_want rfl ?_
     go_simp
    refine wpO_done ?_
    have hB9 := hide ((unhide hB8).ext hx9)
    have hT9 := hide (hT8.ext hx9)
    have hk9 := hide ((unhide hk8).trans (hx9.keep _))
    clear hB8 hk8 hT8 hx9
    gi_wp2_with fail
    go_roundw
    case rel =>
     have ht := toL_tail (unhide hR')
     refine ⟨pre ++ [x],withoutS R x, ?_,rfl,rfl,unhide hB9,unhide hT9,unhide hJ' _ _ _ (unhide hJ6') ((unhide hk9).mono fun b hb => ?_),Nat.le_trans (unhide hsz6') (unhide hk9).size⟩
     ·rw [unhide hpre',unhide hR',ht]; simp
     ·rw [List.mem_singleton] at hb; rw [mem_privs]; omega
    case measure =>
     have hx0 := toL_head_lt (unhide hR')
     have hs := toL_sorted R
     rw [unhide hR'] at hs
     have ht := toL_tail (unhide hR')
     cases hr : toL (withoutS R x) with
     | nil => rw [(min_nil hr).1,(min_nil hr).2]; simp [leftI,intOf]; omega
     | cons y q =>
      rw [ht] at hr
      subst hr
      have := List.rel_of_pairwise_cons hs (List.mem_cons_self)
      have hy0 := toL_head_lt ht
      rw [(min_cons ht).1,(min_cons ht).2]
      simp [leftI,intOf]
      omega
   ·have hJx6' := hide hJx6
    clear hJx6 hsame hsz6 hy hRd'
    gi_wp2_with fail
    refine bodyPost_ret (results_none rfl _ _ _) rfl ?_
    exact ⟨⟨_,rfl⟩, .inr ⟨_,unhide hJx6'⟩⟩
end Go.Proofs.YtmokciekndllpaaGreatDoor
namespace Go.Proofs.YtmokciekndllpaaGreatDoor
open Go Go.RowKit Go.Shelf
theorem all_ext (N : Nat) (w : World) : Calls Tryz.prog 54 #[.agg (setC N)] w fun e w' => ∃ b,e = .returned (.func (.func 109) #[] #[.pointer (some ⟨b,0,none⟩)]) ∧ Blk w' b 25 (setC N) ∧ Ext w w' :=
 (all_any N w).mono fun _ _ ⟨h1,h2⟩ => ⟨_,h1,by rw [h2]; exact Blk.new w _ _,by rw [h2]; exact ext_self1 w _⟩
section
variable {wf w W : World} {T0 : List Nat} {ds : List Deferred} {L : List Cl} {Rs : List Rw}
end
def sPost (wf : World) (F : List Cl → List Rw → Prop) (Fx : Code → List Cl → List Rw → Prop) (T : List Nat) (W : World) : Exit → Act → World → Prop
 | .normal,_,W' => ∃ L Rs,F L Rs ∧ Sp wf T W [] L Rs W'
 | .ret,_,W' => ∃ L Rs,Fx .ret L Rs ∧ Sp wf T W [] L Rs W'
 | .exit id,_,W' => ∃ L Rs,Fx (.exit id) L Rs ∧ Sp wf T W [] L Rs W'
 | .goto t,_,W' => ∃ L Rs,Fx (.goto t) L Rs ∧ Sp wf T W [] L Rs W'
 | .panic _,_,_ => False
 | .outgrown,_,_ => False
section
variable {P : Program} {α : Type} {wf : World}
theorem bPost_of_sPost {F : List Cl → List Rw → Prop} {Fx : Code → List Cl → List Rw → Prop} {T : List Nat} {W : World} {e : Exit} {a : Act} {W' : World} (h : sPost wf F Fx T W e a W') :
  bPost (fun T' W' => ∃ L Rs,F L Rs ∧ T' = stT L Rs ∧ St wf.heap.size L Rs W') (fun c T' W' => ∃ L Rs,Fx c L Rs ∧ T' = stT L Rs ∧ St wf.heap.size L Rs W') T W e a W' := by
 cases e with
 | normal => obtain ⟨L,Rs,h1,h2⟩ := h; exact ⟨_,⟨L,Rs,h1,rfl,h2.st⟩,h2.keep,h2.tin⟩
 | ret => obtain ⟨L,Rs,h1,h2⟩ := h; exact ⟨_,⟨L,Rs,h1,rfl,h2.st⟩,h2.keep,h2.tin⟩
 | exit _ => obtain ⟨L,Rs,h1,h2⟩ := h; exact ⟨_,⟨L,Rs,h1,rfl,h2.st⟩,h2.keep,h2.tin⟩
 | goto _ => obtain ⟨L,Rs,h1,h2⟩ := h; exact ⟨_,⟨L,Rs,h1,rfl,h2.st⟩,h2.keep,h2.tin⟩
 | panic _ => exact h.elim
 | outgrown => exact h.elim
theorem wp_rngS {g : Operand} {ps : Array Tmp} {assign body : Code} {Q : Exit → Act → World → Prop} {a : Act} {w W : World} {T0 : List Nat} {ds : List Deferred} {L : List Cl} {Rs : List Rw} {gf : Nat} {lb : Array Value}
  (hP : Sp wf T0 w ds L Rs W) (hg : a.eval g = .func (.func gf) #[] lb) (eg : ∀ args w,(callFunc gf args).run P w = .ok (.enter gf args) w)
  {encs : α → Array Value} {xs : List α} {np : Nat} {ex : List Nat} (hex : ∀ b ∈ ex,b < W.heap.size ∧ b ∉ stT L Rs) (hit : Iter1 P gf lb encs xs np ex W) (hps : ∀ x,(encs x).size = ps.size)
  (F : List α → List Cl → List Rw → Prop) (Fx : Code → List Cl → List Rw → Prop) (Pa : Array Value → List Nat → α → Act → World → Prop)
  (hPa : ∀ T' x a1 A B,Pa a.tmps T' x a1 A → Keep (privs W.heap.size (2 + np)) A B → Pa a.tmps T' x a1 B) (h0 : F [] L Rs)
  (hassign : ∀ (T' : List Nat) (x : α) (W' : World) (K : Act → World → Prop),(∀ y ∈ T',y < W'.heap.size) → W.heap.size + (2 + np) ≤ W'.heap.size → (∀ a1 W1,Pa a.tmps T' x a1 W1 → Ext W' W1 → K a1 W1) →
   assign.wpIn (RF (W.heap.size + 1)) 0 P (Exit.then K (fun _ _ _ => False)) { tmps := (ps.zip (encs x)).foldl (fun t (p,v) => t.setIfInBounds p v) a.tmps,defers := [] } W')
  (hbody : ∀ (l : Nat) (pre : List α) (x : α) (a1 : Act) (L' : List Cl) (Rs' : List Rw) (W' : World),F pre L' Rs' → Sp wf (stT L' Rs') W' [] L' Rs' W' → Pa a.tmps (stT L' Rs') x a1 W' → (pre ++ [x]) <+: xs → (∃ r,W'.heap[l]? = some (.loop r)) → Keep (stT L Rs) W W' → tIn (stT L Rs) W.heap.size (stT L' Rs') →
   body.wpIn (RF l) 0 P (sPost wf (F (pre ++ [x])) Fx (stT L' Rs') W') a1 W')
  (hdone : ∀ (D : Nat) (L' : List Cl) (Rs' : List Rw) (W' : World),F xs L' Rs' → Keep (stT L Rs) W W' → Sp wf T0 w ({ target := .collected D,args := #[] } :: ds) L' Rs' W' → Q .normal { a with defers := { target := .collected D,args := #[] } :: a.defers } W')
  (hstop : ∀ (D : Nat) (c : Code) (L' : List Cl) (Rs' : List Rw) (W' : World),Fx c L' Rs' → Keep (stT L Rs) W W' → Sp wf T0 w ({ target := .collected D,args := #[] } :: ds) L' Rs' W' → c.wp P Q { a with defers := { target := .collected D,args := #[] } :: a.defers } W') :
  (Code.rangeFunc g ps assign body).wp P Q a W := by
 refine wp_rng hg eg (T := stT L Rs) hex hit hps (fun pre T' W' => ∃ L' Rs',F pre L' Rs' ∧ T' = stT L' Rs' ∧ St wf.heap.size L' Rs' W') (fun c T' W' => ∃ L' Rs',Fx c L' Rs' ∧ T' = stT L' Rs' ∧ St wf.heap.size L' Rs' W') Pa
  (fun pre T' A B S ⟨L',Rs',h1,h2,h3⟩ hk hS => ⟨L',Rs',h1,h2,h3.keep hk (by rw [← h2]; exact hS)⟩) (fun c T' A B S ⟨L',Rs',h1,h2,h3⟩ hk hS => ⟨L',Rs',h1,h2,h3.keep hk (by rw [← h2]; exact hS)⟩)
  (fun pre T' A ⟨L',Rs',_,h2,h3⟩ => by rw [h2]; exact h3.lt) hPa hP.lt ⟨L,Rs,h0,rfl,hP.st⟩ hassign ?_ ?_ ?_
 ·rintro pre x a1 T' W' ⟨L',Rs',h1,rfl,h3⟩ hk hT hp hpx hsz hr
  exact wpIn_mono (hbody _ pre x a1 L' Rs' W' h1 (hP.round hk h3) hp hpx hr hk (fun x hx => (hT x hx).imp id (fun h => by omega))) fun e a2 W2 h => bPost_of_sPost h
 ·rintro T' W' ⟨L',Rs',h1,rfl,h3⟩ hk hT hD
  exact hdone _ L' Rs' W' h1 hk (hP.mark h3 hk hT hD)
 ·rintro c T' W' ⟨L',Rs',h1,rfl,h3⟩ hk hT hD
  exact hstop _ c L' Rs' W' h1 hk (hP.mark h3 hk hT hD)
end
theorem Sp.tab {wf w W : World} {T0 : List Nat} {ds : List Deferred} {L : List Cl} {Rs : List Rw} (h : Sp wf T0 w ds L Rs W) (hT : Tab wf) : ∀ b ∈ [0],b < W.heap.size ∧ b ∉ stT L Rs := by
 intro b hb
 rw [List.mem_singleton] at hb
 subst hb
 have h1 := hT.lt
 have h2 := h.size
 exact ⟨by omega,fun hm => by have := h.st.ge _ hm; omega⟩
end Go.Proofs.YtmokciekndllpaaGreatDoor
