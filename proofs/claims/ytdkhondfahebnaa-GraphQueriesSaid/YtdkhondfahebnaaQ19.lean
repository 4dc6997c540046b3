/- Parts of a proof, laid together: Be, Nm, Es. Each part says its own conditions. -/
import Derived.Test.YtdkhondfahebnaaQ13
import Derived.Test.YtdkhondfahebnaaQ14
import Derived.Test.YtdkhondfahebnaaQ17
import Derived.Test.YtdkhondfahebnaaQ10
import Derived.ChangeKeysEq
/- THE SETS OF package bitset: Below. Conditions: see each theorem. -/
namespace Go.Proofs.Ytdkhondfahebnaa
open Go Go.RowKit
attribute [local go_sem] qUpon lUpon

/-- the elements below n -/
def belS (n : Int) : Nat := 2 ^ (min n.toNat 1024) - 1
theorem wdN_mod (N k i : Nat) : wdN (N % 2 ^ (64 * k)) i = if i < k then wdN N i else 0 := by
  apply Nat.eq_of_testBit_eq
  intro j
  rw [wdN_bit, Nat.testBit_mod_two_pow]
  by_cases h : i < k
  · rw [if_pos h, wdN_bit, Bool.eq_iff_iff]
    simp only [Bool.and_eq_true, decide_eq_true_eq]
    constructor
    · rintro ⟨a, _, b⟩; exact ⟨a, b⟩
    · rintro ⟨a, b⟩; exact ⟨a, by omega, b⟩
  · rw [if_neg h, Nat.zero_testBit, Bool.eq_iff_iff]
    simp only [Bool.and_eq_true, decide_eq_true_eq, Bool.false_eq_true, iff_false]
    omega
theorem setC_next (N k : Nat) : (setC (N % 2 ^ (64 * k))).setIfInBounds k (.int .u64 (wd N k)) = setC (N % 2 ^ (64 * (k + 1))) := by
  apply Array.ext_getElem?
  intro i
  by_cases hi : i < 16
  · rw [setC_get _ hi]
    by_cases he : k = i
    · subst he
      rw [Array.getElem?_setIfInBounds_self_of_lt (by rw [setC_size]; omega)]
      unfold wd
      rw [wdN_mod, if_pos (by omega)]
    · rw [Array.getElem?_setIfInBounds_ne he, setC_get _ hi]
      unfold wd
      rw [wdN_mod, wdN_mod]
      by_cases h1 : i < k
      · rw [if_pos h1, if_pos (by omega)]
      · rw [if_neg h1, if_neg (by omega)]
  · have h1 : ∀ a : Array Value, a.size = 16 → a[i]? = none := fun a h => Array.getElem?_eq_none (by omega)
    rw [h1 _ (by simp [setC_size]), h1 _ (setC_size _)]
theorem bel_lt {m K : Nat} (h : m ≤ K) : 2 ^ m - 1 < 2 ^ K := by
  have : 2 ^ m ≤ 2 ^ K := Nat.pow_le_pow_right (by decide) h
  have hp : 0 < 2 ^ m := Nat.pow_pos (by decide)
  omega
theorem bel_word (m k c : Nat) (hc : c = min (m - 64 * k) 64) : IntKind.u64.wrap (IntKind.u64.wrap (2 ^ c) - 1) = wd (2 ^ m - 1) k := by
  have h1 : wd (2 ^ m - 1) k = ((2 ^ c - 1 : Nat) : Int) := by unfold wd; rw [wdN_below, hc]
  have hp : 0 < 2 ^ c := Nat.pow_pos (by decide)
  have hle : 2 ^ c ≤ 2 ^ 64 := Nat.pow_le_pow_right (by decide) (by omega)
  have e : ((2 : Int) ^ c) = ((2 ^ c : Nat) : Int) := by simp
  rw [h1, IntKind.wrap_u64, IntKind.wrap_u64, e]
  generalize 2 ^ c = p at *
  omega

set_option maxRecDepth 100000 in
set_option maxHeartbeats 4000000 in
theorem below_any (n : Int) (w : World) :
    Calls Try.prog 61 #[.int .i64 n] w fun e w' => e = .returned (.agg (setC (belS n))) ∧ Ext w w' := by
  obtain ⟨m, hm⟩ : ∃ m : Nat, m = min n.toNat 1024 := ⟨_, rfl⟩
  have hm1 : max 0 (min n 1024) = (m : Int) := by omega
  have hm2 : m ≤ 1024 := by omega
  have hbe : belS n = 2 ^ m - 1 := by rw [belS, ← hm]
  have hbe' := hide hbe
  have hB0 := hide (Blk.new w 78 (setC 0))
  clear hbe hm
  go_enter Try.func61, Try.ntmps61
  go_wp2_with fail
  have hx1 := hide ((ext_self1 w (.cells (setC 0) 78)).trans (ext_self1 _ (.cells (setC 0) 78)))
  have hB2 := hide ((unhide hB0).ext (ext_self1 (w.alloc (.cells (setC 0) 78)) (.cells (setC 0) 78)))
  have hB4 := hide (Blk.new (w.alloc (.cells (setC 0) 78)) 78 (setC 0))
  have hs : (w.alloc (.cells (setC 0) 78)).heap.size = w.heap.size + 1 := World.size_alloc _ _
  rw [hs] at hB4
  clear hs hB0
  have hz : setC 0 = #[.int .u64 0, .int .u64 0, .int .u64 0, .int .u64 0, .int .u64 0, .int .u64 0, .int .u64 0, .int .u64 0, .int .u64 0, .int .u64 0, .int .u64 0, .int .u64 0, .int .u64 0, .int .u64 0, .int .u64 0, .int .u64 0] := rfl
  rw [hz] at hx1 hB2 hB4
  generalize (w.alloc (.cells #[.int .u64 0, .int .u64 0, .int .u64 0, .int .u64 0, .int .u64 0, .int .u64 0, .int .u64 0, .int .u64 0, .int .u64 0, .int .u64 0, .int .u64 0, .int .u64 0, .int .u64 0, .int .u64 0, .int .u64 0, .int .u64 0] 78)).alloc (.cells #[.int .u64 0, .int .u64 0, .int .u64 0, .int .u64 0, .int .u64 0, .int .u64 0, .int .u64 0, .int .u64 0, .int .u64 0, .int .u64 0, .int .u64 0, .int .u64 0, .int .u64 0, .int .u64 0, .int .u64 0, .int .u64 0] 78) = W1 at *
  rw [← hz] at hB4 hB2
  clear hz
  generalize hb4e : w.heap.size + 1 = b4 at *
  generalize hb2e : w.heap.size = b2 at *
  obtain ⟨N, hN⟩ : ∃ N, N = 2 ^ m - 1 := ⟨_, rfl⟩
  have hN' := hide hN
  have hlt2 := hide (bel_lt (K := 64 * 16) hm2)
  rw [← hN] at hlt2
  clear hN
  go_loopw [8] (fun i wr => ∃ k : Nat, k ≤ 16 ∧ i = .int .i64 k ∧ Blk wr b4 78 (setC (N % 2 ^ (64 * k))) ∧ Blk wr b2 78 (setC 0) ∧ Ext w wr) (fun i _ => 16 - (intOf i).toNat)
  case atStart => exact ⟨0, Nat.zero_le _, rfl, by rw [Nat.mul_zero, Nat.pow_zero, Nat.mod_one]; exact unhide hB4, unhide hB2, unhide hx1⟩
  case round =>
    obtain ⟨k, hk, rfl, hB, hA, hx⟩ := hrel
    have hB' := hide hB
    have hA' := hide hA
    have hx' := hide hx
    clear hB4 hB2 hx1
    by_cases hlt : k < 16
    · obtain ⟨c, hc⟩ : ∃ c : Nat, c = min (m - 64 * k) 64 := ⟨_, rfl⟩
      have w1 : IntKind.i64.wrap (64 * (k : Int)) = 64 * (k : Int) := IntWalk.i64_in _ (by omega)
      have w2 : IntKind.i64.wrap ((m : Int) - 64 * (k : Int)) = (m : Int) - 64 * (k : Int) := IntWalk.i64_in _ (by omega)
      have w3 : max 0 (min ((m : Int) - 64 * (k : Int)) 64) = (c : Int) := by omega
      have w4 := bel_word m k c hc
      rw [← unhide hN'] at w4
      have c0 := hB.cell k
      have f0 := hB.frozen k
      rw [setC_get _ hlt] at c0
      clear hB hA hx hc
      go_wp2_with fail
      go_roundw
      case rel => exact ⟨k + 1, by omega, by go_num, by have h := (unhide hB').set k (.int .u64 (wd N k)); rw [setC_next] at h; exact h, (unhide hA').keep (Keep.setCell _ _ _ _) (by simp; omega), (unhide hx').of_new (Keep.setCell _ _ _ _) (by simp; omega)⟩
      case measure => simp [intOf]; omega
    · have hke : k = 16 := by omega
      subst hke
      rw [Nat.mod_eq_of_lt (unhide hlt2)] at hB hB'
      rw [← unhide hN'] at hbe'
      have hself := Ext.refl wr
      clear hx hlt2 hN'
      have e0 := hB.cells 0 (v := .int .u64 (wd N 0)) rfl
      have e1 := hB.cells 1 (v := .int .u64 (wd N 1)) rfl
      have e2 := hB.cells 2 (v := .int .u64 (wd N 2)) rfl
      have e3 := hB.cells 3 (v := .int .u64 (wd N 3)) rfl
      have e4 := hB.cells 4 (v := .int .u64 (wd N 4)) rfl
      have e5 := hB.cells 5 (v := .int .u64 (wd N 5)) rfl
      have e6 := hB.cells 6 (v := .int .u64 (wd N 6)) rfl
      have e7 := hB.cells 7 (v := .int .u64 (wd N 7)) rfl
      have e8 := hB.cells 8 (v := .int .u64 (wd N 8)) rfl
      have e9 := hB.cells 9 (v := .int .u64 (wd N 9)) rfl
      have e10 := hB.cells 10 (v := .int .u64 (wd N 10)) rfl
      have e11 := hB.cells 11 (v := .int .u64 (wd N 11)) rfl
      have e12 := hB.cells 12 (v := .int .u64 (wd N 12)) rfl
      have e13 := hB.cells 13 (v := .int .u64 (wd N 13)) rfl
      have e14 := hB.cells 14 (v := .int .u64 (wd N 14)) rfl
      have e15 := hB.cells 15 (v := .int .u64 (wd N 15)) rfl
      have g0 := hA.frozen 0
      have g1 := hA.frozen 1
      have g2 := hA.frozen 2
      have g3 := hA.frozen 3
      have g4 := hA.frozen 4
      have g5 := hA.frozen 5
      have g6 := hA.frozen 6
      have g7 := hA.frozen 7
      have g8 := hA.frozen 8
      have g9 := hA.frozen 9
      have g10 := hA.frozen 10
      have g11 := hA.frozen 11
      have g12 := hA.frozen 12
      have g13 := hA.frozen 13
      have g14 := hA.frozen 14
      have g15 := hA.frozen 15
      have z0 := hA.cells 0 (v := .int .u64 (wd 0 0)) rfl
      have z1 := hA.cells 1 (v := .int .u64 (wd 0 1)) rfl
      have z2 := hA.cells 2 (v := .int .u64 (wd 0 2)) rfl
      have z3 := hA.cells 3 (v := .int .u64 (wd 0 3)) rfl
      have z4 := hA.cells 4 (v := .int .u64 (wd 0 4)) rfl
      have z5 := hA.cells 5 (v := .int .u64 (wd 0 5)) rfl
      have z6 := hA.cells 6 (v := .int .u64 (wd 0 6)) rfl
      have z7 := hA.cells 7 (v := .int .u64 (wd 0 7)) rfl
      have z8 := hA.cells 8 (v := .int .u64 (wd 0 8)) rfl
      have z9 := hA.cells 9 (v := .int .u64 (wd 0 9)) rfl
      have z10 := hA.cells 10 (v := .int .u64 (wd 0 10)) rfl
      have z11 := hA.cells 11 (v := .int .u64 (wd 0 11)) rfl
      have z12 := hA.cells 12 (v := .int .u64 (wd 0 12)) rfl
      have z13 := hA.cells 13 (v := .int .u64 (wd 0 13)) rfl
      have z14 := hA.cells 14 (v := .int .u64 (wd 0 14)) rfl
      have z15 := hA.cells 15 (v := .int .u64 (wd 0 15)) rfl
      clear hB hA
      go_wp2_with fail
      rw [unhide hbe']
      refine bodyPost_ret (ret_cell1 rfl rfl (load_Set _ b2 N (Blk.set16 N (unhide hA')))) rfl ?_
      exact ⟨rfl, (unhide hx').of_new (Keep.set16 wr b2 N) (by simp; omega)⟩
end Go.Proofs.Ytdkhondfahebnaa
/- SETS OF A GRAPH: EdgeSet; the sets of a nil graph. Conditions: see each theorem. -/
namespace Go.Proofs.Ytdkhondfahebnaa
open Go Go.RowKit
attribute [local go_sem] qUpon lUpon

set_option maxRecDepth 100000 in
set_option maxHeartbeats 4000000 in
theorem eset_gen (g : Value) (n m : Int) (w : World) (hL : ∀ W, Ext w W → Calls Try.prog 27 #[g] W fun e w' => e = .returned (.tuple #[.int .i64 n, .int .i64 m]) ∧ Ext W w') :
    Calls Try.prog 37 #[g] w fun e w' => e = .returned (.agg (setC (belS m))) ∧ Ext w w' := by
  have hB0 := hide (Blk.new w 78 (setC 0))
  have hL' := hide hL
  clear hL
  go_enter Try.func37, Try.ntmps37
  go_wp2_with fail
  have hz : setC 0 = #[.int .u64 0, .int .u64 0, .int .u64 0, .int .u64 0, .int .u64 0, .int .u64 0, .int .u64 0, .int .u64 0, .int .u64 0, .int .u64 0, .int .u64 0, .int .u64 0, .int .u64 0, .int .u64 0, .int .u64 0, .int .u64 0] := rfl
  have hx1 := hide (ext_self1 w (.cells (setC 0) 78))
  rw [hz] at hB0 hx1
  generalize w.alloc (.cells #[.int .u64 0, .int .u64 0, .int .u64 0, .int .u64 0, .int .u64 0, .int .u64 0, .int .u64 0, .int .u64 0, .int .u64 0, .int .u64 0, .int .u64 0, .int .u64 0, .int .u64 0, .int .u64 0, .int .u64 0, .int .u64 0] 78) = W1 at *
  rw [← hz] at hB0
  clear hz
  generalize hb2e : w.heap.size = b2 at *
  refine (unhide hL' _ (unhide hx1)).mono ?_
  rintro e w2 ⟨rfl, hx2⟩
  have hB2 := hide ((unhide hB0).ext hx2)
  have hx2' := hide ((unhide hx1).trans hx2)
  clear hx1 hx2 hB0 hL'
  go_wp2_with fail
  refine (below_any _ _).mono ?_
  rintro e w3 ⟨rfl, hx3⟩
  have hB3 := (unhide hB2).ext hx3
  have hx3' := hide ((unhide hx2').trans hx3)
  have hst := store_Set (belS m) hB3
  have hB3' := hide hB3
  clear hx3 hx2' hB2 hB3
  go_wp2_with fail
  refine bodyPost_ret (ret_cell1 rfl rfl (load_Set _ b2 _ (Blk.putS _ (unhide hB3')))) rfl ?_
  exact ⟨rfl, (unhide hx3').of_new (Keep.putS w3 b2 _) (by simp; omega)⟩
theorem zero_Set : setC 0 = #[.int .u64 0, .int .u64 0, .int .u64 0, .int .u64 0, .int .u64 0, .int .u64 0, .int .u64 0, .int .u64 0, .int .u64 0, .int .u64 0, .int .u64 0, .int .u64 0, .int .u64 0, .int .u64 0, .int .u64 0, .int .u64 0] := rfl
theorem vset_nil (w : World) : Calls Try.prog 36 #[.pointer none] w fun e w' => e = .returned (.agg #[.int .u64 0, .int .u64 0, .int .u64 0, .int .u64 0, .int .u64 0, .int .u64 0, .int .u64 0, .int .u64 0, .int .u64 0, .int .u64 0, .int .u64 0, .int .u64 0, .int .u64 0, .int .u64 0, .int .u64 0, .int .u64 0]) ∧ Ext w w' :=
  vset_gen _ [] w (by simp) fun W _ => (vertices_nil W).mono fun _ _ h => ⟨none, 0, h.1, SlAt.nil, h.2⟩
theorem eset_nil (w : World) : Calls Try.prog 37 #[.pointer none] w fun e w' => e = .returned (.agg #[.int .u64 0, .int .u64 0, .int .u64 0, .int .u64 0, .int .u64 0, .int .u64 0, .int .u64 0, .int .u64 0, .int .u64 0, .int .u64 0, .int .u64 0, .int .u64 0, .int .u64 0, .int .u64 0, .int .u64 0, .int .u64 0]) ∧ Ext w w' :=
  eset_gen _ 0 0 w fun W _ => len_nil W
theorem near_nil (id : Int) (w : World) : Calls Try.prog 33 #[.pointer none, .int .i64 id] w fun e w' => e = .returned (.agg #[.int .u64 0, .int .u64 0, .int .u64 0, .int .u64 0, .int .u64 0, .int .u64 0, .int .u64 0, .int .u64 0, .int .u64 0, .int .u64 0, .int .u64 0, .int .u64 0, .int .u64 0, .int .u64 0, .int .u64 0, .int .u64 0]) ∧ Ext w w' := by
  have h := near_gen (.pointer none) id [] w (by simp) fun W _ => (edges_nil W).mono fun _ _ h => ⟨none, 0, h.1, SlAt.nil, h.2⟩
  rwa [show nearS id [] = 0 from rfl, zero_Set] at h
theorem inc_nil (id : Int) (w : World) : Calls Try.prog 35 #[.pointer none, .int .i64 id] w fun e w' => e = .returned (.agg #[.int .u64 0, .int .u64 0, .int .u64 0, .int .u64 0, .int .u64 0, .int .u64 0, .int .u64 0, .int .u64 0, .int .u64 0, .int .u64 0, .int .u64 0, .int .u64 0, .int .u64 0, .int .u64 0, .int .u64 0, .int .u64 0]) ∧ Ext w w' := by
  have h := inc_gen (.pointer none) id [] w (by simp) fun W _ => (edges_nil W).mono fun _ _ h => ⟨none, 0, h.1, SlAt.nil, h.2⟩
  rwa [show incS id [] ([] : List ((Int × Int) × Thing)).length = 0 from rfl, zero_Set] at h
end Go.Proofs.Ytdkhondfahebnaa
/- TWO EQUAL SETS COMPARED. Conditions: see each theorem. -/
namespace Go.Proofs.Ytdkhondfahebnaa
open Go Go.RowKit

theorem items_same {P : Program} (w : World) (d : Nat) (e : TypeId) (he : P.underlying e = some (.int .u64)) (xs : Array Value) (h : ∀ i, i < 16 → ∃ m, xs[i]? = some (.int .u64 m)) :
    ∀ is : List Nat, (∀ i ∈ is, i < 16) → (Op.eqItems (d + 1) e 1 xs xs is).run P w = .ok true w
  | [], _ => by simp [Op.eqItems]
  | i :: is, hi => by
    obtain ⟨m, hm⟩ := h i (hi i (by simp))
    have px : (part e xs (i * 1)).run P w = .ok (.int .u64 m) w := by
      simp [part, isAgg, run_underlying he, hm]
    have pe : (Op.equalIn (d + 1) e (.int .u64 m) (.int .u64 m)).run P w = .ok true w := by
      rw [run_equalIn_int w d e .u64 .u64 _ _ he]
      simp
    simp only [Op.eqItems, Sem.run_bind, px, pe, Result.andThen_ok, Bool.not_true, Bool.false_eq_true, if_false]
    exact items_same w d e he xs h is (fun j hj => hi j (by simp [hj]))
set_option maxRecDepth 100000 in
theorem eq_Set (w : World) (N : Nat) : (Op.equalIn 10000 78 (.agg (setC N)) (.agg (setC N))).run Try.prog w = .ok true w := by
  have hc : Try.prog.cellsOf 76 = 1 := by kernel_rfl
  obtain ⟨i, hi⟩ : ∃ i, Try.prog.info? 76 = some i := ⟨_, rfl⟩
  have h := run_equalIn_array w 9999 (setC N) (setC N) Try.underlying78 hi
  rw [hc] at h
  exact h.trans (items_same w 9998 76 Try.underlying76 (setC N) (fun i hi => ⟨_, setC_get N hi⟩) (List.range 16) (fun i hi => List.mem_range.1 hi))
theorem eq_Set0 (w : World) : (Op.equalIn 10000 78 (.agg #[.int .u64 0, .int .u64 0, .int .u64 0, .int .u64 0, .int .u64 0, .int .u64 0, .int .u64 0, .int .u64 0, .int .u64 0, .int .u64 0, .int .u64 0, .int .u64 0, .int .u64 0, .int .u64 0, .int .u64 0, .int .u64 0]) (.agg #[.int .u64 0, .int .u64 0, .int .u64 0, .int .u64 0, .int .u64 0, .int .u64 0, .int .u64 0, .int .u64 0, .int .u64 0, .int .u64 0, .int .u64 0, .int .u64 0, .int .u64 0, .int .u64 0, .int .u64 0, .int .u64 0])).run Try.prog w = .ok true w := eq_Set w 0
end Go.Proofs.Ytdkhondfahebnaa
