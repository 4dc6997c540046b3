/- Parts of a proof, laid together: Wo, Be, Vt, Fw, Bd, Fr, Is, Ob, Le, Nb, Vr, Vx, Es, Eq2, Ck. Each part says its own conditions. -/
import Derived.Test.YtjehhilijeajnaaGreatDoorC2
import Derived.Test.YtjehhilijeajnaaGreatDoorC1
import Derived.Test.YtjehhilijeajnaaGreatDoorBt
import Derived.ChangeKeysEq
/- THE SETS OF package bitset: Without. Conditions: see each theorem. -/
namespace Go.Proofs.YtjehhilijeajnaaGreatDoor
open Go Go.RowKit
attribute [local go_sem] qUpon lUpon

def withoutS (N : Nat) (n : Int) : Nat := if fitB n = true then minusS N (2 ^ n.toNat) else N
theorem setC_without (N k : Nat) : (setC N).setIfInBounds (k / 64) (.int .u64 (bits .andNot .u64 (wd N (k / 64)) (bitW k))) = setC (minusS N (2 ^ k)) := by
  have e1 : bitW k = wd (2 ^ k) (k / 64) := by
    unfold bitW wd
    rw [wdN_one, if_pos rfl]
  rw [e1, wd_minus]
  apply Array.ext_getElem?
  intro i
  by_cases hi : i < 16
  · rw [setC_get _ hi]
    by_cases he : k / 64 = i
    · subst he
      rw [Array.getElem?_setIfInBounds_self_of_lt (by rw [setC_size]; omega)]
    · rw [Array.getElem?_setIfInBounds_ne he, setC_get _ hi]
      unfold wd
      rw [wdN_minus, wdN_one, if_neg (Ne.symm he), Nat.sub_zero, show (18446744073709551615 : Nat) = 2 ^ 64 - 1 from rfl, Nat.and_two_pow_sub_one_of_lt_two_pow (wdN_lt N i)]
  · have h1 : ∀ a : Array Value, a.size = 16 → a[i]? = none := fun a h => Array.getElem?_eq_none (by omega)
    rw [h1 _ (by simp [setC_size]), h1 _ (setC_size _)]

set_option maxRecDepth 100000 in
set_option maxHeartbeats 4000000 in
theorem without_S (N : Nat) (n : Int) (w : World) :
    Calls Tryz.prog 28 #[.agg (setC N), .int .i64 n] w fun e w' => e = .returned (.agg (setC (withoutS N n))) ∧ Ext w w' := by
  have hB0 := Blk.new w 56 (setC N)
  by_cases hf : fitB n = true
  · obtain ⟨k, rfl⟩ : ∃ k : Nat, n = k := ⟨n.toNat, by simp [fitB] at hf; omega⟩
    have hk : k < 1024 := by simp [fitB] at hf; omega
    obtain ⟨h1, hw, h6, h7, h8⟩ := idx_facts hk
    have h5 : fitB (k : Int) = true := hf
    have hN : withoutS N (k : Int) = minusS N (2 ^ k) := by rw [withoutS, if_pos h5, Int.toNat_natCast]
    have hN' := hide hN
    have hB0' := hide hB0
    clear hf hB0 hN
    go_enter Tryz.func28, Tryz.ntmps28
    go_wp2_with fail
    have hx1 := hide ((ext_self1 w (.cells (setC N) 56)).trans (ext_self1 _ (.cells (setC 0) 56)))
    have hB2 := hide ((unhide hB0').ext (ext_self1 (w.alloc (.cells (setC N) 56)) (.cells (setC 0) 56)))
    have hB4 := hide (Blk.new (w.alloc (.cells (setC N) 56)) 56 (setC 0))
    have hs : (w.alloc (.cells (setC N) 56)).heap.size = w.heap.size + 1 := World.size_alloc _ _
    rw [hs] at hB4
    clear hs hB0'
    have hz : setC 0 = #[.int .u64 0, .int .u64 0, .int .u64 0, .int .u64 0, .int .u64 0, .int .u64 0, .int .u64 0, .int .u64 0, .int .u64 0, .int .u64 0, .int .u64 0, .int .u64 0, .int .u64 0, .int .u64 0, .int .u64 0, .int .u64 0] := rfl
    rw [hz] at hx1 hB2 hB4
    generalize (w.alloc (.cells (setC N) 56)).alloc (.cells #[.int .u64 0, .int .u64 0, .int .u64 0, .int .u64 0, .int .u64 0, .int .u64 0, .int .u64 0, .int .u64 0, .int .u64 0, .int .u64 0, .int .u64 0, .int .u64 0, .int .u64 0, .int .u64 0, .int .u64 0, .int .u64 0] 56) = W1 at *
    rw [← hz] at hB4
    clear hz
    have hbb := hide (show w.heap.size + 1 ≠ w.heap.size by omega)
    generalize hb4e : w.heap.size + 1 = b4 at *
    generalize hb2e : w.heap.size = b2 at *
    refine (fits_any _ _).mono ?_
    rw [h5]
    rintro e w2 ⟨rfl, hx2⟩
    have c0 := cell_of ((unhide hB2).ext hx2) hk
    have hB2' := hide ((unhide hB2).ext hx2)
    have hB4' := hide ((unhide hB4).ext hx2)
    have hx2' := hide ((unhide hx1).trans hx2)
    clear hx2 hB2 hB4 hx1
    go_wp2_with fail
    refine wp_region_ext (P := Tryz.prog) [0,1,2,3,4,5,6,7] [8] 1 #[true,true,true,true,true,true,true,true,false] (by kernel_rfl) (by kernel_rfl) rfl (by rfl) ?_
    iterate 8
      refine ql_want (v := ?_) rfl (by rfl) (fun W hW => ?_) ?_
      rotate_left
      · go_simp
        first | done | rfl | ((go_at_call 60; refine (bit_any k hk _).mono ?_; rintro _ _ ⟨h1, h2⟩; refine ⟨_, h1, ?_, h2⟩; rfl))
      go_frame
    refine wpQL_nil (fun w3 hx3 => ?_)
    have c1 := c0 w3 hx3
    have f1 := ((unhide hB2').ext hx3).frozen (k / 64)
    refine lx_one (i := 8) (by kernel_rfl) rfl (by rfl) #[true,true,true,true,true,true,true,true,true] (by rfl) ?_
    go_simp
    intro w4 hx4
    have hB2 := ((((unhide hB2').ext hx3).set (k / 64) (.int .u64 (bits .andNot .u64 (wd N (k / 64)) (bitW k)))).ext hx4)
    rw [setC_without N k] at hB2
    have hB4 := ((((unhide hB4').ext hx3).keep (Keep.setCell w3 b2 (k / 64) (.int .u64 (bits .andNot .u64 (wd N (k / 64)) (bitW k)))) (by simpa using unhide hbb)).ext hx4)
    have hx5 := hide ((((unhide hx2').trans hx3).of_new (Keep.setCell w3 b2 (k / 64) (.int .u64 (bits .andNot .u64 (wd N (k / 64)) (bitW k)))) (by simp [hb2e])).trans hx4)
    refine wpX_done (by kernel_rfl) ?_
    try go_frame
    clear hB2' hB4' hx2' hx3 hx4 c0 c1 f1 h1 hw h6 h7 h8
    generalize minusS N (2 ^ k) = M at *
    have hself := Ext.refl w4
    have hB2' := hide hB2
    have hB4' := hide hB4
    clear hB2 hB4
    try dsimp only
    repeat (first | (with_reducible refine wp_reg (id := 3) ?_) | go_values | go_step | go_guarded | go_upon | go_in | go_back | fail)
    refine wpO_val rfl (load_SetR (N := M) rfl rfl (unhide hB2').whole) ?_
    refine wpO_skip rfl (store_SetR (N := M) rfl rfl rfl (unhide hB4')) (wpO_done ?_)
    go_wp2_with fail
    rw [unhide hN']
    refine bodyPost_ret (ret_cell1 rfl rfl (load_Set _ b4 M ((unhide hB4').row _))) rfl ?_
    exact ⟨rfl, (unhide hx5).of_new (Keep.setRow w4 b4 _) (by simp; omega)⟩
  · have h5 : fitB n = false := by simpa using hf
    have hN : withoutS N n = N := by rw [withoutS, if_neg hf]
    have hN' := hide hN
    have hB0' := hide hB0
    clear hf hB0 hN
    go_enter Tryz.func28, Tryz.ntmps28
    go_wp2_with fail
    have hx1 := hide ((ext_self1 w (.cells (setC N) 56)).trans (ext_self1 _ (.cells (setC 0) 56)))
    have hB2 := hide ((unhide hB0').ext (ext_self1 (w.alloc (.cells (setC N) 56)) (.cells (setC 0) 56)))
    have hB4 := hide (Blk.new (w.alloc (.cells (setC N) 56)) 56 (setC 0))
    have hs : (w.alloc (.cells (setC N) 56)).heap.size = w.heap.size + 1 := World.size_alloc _ _
    rw [hs] at hB4
    clear hs hB0'
    have hz : setC 0 = #[.int .u64 0, .int .u64 0, .int .u64 0, .int .u64 0, .int .u64 0, .int .u64 0, .int .u64 0, .int .u64 0, .int .u64 0, .int .u64 0, .int .u64 0, .int .u64 0, .int .u64 0, .int .u64 0, .int .u64 0, .int .u64 0] := rfl
    rw [hz] at hx1 hB2 hB4
    generalize (w.alloc (.cells (setC N) 56)).alloc (.cells #[.int .u64 0, .int .u64 0, .int .u64 0, .int .u64 0, .int .u64 0, .int .u64 0, .int .u64 0, .int .u64 0, .int .u64 0, .int .u64 0, .int .u64 0, .int .u64 0, .int .u64 0, .int .u64 0, .int .u64 0, .int .u64 0] 56) = W1 at *
    rw [← hz] at hB4
    clear hz
    generalize hb4e : w.heap.size + 1 = b4 at *
    generalize hb2e : w.heap.size = b2 at *
    refine (fits_any _ _).mono ?_
    rw [h5]
    rintro e w4 ⟨rfl, hx2⟩
    have hB2 := (unhide hB2).ext hx2
    have hB4 := (unhide hB4).ext hx2
    have hx5 := hide ((unhide hx1).trans hx2)
    clear hx2 hx1
    have hself := Ext.refl w4
    have hB2' := hide hB2
    have hB4' := hide hB4
    clear hB2 hB4
    try dsimp only
    repeat (first | (with_reducible refine wp_reg (id := 3) ?_) | go_values | go_step | go_guarded | go_upon | go_in | go_back | fail)
    refine wpO_val rfl (load_SetR (N := N) rfl rfl (unhide hB2').whole) ?_
    refine wpO_skip rfl (store_SetR (N := N) rfl rfl rfl (unhide hB4')) (wpO_done ?_)
    go_wp2_with fail
    rw [unhide hN']
    refine bodyPost_ret (ret_cell1 rfl rfl (load_Set _ b4 N ((unhide hB4').row _))) rfl ?_
    exact ⟨rfl, (unhide hx5).of_new (Keep.setRow w4 b4 _) (by simp; omega)⟩
end Go.Proofs.YtjehhilijeajnaaGreatDoor
/- THE SETS OF package bitset: Below. Conditions: see each theorem. -/
namespace Go.Proofs.YtjehhilijeajnaaGreatDoor
open Go Go.RowKit
attribute [local go_sem] qUpon lUpon

/-- the elements below n -/
def belS (n : Int) : Nat := 2 ^ (min n.toNat 1024) - 1
theorem wdN_mod (N k i : Nat) : wdN (N % 2 ^ (64 * k)) i = if i < k then wdN N i else 0 := by
  apply Nat.eq_of_testBit_eq
  intro j
  rw [wdN_bit, Nat.testBit_mod_two_pow]
  by_cases h : i < k
  · rw [if_pos h, wdN_bit, Bool.eq_iff_iff]
    simp only [Bool.and_eq_true, decide_eq_true_eq]
    constructor
    · rintro ⟨a, _, b⟩; exact ⟨a, b⟩
    · rintro ⟨a, b⟩; exact ⟨a, by omega, b⟩
  · rw [if_neg h, Nat.zero_testBit, Bool.eq_iff_iff]
    simp only [Bool.and_eq_true, decide_eq_true_eq, Bool.false_eq_true, iff_false]
    omega
theorem setC_next (N k : Nat) : (setC (N % 2 ^ (64 * k))).setIfInBounds k (.int .u64 (wd N k)) = setC (N % 2 ^ (64 * (k + 1))) := by
  apply Array.ext_getElem?
  intro i
  by_cases hi : i < 16
  · rw [setC_get _ hi]
    by_cases he : k = i
    · subst he
      rw [Array.getElem?_setIfInBounds_self_of_lt (by rw [setC_size]; omega)]
      unfold wd
      rw [wdN_mod, if_pos (by omega)]
    · rw [Array.getElem?_setIfInBounds_ne he, setC_get _ hi]
      unfold wd
      rw [wdN_mod, wdN_mod]
      by_cases h1 : i < k
      · rw [if_pos h1, if_pos (by omega)]
      · rw [if_neg h1, if_neg (by omega)]
  · have h1 : ∀ a : Array Value, a.size = 16 → a[i]? = none := fun a h => Array.getElem?_eq_none (by omega)
    rw [h1 _ (by simp [setC_size]), h1 _ (setC_size _)]
theorem bel_lt {m K : Nat} (h : m ≤ K) : 2 ^ m - 1 < 2 ^ K := by
  have : 2 ^ m ≤ 2 ^ K := Nat.pow_le_pow_right (by decide) h
  have hp : 0 < 2 ^ m := Nat.pow_pos (by decide)
  omega
theorem bel_word (m k c : Nat) (hc : c = min (m - 64 * k) 64) : IntKind.u64.wrap (IntKind.u64.wrap (2 ^ c) - 1) = wd (2 ^ m - 1) k := by
  have h1 : wd (2 ^ m - 1) k = ((2 ^ c - 1 : Nat) : Int) := by unfold wd; rw [wdN_below, hc]
  have hp : 0 < 2 ^ c := Nat.pow_pos (by decide)
  have hle : 2 ^ c ≤ 2 ^ 64 := Nat.pow_le_pow_right (by decide) (by omega)
  have e : ((2 : Int) ^ c) = ((2 ^ c : Nat) : Int) := by simp
  rw [h1, IntKind.wrap_u64, IntKind.wrap_u64, e]
  generalize 2 ^ c = p at *
  omega

set_option maxRecDepth 100000 in
set_option maxHeartbeats 4000000 in
theorem below_any (n : Int) (w : World) :
    Calls Tryz.prog 75 #[.int .i64 n] w fun e w' => e = .returned (.agg (setC (belS n))) ∧ Ext w w' := by
  obtain ⟨m, hm⟩ : ∃ m : Nat, m = min n.toNat 1024 := ⟨_, rfl⟩
  have hm1 : max 0 (min n 1024) = (m : Int) := by omega
  have hm2 : m ≤ 1024 := by omega
  have hbe : belS n = 2 ^ m - 1 := by rw [belS, ← hm]
  have hbe' := hide hbe
  have hB0 := hide (Blk.new w 56 (setC 0))
  clear hbe hm
  go_enter Tryz.func75, Tryz.ntmps75
  go_wp2_with fail
  have hx1 := hide ((ext_self1 w (.cells (setC 0) 56)).trans (ext_self1 _ (.cells (setC 0) 56)))
  have hB2 := hide ((unhide hB0).ext (ext_self1 (w.alloc (.cells (setC 0) 56)) (.cells (setC 0) 56)))
  have hB4 := hide (Blk.new (w.alloc (.cells (setC 0) 56)) 56 (setC 0))
  have hs : (w.alloc (.cells (setC 0) 56)).heap.size = w.heap.size + 1 := World.size_alloc _ _
  rw [hs] at hB4
  clear hs hB0
  have hz : setC 0 = #[.int .u64 0, .int .u64 0, .int .u64 0, .int .u64 0, .int .u64 0, .int .u64 0, .int .u64 0, .int .u64 0, .int .u64 0, .int .u64 0, .int .u64 0, .int .u64 0, .int .u64 0, .int .u64 0, .int .u64 0, .int .u64 0] := rfl
  rw [hz] at hx1 hB2 hB4
  generalize (w.alloc (.cells #[.int .u64 0, .int .u64 0, .int .u64 0, .int .u64 0, .int .u64 0, .int .u64 0, .int .u64 0, .int .u64 0, .int .u64 0, .int .u64 0, .int .u64 0, .int .u64 0, .int .u64 0, .int .u64 0, .int .u64 0, .int .u64 0] 56)).alloc (.cells #[.int .u64 0, .int .u64 0, .int .u64 0, .int .u64 0, .int .u64 0, .int .u64 0, .int .u64 0, .int .u64 0, .int .u64 0, .int .u64 0, .int .u64 0, .int .u64 0, .int .u64 0, .int .u64 0, .int .u64 0, .int .u64 0] 56) = W1 at *
  rw [← hz] at hB4 hB2
  clear hz
  generalize hb4e : w.heap.size + 1 = b4 at *
  generalize hb2e : w.heap.size = b2 at *
  obtain ⟨N, hN⟩ : ∃ N, N = 2 ^ m - 1 := ⟨_, rfl⟩
  have hN' := hide hN
  have hlt2 := hide (bel_lt (K := 64 * 16) hm2)
  rw [← hN] at hlt2
  clear hN
  go_loopw [8] (fun i wr => ∃ k : Nat, k ≤ 16 ∧ i = .int .i64 k ∧ Blk wr b4 56 (setC (N % 2 ^ (64 * k))) ∧ Blk wr b2 56 (setC 0) ∧ Ext w wr) (fun i _ => 16 - (intOf i).toNat)
  case atStart => exact ⟨0, Nat.zero_le _, rfl, by rw [Nat.mul_zero, Nat.pow_zero, Nat.mod_one]; exact unhide hB4, unhide hB2, unhide hx1⟩
  case round =>
    obtain ⟨k, hk, rfl, hB, hA, hx⟩ := hrel
    have hB' := hide hB
    have hA' := hide hA
    have hx' := hide hx
    clear hB4 hB2 hx1
    by_cases hlt : k < 16
    · obtain ⟨c, hc⟩ : ∃ c : Nat, c = min (m - 64 * k) 64 := ⟨_, rfl⟩
      have w1 : IntKind.i64.wrap (64 * (k : Int)) = 64 * (k : Int) := IntWalk.i64_in _ (by omega)
      have w2 : IntKind.i64.wrap ((m : Int) - 64 * (k : Int)) = (m : Int) - 64 * (k : Int) := IntWalk.i64_in _ (by omega)
      have w3 : max 0 (min ((m : Int) - 64 * (k : Int)) 64) = (c : Int) := by omega
      have w4 := bel_word m k c hc
      rw [← unhide hN'] at w4
      have c0 := hB.cell k
      have f0 := hB.frozen k
      rw [setC_get _ hlt] at c0
      clear hB hA hx hc
      go_wp2_with fail
      go_roundw
      case rel => exact ⟨k + 1, by omega, by go_num, by have h := (unhide hB').set k (.int .u64 (wd N k)); rw [setC_next] at h; exact h, (unhide hA').keep (Keep.setCell _ _ _ _) (by simp; omega), (unhide hx').of_new (Keep.setCell _ _ _ _) (by simp; omega)⟩
      case measure => simp [intOf]; omega
    · have hke : k = 16 := by omega
      subst hke
      rw [Nat.mod_eq_of_lt (unhide hlt2)] at hB hB'
      rw [← unhide hN'] at hbe'
      have hself := Ext.refl wr
      clear hx hlt2 hN'
      have e0 := hB.cells 0 (v := .int .u64 (wd N 0)) rfl
      have e1 := hB.cells 1 (v := .int .u64 (wd N 1)) rfl
      have e2 := hB.cells 2 (v := .int .u64 (wd N 2)) rfl
      have e3 := hB.cells 3 (v := .int .u64 (wd N 3)) rfl
      have e4 := hB.cells 4 (v := .int .u64 (wd N 4)) rfl
      have e5 := hB.cells 5 (v := .int .u64 (wd N 5)) rfl
      have e6 := hB.cells 6 (v := .int .u64 (wd N 6)) rfl
      have e7 := hB.cells 7 (v := .int .u64 (wd N 7)) rfl
      have e8 := hB.cells 8 (v := .int .u64 (wd N 8)) rfl
      have e9 := hB.cells 9 (v := .int .u64 (wd N 9)) rfl
      have e10 := hB.cells 10 (v := .int .u64 (wd N 10)) rfl
      have e11 := hB.cells 11 (v := .int .u64 (wd N 11)) rfl
      have e12 := hB.cells 12 (v := .int .u64 (wd N 12)) rfl
      have e13 := hB.cells 13 (v := .int .u64 (wd N 13)) rfl
      have e14 := hB.cells 14 (v := .int .u64 (wd N 14)) rfl
      have e15 := hB.cells 15 (v := .int .u64 (wd N 15)) rfl
      have g0 := hA.frozen 0
      have g1 := hA.frozen 1
      have g2 := hA.frozen 2
      have g3 := hA.frozen 3
      have g4 := hA.frozen 4
      have g5 := hA.frozen 5
      have g6 := hA.frozen 6
      have g7 := hA.frozen 7
      have g8 := hA.frozen 8
      have g9 := hA.frozen 9
      have g10 := hA.frozen 10
      have g11 := hA.frozen 11
      have g12 := hA.frozen 12
      have g13 := hA.frozen 13
      have g14 := hA.frozen 14
      have g15 := hA.frozen 15
      have z0 := hA.cells 0 (v := .int .u64 (wd 0 0)) rfl
      have z1 := hA.cells 1 (v := .int .u64 (wd 0 1)) rfl
      have z2 := hA.cells 2 (v := .int .u64 (wd 0 2)) rfl
      have z3 := hA.cells 3 (v := .int .u64 (wd 0 3)) rfl
      have z4 := hA.cells 4 (v := .int .u64 (wd 0 4)) rfl
      have z5 := hA.cells 5 (v := .int .u64 (wd 0 5)) rfl
      have z6 := hA.cells 6 (v := .int .u64 (wd 0 6)) rfl
      have z7 := hA.cells 7 (v := .int .u64 (wd 0 7)) rfl
      have z8 := hA.cells 8 (v := .int .u64 (wd 0 8)) rfl
      have z9 := hA.cells 9 (v := .int .u64 (wd 0 9)) rfl
      have z10 := hA.cells 10 (v := .int .u64 (wd 0 10)) rfl
      have z11 := hA.cells 11 (v := .int .u64 (wd 0 11)) rfl
      have z12 := hA.cells 12 (v := .int .u64 (wd 0 12)) rfl
      have z13 := hA.cells 13 (v := .int .u64 (wd 0 13)) rfl
      have z14 := hA.cells 14 (v := .int .u64 (wd 0 14)) rfl
      have z15 := hA.cells 15 (v := .int .u64 (wd 0 15)) rfl
      clear hB hA
      go_wp2_with fail
      rw [unhide hbe']
      refine bodyPost_ret (ret_cell1 rfl rfl (load_Set _ b2 N (Blk.set16 N (unhide hA')))) rfl ?_
      exact ⟨rfl, (unhide hx').of_new (Keep.set16 wr b2 N) (by simp; omega)⟩
end Go.Proofs.YtjehhilijeajnaaGreatDoor
/- SETS OF A GRAPH: VertexSet. Conditions: see each theorem. -/
namespace Go.Proofs.YtjehhilijeajnaaGreatDoor
open Go Go.RowKit
attribute [local go_sem] qUpon lUpon

/-- the set of the vertices of a list -/
def vS (V : List (Int × Thing)) : Nat := V.foldl (fun a v => withS a v.1) 0
theorem vS_next (V : List (Int × Thing)) (k : Nat) (h : k < V.length) : vS (V.take (k + 1)) = withS (vS (V.take k)) V[k].1 := by
  unfold vS
  rw [List.take_succ_eq_append_getElem h, List.foldl_append, List.foldl_cons, List.foldl_nil]
theorem setC_u64 {N i : Nat} {u : Value} (h : (setC N)[i]? = some u) : ∃ m, u = .int .u64 m := by
  have hi : i < 16 := (Array.getElem?_eq_some_iff.1 h).1
  rw [setC_get _ hi] at h
  exact ⟨_, (Option.some.inj h).symm⟩
theorem SlAt.keep_S {α : Type} {enc : α → List Value} {k : Nat} {w w' : World} {A : Option Addr} {xs : List α} {b N : Nat} {T : TypeId} (h : SlAt enc k w A xs) (hb : Blk w b T (setC N))
    (hns : ∀ (x : α) (m : Int), (enc x)[0]? ≠ some (.int .u64 m)) (hen : ∀ x : α, ∃ u : Value, (enc x)[0]? = some u) (hk : Keep [b] w w') : SlAt enc k w' A xs :=
  h.off hb (fun i u hu x => by obtain ⟨m, rfl⟩ := setC_u64 hu; exact hns x _) hen hk.size (fun j hj hlt => hk.block j hlt (by simpa using hj))
theorem encV_nu (x : Int × Thing) (m : Int) : (encV x)[0]? ≠ some (.int .u64 m) := by simp [encV]
theorem encE_nu (x : (Int × Int) × Thing) (m : Int) : (encE x)[0]? ≠ some (.int .u64 m) := by simp [encE]

set_option maxRecDepth 100000 in
set_option maxHeartbeats 8000000 in
theorem vset_gen (g : Value) (V : List (Int × Thing)) (w : World) (hl : V.length ≤ 4096) (hL : ∀ W, Ext w W → Calls Tryz.prog 56 #[g] W fun e w' => ∃ A c, e = .returned (.slice A V.length c) ∧ SlAt encV 3 w' A V ∧ Ext W w') :
    Calls Tryz.prog 69 #[g] w fun e w' => e = .returned (.agg (setC (vS V))) ∧ Ext w w' := by
  have hB0 := hide (Blk.new w 56 (setC 0))
  have hL' := hide hL
  clear hL
  go_enter Tryz.func69, Tryz.ntmps69
  go_wp2_with fail
  have hx1 := hide ((ext_self1 w (.cells (setC 0) 56)).trans (ext_self1 _ (.cells (setC 0) 56)))
  have hB2 := hide ((unhide hB0).ext (ext_self1 (w.alloc (.cells (setC 0) 56)) (.cells (setC 0) 56)))
  have hB4 := hide (Blk.new (w.alloc (.cells (setC 0) 56)) 56 (setC 0))
  have hs : (w.alloc (.cells (setC 0) 56)).heap.size = w.heap.size + 1 := World.size_alloc _ _
  rw [hs] at hB4
  clear hs hB0
  have hz : setC 0 = #[.int .u64 0, .int .u64 0, .int .u64 0, .int .u64 0, .int .u64 0, .int .u64 0, .int .u64 0, .int .u64 0, .int .u64 0, .int .u64 0, .int .u64 0, .int .u64 0, .int .u64 0, .int .u64 0, .int .u64 0, .int .u64 0] := rfl
  rw [hz] at hx1 hB2 hB4
  generalize (w.alloc (.cells #[.int .u64 0, .int .u64 0, .int .u64 0, .int .u64 0, .int .u64 0, .int .u64 0, .int .u64 0, .int .u64 0, .int .u64 0, .int .u64 0, .int .u64 0, .int .u64 0, .int .u64 0, .int .u64 0, .int .u64 0, .int .u64 0] 56)).alloc (.cells #[.int .u64 0, .int .u64 0, .int .u64 0, .int .u64 0, .int .u64 0, .int .u64 0, .int .u64 0, .int .u64 0, .int .u64 0, .int .u64 0, .int .u64 0, .int .u64 0, .int .u64 0, .int .u64 0, .int .u64 0, .int .u64 0] 56) = W1 at *
  rw [← hz] at hB4 hB2
  clear hz
  generalize hb4e : w.heap.size + 1 = b4 at *
  generalize hb2e : w.heap.size = b2 at *
  refine (unhide hL' _ (unhide hx1)).mono ?_
  rintro e w2 ⟨A, c, rfl, hs2, hx2⟩
  have hB2' := hide ((unhide hB2).ext hx2)
  have hB4' := hide ((unhide hB4).ext hx2)
  have hx2' := hide ((unhide hx1).trans hx2)
  have hs2' := hide hs2
  clear hx1 hx2 hB2 hB4 hs2 hL'
  go_wp2_with fail
  go_loopw [9] (fun i wr => ∃ k : Nat, k ≤ V.length ∧ i = .int .i64 k ∧ Blk wr b4 56 (setC (vS (V.take k))) ∧ Blk wr b2 56 (setC 0) ∧ SlAt encV 3 wr A V ∧ Ext w wr) (fun i _ => V.length - (intOf i).toNat)
  case atStart => exact ⟨0, Nat.zero_le _, rfl, unhide hB4', unhide hB2', unhide hs2', unhide hx2'⟩
  case round =>
    obtain ⟨k, hk, rfl, hB, hA, hs, hx⟩ := hrel
    have hB' := hide hB
    have hA' := hide hA
    have hs' := hide hs
    have hx' := hide hx
    clear hB4' hB2' hx2' hs2' hB hA hs hx
    by_cases hlt : k < V.length
    · have hB := unhide hB'
      obtain ⟨bb, off, rfl, c0, c1, c2⟩ := atV (unhide hs') hlt
      have hn' := hide (vS_next V k hlt)
      generalize V[k] = y at c0 c1 c2 hn'
      obtain ⟨u, lab, wt⟩ := y
      generalize vS (V.take k) = N at hB hB' hn'
      simp only at c0 c1 c2
      have hself := Ext.refl wr
      have e0 := hB.cells 0 (v := .int .u64 (wd N 0)) rfl
      have e1 := hB.cells 1 (v := .int .u64 (wd N 1)) rfl
      have e2 := hB.cells 2 (v := .int .u64 (wd N 2)) rfl
      have e3 := hB.cells 3 (v := .int .u64 (wd N 3)) rfl
      have e4 := hB.cells 4 (v := .int .u64 (wd N 4)) rfl
      have e5 := hB.cells 5 (v := .int .u64 (wd N 5)) rfl
      have e6 := hB.cells 6 (v := .int .u64 (wd N 6)) rfl
      have e7 := hB.cells 7 (v := .int .u64 (wd N 7)) rfl
      have e8 := hB.cells 8 (v := .int .u64 (wd N 8)) rfl
      have e9 := hB.cells 9 (v := .int .u64 (wd N 9)) rfl
      have e10 := hB.cells 10 (v := .int .u64 (wd N 10)) rfl
      have e11 := hB.cells 11 (v := .int .u64 (wd N 11)) rfl
      have e12 := hB.cells 12 (v := .int .u64 (wd N 12)) rfl
      have e13 := hB.cells 13 (v := .int .u64 (wd N 13)) rfl
      have e14 := hB.cells 14 (v := .int .u64 (wd N 14)) rfl
      have e15 := hB.cells 15 (v := .int .u64 (wd N 15)) rfl
      clear hB
      go_wp2_with fail
      refine (with_any N u _).mono ?_
      rintro e w5 ⟨rfl, hx5⟩
      have hxx := hide ((ext_self1 wr (.cells #[.int .i64 u, .int .u8 lab, .int .i64 wt] 102)).trans hx5)
      have hB5 := (unhide hB').ext (unhide hxx)
      have hA5 := hide ((unhide hA').ext (unhide hxx))
      have hs5 := hide ((unhide hs').ext (unhide hxx))
      have hx6 := hide ((unhide hx').trans (unhide hxx))
      have hself5 := Ext.refl w5
      clear hx5 hB' hA' hs' hx' e0 e1 e2 e3 e4 e5 e6 e7 e8 e9 e10 e11 e12 e13 e14 e15 hself hxx c0 c1 c2
      have hst := store_Set (withS N u) hB5
      have hB5' := hide hB5
      clear hB5
      go_wp2_with fail
      go_roundw
      case rel => exact ⟨k + 1, by omega, by go_num, by rw [unhide hn']; exact Blk.putS _ (unhide hB5'), (unhide hA5).keep (Keep.putS w5 b4 _) (by simp; omega), (unhide hs5).keep_S (unhide hB5') encV_nu encV0 (Keep.putS w5 b4 _), (unhide hx6).of_new (Keep.putS w5 b4 _) (by simp; omega)⟩
      case measure => simp [intOf]; omega
    · have hke : k = V.length := by omega
      have hB := unhide hB'
      have hA := unhide hA'
      rw [hke, List.take_length] at hB hB'
      have hself := Ext.refl wr
      clear hlt
      obtain ⟨N, hN⟩ : ∃ N, vS V = N := ⟨_, rfl⟩
      rw [hN] at hB hB'
      have hN' := hide hN
      clear hN
      have e0 := hB.cells 0 (v := .int .u64 (wd N 0)) rfl
      have e1 := hB.cells 1 (v := .int .u64 (wd N 1)) rfl
      have e2 := hB.cells 2 (v := .int .u64 (wd N 2)) rfl
      have e3 := hB.cells 3 (v := .int .u64 (wd N 3)) rfl
      have e4 := hB.cells 4 (v := .int .u64 (wd N 4)) rfl
      have e5 := hB.cells 5 (v := .int .u64 (wd N 5)) rfl
      have e6 := hB.cells 6 (v := .int .u64 (wd N 6)) rfl
      have e7 := hB.cells 7 (v := .int .u64 (wd N 7)) rfl
      have e8 := hB.cells 8 (v := .int .u64 (wd N 8)) rfl
      have e9 := hB.cells 9 (v := .int .u64 (wd N 9)) rfl
      have e10 := hB.cells 10 (v := .int .u64 (wd N 10)) rfl
      have e11 := hB.cells 11 (v := .int .u64 (wd N 11)) rfl
      have e12 := hB.cells 12 (v := .int .u64 (wd N 12)) rfl
      have e13 := hB.cells 13 (v := .int .u64 (wd N 13)) rfl
      have e14 := hB.cells 14 (v := .int .u64 (wd N 14)) rfl
      have e15 := hB.cells 15 (v := .int .u64 (wd N 15)) rfl
      have g0 := hA.frozen 0
      have g1 := hA.frozen 1
      have g2 := hA.frozen 2
      have g3 := hA.frozen 3
      have g4 := hA.frozen 4
      have g5 := hA.frozen 5
      have g6 := hA.frozen 6
      have g7 := hA.frozen 7
      have g8 := hA.frozen 8
      have g9 := hA.frozen 9
      have g10 := hA.frozen 10
      have g11 := hA.frozen 11
      have g12 := hA.frozen 12
      have g13 := hA.frozen 13
      have g14 := hA.frozen 14
      have g15 := hA.frozen 15
      have z0 := hA.cells 0 (v := .int .u64 (wd 0 0)) rfl
      have z1 := hA.cells 1 (v := .int .u64 (wd 0 1)) rfl
      have z2 := hA.cells 2 (v := .int .u64 (wd 0 2)) rfl
      have z3 := hA.cells 3 (v := .int .u64 (wd 0 3)) rfl
      have z4 := hA.cells 4 (v := .int .u64 (wd 0 4)) rfl
      have z5 := hA.cells 5 (v := .int .u64 (wd 0 5)) rfl
      have z6 := hA.cells 6 (v := .int .u64 (wd 0 6)) rfl
      have z7 := hA.cells 7 (v := .int .u64 (wd 0 7)) rfl
      have z8 := hA.cells 8 (v := .int .u64 (wd 0 8)) rfl
      have z9 := hA.cells 9 (v := .int .u64 (wd 0 9)) rfl
      have z10 := hA.cells 10 (v := .int .u64 (wd 0 10)) rfl
      have z11 := hA.cells 11 (v := .int .u64 (wd 0 11)) rfl
      have z12 := hA.cells 12 (v := .int .u64 (wd 0 12)) rfl
      have z13 := hA.cells 13 (v := .int .u64 (wd 0 13)) rfl
      have z14 := hA.cells 14 (v := .int .u64 (wd 0 14)) rfl
      have z15 := hA.cells 15 (v := .int .u64 (wd 0 15)) rfl
      clear hB hA
      go_wp2_with fail
      refine bodyPost_ret (ret_cell1 rfl rfl (load_Set _ b2 N (Blk.set16 N (unhide hA')))) rfl ?_
      exact ⟨by rw [unhide hN'], (unhide hx').of_new (Keep.set16 wr b2 N) (by simp; omega)⟩
end Go.Proofs.YtjehhilijeajnaaGreatDoor
/- SETS OUT OF LISTS OF NUMBERS: plain laws. No program in sight. Conditions: see each theorem. -/
namespace Go.Proofs.YtjehhilijeajnaaGreatDoor
open Go Go.RowKit

theorem withS_bit (N : Nat) (x : Int) (k : Nat) : (withS N x).testBit k = (N.testBit k || (decide (k < 1024) && decide (x = (k : Int)))) := by
  unfold withS fitB
  by_cases h : 0 ≤ x ∧ x < 1024
  · rw [if_pos (by simp [h.1, h.2]), Nat.testBit_or, Nat.testBit_two_pow]
    congr 1
    rw [Bool.eq_iff_iff]
    simp only [Bool.and_eq_true, decide_eq_true_eq]
    omega
  · rw [if_neg (by simp; omega)]
    have : (decide (k < 1024) && decide (x = (k : Int))) = false := by
      rw [Bool.eq_false_iff]
      simp only [ne_eq, Bool.and_eq_true, decide_eq_true_eq]
      omega
    rw [this, Bool.or_false]
/-- the set of the numbers of a list -/
def fromS (L : List Int) : Nat := L.foldl withS 0
theorem fromS_next (L : List Int) (k : Nat) (h : k < L.length) : fromS (L.take (k + 1)) = withS (fromS (L.take k)) L[k] := by
  unfold fromS
  rw [List.take_succ_eq_append_getElem h, List.foldl_append, List.foldl_cons, List.foldl_nil]
theorem fold_bit (L : List Int) : ∀ (a k : Nat), (L.foldl withS a).testBit k = (a.testBit k || (decide (k < 1024) && decide ((k : Int) ∈ L))) := by
  induction L with
  | nil => intro a k; simp
  | cons x r ih =>
    intro a k
    rw [List.foldl_cons, ih, withS_bit, Bool.or_assoc]
    congr 1
    rw [Bool.eq_iff_iff]
    simp only [Bool.or_eq_true, Bool.and_eq_true, decide_eq_true_eq, List.mem_cons]
    constructor
    · rintro (h | h)
      · exact ⟨h.1, .inl h.2.symm⟩
      · exact ⟨h.1, .inr h.2⟩
    · rintro ⟨h1, h2 | h2⟩
      · exact .inl ⟨h1, h2.symm⟩
      · exact .inr ⟨h1, h2⟩
theorem fromS_bit (L : List Int) (k : Nat) : (fromS L).testBit k = (decide (k < 1024) && decide ((k : Int) ∈ L)) := by
  unfold fromS
  rw [fold_bit, Nat.zero_testBit, Bool.false_or]
theorem fromS_congr {L M : List Int} (h : ∀ x : Int, x ∈ L ↔ x ∈ M) : fromS L = fromS M := by
  apply Nat.eq_of_testBit_eq
  intro k
  rw [fromS_bit, fromS_bit]
  simp [h]
/-- VertexSet as a set of a list -/
theorem vS_eq (V : List (Int × Thing)) : vS V = fromS (V.map (·.1)) := by
  unfold vS fromS
  rw [List.foldl_map]
end Go.Proofs.YtjehhilijeajnaaGreatDoor
/- graph.Build: what it makes of lists of vertices and edges. Conditions: see each theorem. -/
namespace Go.Proofs.YtjehhilijeajnaaGreatDoor
open Go Go.RowKit
attribute [local go_sem] qUpon lUpon

abbrev GS := List (Int × Thing) × List ((Int × Int) × Thing)
section
variable {σ α : Type}
/-- the first error of a row of steps, or 0 -/
def fe (er : σ → α → Int) (st : σ → α → σ) : List α → σ → Int
  | [], _ => 0
  | x :: l, s => if er s x = 0 then fe er st l (st s x) else er s x
theorem fe_append (er : σ → α → Int) (st : σ → α → σ) : ∀ (l1 l2 : List α) (s : σ), fe er st (l1 ++ l2) s = if fe er st l1 s = 0 then fe er st l2 (l1.foldl st s) else fe er st l1 s
  | [], l2, s => by simp [fe]
  | x :: l1, l2, s => by
    simp only [List.cons_append, fe, List.foldl_cons]
    by_cases h : er s x = 0
    · simp only [h, if_true]
      exact fe_append er st l1 l2 _
    · simp [h]
theorem fe_step {er : σ → α → Int} {st : σ → α → σ} {l : List α} {s : σ} {k : Nat} (hk : k < l.length) (h0 : fe er st (l.take k) s = 0) (h1 : er ((l.take k).foldl st s) l[k] = 0) : fe er st (l.take (k + 1)) s = 0 := by
  rw [List.take_succ_eq_append_getElem hk, fe_append, if_pos h0]
  simp [fe, h1]
theorem fe_stop {er : σ → α → Int} {st : σ → α → σ} {l : List α} {s : σ} {k : Nat} (hk : k < l.length) (h0 : fe er st (l.take k) s = 0) (h1 : er ((l.take k).foldl st s) l[k] ≠ 0) : fe er st l s = er ((l.take k).foldl st s) l[k] := by
  conv => lhs; rw [← List.take_append_drop k l, List.drop_eq_getElem_cons hk]
  rw [fe_append, if_pos h0]
  simp [fe, h1]
theorem fold_step {st : σ → α → σ} {l : List α} {s : σ} {k : Nat} (hk : k < l.length) : (l.take (k + 1)).foldl st s = st ((l.take k).foldl st s) l[k] := by
  rw [List.take_succ_eq_append_getElem hk, List.foldl_append]; rfl
end
def erV (s : GS) (x : Int × Thing) : Int := wrongR 0 x.1 0 x.2.2 s.1 s.2
def stV (s : GS) (x : Int × Thing) : GS := (nxV 0 x.1 0 x.2.1 x.2.2 s.1 s.2, nxE 0 x.1 0 x.2.1 x.2.2 s.1 s.2)
def erE (s : GS) (x : (Int × Int) × Thing) : Int := wrongR 2 x.1.1 x.1.2 x.2.2 s.1 s.2
def stE (s : GS) (x : (Int × Int) × Thing) : GS := (nxV 2 x.1.1 x.1.2 x.2.1 x.2.2 s.1 s.2, nxE 2 x.1.1 x.1.2 x.2.1 x.2.2 s.1 s.2)
def bS1 (Vs : List (Int × Thing)) : GS := Vs.foldl stV ([], [])
def bS (Vs : List (Int × Thing)) (Es : List ((Int × Int) × Thing)) : GS := Es.foldl stE (bS1 Vs)
def bErr (Vs : List (Int × Thing)) (Es : List ((Int × Int) × Thing)) : Int := if fe erV stV Vs ([], []) = 0 then fe erE stE Es (bS1 Vs) else fe erV stV Vs ([], [])

/-- what Build leaves -/
def BuildPost (Vs : List (Int × Thing)) (Es : List ((Int × Int) × Thing)) (w : World) (e : Ending) (w' : World) : Prop :=
  (bErr Vs Es = 0 ∧ ∃ g bv be, e = .returned (.tuple #[.pointer (some ⟨g, 0, none⟩), .int .i64 0]) ∧ IsG w' g bv be (bS Vs Es).1 (bS Vs Es).2 ∧ Ext w w' ∧ w.heap.size ≤ g ∧ w.heap.size ≤ bv ∧ w.heap.size ≤ be) ∨
  (bErr Vs Es ≠ 0 ∧ e = .returned (.tuple #[.pointer none, .int .i64 (bErr Vs Es)]) ∧ Ext w w')
theorem bne0 {n : Int} (h : n ≠ 0) : (n != 0) = true := by simpa using h

set_option maxRecDepth 100000 in
set_option maxHeartbeats 4000000 in
theorem build_any (A B : Option Addr) (Vs : List (Int × Thing)) (Es : List ((Int × Int) × Thing)) (cV cE : Nat) (w : World) (hV : SlAt encV 3 w A Vs) (hE : SlAt encE 4 w B Es) (oV : ∀ d ∈ Vs, okV d) (oE : ∀ d ∈ Es, okEd d) (hl : Vs.length ≤ 9223372036854775807) (hle : Es.length ≤ 9223372036854775807) :
    Calls Tryz.prog 32 #[.slice A Vs.length cV, .slice B Es.length cE] w (BuildPost Vs Es w) := by
  have hV' := hide hV
  have hE' := hide hE
  have oV' := hide oV
  have oE' := hide oE
  clear hV hE oV oE
  go_enter Tryz.func32, Tryz.ntmps32
  go_wp2_with fail
  refine (new_rel _).mono ?_
  rintro e w1 ⟨g, bv, be, rfl, hg10, hx10, n1, n2, n3⟩
  have hg1 := hide hg10
  have hx1 := hide hx10
  have hn1 := hide (And.intro n1 (And.intro n2 n3))
  clear hg10 hx10 n1 n2 n3
  go_wp2_with fail
  go_loopw [16] (fun i wr => ∃ k : Nat, k ≤ Vs.length ∧ i = .int .i64 k ∧ fe erV stV (Vs.take k) ([], []) = 0 ∧ IsG wr g bv be ((Vs.take k).foldl stV ([], [])).1 ((Vs.take k).foldl stV ([], [])).2 ∧ Ext w wr) (fun i _ => Vs.length - (intOf i).toNat)
  case atStart => exact ⟨0, Nat.zero_le _, rfl, rfl, unhide hg1, unhide hx1⟩
  case round =>
    obtain ⟨k, hk, rfl, hf, hg, hx⟩ := hrel
    have hf' := hide hf
    have hg' := hide hg
    have hx' := hide hx
    clear hf hg hx hg1 hx1
    by_cases hlt : k < Vs.length
    · obtain ⟨b, off, rfl, c0, c1, c2⟩ := atV ((unhide hV').ext (unhide hx')) hlt
      have hd := unhide oV' Vs[k] (List.getElem_mem hlt)
      have hst := hide (fold_step (st := stV) (s := (([], []) : GS)) hlt)
      have hfs := hide (fun h => fe_step (er := erV) (st := stV) (s := (([], []) : GS)) hlt (unhide hf') h)
      have hfe := hide (fun h => fe_stop (er := erV) (st := stV) (s := (([], []) : GS)) hlt (unhide hf') h)
      generalize hS : (Vs.take k).foldl stV ([], []) = S at *
      clear hS
      obtain ⟨V, E⟩ := S
      generalize hy : Vs[k] = y at c0 c1 c2 hd hst hfs hfe
      obtain ⟨u, lab, wt⟩ := y
      have hok := hide hd.1
      clear hd hy
      simp only at c0 c1 c2
      by_cases h0 : wrongR 0 u 0 wt V E = 0
      · have h0' := hide h0
        clear h0
        go_wp2_with fail
        refine (apply_any g bv be V E 0 u 0 lab wt _ ((unhide hg').ext (ext_self1 _ _)) (unhide hok) (by unfold i64ok; omega)).mono ?_
        rw [unhide h0']
        rintro e wa ⟨rfl, hga, hka⟩
        have hxa := hide (((unhide hx').trans (ext_self1 _ _)).of_new hka (by have := unhide hn1; simp; omega))
        have hga' := hide hga
        clear hga hka c0 c1 c2
        go_wp2_with fail
        go_roundw
        case rel => exact ⟨k + 1, by omega, by go_num, unhide hfs (unhide h0'), by rw [unhide hst]; exact unhide hga', unhide hxa⟩
        case measure => simp [intOf]; omega
      · have hbe : bErr Vs Es = wrongR 0 u 0 wt V E := by
          have h1 := unhide hfe h0
          unfold bErr
          rw [h1]
          exact if_neg h0
        have hbe' := hide hbe
        have h0' := hide h0
        have hb := bne0 h0
        clear hbe h0
        generalize hno : wrongR 0 u 0 wt V E = no at hb
        have hno' := hide hno
        clear hno
        go_wp2_with fail
        refine (apply_any g bv be V E 0 u 0 lab wt _ ((unhide hg').ext (ext_self1 _ _)) (unhide hok) (by unfold i64ok; omega)).mono ?_
        rw [unhide hno']
        rintro e wa ⟨rfl, hga, hka⟩
        have hxa := hide (((unhide hx').trans (ext_self1 _ _)).of_new hka (by have := unhide hn1; simp; omega))
        clear hga hka c0 c1 c2
        go_wp2_with fail
        go_ret2
        exact .inr ⟨by rw [unhide hbe']; exact unhide h0', by rw [unhide hbe', unhide hno']; rfl, unhide hxa⟩
    · have hkV : k = Vs.length := by omega
      subst hkV
      rw [List.take_length] at hf' hg'
      have hF := hide (unhide hf')
      have hG := hide (unhide hg')
      have hX := hide (unhide hx')
      rename World => wV
      clear hf' hg' hx'
      go_wp2_with fail
      go_loopw [35] (fun i wr => ∃ k : Nat, k ≤ Es.length ∧ i = .int .i64 k ∧ fe erE stE (Es.take k) (bS1 Vs) = 0 ∧ IsG wr g bv be ((Es.take k).foldl stE (bS1 Vs)).1 ((Es.take k).foldl stE (bS1 Vs)).2 ∧ Ext w wr) (fun i _ => Es.length - (intOf i).toNat)
      case atStart => exact ⟨0, Nat.zero_le _, rfl, rfl, unhide hG, unhide hX⟩
      case round =>
        obtain ⟨k, hk, rfl, hf, hg, hx⟩ := hrel
        have hf' := hide hf
        have hg' := hide hg
        have hx' := hide hx
        clear hf hg hx hG hX
        by_cases hlt : k < Es.length
        · obtain ⟨b, off, rfl, c0, c1, c2, c3⟩ := atE ((unhide hE').ext (unhide hx')) hlt
          have hd := unhide oE' Es[k] (List.getElem_mem hlt)
          have hst := hide (fold_step (st := stE) (s := bS1 Vs) hlt)
          have hfs := hide (fun h => fe_step (er := erE) (st := stE) (s := bS1 Vs) hlt (unhide hf') h)
          have hfe := hide (fun h => fe_stop (er := erE) (st := stE) (s := bS1 Vs) hlt (unhide hf') h)
          generalize hS : (Es.take k).foldl stE (bS1 Vs) = S at *
          clear hS
          obtain ⟨V, E⟩ := S
          generalize hy : Es[k] = y at c0 c1 c2 c3 hd hst hfs hfe
          obtain ⟨⟨u, v⟩, ⟨lab, wt⟩⟩ := y
          have hok := hide hd.1
          have hok2 := hide hd.2.1
          clear hd hy
          simp only at c0 c1 c2 c3
          by_cases h0 : wrongR 2 u v wt V E = 0
          · have h0' := hide h0
            clear h0
            go_wp2_with fail
            refine (apply_any g bv be V E 2 u v lab wt _ ((unhide hg').ext (ext_self1 _ _)) (unhide hok) (unhide hok2)).mono ?_
            rw [unhide h0']
            rintro e wa ⟨rfl, hga, hka⟩
            have hxa := hide (((unhide hx').trans (ext_self1 _ _)).of_new hka (by have := unhide hn1; simp; omega))
            have hga' := hide hga
            clear hga hka c0 c1 c2 c3
            go_wp2_with fail
            go_roundw
            case rel => exact ⟨k + 1, by omega, by go_num, unhide hfs (unhide h0'), by rw [unhide hst]; exact unhide hga', unhide hxa⟩
            case measure => simp [intOf]; omega
          · have hbe : bErr Vs Es = wrongR 2 u v wt V E := by
              have h1 := unhide hfe h0
              unfold bErr
              rw [if_pos (unhide hF), h1]
              rfl
            have hbe' := hide hbe
            have h0' := hide h0
            have hb := bne0 h0
            clear hbe h0
            generalize hno : wrongR 2 u v wt V E = no at hb
            have hno' := hide hno
            clear hno
            go_wp2_with fail
            refine (apply_any g bv be V E 2 u v lab wt _ ((unhide hg').ext (ext_self1 _ _)) (unhide hok) (unhide hok2)).mono ?_
            rw [unhide hno']
            rintro e wa ⟨rfl, hga, hka⟩
            have hxa := hide (((unhide hx').trans (ext_self1 _ _)).of_new hka (by have := unhide hn1; simp; omega))
            clear hga hka c0 c1 c2 c3
            go_wp2_with fail
            go_ret2
            exact .inr ⟨by rw [unhide hbe']; exact unhide h0', by rw [unhide hbe', unhide hno']; rfl, unhide hxa⟩
        · have hkE : k = Es.length := by omega
          subst hkE
          rw [List.take_length] at hf' hg'
          go_wp2_with fail
          go_ret2
          obtain ⟨n1, n2, n3⟩ := unhide hn1
          exact .inl ⟨by unfold bErr; rw [if_pos (unhide hF), unhide hf'], g, bv, be, rfl, unhide hg', unhide hx', n1, n2, n3⟩
end Go.Proofs.YtjehhilijeajnaaGreatDoor
/- law05.From: a reference graph made a graph; append to a slice of the call's own. Conditions: see each theorem. -/
namespace Go.Proofs.YtjehhilijeajnaaGreatDoor
open Go Go.RowKit

theorem insP_end {α : Type} {gt : α → Bool} {x : α} : ∀ {l : List α}, (∀ y ∈ l, gt y = false) → insP gt x l = l ++ [x]
  | [], _ => rfl
  | y :: l, h => by
    unfold insP
    rw [h y List.mem_cons_self, if_neg (by simp), insP_end (fun z hz => h z (List.mem_cons_of_mem _ hz))]
    rfl
theorem hasV_false {u : Int} {V : List (Int × Thing)} (h : ∀ p ∈ V, p.1 ≠ u) : hasV u V = false := by
  rw [hasV_look, lookM_none.2 h]; rfl
theorem hasV_true {u : Int} {V : List (Int × Thing)} {t : Thing} (h : (u, t) ∈ V) : hasV u V = true := by
  rw [hasV_look, lookM_isSome]; exact ⟨_, h, rfl⟩
theorem hasE_false {u v : Int} {E : List ((Int × Int) × Thing)} (hlo : ∀ e ∈ E, e.1.1 < e.1.2) (h : ∀ p ∈ E, p.1 ≠ (min u v, max u v)) : hasE u v E = false := by
  rw [hasE_look hlo, lookM_none.2 h]; rfl

theorem redoV : ∀ (l acc : List (Int × Thing)), (acc ++ l).Pairwise ltV → (∀ p ∈ acc ++ l, idB p.1 = true) → (∀ p ∈ acc ++ l, heavyB p.2.2 = false) → l.foldl stV (acc, []) = (acc ++ l, []) ∧ fe erV stV l (acc, []) = 0
  | [], acc, _, _, _ => by simp [fe]
  | x :: l, acc, hs, hid, hw => by
    obtain ⟨u, lab, wt⟩ := x
    have hx : ∀ y ∈ acc, y.1 < u := fun y hy => (List.pairwise_append.1 hs).2.2 y hy _ List.mem_cons_self
    have h1 := hid (u, (lab, wt)) (by simp)
    have h2 := hw (u, (lab, wt)) (by simp)
    have hno : hasV u acc = false := hasV_false fun p hp e => by have := hx p hp; omega
    have he : wrongR 0 u 0 wt acc [] = 0 := by
      simp only at h1 h2
      unfold wrongR
      rw [if_neg (by simp [w1B]), if_neg (by simp [w2B, h1, h2, pairsB]), if_neg (by simp [w3B, pairsB]), if_pos rfl, hno]
      rfl
    have hst : stV (acc, []) (u, (lab, wt)) = (acc ++ [(u, (lab, wt))], []) := by
      unfold stV nxV nxE
      simp only [he, if_true]
      refine Prod.ext ?_ rfl
      show refV 0 u lab wt acc = _
      simp only [refV, if_true]
      rw [insF_eq, insP_end (fun y hy => by have := hx y hy; unfold gtV; simp; omega)]
    have ih := redoV l (acc ++ [(u, (lab, wt))]) (by simpa using hs) (by simpa using hid) (by simpa using hw)
    have her : erV (acc, []) (u, (lab, wt)) = 0 := he
    simp only [List.foldl_cons, fe, her, hst, if_true]
    rw [ih.1, ih.2]
    simp

theorem redoE (V : List (Int × Thing)) : ∀ (l acc : List ((Int × Int) × Thing)), GInv V (acc ++ l) → l.foldl stE (V, acc) = (V, acc ++ l) ∧ fe erE stE l (V, acc) = 0
  | [], acc, _ => by simp [fe]
  | x :: l, acc, hi => by
    obtain ⟨⟨u, v⟩, lab, wt⟩ := x
    have hx : ∀ y ∈ acc, ltE y ((u, v), (lab, wt)) := fun y hy => (List.pairwise_append.1 hi.se).2.2 y hy _ List.mem_cons_self
    have hm : ((u, v), (lab, wt)) ∈ acc ++ ((u, v), (lab, wt)) :: l := by simp
    have hlt := hi.lo _ hm
    obtain ⟨⟨t, ht⟩, ⟨s, hs⟩⟩ := hi.ends _ hm
    have h2 := hi.we _ hm
    have i1 := hi.ids _ ht
    have i2 := hi.ids _ hs
    have hn := hi.ne
    simp only at hlt ht hs h2 i1 i2
    simp only [List.length_append, List.length_cons] at hn
    have e1 : min u v = u := by omega
    have e2 : max u v = v := by omega
    have hno : hasE u v acc = false := hasE_false (fun e he => hi.lo e (List.mem_append_left _ he)) fun p hp e => by
      have := hx p hp
      unfold ltE at this
      rw [e, e1, e2] at this
      simp only at this
      omega
    have he : wrongR 2 u v wt V acc = 0 := by
      unfold wrongR
      rw [if_neg (by simp [w1B]), if_neg (by simp [w2B, h2, i1, i2, pairsB]), if_neg (by simp [w3B, pairsB]; omega), if_neg (by decide), if_neg (by simp [hasV_true ht, hasV_true hs]), if_pos rfl, hno, if_neg (by simp), if_neg (by omega)]
    have hst : stE (V, acc) ((u, v), (lab, wt)) = (V, acc ++ [((u, v), (lab, wt))]) := by
      unfold stE nxV nxE
      simp only [he, if_true]
      refine Prod.ext rfl ?_
      show refE 2 u v lab wt acc = _
      simp only [refE, Int.reduceEq, if_false, if_true, e1, e2]
      rw [insF_eq, insP_end (fun y hy => by have := hx y hy; unfold ltE at this; simp only at this; unfold gtE; simp; omega)]
    have ih := redoE V l (acc ++ [((u, v), (lab, wt))]) (by simpa using hi)
    have her : erE (V, acc) ((u, v), (lab, wt)) = 0 := he
    simp only [List.foldl_cons, fe, her, hst, if_true]
    rw [ih.1, ih.2]
    simp

/-- a reference graph, built anew out of its lists, is the same -/
theorem rebuild {V : List (Int × Thing)} {E : List ((Int × Int) × Thing)} (h : GInv V E) : bErr V E = 0 ∧ bS V E = (V, E) := by
  have h1 := redoV V [] (by simpa using h.sv) (by simpa using h.ids) (by simpa using h.wv)
  have h2 := redoE V E [] (by simpa using h)
  have e1 : bS1 V = (V, []) := h1.1
  unfold bErr bS
  rw [e1, if_pos h1.2]
  exact ⟨h2.2, h2.1⟩
theorem GInv.okV {V : List (Int × Thing)} {E : List ((Int × Int) × Thing)} (h : GInv V E) : ∀ d ∈ V, okV d := fun d hd => by
  have h1 := h.ids d hd
  have h2 := h.wv d hd
  unfold idB at h1
  unfold heavyB at h2
  simp at h1 h2
  unfold Go.Proofs.YtjehhilijeajnaaGreatDoor.okV i64ok
  omega
theorem GInv.okE {V : List (Int × Thing)} {E : List ((Int × Int) × Thing)} (h : GInv V E) : ∀ d ∈ E, okEd d := fun d hd => by
  obtain ⟨⟨t, ht⟩, ⟨s, hs⟩⟩ := h.ends d hd
  have h1 := h.ids _ ht
  have h3 := h.ids _ hs
  have h2 := h.we d hd
  unfold idB at h1 h3
  unfold heavyB at h2
  simp at h1 h2 h3
  unfold okEd i64ok
  omega

/-- append of one element to a slice that the call has made -/
theorem wp_ap {α : Type} {enc : α → List Value} {T ST : TypeId} {k byt : Nat} (hi0 : (Tryz.prog.info? T).map (fun i => (i.zero.map (·.cells.size), i.size, i.bytes)) = some (some k, k, byt)) (hu : Tryz.prog.underlying ST = some (.slice T)) (hone : ∀ x, ∀ v ∈ enc x, v.oneCell' = true) (hlen : ∀ x, (enc x).length = k) (hk : 0 < k) (hby : byt ≤ 1000)
    {ops : Array Oper} {rest : List Oper} {o : Oper} {a : Act} {Q : Exit → Act → World → Prop} (w : World) (hgd : o.guard = none) (s x : Operand)
    (ho : o.op = .call { callee := .builtin .append, args := #[s, x], argTypes := #[ST, ST] }) (base : Nat) (v : Value) (n : Nat) (xs : List α) (e : α) (hn : xs.length = n) (g : Nat) (W : World) (hW : W = w.alloc (.cells (enc e).toArray T)) (hsg : w.heap.size = g) (hs : a.eval s = v) (hx : a.eval x = .slice (some ⟨g, 0, none⟩) 1 1)
    (hown : w.ownsRow base T k v n (xs.flatMap enc)) (hl : n ≤ 100000) (hb : base ≤ w.heap.size)
    (h : ∀ A' c' w', w'.ownsRow base T k (.slice A' (n + 1) c') (n + 1) ((xs ++ [e]).flatMap enc) → (w.alloc (.cells (enc e).toArray T)).grownBy w' v.ownBlock → wpList Tryz.prog ops Q rest (a.put o.dst (.slice A' (n + 1) c')) w') :
    wpList Tryz.prog ops Q (o :: rest) a W := by
  subst hW
  subst hn
  subst hsg
  obtain ⟨i0, hi, hi1⟩ := Option.map_eq_some_iff.1 hi0
  simp only [Prod.mk.injEq] at hi1
  obtain ⟨hz1, hz2, hz3⟩ := hi1
  obtain ⟨z0, hz, hz4⟩ := Option.map_eq_some_iff.1 hz1
  have hown' := own_ext hown ((Ext.refl w).alloc (.cells (enc e).toArray T))
  have hmul : (xs.length + 1) * byt ≤ 100001 * 1000 := Nat.mul_le_mul (by omega) hby
  refine wpList_append_own_at _ hgd s x _ ho base T i0 z0 k byt hu hi hz hz2 hz3 hz4 hk v xs.length _ hs hown' ⟨w.heap.size, 0, none⟩ 1 1 (enc e) hx (by rw [hlen]; simp) ?_ (hone e) (by unfold maxLen; omega) (by omega) (by simp; omega) ?_
  · intro j u hj
    have := (Blk.new w T (enc e).toArray).cell j
    rw [show (⟨w.heap.size, 0, none⟩ : Addr).add j = ⟨w.heap.size, j, none⟩ by simp [Addr.add]; omega, this]
    simpa using hj
  · intro v' w' h1 h2 _ _
    obtain ⟨A', c', rfl⟩ := own_slice h1
    exact h A' c' w' (by simpa using h1) h2
theorem infoGV : (Tryz.prog.info? 102).map (fun i => (i.zero.map (·.cells.size), i.size, i.bytes)) = some (some 3, 3, 24) := by kernel_rfl
theorem infoGE : (Tryz.prog.info? 62).map (fun i => (i.zero.map (·.cells.size), i.size, i.bytes)) = some (some 4, 4, 32) := by kernel_rfl
/-- what an append leaves in a loop that gathers -/
theorem app_step {α : Type} {enc : α → List Value} {wI wr w2 w' : World} {T k n : Nat} {v : Value} {xs : List α} (hx : Ext wI wr) (hown : wr.ownsRow wI.heap.size T k v n (xs.flatMap enc)) (hx2 : Ext wr w2) (hg : w2.grownBy w' v.ownBlock) : Ext wI w' :=
  (hx.trans hx2).grown hg (Nat.le_refl _) (own_ext hown hx2)

set_option maxRecDepth 100000 in
set_option maxHeartbeats 4000000 in
theorem from_any (A B : Option Addr) (V : List (Int × Thing)) (E : List ((Int × Int) × Thing)) (cA cB : Nat) (w : World) (hV : SlAt encV 3 w A V) (hE : SlAt encE 4 w B E) (hi : GInv V E) :
    Calls Tryz.prog 37 #[.agg #[.slice A V.length cA, .slice B E.length cB]] w fun e w' => ∃ g bv be, e = .returned (.pointer (some ⟨g, 0, none⟩)) ∧ IsG w' g bv be V E ∧ Ext w w' ∧ w.heap.size ≤ g ∧ w.heap.size ≤ bv ∧ w.heap.size ≤ be := by
  have hV' := hide hV
  have hE' := hide hE
  have hi' := hide hi
  have hlV := hi.nv
  have hlE := hi.ne
  clear hV hE hi
  go_enter Tryz.func37, Tryz.ntmps37
  go_wp2_with fail
  refine wp_abs (fun W => Ext w W ∧ Blk W w.heap.size 28 #[.slice A V.length cA, .slice B E.length cB]) ⟨ext_self1 _ _, Blk.new w _ _⟩ ?_
  rintro wI ⟨hxI, hbI⟩
  have q0 := hbI.cells 0 (v := .slice A V.length cA) rfl
  have q1 := hbI.cells 1 (v := .slice B E.length cB) rfl
  have hxI' := hide hxI
  clear hxI hbI
  go_loopw [3, 5] (fun l i wr => ∃ (k : Nat) (vs : Value), k ≤ V.length ∧ i = .int .i64 k ∧ vs = l ∧ wr.ownsRow wI.heap.size 102 3 vs k ((V.take k).flatMap encV) ∧ Ext wI wr) (fun _ i _ => V.length - (intOf i).toNat)
  case atStart => exact ⟨0, _, Nat.zero_le _, rfl, rfl, World.ownsRow_nil _ _ _ _, Ext.refl _⟩
  case round =>
    obtain ⟨k, vs, hk, rfl, hl3, hown, hx⟩ := hrel
    subst hl3
    have hown' := hide hown
    have hx' := hide hx
    clear hown
    by_cases hlt : k < V.length
    · obtain ⟨b, off, rfl, c0, c1, c2⟩ := atV ((unhide hV').ext ((unhide hxI').trans hx)) hlt
      have hst := List.take_succ_eq_append_getElem hlt
      generalize hy : V[k] = y at c0 c1 c2 hst
      obtain ⟨u, lab, wt⟩ := y
      have hst' := hide hst
      have hn' := hide (show k ≤ 100000 by omega)
      have hln := hide (show (V.take k).length = k by rw [List.length_take]; omega)
      clear hy hst
      simp only at c0 c1 c2
      go_wp2_with (at_builtin; refine wp_ap infoGV Tryz.underlying103 one_encV (fun _ => rfl) (by decide) (by decide) wr rfl _ _ rfl wI.heap.size vs k (V.take k) (u, (lab, wt)) (unhide hln) wr.heap.size _ (by rfl) rfl (by rfl) (by rfl) (unhide hown') (unhide hn') (Below.size (unhide hx')) ?_; intro A1 k1 w4 ho4 hg4; have hx4 := hide (app_step (unhide hx') (unhide hown') (ext_self1 _ _) hg4); have ho4' := hide ho4; clear ho4 hg4)
      go_roundw
      case rel => exact ⟨k + 1, _, by omega, by go_num, rfl, by have h := unhide ho4'; rw [unhide hst']; exact h, unhide hx4⟩
      case measure => simp [intOf]; omega
    · have hkV : k = V.length := by omega
      subst hkV
      rw [List.take_length] at hown'
      obtain ⟨A1, c1, rfl⟩ := own_slice (unhide hown')
      have hoV := hide (unhide hown')
      have hxV := hide hx
      have r1 := cell_ext (q1 wr hx)
      have r0 := q0 wr hx
      rename World => wV
      clear hown' hx' hx q0 q1
      go_wp2_with fail
      clear r0
      go_loopw [4, 6] (fun l i wr => ∃ (k : Nat) (vs : Value), k ≤ E.length ∧ i = .int .i64 k ∧ vs = l ∧ wr.ownsRow wV.heap.size 62 4 vs k ((E.take k).flatMap encE) ∧ Ext wV wr) (fun _ i _ => E.length - (intOf i).toNat)
      case atStart => exact ⟨0, _, Nat.zero_le _, rfl, rfl, World.ownsRow_nil _ _ _ _, Ext.refl _⟩
      case round =>
        obtain ⟨k, vs, hk, rfl, hl3, hown, hx⟩ := hrel
        subst hl3
        have hown' := hide hown
        have hx' := hide hx
        clear hown
        by_cases hlt : k < E.length
        · obtain ⟨b, off, rfl, c0, c1, c2, c3⟩ := atE ((unhide hE').ext (((unhide hxI').trans (unhide hxV)).trans hx)) hlt
          have hst := List.take_succ_eq_append_getElem hlt
          generalize hy : E[k] = y at c0 c1 c2 c3 hst
          obtain ⟨⟨u, v⟩, ⟨lab, wt⟩⟩ := y
          have hst' := hide hst
          have hn' := hide (show k ≤ 100000 by omega)
          have hln := hide (show (E.take k).length = k by rw [List.length_take]; omega)
          clear hy hst
          simp only at c0 c1 c2 c3
          go_wp2_with (at_builtin; refine wp_ap infoGE Tryz.underlying46 one_encE (fun _ => rfl) (by decide) (by decide) wr rfl _ _ rfl wV.heap.size vs k (E.take k) ((u, v), (lab, wt)) (unhide hln) wr.heap.size _ (by rfl) rfl (by rfl) (by rfl) (unhide hown') (unhide hn') (Below.size (unhide hx')) ?_; intro A1 k1 w4 ho4 hg4; have hx4 := hide (app_step (unhide hx') (unhide hown') (ext_self1 _ _) hg4); have ho4' := hide ho4; clear ho4 hg4)
          go_roundw
          case rel => exact ⟨k + 1, _, by omega, by go_num, rfl, by have h := unhide ho4'; rw [unhide hst']; exact h, unhide hx4⟩
          case measure => simp [intOf]; omega
        · have hkE : k = E.length := by omega
          subst hkE
          rw [List.take_length] at hown'
          obtain ⟨A2, c2, rfl⟩ := own_slice (unhide hown')
          have hinv := unhide hi'
          have hreb := rebuild hinv
          have hxIr := hide (((unhide hxI').trans (unhide hxV)).trans hx)
          have hsV := hide ((own_at (unhide hoV) (fun _ => rfl)).ext hx)
          have hsE := hide (own_at (unhide hown') (fun _ => rfl))
          have hoV' := hide hinv.okV
          have hoE' := hide hinv.okE
          have hr' := hide hreb
          have r1' := r1 wr hx
          clear hinv hreb hx hx' hown' hoV hxV r1
          go_wp2_with fail
          refine (build_any A1 A2 V E c1 c2 _ (unhide hsV) (unhide hsE) (unhide hoV') (unhide hoE') (by omega) (by omega)).mono ?_
          rintro e w5 (⟨-, g, bv, be, rfl, hg, hx5, n1, n2, n3⟩ | ⟨hbad, _⟩)
          · rw [(unhide hr').2] at hg
            have hg' := hide hg
            have hx5' := hide hx5
            have hn' := hide (And.intro n1 (And.intro n2 n3))
            clear hg hx5 n1 n2 n3
            go_wp2_with fail
            go_ret
            obtain ⟨n1, n2, n3⟩ := unhide hn'
            have hsz := Below.size (unhide hxIr)
            exact ⟨g, bv, be, rfl, unhide hg', (unhide hxIr).trans (unhide hx5'), by omega, by omega, by omega⟩
          · exact absurd (unhide hr').1 hbad
end Go.Proofs.YtjehhilijeajnaaGreatDoor
/- SLICES OF INTS IN MEMORY: read, appended to, two of them side by side. Conditions: see each theorem. -/
namespace Go.Proofs.YtjehhilijeajnaaGreatDoor
open Go Go.RowKit

def encI (n : Int) : List Value := [.int .i64 n]
theorem encI0 (x : Int) : ∃ u : Value, (encI x)[0]? = some u := ⟨_, rfl⟩
theorem encI_nu (x : Int) (m : Int) : (encI x)[0]? ≠ some (.int .u64 m) := by simp [encI]
theorem one_encI (x : Int) : ∀ v ∈ encI x, v.oneCell' = true := by
  intro v hv
  simp [encI] at hv
  subst hv
  rfl
theorem atI {w : World} {A : Option Addr} {L : List Int} (h : SlAt encI 1 w A L) {i : Nat} (hi : i < L.length) : ∃ b off, A = some ⟨b, off, none⟩ ∧ (∀ W, Ext w W → W.cell? ⟨b, off + i, none⟩ = some (.int .i64 L[i])) := by
  obtain ⟨b, off, hA, hc⟩ := h.at_ hi
  refine ⟨b, off, hA, ?_⟩
  have := hc 0 _ rfl
  simpa using this
theorem infoI : (Tryz.prog.info? 3).map (fun i => (i.zero.map (·.cells.size), i.size, i.bytes)) = some (some 1, 1, 8) := by kernel_rfl
/-- two slices of one's own that share no block -/
def apart2 (v1 v2 : Value) : Prop := ∀ g, v1.ownBlock = some g → v2.ownBlock ≠ some g
theorem apart2.symm {v1 v2 : Value} (h : apart2 v1 v2) : apart2 v2 v1 := fun g h1 h2 => h g h2 h1
theorem apart2_nil (A n c) : apart2 (.slice none 0 0) (.slice A n c) := fun g h => by cases h
/-- an append to one's own slice: it stays where it was or lies in new memory -/
theorem wp_ap2 {α : Type} {enc : α → List Value} {T ST : TypeId} {k byt : Nat} (hi0 : (Tryz.prog.info? T).map (fun i => (i.zero.map (·.cells.size), i.size, i.bytes)) = some (some k, k, byt)) (hu : Tryz.prog.underlying ST = some (.slice T)) (hone : ∀ x, ∀ v ∈ enc x, v.oneCell' = true) (hlen : ∀ x, (enc x).length = k) (hk : 0 < k) (hby : byt ≤ 1000)
    {ops : Array Oper} {rest : List Oper} {o : Oper} {a : Act} {Q : Exit → Act → World → Prop} (w : World) (hgd : o.guard = none) (s x : Operand)
    (ho : o.op = .call { callee := .builtin .append, args := #[s, x], argTypes := #[ST, ST] }) (base : Nat) (v : Value) (n : Nat) (xs : List α) (e : α) (hn : xs.length = n) (g : Nat) (W : World) (hW : W = w.alloc (.cells (enc e).toArray T)) (hsg : w.heap.size = g) (hs : a.eval s = v) (hx : a.eval x = .slice (some ⟨g, 0, none⟩) 1 1)
    (hown : w.ownsRow base T k v n (xs.flatMap enc)) (hl : n ≤ 100000) (hb : base ≤ w.heap.size)
    (h : ∀ A' c' w', w'.ownsRow base T k (.slice A' (n + 1) c') (n + 1) ((xs ++ [e]).flatMap enc) → (w.alloc (.cells (enc e).toArray T)).grownBy w' v.ownBlock → (Value.ownBlock (.slice A' (n + 1) c') = v.ownBlock ∨ Value.ownBlock (.slice A' (n + 1) c') = some (w.heap.size + 1)) → wpList Tryz.prog ops Q rest (a.put o.dst (.slice A' (n + 1) c')) w') :
    wpList Tryz.prog ops Q (o :: rest) a W := by
  subst hW
  subst hn
  subst hsg
  obtain ⟨i0, hi, hi1⟩ := Option.map_eq_some_iff.1 hi0
  simp only [Prod.mk.injEq] at hi1
  obtain ⟨hz1, hz2, hz3⟩ := hi1
  obtain ⟨z0, hz, hz4⟩ := Option.map_eq_some_iff.1 hz1
  have hown' := own_ext hown ((Ext.refl w).alloc (.cells (enc e).toArray T))
  have hmul : (xs.length + 1) * byt ≤ 100001 * 1000 := Nat.mul_le_mul (by omega) hby
  refine wpList_append_own_at _ hgd s x _ ho base T i0 z0 k byt hu hi hz hz2 hz3 hz4 hk v xs.length _ hs hown' ⟨w.heap.size, 0, none⟩ 1 1 (enc e) hx (by rw [hlen]; simp) ?_ (hone e) (by unfold maxLen; omega) (by omega) (by simp; omega) ?_
  · intro j u hj
    have := (Blk.new w T (enc e).toArray).cell j
    rw [show (⟨w.heap.size, 0, none⟩ : Addr).add j = ⟨w.heap.size, j, none⟩ by simp [Addr.add]; omega, this]
    simpa using hj
  · intro v' w' h1 h2 _ h4
    obtain ⟨A', c', rfl⟩ := own_slice h1
    exact h A' c' w' (by simpa using h1) h2 (by simpa using h4)
/-- what an append to the one does to the other -/
theorem rows2 {wr w2 w' : World} {b1 b2 T1 T2 k1 k2 n1 n2 : Nat} {v1 v1' v2 : Value} {xs1 xs2 : List Value} {o : Obj} (h2 : wr.ownsRow b2 T2 k2 v2 n2 xs2) (ha : apart2 v1 v2) (hx : Ext wr w2) (hg : (w2.alloc o).grownBy w' v1.ownBlock) (hv : v1'.ownBlock = v1.ownBlock ∨ v1'.ownBlock = some (w2.heap.size + 1))
    (_h1 : wr.ownsRow b1 T1 k1 v1 n1 xs1) : w'.ownsRow b2 T2 k2 v2 n2 xs2 ∧ apart2 v1' v2 := by
  have h22 := own_ext h2 (hx.trans (ext_self1 _ o))
  have hk : Keep v1.ownBlock.toList (w2.alloc o) w' := ⟨hg.os, hg.tape, hg.output, hg.size, fun i hi hne => hg.block i hi (by
    intro e
    rw [← e] at hne
    simp at hne)⟩
  refine ⟨own_keep h22 hk fun g hgm e => ?_, fun g h1 e => ?_⟩
  · exact ha g (by simpa using hgm) e
  · rcases hv with hv | hv
    · exact ha g (hv ▸ h1) e
    · rw [hv] at h1
      injection h1 with h1
      have := (own_base h2 e).2.1
      have hs := Below.size hx
      omega
theorem app_step2 {α : Type} {enc : α → List Value} {wI wr w2 w' : World} {base T k n : Nat} {v : Value} {xs : List α} (hx : Ext wI wr) (hown : wr.ownsRow base T k v n (xs.flatMap enc)) (hx2 : Ext wr w2) (hg : w2.grownBy w' v.ownBlock) (hb : wI.heap.size ≤ base) : Ext wI w' :=
  (hx.trans hx2).grown hg hb (own_ext hown hx2)
theorem own_base_le {w : World} {b b' T k n : Nat} {v : Value} {xs : List Value} (h : w.ownsRow b T k v n xs) (hb : b' ≤ b) : w.ownsRow b' T k v n xs :=
  ⟨h.1, h.2.imp id fun ⟨g, cap, cur, e, hg, r⟩ => ⟨g, cap, cur, e, Nat.le_trans hb hg, r⟩⟩
end Go.Proofs.YtjehhilijeajnaaGreatDoor
/- bitset.Of. Conditions: see each theorem. -/
namespace Go.Proofs.YtjehhilijeajnaaGreatDoor
open Go Go.RowKit
attribute [local go_sem] qUpon lUpon

set_option maxRecDepth 100000 in
set_option maxHeartbeats 4000000 in
theorem of_any (A : Option Addr) (L : List Int) (cL : Nat) (w : World) (hL : SlAt encI 1 w A L) (hl : L.length ≤ 4611686018427387904) :
    Calls Tryz.prog 68 #[.slice A L.length cL] w fun e w' => e = .returned (.agg (setC (fromS L))) ∧ Ext w w' := by
  have hL' := hide hL
  have hB2 := hide ((Blk.new w 56 (setC 0)).ext (ext_self1 _ (.cells (setC 0) 56)))
  have hB3 := hide (Blk.new (w.alloc (.cells (setC 0) 56)) 56 (setC 0))
  have hx1 := hide (ext_self2 w (.cells (setC 0) 56) (.cells (setC 0) 56))
  simp only [World.size_alloc] at hB3
  clear hL
  go_enter Tryz.func68, Tryz.ntmps68
  go_wp2_with fail
  have hz : setC 0 = #[.int .u64 0, .int .u64 0, .int .u64 0, .int .u64 0, .int .u64 0, .int .u64 0, .int .u64 0, .int .u64 0, .int .u64 0, .int .u64 0, .int .u64 0, .int .u64 0, .int .u64 0, .int .u64 0, .int .u64 0, .int .u64 0] := rfl
  rw [hz] at hx1 hB2 hB3
  generalize (w.alloc (.cells #[.int .u64 0, .int .u64 0, .int .u64 0, .int .u64 0, .int .u64 0, .int .u64 0, .int .u64 0, .int .u64 0, .int .u64 0, .int .u64 0, .int .u64 0, .int .u64 0, .int .u64 0, .int .u64 0, .int .u64 0, .int .u64 0] 56)).alloc (.cells #[.int .u64 0, .int .u64 0, .int .u64 0, .int .u64 0, .int .u64 0, .int .u64 0, .int .u64 0, .int .u64 0, .int .u64 0, .int .u64 0, .int .u64 0, .int .u64 0, .int .u64 0, .int .u64 0, .int .u64 0, .int .u64 0] 56) = W1 at *
  rw [← hz] at hB2 hB3
  clear hz
  go_loopw [8] (fun i wr => ∃ k : Nat, k ≤ L.length ∧ i = .int .i64 k ∧ Blk wr w.heap.size 56 (setC 0) ∧ Blk wr (w.heap.size + 1) 56 (setC (fromS (L.take k))) ∧ Ext w wr) (fun i _ => L.length - (intOf i).toNat)
  case atStart => exact ⟨0, Nat.zero_le _, rfl, unhide hB2, by rw [List.take_zero]; exact unhide hB3, unhide hx1⟩
  case round =>
    obtain ⟨k, hk, rfl, hB, hC, hx⟩ := hrel
    have hB' := hide hB
    have hC' := hide hC
    have hx' := hide hx
    clear hB2 hB3 hx1
    by_cases hlt : k < L.length
    · have hLr := (unhide hL').ext hx
      obtain ⟨b, off, rfl, c0⟩ := atI hLr hlt
      have hst := hide (fromS_next L k hlt)
      generalize L[k] = x at c0 hst
      have hself := Ext.refl wr
      clear hB hC hx hLr
      try dsimp only
      repeat (first | (with_reducible refine wp_reg (id := 5) ?_) | go_values | go_step | go_guarded | go_upon | go_in | go_back | fail)
      refine wpO_val rfl (load_SetR (N := fromS (L.take k)) rfl rfl (unhide hC').whole) ?_
      refine wpO_want rfl ?_
      go_simp
      refine wpO_want rfl ?_
      go_simp
      refine (with_any (fromS (L.take k)) x wr).mono ?_
      rintro e W7 ⟨rfl, hx7⟩
      refine ⟨_, rfl, ?_⟩
      have hC7 := (unhide hC').ext hx7
      refine wpO_skip rfl (store_SetR (N := withS (fromS (L.take k)) x) rfl rfl rfl hC7) (wpO_done ?_)
      rw [← unhide hst]
      have hC8 := hide (hC7.row (setC (fromS (L.take (k + 1)))))
      have hB8 := hide (((unhide hB').ext hx7).keep (Keep.setRow W7 (w.heap.size + 1) (setC (fromS (L.take (k + 1))))) (by simp))
      have hx8 := hide (((unhide hx').trans hx7).of_new (Keep.setRow W7 (w.heap.size + 1) (setC (fromS (L.take (k + 1))))) (by simp))
      clear hB' hC' hx' hx7 hC7 c0 hself
      generalize W7.setRow (w.heap.size + 1) (setC (fromS (L.take (k + 1)))) = W8 at *
      go_wp2_with fail
      go_roundw
      case rel => exact ⟨k + 1, by omega, by go_num, unhide hB8, unhide hC8, unhide hx8⟩
      case measure => simp [intOf]; omega
    · have hke : k = L.length := by omega
      subst hke
      rw [List.take_length] at hC'
      clear hB hC hx
      try dsimp only
      repeat (first | (with_reducible refine wp_reg (id := 7) ?_) | go_values | go_step | go_guarded | go_upon | go_in | go_back | fail)
      refine wpO_val rfl (load_SetR (N := fromS L) rfl rfl (unhide hC').whole) ?_
      refine wpO_skip rfl (store_SetR (N := fromS L) rfl rfl rfl (unhide hB')) (wpO_done ?_)
      go_wp2_with fail
      refine bodyPost_ret (ret_cell1 rfl rfl (load_Set _ w.heap.size (fromS L) ((unhide hB').row _))) rfl ?_
      exact ⟨rfl, (unhide hx').of_new (Keep.setRow wr w.heap.size _) (by simp)⟩
end Go.Proofs.YtjehhilijeajnaaGreatDoor
/- graph.Len. Conditions: see each theorem. -/
namespace Go.Proofs.YtjehhilijeajnaaGreatDoor
open Go Go.RowKit
attribute [local go_sem] qUpon lUpon

theorem len_any (g bv be : Nat) (V : List (Int × Thing)) (E : List ((Int × Int) × Thing)) (w : World) (hg : GraphAt w g bv be V E) :
    Calls Tryz.prog 67 #[.pointer (some ⟨g, 0, none⟩)] w fun e w' => e = .returned (.tuple #[.int .i64 V.length, .int .i64 E.length]) ∧ Ext w w' := by
  have d0 := hg.ptr0
  have d1 := hg.ptr1
  have l0 := fun (W : World) (hW : Ext w W) => (hg.vs.ext hW).len Tryz.underlying118
  have l1 := fun (W : World) (hW : Ext w W) => (hg.es.ext hW).len Tryz.underlying122
  clear hg
  go_enter Tryz.func67, Tryz.ntmps67
  go_wp2
  refine wp_region_still (P := Tryz.prog) [0,1,2,3,4,5,6,7,8,9,10,11] [] 0 #[true,true,true,true,true,true,true,true,true,true,true,true] (by kernel_rfl) (by kernel_rfl) rfl (by rfl) ?_
  iterate 12
    refine ql_want (v := ?_) rfl (by rfl) (fun W hW => ?_) ?_
    rotate_left
    · go_simp
      first | done | rfl | (fail)
    go_frame

  refine wpQL_nil (fun w2 hx2 => ?_)
  refine wpX_done (by kernel_rfl) ?_
  try go_frame
  go_wp2
  go_ret2
  exact ⟨rfl, hx2⟩

end Go.Proofs.YtjehhilijeajnaaGreatDoor
/- SETS OF A GRAPH: Neighbors. Conditions: see each theorem. -/
namespace Go.Proofs.YtjehhilijeajnaaGreatDoor
open Go Go.RowKit
attribute [local go_sem] qUpon lUpon

/-- the set of the neighbours in a list of edges -/
def nearF (id : Int) (a : Nat) (e : (Int × Int) × Thing) : Nat := if id = e.1.1 then withS a e.1.2 else if id = e.1.2 then withS a e.1.1 else a
def nearS (id : Int) (E : List ((Int × Int) × Thing)) : Nat := E.foldl (nearF id) 0
theorem nearS_next (id : Int) (E : List ((Int × Int) × Thing)) (k : Nat) (h : k < E.length) : nearS id (E.take (k + 1)) = nearF id (nearS id (E.take k)) E[k] := by
  unfold nearS
  rw [List.take_succ_eq_append_getElem h, List.foldl_append, List.foldl_cons, List.foldl_nil]

set_option maxRecDepth 100000 in
set_option maxHeartbeats 8000000 in
theorem near_gen (g : Value) (id : Int) (E : List ((Int × Int) × Thing)) (w : World) (hl : E.length ≤ 4096) (hL : ∀ W, Ext w W → Calls Tryz.prog 57 #[g] W fun e w' => ∃ A c, e = .returned (.slice A E.length c) ∧ SlAt encE 4 w' A E ∧ Ext W w') :
    Calls Tryz.prog 73 #[g, .int .i64 id] w fun e w' => e = .returned (.agg (setC (nearS id E))) ∧ Ext w w' := by
  have hB0 := hide (Blk.new w 56 (setC 0))
  have hL' := hide hL
  clear hL
  go_enter Tryz.func73, Tryz.ntmps73
  go_wp2_with fail
  have hx1 := hide ((ext_self1 w (.cells (setC 0) 56)).trans (ext_self1 _ (.cells (setC 0) 56)))
  have hB2 := hide ((unhide hB0).ext (ext_self1 (w.alloc (.cells (setC 0) 56)) (.cells (setC 0) 56)))
  have hB4 := hide (Blk.new (w.alloc (.cells (setC 0) 56)) 56 (setC 0))
  have hs : (w.alloc (.cells (setC 0) 56)).heap.size = w.heap.size + 1 := World.size_alloc _ _
  rw [hs] at hB4
  clear hs hB0
  have hz : setC 0 = #[.int .u64 0, .int .u64 0, .int .u64 0, .int .u64 0, .int .u64 0, .int .u64 0, .int .u64 0, .int .u64 0, .int .u64 0, .int .u64 0, .int .u64 0, .int .u64 0, .int .u64 0, .int .u64 0, .int .u64 0, .int .u64 0] := rfl
  rw [hz] at hx1 hB2 hB4
  generalize (w.alloc (.cells #[.int .u64 0, .int .u64 0, .int .u64 0, .int .u64 0, .int .u64 0, .int .u64 0, .int .u64 0, .int .u64 0, .int .u64 0, .int .u64 0, .int .u64 0, .int .u64 0, .int .u64 0, .int .u64 0, .int .u64 0, .int .u64 0] 56)).alloc (.cells #[.int .u64 0, .int .u64 0, .int .u64 0, .int .u64 0, .int .u64 0, .int .u64 0, .int .u64 0, .int .u64 0, .int .u64 0, .int .u64 0, .int .u64 0, .int .u64 0, .int .u64 0, .int .u64 0, .int .u64 0, .int .u64 0] 56) = W1 at *
  rw [← hz] at hB4 hB2
  clear hz
  generalize hb4e : w.heap.size + 1 = b4 at *
  generalize hb2e : w.heap.size = b2 at *
  refine (unhide hL' _ (unhide hx1)).mono ?_
  rintro e w2 ⟨A, c, rfl, hs2, hx2⟩
  have hB2' := hide ((unhide hB2).ext hx2)
  have hB4' := hide ((unhide hB4).ext hx2)
  have hx2' := hide ((unhide hx1).trans hx2)
  have hs2' := hide hs2
  clear hx1 hx2 hB2 hB4 hs2 hL'
  go_wp2_with fail
  go_loopw [11] (fun i wr => ∃ k : Nat, k ≤ E.length ∧ i = .int .i64 k ∧ Blk wr b4 56 (setC (nearS id (E.take k))) ∧ Blk wr b2 56 (setC 0) ∧ SlAt encE 4 wr A E ∧ Ext w wr) (fun i _ => E.length - (intOf i).toNat)
  case atStart => exact ⟨0, Nat.zero_le _, rfl, unhide hB4', unhide hB2', unhide hs2', unhide hx2'⟩
  case round =>
    obtain ⟨k, hk, rfl, hB, hA, hs, hx⟩ := hrel
    have hB' := hide hB
    have hA' := hide hA
    have hs' := hide hs
    have hx' := hide hx
    clear hB4' hB2' hx2' hs2' hB hA hs hx
    by_cases hlt : k < E.length
    · have hB := unhide hB'
      obtain ⟨bb, off, rfl, c0, c1, c2, c3⟩ := atE (unhide hs') hlt
      have hn' := hide (nearS_next id E k hlt)
      generalize E[k] = y at c0 c1 c2 c3 hn'
      obtain ⟨⟨u, v⟩, ⟨lab, wt⟩⟩ := y
      generalize nearS id (E.take k) = N at hB hB' hn'
      simp only at c0 c1 c2 c3
      have hself := Ext.refl wr
      have e0 := hB.cells 0 (v := .int .u64 (wd N 0)) rfl
      have e1 := hB.cells 1 (v := .int .u64 (wd N 1)) rfl
      have e2 := hB.cells 2 (v := .int .u64 (wd N 2)) rfl
      have e3 := hB.cells 3 (v := .int .u64 (wd N 3)) rfl
      have e4 := hB.cells 4 (v := .int .u64 (wd N 4)) rfl
      have e5 := hB.cells 5 (v := .int .u64 (wd N 5)) rfl
      have e6 := hB.cells 6 (v := .int .u64 (wd N 6)) rfl
      have e7 := hB.cells 7 (v := .int .u64 (wd N 7)) rfl
      have e8 := hB.cells 8 (v := .int .u64 (wd N 8)) rfl
      have e9 := hB.cells 9 (v := .int .u64 (wd N 9)) rfl
      have e10 := hB.cells 10 (v := .int .u64 (wd N 10)) rfl
      have e11 := hB.cells 11 (v := .int .u64 (wd N 11)) rfl
      have e12 := hB.cells 12 (v := .int .u64 (wd N 12)) rfl
      have e13 := hB.cells 13 (v := .int .u64 (wd N 13)) rfl
      have e14 := hB.cells 14 (v := .int .u64 (wd N 14)) rfl
      have e15 := hB.cells 15 (v := .int .u64 (wd N 15)) rfl
      clear hB
      by_cases h1 : id = u
      · subst h1
        have hn2 := hide (show nearF id N ((id, v), (lab, wt)) = withS N v by simp [nearF])
        go_wp2_with fail
        refine (with_any N v _).mono ?_
        rintro e w5 ⟨rfl, hx5⟩
        have hxx := hide ((ext_self1 wr (.cells #[.int .i64 id, .int .i64 v, .int .u8 lab, .int .i64 wt] 62)).trans hx5)
        have hB5 := (unhide hB').ext (unhide hxx)
        have hA5 := hide ((unhide hA').ext (unhide hxx))
        have hs5 := hide ((unhide hs').ext (unhide hxx))
        have hx6 := hide ((unhide hx').trans (unhide hxx))
        have hself5 := Ext.refl w5
        clear hx5 hB' hA' hs' hx' e0 e1 e2 e3 e4 e5 e6 e7 e8 e9 e10 e11 e12 e13 e14 e15 hself hxx c0 c1 c2 c3
        have hst := store_Set (withS N v) hB5
        have hB5' := hide hB5
        clear hB5
        go_wp2_with fail
        go_roundw
        case rel => exact ⟨k + 1, by omega, by go_num, by rw [unhide hn', unhide hn2]; exact Blk.putS _ (unhide hB5'), (unhide hA5).keep (Keep.putS w5 b4 _) (by simp; omega), (unhide hs5).keep_S (unhide hB5') encE_nu encE0 (Keep.putS w5 b4 _), (unhide hx6).of_new (Keep.putS w5 b4 _) (by simp; omega)⟩
        case measure => simp [intOf]; omega
      · have h1b : (id == u) = false := by simpa using h1
        by_cases h2 : id = v
        · subst h2
          have hn2 := hide (show nearF id N ((u, id), (lab, wt)) = withS N u by simp [nearF, h1])
          go_wp2_with fail
          refine (with_any N u _).mono ?_
          rintro e w5 ⟨rfl, hx5⟩
          have hxx := hide ((ext_self1 wr (.cells #[.int .i64 u, .int .i64 id, .int .u8 lab, .int .i64 wt] 62)).trans hx5)
          have hB5 := (unhide hB').ext (unhide hxx)
          have hA5 := hide ((unhide hA').ext (unhide hxx))
          have hs5 := hide ((unhide hs').ext (unhide hxx))
          have hx6 := hide ((unhide hx').trans (unhide hxx))
          have hself5 := Ext.refl w5
          clear hx5 hB' hA' hs' hx' e0 e1 e2 e3 e4 e5 e6 e7 e8 e9 e10 e11 e12 e13 e14 e15 hself hxx c0 c1 c2 c3
          have hst := store_Set (withS N u) hB5
          have hB5' := hide hB5
          clear hB5
          go_wp2_with fail
          go_roundw
          case rel => exact ⟨k + 1, by omega, by go_num, by rw [unhide hn', unhide hn2]; exact Blk.putS _ (unhide hB5'), (unhide hA5).keep (Keep.putS w5 b4 _) (by simp; omega), (unhide hs5).keep_S (unhide hB5') encE_nu encE0 (Keep.putS w5 b4 _), (unhide hx6).of_new (Keep.putS w5 b4 _) (by simp; omega)⟩
          case measure => simp [intOf]; omega
        · have h2b : (id == v) = false := by simpa using h2
          have hn2 := hide (show nearF id N ((u, v), (lab, wt)) = N by simp [nearF, h1, h2])
          clear e0 e1 e2 e3 e4 e5 e6 e7 e8 e9 e10 e11 e12 e13 e14 e15
          have hxx := hide (ext_self1 wr (.cells #[.int .i64 u, .int .i64 v, .int .u8 lab, .int .i64 wt] 62))
          go_wp2_with fail
          go_roundw
          case rel => exact ⟨k + 1, by omega, by go_num, by rw [unhide hn', unhide hn2]; exact (unhide hB').ext (unhide hxx), (unhide hA').ext (unhide hxx), (unhide hs').ext (unhide hxx), (unhide hx').trans (unhide hxx)⟩
          case measure => simp [intOf]; omega
    · have hke : k = E.length := by omega
      have hB := unhide hB'
      have hA := unhide hA'
      rw [hke, List.take_length] at hB hB'
      have hself := Ext.refl wr
      clear hlt
      obtain ⟨N, hN⟩ : ∃ N, nearS id E = N := ⟨_, rfl⟩
      rw [hN] at hB hB'
      have hN' := hide hN
      clear hN
      have e0 := hB.cells 0 (v := .int .u64 (wd N 0)) rfl
      have e1 := hB.cells 1 (v := .int .u64 (wd N 1)) rfl
      have e2 := hB.cells 2 (v := .int .u64 (wd N 2)) rfl
      have e3 := hB.cells 3 (v := .int .u64 (wd N 3)) rfl
      have e4 := hB.cells 4 (v := .int .u64 (wd N 4)) rfl
      have e5 := hB.cells 5 (v := .int .u64 (wd N 5)) rfl
      have e6 := hB.cells 6 (v := .int .u64 (wd N 6)) rfl
      have e7 := hB.cells 7 (v := .int .u64 (wd N 7)) rfl
      have e8 := hB.cells 8 (v := .int .u64 (wd N 8)) rfl
      have e9 := hB.cells 9 (v := .int .u64 (wd N 9)) rfl
      have e10 := hB.cells 10 (v := .int .u64 (wd N 10)) rfl
      have e11 := hB.cells 11 (v := .int .u64 (wd N 11)) rfl
      have e12 := hB.cells 12 (v := .int .u64 (wd N 12)) rfl
      have e13 := hB.cells 13 (v := .int .u64 (wd N 13)) rfl
      have e14 := hB.cells 14 (v := .int .u64 (wd N 14)) rfl
      have e15 := hB.cells 15 (v := .int .u64 (wd N 15)) rfl
      have g0 := hA.frozen 0
      have g1 := hA.frozen 1
      have g2 := hA.frozen 2
      have g3 := hA.frozen 3
      have g4 := hA.frozen 4
      have g5 := hA.frozen 5
      have g6 := hA.frozen 6
      have g7 := hA.frozen 7
      have g8 := hA.frozen 8
      have g9 := hA.frozen 9
      have g10 := hA.frozen 10
      have g11 := hA.frozen 11
      have g12 := hA.frozen 12
      have g13 := hA.frozen 13
      have g14 := hA.frozen 14
      have g15 := hA.frozen 15
      have z0 := hA.cells 0 (v := .int .u64 (wd 0 0)) rfl
      have z1 := hA.cells 1 (v := .int .u64 (wd 0 1)) rfl
      have z2 := hA.cells 2 (v := .int .u64 (wd 0 2)) rfl
      have z3 := hA.cells 3 (v := .int .u64 (wd 0 3)) rfl
      have z4 := hA.cells 4 (v := .int .u64 (wd 0 4)) rfl
      have z5 := hA.cells 5 (v := .int .u64 (wd 0 5)) rfl
      have z6 := hA.cells 6 (v := .int .u64 (wd 0 6)) rfl
      have z7 := hA.cells 7 (v := .int .u64 (wd 0 7)) rfl
      have z8 := hA.cells 8 (v := .int .u64 (wd 0 8)) rfl
      have z9 := hA.cells 9 (v := .int .u64 (wd 0 9)) rfl
      have z10 := hA.cells 10 (v := .int .u64 (wd 0 10)) rfl
      have z11 := hA.cells 11 (v := .int .u64 (wd 0 11)) rfl
      have z12 := hA.cells 12 (v := .int .u64 (wd 0 12)) rfl
      have z13 := hA.cells 13 (v := .int .u64 (wd 0 13)) rfl
      have z14 := hA.cells 14 (v := .int .u64 (wd 0 14)) rfl
      have z15 := hA.cells 15 (v := .int .u64 (wd 0 15)) rfl
      clear hB hA
      go_wp2_with fail
      refine bodyPost_ret (ret_cell1 rfl rfl (load_Set _ b2 N (Blk.set16 N (unhide hA')))) rfl ?_
      exact ⟨by rw [unhide hN'], (unhide hx').of_new (Keep.set16 wr b2 N) (by simp; omega)⟩
end Go.Proofs.YtjehhilijeajnaaGreatDoor
/- graph.Vertices, graph.Edges by a graph's sorted lists. Conditions: see each theorem. -/
namespace Go.Proofs.YtjehhilijeajnaaGreatDoor
open Go Go.RowKit

theorem vertices_rel (g bv be : Nat) (V : List (Int × Thing)) (E : List ((Int × Int) × Thing)) (w : World) (hg : IsG w g bv be V E) :
    Calls Tryz.prog 56 #[.pointer (some ⟨g, 0, none⟩)] w fun e w' => ∃ A c, e = .returned (.slice A V.length c) ∧ w'.ownsRow w.heap.size 102 3 (.slice A V.length c) V.length (V.flatMap encV) ∧ Ext w w' := by
  have n1 := hg.nV
  obtain ⟨V', E', h1, hV, hE, hi⟩ := hg
  refine (vertices_any g bv be V' E' V w h1 hV hi.sv (by rw [← hV.length_eq]; exact n1)).mono fun e w' ⟨v, he, ho, hx⟩ => ?_
  obtain ⟨A, c, rfl⟩ := own_slice ho
  exact ⟨A, c, he, ho, hx⟩
theorem edges_rel (g bv be : Nat) (V : List (Int × Thing)) (E : List ((Int × Int) × Thing)) (w : World) (hg : IsG w g bv be V E) :
    Calls Tryz.prog 57 #[.pointer (some ⟨g, 0, none⟩)] w fun e w' => ∃ A c, e = .returned (.slice A E.length c) ∧ w'.ownsRow w.heap.size 62 4 (.slice A E.length c) E.length (E.flatMap encE) ∧ Ext w w' := by
  have n1 := hg.nE
  obtain ⟨V', E', h1, hV, hE, hi⟩ := hg
  refine (edges_any g bv be V' E' E w h1 hE hi.se (by rw [← hE.length_eq]; exact n1)).mono fun e w' ⟨v, he, ho, hx⟩ => ?_
  obtain ⟨A, c, rfl⟩ := own_slice ho
  exact ⟨A, c, he, ho, hx⟩

end Go.Proofs.YtjehhilijeajnaaGreatDoor
/- A GRAPH's QUERIES by its sorted lists: Len, VertexSet, Neighbors. Conditions: see each theorem. -/
namespace Go.Proofs.YtjehhilijeajnaaGreatDoor
open Go Go.RowKit

theorem len_rel (g bv be : Nat) (V : List (Int × Thing)) (E : List ((Int × Int) × Thing)) (w : World) (hg : IsG w g bv be V E) : Calls Tryz.prog 67 #[.pointer (some ⟨g, 0, none⟩)] w fun e w' => e = .returned (.tuple #[.int .i64 V.length, .int .i64 E.length]) ∧ Ext w w' := by
  obtain ⟨V', E', h1, hV, hE, hi⟩ := hg
  rw [hV.length_eq, hE.length_eq]
  exact len_any g bv be V' E' w h1
theorem near_rel (g bv be : Nat) (V : List (Int × Thing)) (E : List ((Int × Int) × Thing)) (id : Int) (w : World) (hg : IsG w g bv be V E) : Calls Tryz.prog 73 #[.pointer (some ⟨g, 0, none⟩), .int .i64 id] w fun e w' => e = .returned (.agg (setC (nearS id E))) ∧ Ext w w' :=
  near_gen _ id E w hg.nE fun W hW => (edges_rel g bv be V E W (hg.ext hW)).mono fun e w' h => by
    obtain ⟨A, c, he, ho, hx⟩ := h
    exact ⟨A, c, he, own_at ho (fun _ => rfl), hx⟩
theorem vset_rel (g bv be : Nat) (V : List (Int × Thing)) (E : List ((Int × Int) × Thing)) (w : World) (hg : IsG w g bv be V E) : Calls Tryz.prog 69 #[.pointer (some ⟨g, 0, none⟩)] w fun e w' => e = .returned (.agg (setC (vS V))) ∧ Ext w w' :=
  vset_gen _ V w hg.nV fun W hW => (vertices_rel g bv be V E W (hg.ext hW)).mono fun e w' h => by
    obtain ⟨A, c, he, ho, hx⟩ := h
    exact ⟨A, c, he, own_at ho (fun _ => rfl), hx⟩
end Go.Proofs.YtjehhilijeajnaaGreatDoor
/- TWO EQUAL SETS COMPARED. Conditions: see each theorem. -/
namespace Go.Proofs.YtjehhilijeajnaaGreatDoor
open Go Go.RowKit

theorem items_same {P : Program} (w : World) (d : Nat) (e : TypeId) (he : P.underlying e = some (.int .u64)) (xs : Array Value) (h : ∀ i, i < 16 → ∃ m, xs[i]? = some (.int .u64 m)) :
    ∀ is : List Nat, (∀ i ∈ is, i < 16) → (Op.eqItems (d + 1) e 1 xs xs is).run P w = .ok true w
  | [], _ => by simp [Op.eqItems]
  | i :: is, hi => by
    obtain ⟨m, hm⟩ := h i (hi i (by simp))
    have px : (part e xs (i * 1)).run P w = .ok (.int .u64 m) w := by
      simp [part, isAgg, run_underlying he, hm]
    have pe : (Op.equalIn (d + 1) e (.int .u64 m) (.int .u64 m)).run P w = .ok true w := by
      rw [run_equalIn_int w d e .u64 .u64 _ _ he]
      simp
    simp only [Op.eqItems, Sem.run_bind, px, pe, Result.andThen_ok, Bool.not_true, Bool.false_eq_true, if_false]
    exact items_same w d e he xs h is (fun j hj => hi j (by simp [hj]))
set_option maxRecDepth 100000 in
theorem eq_Set (w : World) (N : Nat) : (Op.equalIn 10000 56 (.agg (setC N)) (.agg (setC N))).run Tryz.prog w = .ok true w := by
  have hc : Tryz.prog.cellsOf 54 = 1 := by kernel_rfl
  obtain ⟨i, hi⟩ : ∃ i, Tryz.prog.info? 54 = some i := ⟨_, rfl⟩
  have h := run_equalIn_array w 9999 (setC N) (setC N) Tryz.underlying56 hi
  rw [hc] at h
  exact h.trans (items_same w 9998 54 Tryz.underlying54 (setC N) (fun i hi => ⟨_, setC_get N hi⟩) (List.range 16) (fun i hi => List.mem_range.1 hi))
theorem eq_Set0 (w : World) : (Op.equalIn 10000 56 (.agg #[.int .u64 0, .int .u64 0, .int .u64 0, .int .u64 0, .int .u64 0, .int .u64 0, .int .u64 0, .int .u64 0, .int .u64 0, .int .u64 0, .int .u64 0, .int .u64 0, .int .u64 0, .int .u64 0, .int .u64 0, .int .u64 0]) (.agg #[.int .u64 0, .int .u64 0, .int .u64 0, .int .u64 0, .int .u64 0, .int .u64 0, .int .u64 0, .int .u64 0, .int .u64 0, .int .u64 0, .int .u64 0, .int .u64 0, .int .u64 0, .int .u64 0, .int .u64 0, .int .u64 0])).run Tryz.prog w = .ok true w := eq_Set w 0
end Go.Proofs.YtjehhilijeajnaaGreatDoor
/- TWO SETS COMPARED. Conditions: see each theorem. -/
namespace Go.Proofs.YtjehhilijeajnaaGreatDoor
open Go Go.RowKit

/-- the comparison, word by word -/
def eqW (N M : Nat) (is : List Nat) : Bool := is.all fun i => decide (wdN N i = wdN M i)
def eqS (N M : Nat) : Bool := eqW N M (List.range 16)
theorem eqS_iff {N M : Nat} : eqS N M = true ↔ ∀ k, k < 1024 → N.testBit k = M.testBit k := by
  unfold eqS eqW
  rw [List.all_eq_true]
  simp only [List.mem_range, decide_eq_true_eq]
  constructor
  · intro h k hk
    have h1 := h (k / 64) (by omega)
    have h2 := congrArg (fun x => x.testBit (k % 64)) h1
    simp only [wdN_bit] at h2
    rw [show 64 * (k / 64) + k % 64 = k by omega] at h2
    have h3 : decide (k % 64 < 64) = true := by simp; omega
    simpa [h3] using h2
  · intro h i hi
    apply Nat.eq_of_testBit_eq
    intro k
    rw [wdN_bit, wdN_bit]
    by_cases hk : k < 64
    · rw [h (64 * i + k) (by omega)]
    · simp [hk]
theorem eqS_lt {N M K : Nat} (hK : K = 1024) (hN : N < 2 ^ K) (hM : M < 2 ^ K) : eqS N M = decide (N = M) := by
  rw [Bool.eq_iff_iff, eqS_iff, decide_eq_true_eq]
  constructor
  · intro h
    apply Nat.eq_of_testBit_eq
    intro k
    by_cases hk : k < 1024
    · exact h k hk
    · rw [Nat.testBit_lt_two_pow (Nat.lt_of_lt_of_le hN (Nat.pow_le_pow_right (by decide) (by omega))), Nat.testBit_lt_two_pow (Nat.lt_of_lt_of_le hM (Nat.pow_le_pow_right (by decide) (by omega)))]
  · rintro rfl k _
    rfl
theorem items_words {P : Program} (w : World) (d : Nat) (e : TypeId) (he : P.underlying e = some (.int .u64)) (N M : Nat) :
    ∀ is : List Nat, (∀ i ∈ is, i < 16) → (Op.eqItems (d + 1) e 1 (setC N) (setC M) is).run P w = .ok (eqW N M is) w
  | [], _ => by simp [Op.eqItems, eqW]
  | i :: is, hi => by
    have hN := setC_get N (hi i (by simp))
    have hM := setC_get M (hi i (by simp))
    have px : (part e (setC N) (i * 1)).run P w = .ok (.int .u64 (wd N i)) w := by
      simp [part, isAgg, run_underlying he, hN]
    have py : (part e (setC M) (i * 1)).run P w = .ok (.int .u64 (wd M i)) w := by
      simp [part, isAgg, run_underlying he, hM]
    have pe : (Op.equalIn (d + 1) e (.int .u64 (wd N i)) (.int .u64 (wd M i))).run P w = .ok (decide (wdN N i = wdN M i)) w := by
      rw [run_equalIn_int w d e .u64 .u64 _ _ he]
      unfold wd
      congr 1
      rw [Bool.eq_iff_iff]
      simp [Int.ofNat_inj]
    have ih := items_words w d e he N M is (fun j hj => hi j (by simp [hj]))
    simp only [Op.eqItems, Sem.run_bind, px, py, pe, Result.andThen_ok]
    by_cases hd : wdN N i = wdN M i
    · simp [hd, eqW, ih]
    · simp [hd, eqW]
set_option maxRecDepth 100000 in
theorem cmp_Set (w : World) (N M : Nat) : (Op.equalIn 10000 56 (.agg (setC N)) (.agg (setC M))).run Tryz.prog w = .ok (eqS N M) w := by
  have hc : Tryz.prog.cellsOf 54 = 1 := by kernel_rfl
  obtain ⟨i, hi⟩ : ∃ i, Tryz.prog.info? 54 = some i := ⟨_, rfl⟩
  have h := run_equalIn_array w 9999 (setC N) (setC M) Tryz.underlying56 hi
  rw [hc] at h
  exact h.trans (items_words w 9998 54 Tryz.underlying54 N M (List.range 16) (fun i hi => List.mem_range.1 hi))
/-- '!=' and '==' of two sets, as operations -/
theorem run_neq_Set {ρ : Operand → Value} {o : Oper} {x y : Operand} {w : World} {N M : Nat} {t : TypeId} (ho : o.op = .binOp .neq 56 x y t) (hx : ρ x = .agg (setC N)) (hy : ρ y = .agg (setC M)) : (execOp ρ o).run Tryz.prog w = .ok (.value (.bool (!eqS N M))) w := by
  have h := cmp_Set w N M
  generalize setC N = C at *
  generalize setC M = D at *
  unfold execOp
  simp only [ho, hx, hy]
  simp [go_sem, h]
theorem run_eql_Set {ρ : Operand → Value} {o : Oper} {x y : Operand} {w : World} {N M : Nat} {t : TypeId} (ho : o.op = .binOp .eql 56 x y t) (hx : ρ x = .agg (setC N)) (hy : ρ y = .agg (setC M)) : (execOp ρ o).run Tryz.prog w = .ok (.value (.bool (eqS N M))) w := by
  have h := cmp_Set w N M
  generalize setC N = C at *
  generalize setC M = D at *
  unfold execOp
  simp only [ho, hx, hy]
  simp [go_sem, h]
end Go.Proofs.YtjehhilijeajnaaGreatDoor
/- elimination.Order.Check. Conditions: see each theorem. -/
namespace Go.Proofs.YtjehhilijeajnaaGreatDoor
open Go Go.RowKit
attribute [local go_sem] qUpon lUpon

def checkS (L : List Int) (V : List (Int × Thing)) : Int := if L.length = V.length ∧ eqS (fromS L) (vS V) = true then 0 else 3

set_option maxRecDepth 100000 in
theorem check_nil (A : Option Addr) (n cL : Nat) (w : World) :
    Calls Tryz.prog 35 #[.slice A n cL, .pointer none] w fun e w' => e = .returned (.int .i64 1) ∧ Ext w w' := by
  have hself := hide (Ext.refl w)
  go_enter Tryz.func35, Tryz.ntmps35
  go_wp2_with fail
  go_ret
  exact ⟨rfl, unhide hself⟩

set_option maxRecDepth 100000 in
set_option maxHeartbeats 4000000 in
theorem check_any (A : Option Addr) (L : List Int) (cL : Nat) (g bv be : Nat) (V : List (Int × Thing)) (E : List ((Int × Int) × Thing)) (w : World) (hL : SlAt encI 1 w A L) (hl : L.length ≤ 4611686018427387904) (hg : IsG w g bv be V E) :
    Calls Tryz.prog 35 #[.slice A L.length cL, .pointer (some ⟨g, 0, none⟩)] w fun e w' => e = .returned (.int .i64 (checkS L V)) ∧ Ext w w' := by
  have hL' := hide hL
  have hg' := hide hg
  have hl' := hide hl
  have nV := hg.nV
  clear hL hg
  go_enter Tryz.func35, Tryz.ntmps35
  go_wp2_with fail
  refine (len_rel g bv be V E w (unhide hg')).mono ?_
  rintro e w1 ⟨rfl, hx1⟩
  have hx1' := hide hx1
  clear hx1
  try dsimp only
  repeat (first | (with_reducible refine wp_reg (id := 4) ?_) | go_values | go_step | go_guarded | go_upon | go_in | go_back | fail)
  iterate 5
    refine wpO_want rfl ?_
    go_simp
  by_cases hn : L.length = V.length
  · have e1 : ((L.length : Int) != (V.length : Int)) = false := by simp [hn]
    have hck : checkS L V = if eqS (fromS L) (vS V) = true then 0 else 3 := by unfold checkS; simp [hn]
    have hck' := hide hck
    clear hck hn
    simp only [e1]
    clear e1
    refine wpO_want rfl ?_
    go_simp
    refine wpO_want rfl ?_
    go_simp
    refine (of_any A L cL w1 ((unhide hL').ext (unhide hx1')) (unhide hl')).mono ?_
    rintro e w2 ⟨rfl, hx2⟩
    refine ⟨_, rfl, ?_⟩
    refine wpO_want rfl ?_
    go_simp
    refine wpO_want rfl ?_
    go_simp
    refine (vset_rel g bv be V E w2 ((unhide hg').ext ((unhide hx1').trans hx2))).mono ?_
    rintro e w3 ⟨rfl, hx3⟩
    refine ⟨_, rfl, ?_⟩
    refine wpO_val rfl (run_neq_Set rfl rfl rfl) ?_
    go_frame
    refine wpO_want rfl ?_
    go_simp
    refine wpO_done ?_
    have hx := hide (((unhide hx1').trans hx2).trans hx3)
    clear hx2 hx3 hx1'
    generalize eqS (fromS L) (vS V) = q at *
    cases q
    · go_wp2_with fail
      go_ret
      rw [unhide hck']
      exact ⟨rfl, unhide hx⟩
    · go_wp2_with fail
      go_ret
      rw [unhide hck']
      exact ⟨rfl, unhide hx⟩
  · have e1 : ((L.length : Int) != (V.length : Int)) = true := by simp; omega
    have hck : checkS L V = 3 := by unfold checkS; rw [if_neg (fun h => hn h.1)]
    have hck' := hide hck
    clear hck hn
    simp only [e1]
    clear e1
    iterate 5
      refine wpO_out (by rfl) ?_
      go_frame
    refine wpO_want rfl ?_
    go_simp
    refine wpO_done ?_
    go_wp2_with fail
    go_ret
    rw [unhide hck']
    exact ⟨rfl, unhide hx1'⟩
end Go.Proofs.YtjehhilijeajnaaGreatDoor
