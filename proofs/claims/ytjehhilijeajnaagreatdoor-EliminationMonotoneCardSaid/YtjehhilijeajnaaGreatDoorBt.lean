/- THE SETS OF package bitset: fits, bit, Has. Conditions: see each theorem. -/
import Derived.Test.YtjehhilijeajnaaGreatDoorBs
import Derived.Test.YtjehhilijeajnaaGreatDoorRx
import Derived.Laws.BitsAll
namespace Go.Proofs.YtjehhilijeajnaaGreatDoor
open Go Go.RowKit
attribute [local go_sem] qUpon lUpon

/-- the sixteen words of a set -/
def setC (N : Nat) : Array Value := #[.int .u64 (wd N 0), .int .u64 (wd N 1), .int .u64 (wd N 2), .int .u64 (wd N 3), .int .u64 (wd N 4), .int .u64 (wd N 5), .int .u64 (wd N 6), .int .u64 (wd N 7), .int .u64 (wd N 8), .int .u64 (wd N 9), .int .u64 (wd N 10), .int .u64 (wd N 11), .int .u64 (wd N 12), .int .u64 (wd N 13), .int .u64 (wd N 14), .int .u64 (wd N 15)]
theorem setC_size (N : Nat) : (setC N).size = 16 := rfl
theorem setC_get (N : Nat) {i : Nat} (h : i < 16) : (setC N)[i]? = some (.int .u64 (wd N i)) := by
  have : i = 0 ∨ i = 1 ∨ i = 2 ∨ i = 3 ∨ i = 4 ∨ i = 5 ∨ i = 6 ∨ i = 7 ∨ i = 8 ∨ i = 9 ∨ i = 10 ∨ i = 11 ∨ i = 12 ∨ i = 13 ∨ i = 14 ∨ i = 15 := by omega
  rcases this with rfl | rfl | rfl | rfl | rfl | rfl | rfl | rfl | rfl | rfl | rfl | rfl | rfl | rfl | rfl | rfl <;> rfl
def fitB (n : Int) : Bool := decide (0 ≤ n) && decide (n < 1024)
theorem fits_any (n : Int) (w : World) :
    Calls Tryz.prog 59 #[.int .i64 n] w fun e w' => e = .returned (.bool (fitB n)) ∧ Ext w w' := by
  go_enter Tryz.func59, Tryz.ntmps59
  unfold fitB
  by_cases h : 0 ≤ n
  · by_cases h2 : n < 1024
    · go_wp2_with fail
      go_ret
      simp [h2, Ext.refl] <;> omega
    · go_wp2_with fail
      go_ret
      simp [Ext.refl] <;> omega
  · go_wp2_with fail
    go_ret
    simp [Ext.refl] <;> omega
/-- the word of one bit, as a value -/
def bitW (n : Nat) : Int := ((2 ^ (n % 64) : Nat) : Int)
theorem bitW_ne (n : Nat) : (bitW n == 0) = false := by
  have : 0 < 2 ^ (n % 64) := Nat.pow_pos (by decide)
  rw [beq_eq_false_iff_ne]
  unfold bitW
  omega
theorem bit_any (n : Nat) (hn : n < 1024) (w : World) :
    Calls Tryz.prog 60 #[.int .i64 n] w fun e w' => e = .returned (.int .u64 (bitW n)) ∧ Ext w w' := by
  have h1 : ((n : Nat) : Int).tmod 64 = ((n % 64 : Nat) : Int) := by
    rw [Int.tmod_eq_emod_of_nonneg (by omega)]
    omega
  have h2 : IntKind.u64.wrap (2 ^ (n % 64)) = ((2 ^ (n % 64) : Nat) : Int) := by
    rw [IntKind.wrap_u64]
    have h3 : 2 ^ (n % 64) < 2 ^ 64 := Nat.pow_lt_pow_right (by omega) (by omega)
    have e : ((2 : Int) ^ (n % 64)) = ((2 ^ (n % 64) : Nat) : Int) := by simp
    rw [e]
    generalize 2 ^ (n % 64) = m at h3
    omega
  go_enter Tryz.func60, Tryz.ntmps60
  go_wp2_with fail
  go_ret
  refine ⟨?_, Ext.refl _⟩
  show Ending.returned (Value.int .u64 (IntKind.u64.wrap (2 ^ (n % 64)))) = _
  rw [h2]
  rfl
theorem cell_of {w : World} {b : Nat} {N n : Nat} (h : Blk w b 56 (setC N)) (hn : n < 1024) : ∀ W, Ext w W → W.cell? ⟨b, n / 64, none⟩ = some (.int .u64 (wd N (n / 64))) := h.cells (n / 64) (setC_get N (by omega))
theorem idx_facts {k : Nat} (hk : k < 1024) : ((k : Nat) : Int).tdiv 64 = (k : Int) / 64 ∧ IntKind.i64.wrap ((k : Int) / 64) = (k : Int) / 64 ∧ 0 ≤ (k : Int) / 64 ∧ (k : Int) / 64 < 16 ∧ ((k : Int) / 64).toNat = k / 64 := by
  refine ⟨Int.tdiv_eq_ediv_of_nonneg (by omega), ?_, by omega, by omega, by omega⟩
  rw [IntWalk.i64_in _ (by omega)]
set_option maxRecDepth 100000 in
theorem has_any (N : Nat) (n : Int) (w : World) :
    Calls Tryz.prog 29 #[.agg (setC N), .int .i64 n] w fun e w' => e = .returned (.bool (fitB n && N.testBit n.toNat)) ∧ Ext w w' := by
  have hB := Blk.new w 56 (setC N)
  by_cases hf : fitB n = true
  · obtain ⟨k, rfl⟩ : ∃ k : Nat, n = k := ⟨n.toNat, by simp [fitB] at hf; omega⟩
    have hk : k < 1024 := by simp [fitB] at hf; omega
    have c0 := cell_of hB hk
    obtain ⟨h1, hw, h6, h7, h8⟩ := idx_facts hk
    have h2 : bits .and .u64 (wd N (k / 64)) (bitW k) = if N.testBit k then bitW k else 0 := by
      unfold wd bitW
      have h3 : 2 ^ (k % 64) < 2 ^ 64 := Nat.pow_lt_pow_right (by omega) (by omega)
      rw [u64_and_nat _ _ (wdN_lt _ _) h3, wdN_has]
      split <;> rfl
    have h9 := bitW_ne k
    have h5 : fitB (k : Int) = true := hf
    clear hB hf
    go_enter Tryz.func29, Tryz.ntmps29
    go_wp2_with fail
    have hx1 := hide (ext_self1 w (.cells (setC N) 56))
    generalize w.alloc (.cells (setC N) 56) = W1 at *
    generalize w.heap.size = b0 at *
    have hb2 : (fitB (k : Int) && N.testBit ((k : Int)).toNat) = N.testBit k := by rw [h5, Bool.true_and, Int.toNat_natCast]
    have hb2' := hide hb2
    clear hb2
    rcases hb : N.testBit k
    · rw [hb] at h2
      rw [if_neg (by decide)] at h2
      refine wp_region_ext (P := Tryz.prog) [0,1,2,3,4,5,6,7,8,9,10,11,12] [] 0 #[true,true,true,true,true,true,true,true,true,true,true,true,true] (by kernel_rfl) (by kernel_rfl) rfl (by rfl) ?_
      iterate 13
        refine ql_want (v := ?_) rfl (by rfl) (fun W hW => ?_) ?_
        rotate_left
        · go_simp
          first | done | rfl | ((go_at_call 59; refine (fits_any _ _).mono ?_; rw [h5]; rintro _ _ ⟨h1, h2⟩; refine ⟨_, h1, ?_, h2⟩; rfl)) | ((go_at_call 60; refine (bit_any k hk _).mono ?_; rintro _ _ ⟨h1, h2⟩; refine ⟨_, h1, ?_, h2⟩; rfl))
        go_frame
      refine wpQL_nil (fun w2 hx2 => ?_)
      refine wpX_done (by kernel_rfl) ?_
      try go_frame
      go_wp2_with fail
      go_ret
      exact ⟨by rw [unhide hb2', hb]; first | rfl | (show Ending.returned (Value.bool (!(bitW k == 0))) = _; rw [h9]; rfl), (unhide hx1).trans hx2⟩
    · rw [hb] at h2
      rw [if_pos rfl] at h2
      refine wp_region_ext (P := Tryz.prog) [0,1,2,3,4,5,6,7,8,9,10,11,12] [] 0 #[true,true,true,true,true,true,true,true,true,true,true,true,true] (by kernel_rfl) (by kernel_rfl) rfl (by rfl) ?_
      iterate 13
        refine ql_want (v := ?_) rfl (by rfl) (fun W hW => ?_) ?_
        rotate_left
        · go_simp
          first | done | rfl | ((go_at_call 59; refine (fits_any _ _).mono ?_; rw [h5]; rintro _ _ ⟨h1, h2⟩; refine ⟨_, h1, ?_, h2⟩; rfl)) | ((go_at_call 60; refine (bit_any k hk _).mono ?_; rintro _ _ ⟨h1, h2⟩; refine ⟨_, h1, ?_, h2⟩; rfl))
        go_frame
      refine wpQL_nil (fun w2 hx2 => ?_)
      refine wpX_done (by kernel_rfl) ?_
      try go_frame
      go_wp2_with fail
      go_ret
      exact ⟨by rw [unhide hb2', hb]; first | rfl | (show Ending.returned (Value.bool (!(bitW k == 0))) = _; rw [h9]; rfl), (unhide hx1).trans hx2⟩
  · have h5 : fitB n = false := by simpa using hf
    have hb2 : (fitB n && N.testBit n.toNat) = false := by rw [h5, Bool.false_and]
    have hb2' := hide hb2
    clear hb2 hB hf
    go_enter Tryz.func29, Tryz.ntmps29
    go_wp2_with fail
    have hx1 := hide (ext_self1 w (.cells (setC N) 56))
    generalize w.alloc (.cells (setC N) 56) = W1 at *
    generalize w.heap.size = b0 at *
    refine wp_region_ext (P := Tryz.prog) [0,1,2,3,4,5,6,7,8,9,10,11,12] [] 0 #[true,true,true,true,true,true,true,true,true,true,true,true,true] (by kernel_rfl) (by kernel_rfl) rfl (by rfl) ?_
    iterate 3
      refine ql_want (v := ?_) rfl (by rfl) (fun W hW => ?_) ?_
      rotate_left
      · go_simp
        first | done | rfl | ((go_at_call 59; refine (fits_any _ _).mono ?_; rw [h5]; rintro _ _ ⟨h1, h2⟩; refine ⟨_, h1, ?_, h2⟩; rfl))
      go_frame
    iterate 8
      refine ql_skip rfl (by rfl) ?_
      go_frame
    iterate 2
      refine ql_want (v := ?_) rfl (by rfl) (fun W hW => ?_) ?_
      rotate_left
      · go_simp
        first | done | rfl
      go_frame
    refine wpQL_nil (fun w2 hx2 => ?_)
    refine wpX_done (by kernel_rfl) ?_
    try go_frame
    go_wp2_with fail
    go_ret
    exact ⟨by rw [unhide hb2']; rfl, (unhide hx1).trans hx2⟩
end Go.Proofs.YtjehhilijeajnaaGreatDoor
