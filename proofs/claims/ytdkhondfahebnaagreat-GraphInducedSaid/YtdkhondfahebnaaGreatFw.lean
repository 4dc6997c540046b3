/- SETS OUT OF LISTS OF NUMBERS: plain laws. No program in sight. Conditions: see each theorem. -/
import Derived.Test.YtdkhondfahebnaaGreatVt
namespace Go.Proofs.YtdkhondfahebnaaGreat
open Go Go.RowKit

theorem withS_bit (N : Nat) (x : Int) (k : Nat) : (withS N x).testBit k = (N.testBit k || (decide (k < 1024) && decide (x = (k : Int)))) := by
  unfold withS fitB
  by_cases h : 0 ≤ x ∧ x < 1024
  · rw [if_pos (by simp [h.1, h.2]), Nat.testBit_or, Nat.testBit_two_pow]
    congr 1
    rw [Bool.eq_iff_iff]
    simp only [Bool.and_eq_true, decide_eq_true_eq]
    omega
  · rw [if_neg (by simp; omega)]
    have : (decide (k < 1024) && decide (x = (k : Int))) = false := by
      rw [Bool.eq_false_iff]
      simp only [ne_eq, Bool.and_eq_true, decide_eq_true_eq]
      omega
    rw [this, Bool.or_false]
/-- the set of the numbers of a list -/
def fromS (L : List Int) : Nat := L.foldl withS 0
theorem fromS_next (L : List Int) (k : Nat) (h : k < L.length) : fromS (L.take (k + 1)) = withS (fromS (L.take k)) L[k] := by
  unfold fromS
  rw [List.take_succ_eq_append_getElem h, List.foldl_append, List.foldl_cons, List.foldl_nil]
theorem fold_bit (L : List Int) : ∀ (a k : Nat), (L.foldl withS a).testBit k = (a.testBit k || (decide (k < 1024) && decide ((k : Int) ∈ L))) := by
  induction L with
  | nil => intro a k; simp
  | cons x r ih =>
    intro a k
    rw [List.foldl_cons, ih, withS_bit, Bool.or_assoc]
    congr 1
    rw [Bool.eq_iff_iff]
    simp only [Bool.or_eq_true, Bool.and_eq_true, decide_eq_true_eq, List.mem_cons]
    constructor
    · rintro (h | h)
      · exact ⟨h.1, .inl h.2.symm⟩
      · exact ⟨h.1, .inr h.2⟩
    · rintro ⟨h1, h2 | h2⟩
      · exact .inl ⟨h1, h2.symm⟩
      · exact .inr ⟨h1, h2⟩
theorem fromS_bit (L : List Int) (k : Nat) : (fromS L).testBit k = (decide (k < 1024) && decide ((k : Int) ∈ L)) := by
  unfold fromS
  rw [fold_bit, Nat.zero_testBit, Bool.false_or]
theorem fromS_congr {L M : List Int} (h : ∀ x : Int, x ∈ L ↔ x ∈ M) : fromS L = fromS M := by
  apply Nat.eq_of_testBit_eq
  intro k
  rw [fromS_bit, fromS_bit]
  simp [h]
/-- VertexSet as a set of a list -/
theorem vS_eq (V : List (Int × Thing)) : vS V = fromS (V.map (·.1)) := by
  unfold vS fromS
  rw [List.foldl_map]
end Go.Proofs.YtdkhondfahebnaaGreat
