/- SETS AS NUMBERS: word i of a set. No program in sight. Conditions: see each theorem. -/
import Derived.Test.YtjehhilijeajnaaGreatDoorPl
namespace Go.Proofs.YtjehhilijeajnaaGreatDoor
/-- word i of a set of numbers, the set as the number whose bits are its elements -/
def wdN (N i : Nat) : Nat := (N >>> (64 * i)) % 18446744073709551616
def wd (N i : Nat) : Int := (wdN N i : Int)
theorem wdN_bit (N i k : Nat) : (wdN N i).testBit k = (decide (k < 64) && N.testBit (64 * i + k)) := by
  unfold wdN
  rw [show (18446744073709551616 : Nat) = 2 ^ 64 from rfl, Nat.testBit_mod_two_pow, Nat.testBit_shiftRight]
theorem wdN_lt (N i : Nat) : wdN N i < 18446744073709551616 := Nat.mod_lt _ (by decide)
theorem wd_bounds (N i : Nat) : 0 ≤ wd N i ∧ wd N i < 18446744073709551616 := by
  have := wdN_lt N i
  unfold wd
  omega
/-- the word of one bit -/
theorem wdN_one (n i : Nat) : wdN (2 ^ n) i = if i = n / 64 then 2 ^ (n % 64) else 0 := by
  apply Nat.eq_of_testBit_eq
  intro k
  rw [wdN_bit, Nat.testBit_two_pow, Bool.eq_iff_iff]
  by_cases h : i = n / 64
  · subst h
    rw [if_pos rfl, Nat.testBit_two_pow]
    simp only [Bool.and_eq_true, decide_eq_true_eq]
    omega
  · rw [if_neg h, Nat.zero_testBit]
    simp only [Bool.and_eq_true, decide_eq_true_eq, Bool.false_eq_true, iff_false]
    omega
theorem wdN_or (N M i : Nat) : wdN (N ||| M) i = wdN N i ||| wdN M i := by
  apply Nat.eq_of_testBit_eq
  intro k
  rw [wdN_bit, Nat.testBit_or, Nat.testBit_or, wdN_bit, wdN_bit]
  cases decide (k < 64) <;> simp
theorem wdN_with (N n i : Nat) : wdN (N ||| 2 ^ n) i = if i = n / 64 then wdN N i ||| 2 ^ (n % 64) else wdN N i := by
  rw [wdN_or, wdN_one]
  split <;> simp
theorem and_one (a k : Nat) : a &&& 2 ^ k = if a.testBit k then 2 ^ k else 0 := by
  apply Nat.eq_of_testBit_eq
  intro j
  rw [Nat.testBit_and, Nat.testBit_two_pow]
  by_cases h : k = j
  · subst h
    cases hb : a.testBit k <;> simp
  · have : decide (k = j) = false := by simp [h]
    rw [this, Bool.and_false]
    split
    · rw [Nat.testBit_two_pow, this]
    · simp
theorem wdN_has (N n : Nat) : wdN N (n / 64) &&& 2 ^ (n % 64) = if N.testBit n then 2 ^ (n % 64) else 0 := by
  rw [and_one, wdN_bit]
  have h : n % 64 < 64 := by omega
  rw [show 64 * (n / 64) + n % 64 = n by omega]
  simp [h]
theorem wdN_below (n i : Nat) : wdN (2 ^ n - 1) i = 2 ^ (min (n - 64 * i) 64) - 1 := by
  apply Nat.eq_of_testBit_eq
  intro k
  rw [wdN_bit, Nat.testBit_two_pow_sub_one, Nat.testBit_two_pow_sub_one]
  rw [Bool.eq_iff_iff]
  simp only [Bool.and_eq_true, decide_eq_true_eq]
  omega
/-- a set out of a list -/
def bsOf (l : List Nat) : Nat := l.foldl (fun a x => a ||| 2 ^ x) 0
theorem bsOf_fold (l : List Nat) : ∀ (a k : Nat), (l.foldl (fun a x => a ||| 2 ^ x) a).testBit k = (a.testBit k || decide (k ∈ l)) := by
  induction l with
  | nil => intro a k; simp
  | cons x r ih =>
    intro a k
    rw [List.foldl_cons, ih, Nat.testBit_or, Nat.testBit_two_pow, Bool.or_assoc]
    congr 1
    rw [Bool.eq_iff_iff]
    simp only [Bool.or_eq_true, decide_eq_true_eq, List.mem_cons]
    rw [eq_comm]
theorem bsOf_bit (l : List Nat) (k : Nat) : (bsOf l).testBit k = decide (k ∈ l) := by
  unfold bsOf
  rw [bsOf_fold, Nat.zero_testBit, Bool.false_or]
theorem bsOf_congr {l m : List Nat} (h : ∀ k, k ∈ l ↔ k ∈ m) : bsOf l = bsOf m := by
  apply Nat.eq_of_testBit_eq
  intro k
  rw [bsOf_bit, bsOf_bit]
  simp [h]
theorem bsOf_snoc (l : List Nat) (x : Nat) : bsOf (l ++ [x]) = bsOf l ||| 2 ^ x := by
  unfold bsOf
  rw [List.foldl_append]
  rfl
end Go.Proofs.YtjehhilijeajnaaGreatDoor
