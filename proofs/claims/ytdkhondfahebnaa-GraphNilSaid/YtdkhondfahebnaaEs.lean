/- TWO EQUAL SETS COMPARED. Conditions: see each theorem. -/
import Derived.Test.YtdkhondfahebnaaBt
import Derived.ChangeKeysEq
namespace Go.Proofs.Ytdkhondfahebnaa
open Go Go.RowKit

theorem items_same {P : Program} (w : World) (d : Nat) (e : TypeId) (he : P.underlying e = some (.int .u64)) (xs : Array Value) (h : ∀ i, i < 16 → ∃ m, xs[i]? = some (.int .u64 m)) :
    ∀ is : List Nat, (∀ i ∈ is, i < 16) → (Op.eqItems (d + 1) e 1 xs xs is).run P w = .ok true w
  | [], _ => by simp [Op.eqItems]
  | i :: is, hi => by
    obtain ⟨m, hm⟩ := h i (hi i (by simp))
    have px : (part e xs (i * 1)).run P w = .ok (.int .u64 m) w := by
      simp [part, isAgg, run_underlying he, hm]
    have pe : (Op.equalIn (d + 1) e (.int .u64 m) (.int .u64 m)).run P w = .ok true w := by
      rw [run_equalIn_int w d e .u64 .u64 _ _ he]
      simp
    simp only [Op.eqItems, Sem.run_bind, px, pe, Result.andThen_ok, Bool.not_true, Bool.false_eq_true, if_false]
    exact items_same w d e he xs h is (fun j hj => hi j (by simp [hj]))
set_option maxRecDepth 100000 in
theorem eq_Set (w : World) (N : Nat) : (Op.equalIn 10000 78 (.agg (setC N)) (.agg (setC N))).run Try.prog w = .ok true w := by
  have hc : Try.prog.cellsOf 76 = 1 := by kernel_rfl
  obtain ⟨i, hi⟩ : ∃ i, Try.prog.info? 76 = some i := ⟨_, rfl⟩
  have h := run_equalIn_array w 9999 (setC N) (setC N) Try.underlying78 hi
  rw [hc] at h
  exact h.trans (items_same w 9998 76 Try.underlying76 (setC N) (fun i hi => ⟨_, setC_get N hi⟩) (List.range 16) (fun i hi => List.mem_range.1 hi))
theorem eq_Set0 (w : World) : (Op.equalIn 10000 78 (.agg #[.int .u64 0, .int .u64 0, .int .u64 0, .int .u64 0, .int .u64 0, .int .u64 0, .int .u64 0, .int .u64 0, .int .u64 0, .int .u64 0, .int .u64 0, .int .u64 0, .int .u64 0, .int .u64 0, .int .u64 0, .int .u64 0]) (.agg #[.int .u64 0, .int .u64 0, .int .u64 0, .int .u64 0, .int .u64 0, .int .u64 0, .int .u64 0, .int .u64 0, .int .u64 0, .int .u64 0, .int .u64 0, .int .u64 0, .int .u64 0, .int .u64 0, .int .u64 0, .int .u64 0])).run Try.prog w = .ok true w := eq_Set w 0
end Go.Proofs.Ytdkhondfahebnaa
