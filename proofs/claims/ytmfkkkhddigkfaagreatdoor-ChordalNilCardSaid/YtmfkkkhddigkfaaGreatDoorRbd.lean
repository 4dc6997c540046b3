/- THE REFERENCE's Wrong. Conditions: see the theorem. -/
import Derived.Test.YtmfkkkhddigkfaaGreatDoorRa
namespace Go.Proofs.YtmfkkkhddigkfaaGreatDoor
open Go Go.RowKit

theorem blk2 (w : World) (X Y : Array Value) (S T : TypeId) : Blk ((w.alloc (.cells X S)).alloc (.cells Y T)) w.heap.size S X ∧ Blk ((w.alloc (.cells X S)).alloc (.cells Y T)) (w.heap.size + 1) T Y :=
  ⟨(Blk.new w S X).ext (ext_self1 _ _), by have := Blk.new (w.alloc (.cells X S)) T Y; simpa using this⟩
theorem EditAt.of' {T : TypeId} {w : World} {g : Nat} {op u v lab wt : Int} (h : Blk w g T #[.int .i64 op, .int .i64 u, .int .i64 v, .int .u8 lab, .int .i64 wt]) : EditAt w g op u v lab wt :=
  ⟨h.cells 0 rfl, h.cells 1 rfl, h.cells 2 rfl, h.cells 3 rfl, h.cells 4 rfl⟩
def hasV (u : Int) (V : List (Int × Thing)) : Bool := decide (0 ≤ posI (fun p => p.1 == u) V)
def hasE (u v : Int) (E : List ((Int × Int) × Thing)) : Bool := decide (0 ≤ posI (isE u v) E)
/-- the reference's error number -/
def wrongR (op u v wt : Int) (V : List (Int × Thing)) (E : List ((Int × Int) × Thing)) : Int :=
  if w1B op then 11 else if w2B op u v wt then 2 else if w3B op u v then 15 else if op = 0 then (if hasV u V then 7 else 0)
  else if !hasV u V || op == 2 && !hasV v V then 9 else if op = 2 then (if hasE u v E then 7 else if 1024 ≤ E.length then 8 else 0) else if pairsB op && !hasE u v E then 9 else 0

set_option maxHeartbeats 4000000 in
theorem wrongR_bad (A B : Option Addr) (V : List (Int × Thing)) (E : List ((Int × Int) × Thing)) (cV cE : Nat) (op u v lab wt : Int) (w : World) (h1 : w1B op = true) :
    Calls Tryz.prog 95 #[.agg #[.slice A V.length cV, .slice B E.length cE], .agg #[.int .i64 op, .int .i64 u, .int .i64 v, .int .u8 lab, .int .i64 wt]] w fun e w' => e = .returned (.int .i64 (wrongR op u v wt V E)) ∧ Ext w w' := by
  have hr : wrongR op u v wt V E = 11 := by unfold wrongR; rw [if_pos h1]
  rw [hr]
  have h2 : op < 0 ∨ 7 < op := by unfold w1B at h1; simp at h1; omega
  clear h1 hr
  rcases h2 with h2 | h2
  · go_enter Tryz.func95, Tryz.ntmps95
    go_wp2_with fail
    go_ret
    exact ⟨rfl, ext_self2 _ _ _⟩
  · have h3 : ¬ op < 0 := by omega
    go_enter Tryz.func95, Tryz.ntmps95
    go_wp2_with fail
    go_ret
    exact ⟨rfl, ext_self2 _ _ _⟩

end Go.Proofs.YtmfkkkhddigkfaaGreatDoor
