/- THE REFERENCE's Do: what each operation makes of the two lists. Conditions: see each theorem. -/
import Derived.Test.YtjehhilijeajnaaGreatDoorRb
import Derived.Test.YtjehhilijeajnaaGreatDoorRc
import Derived.Test.YtjehhilijeajnaaGreatDoorRd
import Derived.Test.YtjehhilijeajnaaGreatDoorRe
import Derived.Test.YtjehhilijeajnaaGreatDoorRq
namespace Go.Proofs.YtjehhilijeajnaaGreatDoor
open Go Go.RowKit

theorem blk3 (w : World) (X Y Z : Array Value) (S T R : TypeId) : Blk (((w.alloc (.cells X S)).alloc (.cells Y T)).alloc (.cells Z R)) w.heap.size S X ∧ Blk (((w.alloc (.cells X S)).alloc (.cells Y T)).alloc (.cells Z R)) (w.heap.size + 1) T Y ∧
    Blk (((w.alloc (.cells X S)).alloc (.cells Y T)).alloc (.cells Z R)) (w.heap.size + 1 + 1) R Z := by
  have h1 := Blk.new w S X
  have h2 := Blk.new (w.alloc (.cells X S)) T Y
  have h3 := Blk.new ((w.alloc (.cells X S)).alloc (.cells Y T)) R Z
  simp only [World.size_alloc] at h2 h3
  exact ⟨h1.ext (ext_self2 _ _ _), h2.ext (ext_self1 _ _), h3⟩

/-- what the reference makes of one vertex -/
def fV (op u lab wt : Int) (x : Int × Thing) : List (Int × Thing) :=
  if op = 1 ∧ x.1 = u then [] else if op = 4 ∧ x.1 = u then [(x.1, (lab, x.2.2))] else if op = 5 ∧ x.1 = u then [(x.1, (x.2.1, wt))] else [x]
/-- what it makes of one edge, which stands at place i, where at is the place of the edit's edge -/
def fE (op u lab wt pos : Int) (x : ((Int × Int) × Thing) × Nat) : List ((Int × Int) × Thing) :=
  if op = 1 ∧ (x.1.1.1 = u ∨ x.1.1.2 = u) then [] else if op = 3 ∧ (x.2 : Int) = pos then [] else if op = 6 ∧ (x.2 : Int) = pos then [(x.1.1, (lab, x.1.2.2))] else if op = 7 ∧ (x.2 : Int) = pos then [(x.1.1, (x.1.2.1, wt))] else [x.1]
def posD (op u v : Int) (E : List ((Int × Int) × Thing)) : Int := if pairsB op then posI (isE u v) E else -1
theorem fV_len (op u lab wt : Int) (x : Int × Thing) : (fV op u lab wt x).length ≤ 1 := by
  unfold fV
  repeat' split
  all_goals simp
theorem fE_len (op u lab wt pos : Int) (x : ((Int × Int) × Thing) × Nat) : (fE op u lab wt pos x).length ≤ 1 := by
  unfold fE
  repeat' split
  all_goals simp
theorem flat_le {α β : Type} {f : α → List β} (h : ∀ x, (f x).length ≤ 1) : ∀ l : List α, (l.flatMap f).length ≤ l.length
  | [] => by simp
  | x :: r => by
    rw [List.flatMap_cons, List.length_append, List.length_cons]
    have := h x
    have := flat_le h r
    omega
theorem flat_take {α β : Type} {f : α → List β} {l : List α} {k : Nat} (hk : k < l.length) {o : List β} (h : (l.take k).flatMap f = o) : (l.take (k + 1)).flatMap f = o ++ f l[k] := by
  rw [List.take_succ_eq_append_getElem hk, List.flatMap_append, h]
  simp

set_option maxRecDepth 100000 in
set_option maxHeartbeats 4000000 in
theorem do_err (A B : Option Addr) (V : List (Int × Thing)) (E : List ((Int × Int) × Thing)) (cV cE : Nat) (op u v lab wt no : Int) (w : World) (hno : no ≠ 0)
    (hW : ∀ W, Ext w W → Calls Tryz.prog 109 #[.agg #[.slice A V.length cV, .slice B E.length cE], .agg #[.int .i64 op, .int .i64 u, .int .i64 v, .int .u8 lab, .int .i64 wt]] W fun e w' => e = .returned (.int .i64 no) ∧ Ext W w') :
    Calls Tryz.prog 66 #[.agg #[.slice A V.length cV, .slice B E.length cE], .agg #[.int .i64 op, .int .i64 u, .int .i64 v, .int .u8 lab, .int .i64 wt]] w fun e w' => e = .returned (.tuple #[.agg #[.slice A V.length cV, .slice B E.length cE], .int .i64 no]) ∧ Ext w w' := by
  have hW' := hide hW
  clear hW
  obtain ⟨hb2, hb3, hb4⟩ := blk3 w #[.slice A V.length cV, .slice B E.length cE] #[.int .i64 op, .int .i64 u, .int .i64 v, .int .u8 lab, .int .i64 wt] #[.slice none 0 0, .slice none 0 0] 28 132 28
  have d0 := hb2.cells 0 (v := .slice A V.length cV) rfl
  have d1 := hb2.cells 1 (v := .slice B E.length cE) rfl
  have hb4' := hide hb4
  clear hb2 hb3 hb4
  go_enter Tryz.func66, Tryz.ntmps66
  go_wp2_with (go_at_call 109; refine (unhide hW' _ (ext_self3 _ _ _ _)).mono ?_; rintro e w2 ⟨rfl, hx2⟩; have hq := (unhide hb4').ext hx2; have s0 := hq.cell 0; have s1 := hq.cell 1; have s2 := hq.frozen 0; have s3 := hq.frozen 1; simp at s0 s1; clear hq)
  refine bodyPost_ret (ret_cell2 rfl rfl (load_G2 w2 (w.heap.size + 1 + 1) _ _ _ _ s0 s1)) rfl ?_
  exact ⟨rfl, Below.setCell (Below.setCell ((ext_self3 _ _ _ _).trans hx2) (by simp; omega) _) (by simp; omega) _⟩

end Go.Proofs.YtjehhilijeajnaaGreatDoor
