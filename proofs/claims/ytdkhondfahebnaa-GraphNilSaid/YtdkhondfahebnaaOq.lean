/- ARGUMENTS OPENED, further: an edit by value. Conditions: see each theorem. -/
import Derived.Test.YtdkhondfahebnaaOp
import Derived.WalkKit
import Derived.ProofKit
import Derived.WideShapes
import Derived.OpenShut
namespace Go.Proofs.Ytdkhondfahebnaa
open Go Go.RowKit Go.ChangeShapes Go.WideShapes Go.Deep

section
variable {H : Type} {enc : TypeId × Value → H} {w : World} {base : Nat} {spare : Nat → Bool} {held : Bool}
set_option maxRecDepth 100000 in
theorem open_edit {r : Reach} {b0 : Nat} {v : Value} {d : DataW H} {p : List MemPlace} (hv : Value.okWide Try.prog w r b0 33 v) (h : DataW.Trod enc Try.prog w base spare held 33 v d p) :
    ∃ x : Ed, v = .agg (encD x).toArray ∧ okD x := by
  obtain ⟨cs, rfl, hsz⟩ := okWide_struct Try.underlying33 hv
  have h5 : cs.size = 5 := hsz.trans (by kernel_rfl)
  obtain ⟨l⟩ := cs
  match l, h5 with
  | [c0, c1, c2, c3, c4], _ =>
    obtain ⟨fuel, hf⟩ := h
    obtain ⟨xs, n, _, _, _, hlen, hg⟩ := DataW.trod_struct Try.underlying33 hf
    match xs, hlen with
    | [y0, y1, y2, y3, y4], _ =>
      have r0 := hg 0 _ rfl
      have r1 := hg 1 _ rfl
      have r2 := hg 2 _ rfl
      have r3 := hg 3 _ rfl
      have r4 := hg 4 _ rfl
      have q0 : DataW.trod enc Try.prog w base spare held n 3 [c0] = some y0 := r0
      have q1 : DataW.trod enc Try.prog w base spare held n 3 [c1] = some y1 := r1
      have q2 : DataW.trod enc Try.prog w base spare held n 3 [c2] = some y2 := r2
      have q3 : DataW.trod enc Try.prog w base spare held n 5 [c3] = some y3 := r3
      have q4 : DataW.trod enc Try.prog w base spare held n 3 [c4] = some y4 := r4
      obtain ⟨n0, e0, _, w0⟩ := DataW.trod_int Try.underlying3 q0
      obtain ⟨n1, e1, _, w1⟩ := DataW.trod_int Try.underlying3 q1
      obtain ⟨n2, e2, _, w2⟩ := DataW.trod_int Try.underlying3 q2
      obtain ⟨n3, e3, _, w3⟩ := DataW.trod_int Try.underlying5 q3
      obtain ⟨n4, e4, _, w4⟩ := DataW.trod_int Try.underlying3 q4
      simp at e0 e1 e2 e3 e4
      subst e0 e1 e2 e3 e4
      exact ⟨(n0, n1, n2, n3, n4), rfl, i64_of_wf w0, i64_of_wf w1, i64_of_wf w2, i64_of_wf w4⟩
end
end Go.Proofs.Ytdkhondfahebnaa
