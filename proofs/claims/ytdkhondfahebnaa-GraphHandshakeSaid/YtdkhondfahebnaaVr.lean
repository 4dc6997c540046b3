/- graph.Vertices, graph.Edges by a graph's sorted lists. Conditions: see each theorem. -/
import Derived.Test.YtdkhondfahebnaaGk
namespace Go.Proofs.Ytdkhondfahebnaa
open Go Go.RowKit

theorem vertices_rel (g bv be : Nat) (V : List (Int × Thing)) (E : List ((Int × Int) × Thing)) (w : World) (hg : IsG w g bv be V E) :
    Calls Try.prog 23 #[.pointer (some ⟨g, 0, none⟩)] w fun e w' => ∃ A c, e = .returned (.slice A V.length c) ∧ w'.ownsRow w.heap.size 44 3 (.slice A V.length c) V.length (V.flatMap encV) ∧ Ext w w' := by
  have n1 := hg.nV
  obtain ⟨V', E', h1, hV, hE, hi⟩ := hg
  refine (vertices_any g bv be V' E' V w h1 hV hi.sv (by rw [← hV.length_eq]; exact n1)).mono fun e w' ⟨v, he, ho, hx⟩ => ?_
  obtain ⟨A, c, rfl⟩ := own_slice ho
  exact ⟨A, c, he, ho, hx⟩
theorem edges_rel (g bv be : Nat) (V : List (Int × Thing)) (E : List ((Int × Int) × Thing)) (w : World) (hg : IsG w g bv be V E) :
    Calls Try.prog 24 #[.pointer (some ⟨g, 0, none⟩)] w fun e w' => ∃ A c, e = .returned (.slice A E.length c) ∧ w'.ownsRow w.heap.size 47 4 (.slice A E.length c) E.length (E.flatMap encE) ∧ Ext w w' := by
  have n1 := hg.nE
  obtain ⟨V', E', h1, hV, hE, hi⟩ := hg
  refine (edges_any g bv be V' E' E w h1 hE hi.se (by rw [← hE.length_eq]; exact n1)).mono fun e w' ⟨v, he, ho, hx⟩ => ?_
  obtain ⟨A, c, rfl⟩ := own_slice ho
  exact ⟨A, c, he, ho, hx⟩

end Go.Proofs.Ytdkhondfahebnaa
