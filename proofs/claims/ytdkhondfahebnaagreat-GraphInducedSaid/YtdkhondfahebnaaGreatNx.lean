/- A GRAPH AND ITS LISTS: one word for both, and each operation by it. Conditions: see each theorem. -/
import Derived.Test.YtdkhondfahebnaaGreatPl
import Derived.Test.YtdkhondfahebnaaGreatD1
import Derived.Test.YtdkhondfahebnaaGreatD3
import Derived.Test.YtdkhondfahebnaaGreatD4
import Derived.Test.YtdkhondfahebnaaGreatD5
import Derived.Test.YtdkhondfahebnaaGreatD6
import Derived.Test.YtdkhondfahebnaaGreatD7
import Derived.Test.YtdkhondfahebnaaGreatDb
import Derived.Test.YtdkhondfahebnaaGreatSm
import Derived.Test.YtdkhondfahebnaaGreatTo
namespace Go.Proofs.YtdkhondfahebnaaGreat
open Go Go.RowKit

/-- the graph in block g, whose sorted lists are V and E -/
def IsG (w : World) (g bv be : Nat) (V : List (Int × Thing)) (E : List ((Int × Int) × Thing)) : Prop := ∃ V' E', GraphAt w g bv be V' E' ∧ V.Perm V' ∧ E.Perm E' ∧ GInv V E
theorem IsG.ext {w w' : World} {g bv be : Nat} {V : List (Int × Thing)} {E : List ((Int × Int) × Thing)} (h : IsG w g bv be V E) (k : Ext w w') : IsG w' g bv be V E := by
  obtain ⟨V', E', h1, h2⟩ := h
  exact ⟨V', E', h1.ext k, h2⟩
theorem IsG.inv {w : World} {g bv be : Nat} {V : List (Int × Thing)} {E : List ((Int × Int) × Thing)} (h : IsG w g bv be V E) : GInv V E := by
  obtain ⟨V', E', _, _, _, h⟩ := h
  exact h
theorem IsG.lt {w : World} {g bv be : Nat} {V : List (Int × Thing)} {E : List ((Int × Int) × Thing)} (h : IsG w g bv be V E) : g < w.heap.size ∧ bv < w.heap.size ∧ be < w.heap.size := by
  obtain ⟨V', E', h, _⟩ := h
  exact ⟨h.blk.lt, h.vs.lt, h.es.lt⟩
/-- the graph stays where its three blocks stay -/
theorem IsG.keep {S : List Nat} {w w' : World} {g bv be : Nat} {V : List (Int × Thing)} {E : List ((Int × Int) × Thing)} (h : IsG w g bv be V E) (k : Keep S w w') (hg : g ∉ S) (hv : bv ∉ S) (he : be ∉ S) : IsG w' g bv be V E := by
  obtain ⟨V', E', h1, h2⟩ := h
  exact ⟨V', E', ⟨h1.blk.keep k hg, h1.vs.keep k hv, h1.es.keep k he, h1.ne⟩, h2⟩

/-- a slice's cells stay where only maps turn -/
theorem SlAt.keep_maps {α : Type} {enc : α → List Value} {k : Nat} {w w' : World} {A : Option Addr} {xs : List α} {g bv be : Nat} {V : List (Int × Thing)} {E : List ((Int × Int) × Thing)} (h : SlAt enc k w A xs) (hen : ∀ x : α, ∃ u : Value, (enc x)[0]? = some u) (hg : IsG w g bv be V E) (hk : Keep [bv, be] w w') : SlAt enc k w' A xs := fun hne => by
  have hcell : ∀ m es c, w.heap[m]? = some (.map es c) → ∀ b off, A = some ⟨b, off, none⟩ → b ≠ m := fun m es c hm b off hA e => by
    subst e
    obtain ⟨b', off', hA', _, hc⟩ := h hne
    rw [hA] at hA'
    cases hA'
    obtain ⟨x, xs', rfl⟩ := List.exists_cons_of_ne_nil hne
    obtain ⟨u, hu⟩ := hen x
    have := hc 0 x rfl 0 u hu
    simp [World.cell?, hm] at this
  obtain ⟨V', E', h1, _⟩ := hg
  obtain ⟨es, c, hm, _⟩ := h1.vs
  obtain ⟨es', c', hm', _⟩ := h1.es
  obtain ⟨b, off, hA, hlt, hc⟩ := h hne
  have n1 := hcell _ _ _ hm b off hA
  have n2 := hcell _ _ _ hm' b off hA
  have hb := hk.block b hlt (by simp [n1, n2])
  refine ⟨b, off, hA, Nat.lt_of_lt_of_le hlt hk.size, fun i x hx j u hu => ?_⟩
  rw [World.cell?_of_block hb]
  exact hc i x hx j u hu
theorem encV0 (x : Int × Thing) : ∃ u : Value, (encV x)[0]? = some u := ⟨_, rfl⟩
theorem encE0 (x : (Int × Int) × Thing) : ∃ u : Value, (encE x)[0]? = some u := ⟨_, rfl⟩

/-- the reference's Wrong -/
theorem rwrong_any (A B : Option Addr) (V : List (Int × Thing)) (E : List ((Int × Int) × Thing)) (cV cE : Nat) (op u v lab wt : Int) (w : World) (hV : SlAt encV 3 w A V) (hE : SlAt encE 4 w B E) (hl : V.length ≤ 4096) (hle : E.length ≤ 4096) :
    Calls Tryz.prog 34 #[.agg #[.slice A V.length cV, .slice B E.length cE], .agg #[.int .i64 op, .int .i64 u, .int .i64 v, .int .u8 lab, .int .i64 wt]] w fun e w' => e = .returned (.int .i64 (wrongR op u v wt V E)) ∧ Ext w w' := by
  cases h1 : w1B op with
  | true => exact wrongR_bad A B V E cV cE op u v lab wt w h1
  | false =>
    rcases op_cases h1 with rfl | rfl | rfl | rfl | rfl | rfl | rfl | rfl
    · exact wrongR_0 A B V E cV cE u v lab wt w hV hE hl
    · exact wrongR_1 A B V E cV cE u v lab wt w hV hE hl
    · exact wrongR_2 A B V E cV cE u v lab wt w hV hE hl hle
    · exact wrongR_3 A B V E cV cE u v lab wt w hV hE hl hle
    · exact wrongR_4 A B V E cV cE u v lab wt w hV hE hl
    · exact wrongR_5 A B V E cV cE u v lab wt w hV hE hl
    · exact wrongR_6 A B V E cV cE u v lab wt w hV hE hl hle
    · exact wrongR_7 A B V E cV cE u v lab wt w hV hE hl hle

/-- the reference's Do -/
theorem do_any (A B : Option Addr) (V : List (Int × Thing)) (E : List ((Int × Int) × Thing)) (cV cE : Nat) (op u v lab wt : Int) (w : World) (hV : SlAt encV 3 w A V) (hE : SlAt encE 4 w B E) (hl : V.length ≤ 4096) (hle : E.length ≤ 4096) :
    Calls Tryz.prog 18 #[.agg #[.slice A V.length cV, .slice B E.length cE], .agg #[.int .i64 op, .int .i64 u, .int .i64 v, .int .u8 lab, .int .i64 wt]] w fun e w' => ∃ A' cV' B' cE', e = .returned (.tuple #[.agg #[.slice A' (nxV op u v lab wt V E).length cV', .slice B' (nxE op u v lab wt V E).length cE'], .int .i64 (wrongR op u v wt V E)]) ∧
      SlAt encV 3 w' A' (nxV op u v lab wt V E) ∧ SlAt encE 4 w' B' (nxE op u v lab wt V E) ∧ Ext w w' := by
  by_cases h0 : wrongR op u v wt V E = 0
  · have eV : nxV op u v lab wt V E = refV op u lab wt V := if_pos h0
    have eE : nxE op u v lab wt V E = refE op u v lab wt E := if_pos h0
    rw [eV, eE]
    rcases (wrongR_0_iff h0).1 with rfl | rfl | rfl | rfl | rfl | rfl | rfl | rfl
    · refine (do_0 A B V E cV cE u v lab wt w hV hE hl hle h0).mono fun e w' ⟨A', c', he, h1, hx⟩ => ⟨A', c', B, cE, ?_, h1, hE.ext hx, hx⟩
      rw [h0]; exact he
    · rw [h0]; exact do_1 A B V E cV cE u v lab wt w hV hE hl hle h0
    · refine (do_2 A B V E cV cE u v lab wt w hV hE hl hle h0).mono fun e w' ⟨B', c', he, h1, hx⟩ => ⟨A, cV, B', c', ?_, hV.ext hx, h1, hx⟩
      rw [h0]; exact he
    · rw [h0]; exact do_3 A B V E cV cE u v lab wt w hV hE hl hle h0
    · rw [h0]; exact do_4 A B V E cV cE u v lab wt w hV hE hl hle h0
    · rw [h0]; exact do_5 A B V E cV cE u v lab wt w hV hE hl hle h0
    · rw [h0]; exact do_6 A B V E cV cE u v lab wt w hV hE hl hle h0
    · rw [h0]; exact do_7 A B V E cV cE u v lab wt w hV hE hl hle h0
  · have eV : nxV op u v lab wt V E = V := if_neg h0
    have eE : nxE op u v lab wt V E = E := if_neg h0
    rw [eV, eE]
    exact (do_err A B V E cV cE op u v lab wt _ w h0 fun W hW => rwrong_any A B V E cV cE op u v lab wt W (hV.ext hW) (hE.ext hW) hl hle).mono fun e w' ⟨he, hx⟩ => ⟨A, cV, B, cE, he, hV.ext hx, hE.ext hx, hx⟩

/-- graph.Apply -/
theorem apply_any (g bv be : Nat) (V : List (Int × Thing)) (E : List ((Int × Int) × Thing)) (op u v lab wt : Int) (w : World) (hg : IsG w g bv be V E) (hu : i64ok u) (hv : i64ok v) :
    Calls Tryz.prog 13 #[.pointer (some ⟨g, 0, none⟩), .agg #[.int .i64 op, .int .i64 u, .int .i64 v, .int .u8 lab, .int .i64 wt]] w fun e w' => e = .returned (.int .i64 (wrongR op u v wt V E)) ∧ IsG w' g bv be (nxV op u v lab wt V E) (nxE op u v lab wt V E) ∧ Keep [bv, be] w w' := by
  obtain ⟨V', E', h1, hV, hE, hi⟩ := hg
  have he := err_eq op u v wt hV hE hi
  by_cases h0 : wrongR op u v wt V E = 0
  · obtain ⟨p1, p2⟩ := step_perm (lab := lab) hV hE hi h0
    refine (apply_yes g bv be V' E' op u v lab wt w h1 hu hv (he.trans h0)).mono fun e w' ⟨hr, hG, hk⟩ => ⟨by rw [h0]; exact hr, ⟨_, _, hG, ?_, ?_, hi.next op u v lab wt⟩, hk⟩
    · unfold nxV; rw [if_pos h0]; exact p1
    · unfold nxE; rw [if_pos h0]; exact p2
  · refine (apply_no g bv be V' E' op u v lab wt w h1 hu hv (by rw [he]; exact h0)).mono fun e w' ⟨hr, hx⟩ => ⟨by rw [← he]; exact hr, ⟨V', E', h1.ext hx, ?_, ?_, hi.next op u v lab wt⟩, hx.keep _⟩
    · unfold nxV; rw [if_neg h0]; exact hV
    · unfold nxE; rw [if_neg h0]; exact hE

theorem IsG.nV {w : World} {g bv be : Nat} {V : List (Int × Thing)} {E : List ((Int × Int) × Thing)} (h : IsG w g bv be V E) : V.length ≤ 4096 := Nat.le_trans h.inv.nv (by omega)
theorem IsG.nE {w : World} {g bv be : Nat} {V : List (Int × Thing)} {E : List ((Int × Int) × Thing)} (h : IsG w g bv be V E) : E.length ≤ 4096 := Nat.le_trans h.inv.ne (by omega)

/-- graph.New -/
theorem new_rel (w : World) : Calls Tryz.prog 22 #[] w fun e w' => ∃ g bv be, e = .returned (.pointer (some ⟨g, 0, none⟩)) ∧ IsG w' g bv be [] [] ∧ Ext w w' ∧ w.heap.size ≤ g ∧ w.heap.size ≤ bv ∧ w.heap.size ≤ be :=
  (new_any w).mono fun _ _ ⟨g, bv, be, he, hG, h⟩ => ⟨g, bv, be, he, ⟨[], [], hG, List.Perm.refl _, List.Perm.refl _, GInv.nil⟩, h⟩

/-- law05.To -/
theorem to_rel (g bv be : Nat) (V : List (Int × Thing)) (E : List ((Int × Int) × Thing)) (w : World) (hg : IsG w g bv be V E) :
    Calls Tryz.prog 7 #[.pointer (some ⟨g, 0, none⟩)] w fun e w' => ∃ A cA B cB, e = .returned (.agg #[.slice A V.length cA, .slice B E.length cB]) ∧ SlAt encV 3 w' A V ∧ SlAt encE 4 w' B E ∧ Ext w w' := by
  have n1 := hg.nV
  have n2 := hg.nE
  obtain ⟨V', E', h1, hV, hE, hi⟩ := hg
  exact to_any g bv be V' V E' E w h1 hV hi.sv hE hi.se (by rw [← hV.length_eq]; exact n1) (by rw [← hE.length_eq]; exact n2)
end Go.Proofs.YtdkhondfahebnaaGreat
