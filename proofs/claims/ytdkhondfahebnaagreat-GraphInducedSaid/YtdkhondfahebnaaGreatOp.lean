/- ARGUMENTS OPENED: a slice of structs as a list. Conditions: see each theorem. -/
import Derived.Test.YtdkhondfahebnaaGreatRa
import Derived.Test.YtdkhondfahebnaaGreatRows
import Derived.Deep.Slices
import Derived.Deep.Fields
import Derived.ChangeSame
import Derived.OpenShut
namespace Go.Proofs.YtdkhondfahebnaaGreat
open Go Go.RowKit Go.ChangeShapes Go.WideShapes Go.Deep

section
variable {H : Type} {enc : TypeId × Value → H} {P : Program} {w : World} {base : Nat} {spare : Nat → Bool} {held : Bool}
theorem open_slice_fields {t e : TypeId} {fs : Array Field} {fuel : Nat} {cs : List Value} {x : DataW H × List MemPlace} (ht : P.underlying t = some (.slice e)) (he : P.underlying e = some (.struct fs))
    (hone : oneCellFields P fs = true) (hC : P.cellsOf e = fs.size) (h : DataW.trod enc P w base spare held fuel t cs = some x) :
    cs = [.slice none 0 0] ∨
    ∃ (a : Addr) (len cap n : Nat), cs = [.slice (some a) len cap] ∧ len ≤ cap ∧ cap ≤ maxLen ∧
      ∀ i, i < len → ∀ (j : Nat) (f : Field), fs[j]? = some f → ∃ (v : Value) (y : DataW H × List MemPlace), w.cell? (a.add (i * fs.size + j)) = some v ∧ DataW.trod enc P w base spare held n f.type [v] = some y := by
  rcases open_slice ht h with h0 | ⟨a, len, cap, m, n, D, Pl, hcs, hb, hl, hm, hmm, hx, hi⟩
  · exact .inl h0.1
  · cases n with
    | zero =>
      refine .inr ⟨a, len, cap, 0, hcs, hl, hm, fun i hil => ?_⟩
      have hle : len ≤ m := by rw [hmm]; split <;> omega
      obtain ⟨cs', hc, ht'⟩ := hi i (by omega)
      cases ht'
    | succ n =>
      refine .inr ⟨a, len, cap, n, hcs, hl, hm, fun i hil j f hj => ?_⟩
      have hle : len ≤ m := by rw [hmm]; split <;> omega
      obtain ⟨cs', hc, ht'⟩ := hi i (by omega)
      rw [hC] at hc
      obtain ⟨ys, n', hn', hy, hlen, hyl, hf⟩ := DataW.trod_struct he ht'
      obtain rfl : n' = n := by omega
      obtain ⟨_, hcl, hat⟩ := World.cells?_some hc
      obtain ⟨ho, hk⟩ := hone_of hone j f hj
      have hjl : j < fs.size := (Array.getElem?_eq_some_iff.1 hj).1
      have hcell := hat j hjl
      have hv : cs'[j]? = some (cs'[j]'(by omega)) := List.getElem?_eq_getElem (by omega)
      have h1 := hf j f hj
      rw [ho, hk] at h1
      have hone' : (cs'.drop j).take 1 = [cs'[j]'(by omega)] := by
        rw [List.drop_eq_getElem_cons (by omega)]
        rfl
      rw [hone'] at h1
      have hys : ys[j]? = some (ys[j]'(by omega)) := List.getElem?_eq_getElem (by omega)
      refine ⟨_, _, ?_, h1.trans hys⟩
      rw [← Go.Deep.add_add, hcell, hv]
end

/-- from cells by index to a list -/
theorem slAt_of {α : Type} [Inhabited α] {enc : α → List Value} {k : Nat} {w : World} {a : Addr} {len : Nat} {p : α → Prop} (h0 : ∀ x, ∃ u : Value, (enc x)[0]? = some u)
    (h : ∀ i, i < len → ∃ x : α, (∀ j u, (enc x)[j]? = some u → w.cell? (a.add (i * k + j)) = some u) ∧ p x) : ∃ L : List α, L.length = len ∧ SlAt enc k w (some a) L ∧ ∀ x ∈ L, p x := by
  obtain ⟨f, hf⟩ := choose_lt h
  refine ⟨(List.range len).map f, by simp, fun hne => ?_, fun x hx => ?_⟩
  · have hpos : 0 < len := by
      rcases Nat.eq_zero_or_pos len with h | h
      · subst h; simp at hne
      · exact h
    obtain ⟨u, hu⟩ := h0 (f 0)
    have hc := (hf 0 hpos).1 0 u hu
    obtain ⟨b, off, spot⟩ := a
    have hspot : spot = none := by simpa [Addr.add] using World.cell?_spot hc
    subst hspot
    have hlt := World.block_lt_of_cell? w _ hc
    refine ⟨b, off, rfl, by simpa [Addr.add] using hlt, fun i x hx j u hu => ?_⟩
    rw [List.getElem?_map] at hx
    obtain ⟨i', hi', rfl⟩ := Option.map_eq_some_iff.1 hx
    obtain ⟨hil, rfl⟩ := List.getElem?_eq_some_iff.1 hi'
    simp only [List.getElem_range] at hu
    have := (hf i (by simpa using hil)).1 j u hu
    unfold Addr.add at this
    split at this
    · rename_i hz
      rw [show off + i * k + j = off by omega]
      exact this
    · rw [show off + i * k + j = off + (i * k + j) by omega]
      exact this
  · obtain ⟨i, hi, rfl⟩ := List.mem_map.1 hx
    exact (hf i (List.mem_range.1 hi)).2

/-- an edit: what, u, v, label, weight -/
abbrev Ed := Int × Int × Int × Int × Int
def encD (d : Ed) : List Value := [.int .i64 d.1, .int .i64 d.2.1, .int .i64 d.2.2.1, .int .u8 d.2.2.2.1, .int .i64 d.2.2.2.2]
def okD (d : Ed) : Prop := i64ok d.1 ∧ i64ok d.2.1 ∧ i64ok d.2.2.1 ∧ i64ok d.2.2.2.2
def okV (d : Int × Thing) : Prop := i64ok d.1 ∧ i64ok d.2.2
def okEd (d : (Int × Int) × Thing) : Prop := i64ok d.1.1 ∧ i64ok d.1.2 ∧ i64ok d.2.2
theorem i64_of_wf {n : Int} (h : (Lit.int .i64 n).wf = true) : i64ok n := by
  have := Go.bounds_i64 h
  unfold i64ok
  omega
section
variable {H : Type} {enc : TypeId × Value → H} {w : World} {base : Nat} {spare : Nat → Bool} {held : Bool} {fuel : Nat} {x : DataW H × List MemPlace} {a : Option Addr} {len cap : Nat}
theorem open_edits (h : DataW.trod enc Tryz.prog w base spare held fuel 22 [.slice a len cap] = some x) : ∃ L : List Ed, L.length = len ∧ SlAt encD 5 w a L ∧ (∀ d ∈ L, okD d) ∧ len ≤ 9223372036854775807 ∧ len ≤ cap := by
  rcases open_slice_fields Tryz.underlying22 Tryz.underlying45 (by kernel_rfl) (by kernel_rfl) h with h0 | ⟨a', len', cap', n, hcs, hl, hm, hf⟩
  · simp at h0
    obtain ⟨rfl, rfl, rfl⟩ := h0
    exact ⟨[], rfl, SlAt.nil, by simp, by omega, by omega⟩
  · simp at hcs
    obtain ⟨rfl, rfl, rfl⟩ := hcs
    obtain ⟨L, h1, h2, h3⟩ := slAt_of (α := Ed) (enc := encD) (k := 5) (w := w) (a := a') (len := len) (p := okD) (fun x => ⟨_, rfl⟩) (fun i hi => by
      obtain ⟨v0, y0, c0, r0⟩ := hf i hi 0 _ rfl
      obtain ⟨v1, y1, c1, r1⟩ := hf i hi 1 _ rfl
      obtain ⟨v2, y2, c2, r2⟩ := hf i hi 2 _ rfl
      obtain ⟨v3, y3, c3, r3⟩ := hf i hi 3 _ rfl
      obtain ⟨v4, y4, c4, r4⟩ := hf i hi 4 _ rfl
      obtain ⟨n0, e0, _, w0⟩ := DataW.trod_int Tryz.underlying3 r0
      obtain ⟨n1, e1, _, w1⟩ := DataW.trod_int Tryz.underlying3 r1
      obtain ⟨n2, e2, _, w2⟩ := DataW.trod_int Tryz.underlying3 r2
      obtain ⟨n3, e3, _, w3⟩ := DataW.trod_int Tryz.underlying5 r3
      obtain ⟨n4, e4, _, w4⟩ := DataW.trod_int Tryz.underlying3 r4
      simp at e0 e1 e2 e3 e4
      subst e0 e1 e2 e3 e4
      refine ⟨(n0, n1, n2, n3, n4), fun j u hu => ?_, i64_of_wf w0, i64_of_wf w1, i64_of_wf w2, i64_of_wf w4⟩
      match j, hu with
      | 0, hu => simp [encD] at hu; subst hu; exact c0
      | 1, hu => simp [encD] at hu; subst hu; exact c1
      | 2, hu => simp [encD] at hu; subst hu; exact c2
      | 3, hu => simp [encD] at hu; subst hu; exact c3
      | 4, hu => simp [encD] at hu; subst hu; exact c4)
    exact ⟨L, h1, h2, h3, by unfold maxLen at hm; omega, hl⟩
theorem open_verts (h : DataW.trod enc Tryz.prog w base spare held fuel 54 [.slice a len cap] = some x) : ∃ L : List (Int × Thing), L.length = len ∧ SlAt encV 3 w a L ∧ (∀ d ∈ L, okV d) ∧ len ≤ 9223372036854775807 ∧ len ≤ cap := by
  rcases open_slice_fields Tryz.underlying54 Tryz.underlying57 (by kernel_rfl) (by kernel_rfl) h with h0 | ⟨a', len', cap', n, hcs, hl, hm, hf⟩
  · simp at h0
    obtain ⟨rfl, rfl, rfl⟩ := h0
    exact ⟨[], rfl, SlAt.nil, by simp, by omega, by omega⟩
  · simp at hcs
    obtain ⟨rfl, rfl, rfl⟩ := hcs
    obtain ⟨L, h1, h2, h3⟩ := slAt_of (α := Int × Thing) (enc := encV) (k := 3) (w := w) (a := a') (len := len) (p := okV) (fun x => ⟨_, rfl⟩) (fun i hi => by
      obtain ⟨v0, y0, c0, r0⟩ := hf i hi 0 _ rfl
      obtain ⟨v3, y3, c3, r3⟩ := hf i hi 1 _ rfl
      obtain ⟨v4, y4, c4, r4⟩ := hf i hi 2 _ rfl
      obtain ⟨n0, e0, _, w0⟩ := DataW.trod_int Tryz.underlying3 r0
      obtain ⟨n3, e3, _, w3⟩ := DataW.trod_int Tryz.underlying5 r3
      obtain ⟨n4, e4, _, w4⟩ := DataW.trod_int Tryz.underlying3 r4
      simp at e0 e3 e4
      subst e0 e3 e4
      refine ⟨(n0, n3, n4), fun j u hu => ?_, i64_of_wf w0, i64_of_wf w4⟩
      match j, hu with
      | 0, hu => simp [encV] at hu; subst hu; exact c0
      | 1, hu => simp [encV] at hu; subst hu; exact c3
      | 2, hu => simp [encV] at hu; subst hu; exact c4)
    exact ⟨L, h1, h2, h3, by unfold maxLen at hm; omega, hl⟩
theorem open_edges (h : DataW.trod enc Tryz.prog w base spare held fuel 55 [.slice a len cap] = some x) : ∃ L : List ((Int × Int) × Thing), L.length = len ∧ SlAt encE 4 w a L ∧ (∀ d ∈ L, okEd d) ∧ len ≤ 9223372036854775807 ∧ len ≤ cap := by
  rcases open_slice_fields Tryz.underlying55 Tryz.underlying60 (by kernel_rfl) (by kernel_rfl) h with h0 | ⟨a', len', cap', n, hcs, hl, hm, hf⟩
  · simp at h0
    obtain ⟨rfl, rfl, rfl⟩ := h0
    exact ⟨[], rfl, SlAt.nil, by simp, by omega, by omega⟩
  · simp at hcs
    obtain ⟨rfl, rfl, rfl⟩ := hcs
    obtain ⟨L, h1, h2, h3⟩ := slAt_of (α := (Int × Int) × Thing) (enc := encE) (k := 4) (w := w) (a := a') (len := len) (p := okEd) (fun x => ⟨_, rfl⟩) (fun i hi => by
      obtain ⟨v0, y0, c0, r0⟩ := hf i hi 0 _ rfl
      obtain ⟨v1, y1, c1, r1⟩ := hf i hi 1 _ rfl
      obtain ⟨v3, y3, c3, r3⟩ := hf i hi 2 _ rfl
      obtain ⟨v4, y4, c4, r4⟩ := hf i hi 3 _ rfl
      obtain ⟨n0, e0, _, w0⟩ := DataW.trod_int Tryz.underlying3 r0
      obtain ⟨n1, e1, _, w1⟩ := DataW.trod_int Tryz.underlying3 r1
      obtain ⟨n3, e3, _, w3⟩ := DataW.trod_int Tryz.underlying5 r3
      obtain ⟨n4, e4, _, w4⟩ := DataW.trod_int Tryz.underlying3 r4
      simp at e0 e1 e3 e4
      subst e0 e1 e3 e4
      refine ⟨((n0, n1), (n3, n4)), fun j u hu => ?_, i64_of_wf w0, i64_of_wf w1, i64_of_wf w4⟩
      match j, hu with
      | 0, hu => simp [encE] at hu; subst hu; exact c0
      | 1, hu => simp [encE] at hu; subst hu; exact c1
      | 2, hu => simp [encE] at hu; subst hu; exact c3
      | 3, hu => simp [encE] at hu; subst hu; exact c4)
    exact ⟨L, h1, h2, h3, by unfold maxLen at hm; omega, hl⟩
end
end Go.Proofs.YtdkhondfahebnaaGreat
