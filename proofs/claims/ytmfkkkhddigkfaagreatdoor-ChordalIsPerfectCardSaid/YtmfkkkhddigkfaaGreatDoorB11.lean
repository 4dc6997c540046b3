/- Parts of a proof, laid together: Di, Hl, Pfo. Each part says its own conditions. -/
import Derived.Test.YtmfkkkhddigkfaaGreatDoorB9
import Derived.Test.YtmfkkkhddigkfaaGreatDoorB10
import Derived.WalkMore
/- CHORDAL GRAPHS, plain: a graph has a perfect elimination order exactly if it has no hole (Dirac). No program in sight. Conditions: see each theorem. -/
namespace Go.Proofs.YtmfkkkhddigkfaaGreatDoor
open Go

section
variable {V : List (Int × Thing)} {E : List ((Int × Int) × Thing)}
def Wlk (E : List ((Int × Int) × Thing)) : List Int → Prop
  | [] => True
  | [_] => True
  | x :: y :: l => hasE x y E = true ∧ Wlk E (y :: l)
/-- an induced path -/
def Ind (E : List ((Int × Int) × Thing)) : List Int → Prop
  | [] => True
  | [_] => True
  | x :: y :: l => hasE x y E = true ∧ (∀ z ∈ l, ¬ hasE x z E = true ∧ x ≠ z) ∧ Ind E (y :: l)
theorem Ind.tail {x : Int} {l : List Int} (h : Ind E (x :: l)) : Ind E l := by
  cases l with
  | nil => trivial
  | cons y l => exact h.2.2
theorem Ind.drop : ∀ {p l : List Int}, Ind E (p ++ l) → Ind E l
  | [], _, h => h
  | _ :: _, _, h => Ind.drop (Ind.tail h)
theorem last_split {α : Type} {P : α → Prop} : ∀ {l : List α}, (∃ z ∈ l, P z) → ∃ l1 z l2, l = l1 ++ z :: l2 ∧ P z ∧ ∀ w ∈ l2, ¬ P w
  | [], ⟨z, hz, _⟩ => by simp at hz
  | a :: r, h => by
    by_cases h1 : ∃ z ∈ r, P z
    · obtain ⟨l1, z, l2, rfl, h2, h3⟩ := last_split h1
      exact ⟨a :: l1, z, l2, rfl, h2, h3⟩
    · obtain ⟨z, hz, hp⟩ := h
      rcases List.mem_cons.1 hz with rfl | hz
      · exact ⟨[], z, r, rfl, hp, fun w hw hpw => h1 ⟨w, hw, hpw⟩⟩
      · exact absurd ⟨z, hz, hp⟩ h1
/-- a walk holds an induced path between its ends -/
theorem ind_of_walk : ∀ (l : List Int) (t : Int), Wlk E (l ++ [t]) → ∃ q : List Int, Ind E (q ++ [t]) ∧ (q ++ [t]).head? = (l ++ [t]).head? ∧ ∀ x ∈ q ++ [t], x ∈ l ++ [t]
  | [], t, _ => ⟨[], trivial, rfl, fun _ h => h⟩
  | x :: l, t, h => by
    have hw : Wlk E (l ++ [t]) ∧ ∃ y, (l ++ [t]).head? = some y ∧ hasE x y E = true := by
      cases l with
      | nil => exact ⟨trivial, t, rfl, h.1⟩
      | cons y l => exact ⟨h.2, y, rfl, h.1⟩
    obtain ⟨hw1, y, hy, hxy⟩ := hw
    obtain ⟨q, hq, hh, hs⟩ := ind_of_walk l t hw1
    rw [hy] at hh
    obtain ⟨q1, z, q2, he, hz, hno⟩ := last_split (P := fun z => z = x ∨ hasE x z E = true) (l := q ++ [t]) ⟨y, List.mem_of_mem_head? (by rw [hh]; rfl), .inr hxy⟩
    have hi2 : Ind E (z :: q2) := Ind.drop (p := q1) (by rw [← he]; exact hq)
    have hlast : ∃ q3, z :: q2 = q3 ++ [t] := by
      have h1 : (q ++ [t]).getLast? = some t := by simp
      rw [he] at h1
      have h2 : (z :: q2).getLast? = some t := by rw [List.getLast?_append] at h1; cases hg : (z :: q2).getLast? with
        | none => simp at hg
        | some u => rw [hg] at h1; simpa using h1
      obtain ⟨q3, h3⟩ := List.getLast?_eq_some_iff.1 h2
      exact ⟨q3, h3⟩
    obtain ⟨q3, hq3⟩ := hlast
    have hsub : ∀ w ∈ q3 ++ [t], w ∈ (x :: l) ++ [t] := fun w hw => by
      rw [← hq3] at hw
      have := hs w (by rw [he]; exact List.mem_append_right _ hw)
      exact List.mem_cons_of_mem _ this
    rcases hz with rfl | hz
    · exact ⟨q3, hq3 ▸ hi2, by rw [← hq3]; rfl, hsub⟩
    · refine ⟨x :: q3, ?_, rfl, fun w hw => ?_⟩
      · show Ind E (x :: (q3 ++ [t]))
        rw [← hq3]
        exact ⟨hz, fun w hw => ⟨fun h1 => hno w hw (.inr h1), fun h1 => hno w hw (.inl h1.symm)⟩, hi2⟩
      · rcases List.mem_cons.1 hw with rfl | hw
        · simp
        · exact hsub w hw
theorem ind_get (hi : GInv V E) : ∀ {q : List Int}, Ind E q → ∀ (i k : Nat) (h1 : i < q.length) (h2 : k < q.length), i < k → q[i] ≠ q[k] ∧ (hasE q[i] q[k] E = true ↔ k = i + 1)
  | [], _, i, k, h1, _, _ => by simp at h1
  | [x], _, i, k, h1, h2, h3 => by simp at h1 h2; omega
  | x :: y :: l, h, i, k, h1, h2, h3 => by
    cases k with
    | zero => omega
    | succ k =>
      cases i with
      | zero =>
        cases k with
        | zero => exact ⟨hasE_ne hi h.1, fun _ => rfl, fun _ => h.1⟩
        | succ k =>
          have hk : k < l.length := by simpa using h2
          have := h.2.1 l[k] (List.getElem_mem hk)
          exact ⟨this.2, fun h4 => absurd h4 this.1, fun h4 => by omega⟩
      | succ i =>
        have := ind_get hi (Ind.tail h) i k (by simpa using h1) (by simpa using h2) (by omega)
        simp only [List.getElem_cons_succ]
        exact ⟨this.1, this.2.trans (by omega)⟩
/-- a cycle of four vertices or more without a chord -/
def Cyc (E : List ((Int × Int) × Thing)) (c : List Int) : Prop := 4 ≤ c.length ∧ ∀ (i k : Nat) (_ : i < c.length) (_ : k < c.length), i < k → c[i] ≠ c[k] ∧ (hasE c[i] c[k] E = true ↔ k = i + 1 ∨ i = 0 ∧ k + 1 = c.length)
theorem cyc_of (hi : GInv V E) {v : Int} {q : List Int} (hl : 3 ≤ q.length) (hq : Ind E q) (hv : ∀ k (hk : k < q.length), v ≠ q[k] ∧ (hasE v q[k] E = true ↔ k = 0 ∨ k + 1 = q.length)) : Cyc E (v :: q) := by
  refine ⟨by rw [List.length_cons]; omega, fun i k h1 h2 h3 => ?_⟩
  cases k with
  | zero => omega
  | succ k =>
    rw [List.length_cons] at h1 h2 ⊢
    cases i with
    | zero =>
      simp only [List.getElem_cons_zero, List.getElem_cons_succ]
      have := hv k (by omega)
      refine ⟨this.1, this.2.trans ⟨?_, ?_⟩⟩
      · rintro (h | h)
        · left; omega
        · right; simp; omega
      · rintro (h | ⟨_, h⟩)
        · left; omega
        · right; omega
    | succ i =>
      simp only [List.getElem_cons_succ]
      have := ind_get hi hq i k (by omega) (by omega) (by omega)
      exact ⟨this.1, this.2.trans (by have h9 : (v :: q).length = q.length + 1 := rfl; omega)⟩
/-- any two are joined by a walk inside -/
def Con (E : List ((Int × Int) × Thing)) (X : List Int) : Prop := ∀ u ∈ X, ∀ v ∈ X, ∃ l : List Int, Wlk E (l ++ [v]) ∧ (l ++ [v]).head? = some u ∧ ∀ x ∈ l, x ∈ X
theorem Wlk.snoc : ∀ {l : List Int} {x y : Int}, Wlk E (l ++ [x]) → hasE x y E = true → Wlk E ((l ++ [x]) ++ [y])
  | [], _, _, _, h => ⟨h, trivial⟩
  | [_], _, _, h, h2 => ⟨h.1, h2, trivial⟩
  | _ :: b :: l, _, _, h, h2 => ⟨h.1, Wlk.snoc (l := b :: l) h.2 h2⟩
theorem Wlk.cons {l : List Int} {x y : Int} (h : Wlk E l) (h1 : l.head? = some y) (h2 : hasE x y E = true) : Wlk E (x :: l) := by
  cases l with
  | nil => cases h1
  | cons z l =>
    have : z = y := by simpa using h1
    subst this
    exact ⟨h2, h⟩
theorem Con.grow {X : List Int} (h : Con E X) {s x : Int} (hx : x ∈ X) (hs : hasE s x E = true) : Con E (s :: X) := by
  intro u hu0 v hv0
  rcases List.mem_cons.1 hu0 with hu | hu
  · rcases List.mem_cons.1 hv0 with hv | hv
    · rw [hu, hv]
      exact ⟨[], trivial, rfl, by simp⟩
    · obtain ⟨l, h1, h2, h3⟩ := h x hx v hv
      rw [hu]
      exact ⟨s :: l, h1.cons h2 hs, rfl, fun z hz => by
        rcases List.mem_cons.1 hz with hz | hz
        · simp [hz]
        · simp [h3 z hz]⟩
  · rcases List.mem_cons.1 hv0 with hv | hv
    · obtain ⟨l, h1, h2, h3⟩ := h u hu x hx
      rw [hv]
      refine ⟨l ++ [x], h1.snoc (hasE_symm hs), by rw [List.head?_append, h2]; rfl, fun z hz => ?_⟩
      rcases List.mem_append.1 hz with hz | hz
      · simp [h3 z hz]
      · rw [List.mem_singleton] at hz; simp [hz, hx]
    · obtain ⟨l, h1, h2, h3⟩ := h u hu v hv
      exact ⟨l, h1, h2, fun z hz => by simp [h3 z hz]⟩
theorem max_len {α : Type} {P : List α → Prop} {n : Nat} (hb : ∀ X, P X → X.length ≤ n) : (∃ X, P X) → ∃ X, P X ∧ ∀ X', P X' → X'.length ≤ X.length := by
  rintro ⟨X, hX⟩
  suffices h : ∀ (m : Nat) (X : List α), P X → n - X.length ≤ m → ∃ X, P X ∧ ∀ X', P X' → X'.length ≤ X.length from h _ X hX (Nat.le_refl _)
  intro m
  induction m with
  | zero => intro X hX hm; exact ⟨X, hX, fun X' h' => by have := hb X' h'; omega⟩
  | succ m ih =>
    intro X hX hm
    by_cases h : ∃ X', P X' ∧ X.length < X'.length
    · obtain ⟨X', h1, h2⟩ := h
      exact ih X' h1 (by have := hb X' h1; omega)
    · exact ⟨X, hX, fun X' h' => by
        rcases Nat.lt_or_ge X.length X'.length with h3 | h3
        · exact absurd ⟨X', h', h3⟩ h
        · exact h3⟩
open Classical in
/-- a graph without holes has a simplicial vertex -/
theorem dirac (hi : GInv V E) : ∀ (n : Nat) (L : List Int), L.length ≤ n → L.Nodup → L ≠ [] → (∀ c, (∀ x ∈ c, x ∈ L) → ¬ Cyc E c) → ∃ v ∈ L, Smp E v L
  | 0, L, h, _, hne, _ => absurd (List.eq_nil_of_length_eq_zero (by omega)) hne
  | n + 1, L, hl, hn, hne, hno => by
    by_cases hall : ∀ v ∈ L, ∀ w ∈ L, v ≠ w → hasE v w E = true
    · obtain ⟨v, hv⟩ := List.exists_mem_of_ne_nil L hne
      exact ⟨v, hv, fun x hx y hy _ _ hxy => hall x hx y hy hxy⟩
    · have hex : ∃ v ∈ L, ∃ w ∈ L, v ≠ w ∧ ¬ hasE v w E = true := by
        refine Classical.byContradiction fun h => hall fun v hv w hw hvw => Classical.byContradiction fun h1 => h ⟨v, hv, w, hw, hvw, h1⟩
      obtain ⟨v0, hv0, w0, hw0, hvw, hnad⟩ := hex
      obtain ⟨X, ⟨hXL, hXn, hXne, hXc, y0, hy0L, hy0X, hy0a⟩, hmax⟩ := max_len (n := L.length) (P := fun X => (∀ x ∈ X, x ∈ L) ∧ X.Nodup ∧ X ≠ [] ∧ Con E X ∧ ∃ y ∈ L, y ∉ X ∧ ∀ x ∈ X, ¬ hasE x y E = true)
        (fun X h => len_le_sub X L h.2.1 h.1) ⟨[v0], fun x hx => by rw [List.mem_singleton] at hx; rw [hx]; exact hv0, by simp, by simp, fun u hu v hv => by
          rw [List.mem_singleton] at hu hv
          rw [hu, hv]
          exact ⟨[], trivial, rfl, by simp⟩, w0, hw0, by simpa using hvw.symm, fun x hx => by rw [List.mem_singleton] at hx; rw [hx]; exact hnad⟩
      have hYm : ∀ y, y ∈ L.filter (fun y => decide (y ∉ X ∧ ∀ x ∈ X, ¬ hasE x y E = true)) ↔ y ∈ L ∧ y ∉ X ∧ ∀ x ∈ X, ¬ hasE x y E = true := fun y => by rw [List.mem_filter, decide_eq_true_eq]
      obtain ⟨x0, hx0⟩ := List.exists_mem_of_ne_nil X hXne
      have hYl : (L.filter (fun y => decide (y ∉ X ∧ ∀ x ∈ X, ¬ hasE x y E = true))).length < L.length := by
        refine Nat.lt_of_le_of_ne (List.length_filter_le _ _) fun e => ?_
        have := (List.length_filter_eq_length_iff.1 e) x0 (hXL x0 hx0)
        rw [decide_eq_true_eq] at this
        exact this.1 hx0
      obtain ⟨v, hv, hvs⟩ := dirac hi n (L.filter (fun y => decide (y ∉ X ∧ ∀ x ∈ X, ¬ hasE x y E = true))) (by omega) (hn.filter _) (List.ne_nil_of_mem ((hYm y0).2 ⟨hy0L, hy0X, hy0a⟩)) (fun c hc => hno c fun x hx => ((hYm x).1 (hc x hx)).1)
      obtain ⟨hvL, hvX, hva⟩ := (hYm v).1 hv
      have hS : ∀ s ∈ L, s ∉ X → (∃ x ∈ X, hasE x s E = true) → ∀ y ∈ L, y ∉ X → (∀ x ∈ X, ¬ hasE x y E = true) → hasE s y E = true := by
        intro s hsL hsX ⟨x, hx, hxs⟩ y hyL hyX hya
        refine Classical.byContradiction fun h => ?_
        have hne : y ≠ s := fun e => hya x hx (e ▸ hxs)
        have := hmax (s :: X) ⟨fun z hz => by
          rcases List.mem_cons.1 hz with rfl | hz
          · exact hsL
          · exact hXL z hz, List.nodup_cons.2 ⟨hsX, hXn⟩, by simp, hXc.grow hx (hasE_symm hxs), y, hyL, by simp [hyX, hne], fun z hz => by
          rcases List.mem_cons.1 hz with rfl | hz
          · exact h
          · exact hya z hz⟩
        rw [List.length_cons] at this
        omega
      refine ⟨v, hvL, fun p hp q hq hvp hvq hpq => ?_⟩
      have hpX : p ∉ X := fun h => hva p h (hasE_symm hvp)
      have hqX : q ∉ X := fun h => hva q h (hasE_symm hvq)
      by_cases hpY : ∃ x ∈ X, hasE x p E = true
      · by_cases hqY : ∃ x ∈ X, hasE x q E = true
        · refine Classical.byContradiction fun hna => ?_
          obtain ⟨x1, hx1, h1⟩ := hpY
          obtain ⟨x2, hx2, h2⟩ := hqY
          obtain ⟨l, hw, hh, hlx⟩ := hXc x1 hx1 x2 hx2
          have hwalk : Wlk E ((p :: (l ++ [x2])) ++ [q]) := by
            have := Wlk.snoc (E := E) (l := l) hw h2
            have hh2 : ((l ++ [x2]) ++ [q]).head? = some x1 := by rw [List.head?_append, hh]; rfl
            exact Wlk.cons (E := E) this hh2 (hasE_symm h1)
          obtain ⟨r, hr, hrh, hrs⟩ := ind_of_walk _ q hwalk
          have hrX : ∀ z ∈ r ++ [q], z = p ∨ z = q ∨ z ∈ X := fun z hz => by
            have := hrs z hz
            simp only [List.cons_append, List.append_assoc, List.mem_cons, List.mem_append, List.not_mem_nil, or_false] at this
            rcases this with h | h | h | h
            · exact .inl h
            · exact .inr (.inr (hlx z h))
            · exact .inr (.inr (h ▸ hx2))
            · exact .inr (.inl (by simpa using h))
          have hhead : (r ++ [q]).head? = some p := hrh.trans rfl
          obtain ⟨m, hm⟩ : ∃ m, r ++ [q] = m := ⟨_, rfl⟩
          have hlen : 0 < m.length := by rw [← hm]; simp
          have h0 : m[0] = p := by
            rw [hm] at hhead
            rw [List.head?_eq_getElem?, List.getElem?_eq_getElem hlen] at hhead
            exact Option.some.inj hhead
          have hlastq : ∀ (h : m.length - 1 < m.length), m[m.length - 1] = q := fun h => by
            subst hm
            simp
          rw [hm] at hr hrX
          have hg := ind_get hi hr
          have h3 : 3 ≤ m.length := by
            rcases Nat.lt_or_ge m.length 3 with h | h
            · have hcase : m.length = 1 ∨ m.length = 2 := by omega
              rcases hcase with hc | hc
              · have := hlastq (by omega)
                simp only [hc, Nat.sub_self, h0] at this
                exact absurd this hpq
              · have h4 := hlastq (by omega)
                have h5 := (hg 0 1 (by omega) (by omega) (by omega)).2.2 rfl
                simp only [hc] at h4
                rw [h0] at h5
                have h4' : m[1] = q := h4
                rw [h4'] at h5
                exact absurd h5 hna
            · exact h
          refine hno (v :: m) (fun z hz => ?_) (cyc_of hi h3 hr fun k hk => ?_)
          · rcases List.mem_cons.1 hz with rfl | hz
            · exact hvL
            · rcases hrX z hz with rfl | rfl | h
              · exact hp
              · exact hq
              · exact hXL z h
          · have hmem := hrX m[k] (List.getElem_mem hk)
            refine ⟨fun e => ?_, fun h => ?_, fun h => ?_⟩
            · rcases hmem with h | h | h
              · exact hasE_ne hi hvp (e.trans h)
              · exact hasE_ne hi hvq (e.trans h)
              · exact hvX (e ▸ h)
            · rcases hmem with h5 | h5 | h5
              · left
                rcases Nat.eq_zero_or_pos k with h6 | h6
                · exact h6
                · exact absurd (h0.trans h5.symm) (hg 0 k hlen hk h6).1
              · right
                rcases Nat.lt_or_ge k (m.length - 1) with h6 | h6
                · exact absurd (h5.trans (hlastq (by omega)).symm) (hg k (m.length - 1) hk (by omega) h6).1
                · omega
              · exact absurd (hasE_symm h) (hva _ h5)
            · rcases h with h | h
              · subst h; rw [h0]; exact hvp
              · have h6 : k = m.length - 1 := by omega
                subst h6
                rw [hlastq (by omega)]
                exact hvq
        · exact hS p hp hpX hpY q hq hqX (fun x hx h => hqY ⟨x, hx, h⟩)
      · by_cases hqY : ∃ x ∈ X, hasE x q E = true
        · exact hasE_symm (hS q hq hqX hqY p hp hpX (fun x hx h => hpY ⟨x, hx, h⟩))
        · exact hvs p ((hYm p).2 ⟨hp, hpX, fun x hx h => hpY ⟨x, hx, h⟩⟩) q ((hYm q).2 ⟨hq, hqX, fun x hx h => hqY ⟨x, hx, h⟩⟩) hvp hvq hpq
/-- .. and a perfect elimination order -/
theorem cho_of (hi : GInv V E) : ∀ (n : Nat) (L : List Int), L.length ≤ n → L.Nodup → (∀ c, (∀ x ∈ c, x ∈ L) → ¬ Cyc E c) → Cho E L
  | 0, L, h, _, _ => by
    have : L = [] := List.eq_nil_of_length_eq_zero (by omega)
    subst this
    exact ⟨[], .nil, trivial⟩
  | n + 1, L, hl, hn, hno => by
    by_cases hne : L = []
    · subst hne; exact ⟨[], .nil, trivial⟩
    · obtain ⟨v, hv, hs⟩ := dirac hi _ L (Nat.le_refl _) hn hne hno
      have h1 := out_lt hv
      exact Cho.back hn hv hs (cho_of hi n (outR L v) (by omega) (hn.filter _) fun c hc => hno c fun x hx => (mem_out.1 (hc x hx)).1)
theorem first_split {α : Type} {P : α → Prop} : ∀ {l : List α}, (∃ z ∈ l, P z) → ∃ l1 z l2, l = l1 ++ z :: l2 ∧ P z ∧ ∀ w ∈ l1, ¬ P w
  | [], ⟨z, hz, _⟩ => by simp at hz
  | a :: r, h => by
    by_cases ha : P a
    · exact ⟨[], a, r, rfl, ha, by simp⟩
    · obtain ⟨z, hz, hp⟩ := h
      rcases List.mem_cons.1 hz with rfl | hz
      · exact absurd hp ha
      · obtain ⟨l1, z', l2, rfl, h2, h3⟩ := first_split ⟨z, hz, hp⟩
        exact ⟨a :: l1, z', l2, rfl, h2, fun w hw => by
          rcases List.mem_cons.1 hw with rfl | hw
          · exact ha
          · exact h3 w hw⟩
theorem Peo.suffix : ∀ {p l : List Int}, Peo E (p ++ l) → Peo E l
  | [], _, h => h
  | _ :: _, _, h => Peo.suffix h.2
/-- no hole where there is a perfect elimination order -/
theorem no_cyc (hi : GInv V E) {L c : List Int} (h : Cho E L) (hc : ∀ x ∈ c, x ∈ L) : ¬ Cyc E c := by
  rintro ⟨h4, hg⟩
  obtain ⟨o, hp, ho⟩ := h
  have hc0 : c[0] ∈ c := List.getElem_mem _
  obtain ⟨o1, v, o2, rfl, hv, hno⟩ := first_split (P := fun z => z ∈ c) (l := o) ⟨c[0], hp.mem_iff.2 (hc _ hc0), hc0⟩
  have hsm := (Peo.suffix ho).1
  have hin : ∀ x ∈ c, x ≠ v → x ∈ o2 := fun x hx hne => by
    have := hp.mem_iff.2 (hc x hx)
    rcases List.mem_append.1 this with h1 | h1
    · exact absurd hx (hno x h1)
    · exact (List.mem_cons.1 h1).resolve_left hne
  obtain ⟨j, hj, rfl⟩ := List.getElem_of_mem hv
  -- the two neighbors on the cycle
  have key : ∀ i k (hi' : i < c.length) (hk : k < c.length), hasE c[j] c[i] E = true → hasE c[j] c[k] E = true → i ≠ k → hasE c[i] c[k] E = true := fun i k hi' hk h1 h2 hne => by
    refine hsm c[i] (hin _ (List.getElem_mem _) (hasE_ne hi h1).symm) c[k] (hin _ (List.getElem_mem _) (hasE_ne hi h2).symm) h1 h2 fun e => ?_
    rcases Nat.lt_trichotomy i k with h3 | h3 | h3
    · exact (hg i k hi' hk h3).1 e
    · exact hne h3
    · exact (hg k i hk hi' h3).1 e.symm
  have adj : ∀ i k (hi' : i < c.length) (hk : k < c.length), i < k → (hasE c[i] c[k] E = true ↔ k = i + 1 ∨ i = 0 ∧ k + 1 = c.length) := fun i k hi' hk h => (hg i k hi' hk h).2
  rcases Nat.eq_zero_or_pos j with h0 | h0
  · subst h0
    have := key 1 (c.length - 1) (by omega) (by omega) ((adj 0 1 (by omega) (by omega) (by omega)).2 (by omega)) ((adj 0 (c.length - 1) (by omega) (by omega) (by omega)).2 (by omega)) (by omega)
    have := (adj 1 (c.length - 1) (by omega) (by omega) (by omega)).1 this
    omega
  · by_cases hl : j + 1 = c.length
    · have := key (j - 1) 0 (by omega) (by omega) (hasE_symm ((adj (j - 1) j (by omega) hj (by omega)).2 (by omega))) (hasE_symm ((adj 0 j (by omega) hj h0).2 (by omega))) (by omega)
      have := (adj 0 (j - 1) (by omega) (by omega) (by omega)).1 (hasE_symm this)
      omega
    · have := key (j - 1) (j + 1) (by omega) (by omega) (hasE_symm ((adj (j - 1) j (by omega) hj (by omega)).2 (by omega))) ((adj j (j + 1) hj (by omega) (by omega)).2 (by omega)) (by omega)
      have := (adj (j - 1) (j + 1) (by omega) (by omega) (by omega)).1 this
      omega
end
end Go.Proofs.YtmfkkkhddigkfaaGreatDoor
/- HOLES, plain: the breadth-first search finds the length of a shortest hole that begins with a given way. No program in sight. Conditions: see each theorem. -/
namespace Go.Proofs.YtmfkkkhddigkfaaGreatDoor
open Go

theorem mem_or {N M : Nat} {x : Int} : x ∈ toL (N ||| M) ↔ x ∈ toL N ∨ x ∈ toL M := by
  rw [mem_toL', mem_toL', mem_toL', Nat.testBit_or, Bool.or_eq_true]
  constructor
  · rintro ⟨h1, h2, h3 | h3⟩
    · exact .inl ⟨h1, h2, h3⟩
    · exact .inr ⟨h1, h2, h3⟩
  · rintro (⟨h1, h2, h3⟩ | ⟨h1, h2, h3⟩)
    · exact ⟨h1, h2, .inl h3⟩
    · exact ⟨h1, h2, .inr h3⟩
theorem mem_minus {N M : Nat} {x : Int} : x ∈ toL (minusS N M) ↔ x ∈ toL N ∧ x ∉ toL M := by
  rw [mem_toL', mem_toL', mem_toL', minusS_bit, Bool.and_eq_true, Bool.not_eq_true']
  constructor
  · rintro ⟨h1, h2, h3, h4⟩; exact ⟨⟨h1, h2, h3⟩, fun h => by rw [h.2.2] at h4; cases h4⟩
  · rintro ⟨⟨h1, h2, h3⟩, h4⟩; exact ⟨h1, h2, h3, by
      cases hb : M.testBit x.toNat
      · rfl
      · exact absurd ⟨h1, h2, hb⟩ h4⟩
theorem mem_from {l : List Int} {x : Int} : x ∈ toL (fromS l) ↔ 0 ≤ x ∧ x < 1024 ∧ x ∈ l := by
  rw [mem_toL', fromS_bit, Bool.and_eq_true, decide_eq_true_eq, decide_eq_true_eq]
  constructor
  · rintro ⟨h1, h2, h3, h4⟩
    rw [show ((x.toNat : Nat) : Int) = x by omega] at h4
    exact ⟨h1, h2, h4⟩
  · rintro ⟨h1, h2, h3⟩
    refine ⟨h1, h2, by omega, ?_⟩
    rwa [show ((x.toNat : Nat) : Int) = x by omega]
section
variable {V : List (Int × Thing)} {E : List ((Int × Int) × Thing)}
theorem mem_nearU (hi : GInv V E) {N : Nat} {x : Int} : x ∈ toL (nearU E N) ↔ ∃ u ∈ toL N, hasE u x E = true := by
  unfold nearU
  suffices h : ∀ (l : List Int) (a : Nat), x ∈ toL (l.foldl (fun a v => a ||| nearS v E) a) ↔ x ∈ toL a ∨ ∃ u ∈ l, hasE u x E = true by
    rw [h, show toL 0 = [] from toL_nil fun k _ => Nat.zero_testBit k]
    simp
  intro l
  induction l with
  | nil => intro a; simp
  | cons v l ih =>
    intro a
    rw [List.foldl_cons, ih, mem_or, mem_near hi, or_assoc]
    simp
theorem any_mem {N : Nat} : anyB N = true ↔ ∃ x, x ∈ toL N := by
  rw [anyB_iff]
  exact ⟨fun h => List.exists_mem_of_ne_nil _ h, fun ⟨x, hx⟩ => List.ne_nil_of_mem hx⟩
theorem toL_len_le (N : Nat) : (toL N).length ≤ 1024 := by
  have := len_le_sub (toL N) ((List.range 1024).map fun (i : Nat) => (i : Int)) (toL_nodup N) (fun x hx => by
    obtain ⟨h1, h2, _⟩ := mem_toL'.1 hx
    exact List.mem_map.2 ⟨x.toNat, List.mem_range.2 (by omega), by omega⟩)
  simpa using this
theorem or_len {N M : Nat} (hd : ∀ x ∈ toL M, x ∉ toL N) : (toL N).length + (toL M).length ≤ (toL (N ||| M)).length := by
  have := len_le_sub (toL N ++ toL M) (toL (N ||| M)) (List.nodup_append.2 ⟨toL_nodup N, toL_nodup M, fun a ha b hb e => hd b hb (e ▸ ha)⟩) (fun x hx => mem_or.2 (by simpa using hx))
  simpa using this
theorem Wlk.drop : ∀ {p l : List Int}, Wlk E (p ++ l) → Wlk E l
  | [], _, h => h
  | [_], [], _ => trivial
  | [_], _ :: _, h => h.2
  | _ :: b :: p, _, h => Wlk.drop (p := b :: p) h.2
/-- what was seen needs no second look -/
structure Bfs (E : List ((Int × Int) × Thing)) (may last at_ seen : Nat) : Prop where
  apart : ∀ x ∈ toL at_, x ∉ toL seen
  noend : ∀ y ∈ toL seen, ∀ z ∈ toL last, ¬ hasE y z E = true
  close : ∀ y ∈ toL seen, ∀ z ∈ toL may, hasE y z E = true → z ∈ toL seen ∨ z ∈ toL at_
theorem Bfs.next (hi : GInv V E) {may last at_ seen : Nat} (h : Bfs E may last at_ seen) (hno : ¬ anyB (nearU E at_ &&& last) = true) : Bfs E may last (minusS (nearU E at_ &&& may) (seen ||| at_)) (seen ||| at_) := by
  refine ⟨fun x hx => (mem_minus.1 hx).2, fun y hy z hz hyz => ?_, fun y hy z hz hyz => ?_⟩
  · rcases mem_or.1 hy with h1 | h1
    · exact h.noend y h1 z hz hyz
    · exact hno (any_mem.2 ⟨z, mem_and.2 ⟨(mem_nearU hi).2 ⟨y, h1, hyz⟩, hz⟩⟩)
  · by_cases hm : z ∈ toL (seen ||| at_)
    · exact .inl hm
    · rcases mem_or.1 hy with h1 | h1
      · exact .inl (mem_or.2 (h.close y h1 z hz hyz))
      · exact .inr (mem_minus.2 ⟨mem_and.2 ⟨(mem_nearU hi).2 ⟨y, h1, hyz⟩, hz⟩, hm⟩)
/-- a way to the end is found, and none shorter is missed -/
theorem short_le (hi : GInv V E) {may last : Nat} (f : Nat) : ∀ (at_ seen : Nat) (n : Int) (u : Int) (r : List Int) (x : Int), 1025 ≤ f + (toL seen).length → 0 < n → Bfs E may last at_ seen →
    u ∈ toL at_ → (∀ z ∈ r, z ∈ toL may) → x ∈ toL last → Wlk E ((u :: r) ++ [x]) → 0 < shortF E may last f at_ seen n ∧ shortF E may last f at_ seen n ≤ n + r.length := by
  induction f with
  | zero =>
    intro at_ seen n u r x hf _ _ _ _ _ _
    have := toL_len_le seen
    omega
  | succ f ih =>
    intro at_ seen n u r x hf hn hB hu hr hx hw
    rw [shortF, if_pos (any_mem.2 ⟨u, hu⟩)]
    by_cases hstop : anyB (nearU E at_ &&& last) = true
    · rw [if_pos hstop]
      omega
    · rw [if_neg hstop]
      obtain ⟨l1, z, l2, he, hz, hno⟩ := last_split (P := fun z => z ∈ toL seen ∨ z ∈ toL at_) (l := u :: r) ⟨u, by simp, .inr hu⟩
      have hlen : l2.length ≤ r.length := by
        have := congrArg List.length he
        simp at this
        omega
      have hw2 : Wlk E (z :: l2 ++ [x]) := by
        rw [he, List.append_assoc] at hw
        exact Wlk.drop hw
      have hl2 : ∀ y ∈ l2, y ∈ toL may := fun y hy => by
        have h1 : y ∈ u :: r := by rw [he]; simp [hy]
        rcases List.mem_cons.1 h1 with h2 | h2
        · exact absurd (.inr (h2 ▸ hu)) (hno y hy)
        · exact hr y h2
      cases l2 with
      | nil =>
        exfalso
        rcases hz with hz | hz
        · exact hB.noend z hz x hx hw2.1
        · exact hstop (any_mem.2 ⟨x, mem_and.2 ⟨(mem_nearU hi).2 ⟨z, hz, hw2.1⟩, hx⟩⟩)
      | cons y l3 =>
        have hy := hl2 y (by simp)
        have hny := hno y (by simp)
        have hza : z ∈ toL at_ := by
          rcases hz with hz | hz
          · exact absurd (hB.close z hz y hy hw2.1) hny
          · exact hz
        have hat : y ∈ toL (minusS (nearU E at_ &&& may) (seen ||| at_)) := mem_minus.2 ⟨mem_and.2 ⟨(mem_nearU hi).2 ⟨z, hza, hw2.1⟩, hy⟩, fun h => hny (mem_or.1 h)⟩
        have hgrow := or_len (N := seen) (M := at_) hB.apart
        have hpos : 0 < (toL at_).length := List.length_pos_of_mem hu
        have := ih _ _ (n + 1) y l3 x (by omega) (by omega) (hB.next hi hstop) hat (fun z hz => hl2 z (by simp [hz])) hx hw2.2
        rw [List.length_cons] at hlen
        omega
/-- what is found is a way without a chord -/
theorem short_way (hi : GInv V E) {may last : Nat} (f : Nat) : ∀ (at_ seen : Nat) (n : Int), 0 < n → 0 < shortF E may last f at_ seen n →
    ∃ (u : Int) (r : List Int) (x : Int), u ∈ toL at_ ∧ (∀ z ∈ r, z ∈ toL may ∧ z ∉ toL seen ∧ z ∉ toL at_) ∧ x ∈ toL last ∧ Ind E (u :: r) ∧ (∀ k (hk : k < (u :: r).length), hasE (u :: r)[k] x E = true ↔ k = r.length) ∧ shortF E may last f at_ seen n = n + r.length := by
  induction f with
  | zero => intro _ _ _ _ h; simp [shortF] at h
  | succ f ih =>
    intro at_ seen n hn h
    rw [shortF] at h ⊢
    by_cases ha : anyB at_ = true
    · rw [if_pos ha] at h ⊢
      by_cases hstop : anyB (nearU E at_ &&& last) = true
      · rw [if_pos hstop] at h ⊢
        obtain ⟨x, hx⟩ := any_mem.1 hstop
        obtain ⟨h1, h2⟩ := mem_and.1 hx
        obtain ⟨u, hu, hux⟩ := (mem_nearU hi).1 h1
        refine ⟨u, [], x, hu, by simp, h2, trivial, fun k hk => ?_, by simp⟩
        have : k = 0 := by simpa using hk
        subst this
        simp [hux]
      · rw [if_neg hstop] at h ⊢
        obtain ⟨u', r, x, h1, h2, h3, h4, h5, h6⟩ := ih _ _ (n + 1) (by omega) h
        obtain ⟨h7, h8⟩ := mem_minus.1 h1
        obtain ⟨h9, h10⟩ := mem_and.1 h7
        obtain ⟨u, hu, huu⟩ := (mem_nearU hi).1 h9
        have hus : u ∈ toL (seen ||| at_) := mem_or.2 (.inr hu)
        refine ⟨u, u' :: r, x, hu, fun z hz => ?_, h3, ⟨huu, fun z hz => ⟨fun hc => ?_, fun e => ?_⟩, h4⟩, fun k hk => ?_, by rw [h6, List.length_cons]; push_cast; omega⟩
        · rcases List.mem_cons.1 hz with rfl | hz
          · exact ⟨h10, fun h => h8 (mem_or.2 (.inl h)), fun h => h8 (mem_or.2 (.inr h))⟩
          · obtain ⟨g1, g2, _⟩ := h2 z hz
            exact ⟨g1, fun h => g2 (mem_or.2 (.inl h)), fun h => g2 (mem_or.2 (.inr h))⟩
        · obtain ⟨g1, g2, g3⟩ := h2 z hz
          exact g3 (mem_minus.2 ⟨mem_and.2 ⟨(mem_nearU hi).2 ⟨u, hu, hc⟩, g1⟩, g2⟩)
        · exact (h2 z hz).2.1 (e ▸ hus)
        · cases k with
          | zero =>
            simp only [List.getElem_cons_zero, List.length_cons]
            refine ⟨fun hc => absurd (any_mem.2 ⟨x, mem_and.2 ⟨(mem_nearU hi).2 ⟨u, hu, hc⟩, h3⟩⟩) hstop, fun hc => by omega⟩
          | succ k =>
            simp only [List.getElem_cons_succ, List.length_cons]
            exact (h5 k (by simpa using hk)).trans (by omega)
    · rw [if_neg ha] at h
      omega
end
end Go.Proofs.YtmfkkkhddigkfaaGreatDoor
/- chordal.PerfectOrder. Conditions: see each theorem. -/
namespace Go.Proofs.YtmfkkkhddigkfaaGreatDoor
open Go Go.RowKit Go.Shelf
attribute [local go_sem] qUpon lUpon

/-- what PerfectOrder hands back -/
def PoPost (w : World) (o : Option (List Int)) (e : Ending) (w' : World) : Prop := ∃ A c, e = .returned (.tuple #[.slice A (o.getD []).length c, .bool o.isSome]) ∧ w'.ownsRow w.heap.size 3 1 (.slice A (o.getD []).length c) (o.getD []).length ((o.getD []).flatMap encI) ∧ Ext w w'
theorem PoPost.none {w w' : World} (h : Ext w w') : PoPost w none (.returned (.tuple #[.slice none 0 0, .bool false])) w' := ⟨_, _, rfl, World.ownsRow_nil _ _ _ _, h⟩
theorem PoPost.some {w w' : World} {xs : List Int} {A : Option Addr} {n c : Nat} (hn : n = xs.length) (h : w'.ownsRow w.heap.size 3 1 (.slice A xs.length c) xs.length (xs.flatMap encI)) (hx : Ext w w') : PoPost w (some xs) (.returned (.tuple #[.slice A n c, .bool true])) w' := ⟨A, c, by rw [hn]; rfl, h, hx⟩

set_option maxRecDepth 100000 in
theorem eqS_nil {N : Nat} : eqS N 0 = true ↔ toL N = [] := by
  rw [eqS_iff, List.eq_nil_iff_forall_not_mem]
  have hm := fun x => mem_toL' (N := N) (x := x)
  generalize toL N = l at hm
  constructor
  · intro h x hx
    have := (hm x).1 hx
    have h2 := h x.toNat (by omega)
    rw [this.2.2, Nat.zero_testBit] at h2
    cases h2
  · intro h k hk
    rw [Nat.zero_testBit]
    cases hb : N.testBit k
    · rfl
    · exact absurd ((hm k).2 ⟨by omega, by omega, by simpa using hb⟩) (h _)
theorem find_pre {l pre : List Int} {p : Int → Bool} {u : Int} (h : (pre ++ [u]) <+: l) (hp : ∀ x ∈ pre, p x = false) (hu : p u = true) : l.find? p = some u := by
  obtain ⟨r, rfl⟩ := h
  rw [List.append_assoc, List.find?_append, List.find?_eq_none.2 (fun x hx => by rw [hp x hx]; simp)]
  simp [hu]
theorem poS_nil {E : List ((Int × Int) × Thing)} {N f : Nat} (hf : (toL N).length < f) (h : toL N = []) : poS E f N = some [] := by
  cases f with
  | zero => omega
  | succ f =>
    rw [poS, if_neg (fun k => anyB_iff.1 k h)]
theorem poS_none {E : List ((Int × Int) × Thing)} {N f : Nat} (hf : (toL N).length < f) (hq : eqS N 0 = false) (h : ∀ x ∈ toL N, simpleS E x N = false) : poS E f N = none := by
  have hne : toL N ≠ [] := fun e => by rw [eqS_nil.2 e] at hq; cases hq
  cases f with
  | zero => omega
  | succ f =>
    rw [poS, if_pos (anyB_iff.2 hne), List.find?_eq_none.2 (fun x hx => by rw [h x hx]; simp)]
    rfl
theorem poS_step {E : List ((Int × Int) × Thing)} {N f : Nat} {u : Int} (hf : (toL N).length < f) (hq : eqS N 0 = false) (h : (toL N).find? (fun x => simpleS E x N) = some u) :
    ∃ f', f = f' + 1 ∧ poS E f N = (poS E f' (withoutS N u)).map (u :: ·) ∧ (toL (withoutS N u)).length < (toL N).length := by
  have hne : toL N ≠ [] := fun e => by rw [eqS_nil.2 e] at hq; cases hq
  cases f with
  | zero => omega
  | succ f =>
    refine ⟨f, rfl, ?_, ?_⟩
    · rw [poS, if_pos (anyB_iff.2 hne), h]
      rfl
    · have e := toL_without N u
      have hm := List.mem_of_find?_eq_some h
      clear h hf hq
      generalize toL (withoutS N u) = l2 at *
      generalize toL N = l at *
      subst e
      exact out_lt hm

/-- its variables: the graph, what is left, what has been taken -/
structure PoI (og : Option Addr) (bg bl bo base N : Nat) (xs : List Int) (v : Value) (W : World) : Prop where
  gc : Blk W bg 24 #[.pointer og]
  left : Blk W bl 51 (setC N)
  out : Acc encI 3 31 1 base bo xs v W
def poT (bg bl bo : Nat) (v : Value) : List Nat := bg :: bl :: accT bo v
theorem PoI.keep {og : Option Addr} {bg bl bo base N : Nat} {xs : List Int} {v : Value} {W W' : World} {S : List Nat} (h : PoI og bg bl bo base N xs v W) (hk : Keep S W W') (hS : ∀ x ∈ S, x ∉ poT bg bl bo v) : PoI og bg bl bo base N xs v W' :=
  ⟨h.gc.keep hk (fun hm => hS _ hm (by simp [poT])), h.left.keep hk (fun hm => hS _ hm (by simp [poT])), h.out.keep hk (fun x hx hm => hS x hx (by simp [poT, hm]))⟩
theorem PoI.ext {og : Option Addr} {bg bl bo base N : Nat} {xs : List Int} {v : Value} {W W' : World} (h : PoI og bg bl bo base N xs v W) (hx : Ext W W') : PoI og bg bl bo base N xs v W' := h.keep (hx.keep []) (by simp)
theorem PoI.below {og : Option Addr} {bg bl bo base N : Nat} {xs : List Int} {v : Value} {W : World} (h : PoI og bg bl bo base N xs v W) : ∀ x ∈ poT bg bl bo v, x < W.heap.size := by
  intro x hx
  rcases List.mem_cons.1 hx with rfl | hx
  · exact h.gc.lt
  rcases List.mem_cons.1 hx with rfl | hx
  · exact h.left.lt
  · exact h.out.below x hx

set_option maxRecDepth 100000 in
set_option maxHeartbeats 16000000 in
theorem perfect_any (og : Option Addr) (V : List (Int × Thing)) (E : List ((Int × Int) × Thing)) (w : World) (hg : GL w og V E) (hT : Tab w) :
    Calls Tryz.prog 14 #[.pointer og] w (PoPost w (peoS V E)) := by
  have hg' := hide hg
  have hT' := hide hT
  have hTl := hide hT.lt
  have hBg := hide (Blk.new w 24 #[.pointer og])
  have hx1 := hide (ext_self1 w (.cells #[.pointer og] 24))
  have q0 := (unhide hBg).cells 0 (v := .pointer og) rfl
  have hself := Ext.refl (w.alloc (.cells #[.pointer og] 24))
  clear hg hT
  refine callsIn_wide.1 (callsIn_of_wp_marks (n := 0) Tryz.func14 rfl trivial (wpIn_wide.2 ?_))
  simp only [Tryz.ntmps14, List.size_toArray, List.length_cons, List.length_nil, Nat.reduceAdd, Nat.reduceSub, Array.replicate_succ, Array.replicate_zero, List.push_toArray, List.append_toArray, List.nil_append, List.cons_append]
  go_wp2_with fail
  go_step3
  try dsimp only
  repeat ((fail_if_success (with_reducible refine wp_reg (id := 1) ?_)); (first | go_values | go_skip | go_step | go_guarded | go_upon | go_in | go_back | fail))
  with_reducible refine wp_reg (id := 1) ?_
  generalize w.alloc (.cells #[.pointer og] 24) = w1 at *
  iterate 2
    refine wpO_want rfl ?_
    go_simp
  refine (vsetG og V E w1 ((unhide hg').ext (unhide hx1))).mono ?_
  rintro _ w2 ⟨rfl, hx2⟩
  refine ⟨_, rfl, ?_⟩
  refine wpO_want rfl ?_
  go_simp
  have hB2 := Blk.new w2 51 (setC 0)
  refine wpO_skip rfl (store_SetR (N := vS V) rfl rfl rfl hB2) (wpO_done ?_)
  have hBl := hide (hB2.row (setC (vS V)))
  have hx3 := hide ((((unhide hx1).trans hx2).trans (ext_self1 w2 (.cells (setC 0) 51))).of_new (Keep.setRow _ w2.heap.size (setC (vS V))) (by have := Below.size ((unhide hx1).trans hx2); simp; omega))
  have hBg3 := hide ((((unhide hBg).ext hx2).ext (ext_self1 w2 (.cells (setC 0) 51))).keep (Keep.setRow _ w2.heap.size (setC (vS V))) (by have := (unhide hBg).lt; have := Below.size hx2; rw [List.mem_singleton]; omega))
  have hbl := hide (show w.heap.size < w2.heap.size by have := (unhide hBg).lt; have := Below.size hx2; omega)
  clear hB2 hBg hx1 hx2 q0 hself
  rw [show (#[.int .u64 0, .int .u64 0, .int .u64 0, .int .u64 0, .int .u64 0, .int .u64 0, .int .u64 0, .int .u64 0, .int .u64 0, .int .u64 0, .int .u64 0, .int .u64 0, .int .u64 0, .int .u64 0, .int .u64 0, .int .u64 0] : Array Value) = setC 0 from rfl] at *
  generalize (w2.alloc (.cells (setC 0) 51)).setRow w2.heap.size (setC (vS V)) = w3 at *
  generalize w2.heap.size = bl at *
  have hO := hide (Acc.new (enc := encI) (T := 3) (ST := 31) (k := 1) w3)
  have hx4 := hide ((unhide hx3).trans (ext_self1 w3 (.cells #[.slice none 0 0] 31)))
  have hBl4 := hide ((unhide hBl).ext (ext_self1 w3 (.cells #[.slice none 0 0] 31)))
  have hBg4 := hide ((unhide hBg3).ext (ext_self1 w3 (.cells #[.slice none 0 0] 31)))
  have hbo := hide (show bl < w3.heap.size from (unhide hBl).lt)
  clear hBl hBg3 hx3
  go_wp2_with fail
  go_step3
  go_wp2_with fail
  generalize w3.alloc (.cells #[.slice none 0 0] 31) = w4 at *
  generalize w3.heap.size = bo at *
  generalize hbg : w.heap.size = bg at *
  have hI0 : PoI og bg bl bo (bo + 1) (vS V) [] (.slice none 0 0) w4 := ⟨unhide hBg4, unhide hBl4, unhide hO⟩
  have hR0 : Run w (poT bg bl bo (.slice none 0 0)) [] w4 := Run.new (unhide hx4) (by
    intro x hx
    simp only [poT, accT, Value.ownBlock, Option.toList, List.mem_cons, List.not_mem_nil, or_false] at hx
    have h1 := unhide hbl
    have h2 := unhide hbo
    rcases hx with rfl | rfl | rfl <;> omega) hI0.below
  have hI0' := hide hI0
  have hR0' := hide hR0
  have hblo := hide (show bg < bl ∧ bl < bo from ⟨unhide hbl, unhide hbo⟩)
  clear hI0 hR0 hO hx4 hBl4 hBg4 hbl hbo
  refine wp_loop_ix (fun n a' wr => ∃ (N f : Nat) (xs : List Int) (v : Value), a'.tmps.size = 27 ∧ a'.tmps.getD 1 undef = .pointer (some ⟨bg, 0, none⟩) ∧ a'.tmps.getD 4 undef = .pointer (some ⟨bl, 0, none⟩) ∧ a'.tmps.getD 5 undef = .pointer (some ⟨bo, 0, none⟩) ∧ PoI og bg bl bo (bo + 1) N xs v wr ∧ Run w (poT bg bl bo v) a'.defers wr ∧ n = (toL N).length ∧ (toL N).length < f ∧ xs.length + (toL N).length ≤ 1024 ∧ peoS V E = (poS E f N).map (xs ++ ·)) (toL (vS V)).length ?_ ?_
  · exact ⟨vS V, 1025, [], .slice none 0 0, rfl, rfl, rfl, rfl, unhide hI0', unhide hR0', rfl, Nat.lt_succ_of_le (toL_len_le _), by have := toL_len_le (vS V); simpa using this, by simp [peoS]⟩
  · clear hI0' hR0'
    rintro n ⟨tm, ds⟩ wr ⟨N, f, xs, v, hsz, e1, e4, e5, hI, hR, rfl, hf, hxl, hpeo⟩
    obtain ⟨us, rfl⟩ : ∃ us : Nat → Value, tm = #[us 0, us 1, us 2, us 3, us 4, us 5, us 6, us 7, us 8, us 9, us 10, us 11, us 12, us 13, us 14, us 15, us 16, us 17, us 18, us 19, us 20, us 21, us 22, us 23, us 24, us 25, us 26] := ⟨fun i => tm.getD i undef, arr_fn hsz⟩
    have h1 : us 1 = .pointer (some ⟨bg, 0, none⟩) := e1
    have h4 : us 4 = .pointer (some ⟨bl, 0, none⟩) := e4
    have h5 : us 5 = .pointer (some ⟨bo, 0, none⟩) := e5
    clear hsz e1 e4 e5
    simp only [h1, h4, h5]
    clear h1 h4 h5
    dsimp only at hR
    have hI' := hide hI
    have hR' := hide hR
    have hf' := hide hf
    have hxl' := hide hxl
    have hpeo' := hide hpeo
    clear hI hR hf hxl hpeo
    obtain ⟨q, hq⟩ : ∃ q, eqS N 0 = q := ⟨_, rfl⟩
    have hq' := hide hq
    have hE := fun w => empty_any N w
    simp only [hq] at hE
    clear hq
    try dsimp only
    repeat ((fail_if_success (with_reducible refine wp_reg (id := 3) ?_)); (first | go_values | go_skip | go_step | go_guarded | go_upon | go_in | go_back | fail))
    with_reducible refine wp_reg (id := 3) ?_
    refine wpO_val rfl (load_SetR (N := N) rfl rfl (unhide hI').left.whole) ?_
    refine wpO_want rfl ?_
    go_simp
    refine (hE wr).mono ?_
    rintro _ w5 ⟨rfl, hx5⟩
    refine ⟨_, rfl, ?_⟩
    refine wpO_want rfl ?_
    go_simp
    refine wpO_done ?_
    try go_frame
    have hI5 := hide ((unhide hI').ext hx5)
    have hR5 := hide ((unhide hR').stepE hx5)
    clear hI' hR' hx5 hE
    cases q
    · -- not empty
      try dsimp only
      repeat ((fail_if_success (with_reducible refine wp_reg (id := 4) ?_)); (first | go_values | go_skip | go_step | go_guarded | go_upon | go_in | go_back | fail))
      with_reducible refine wp_reg (id := 4) ?_
      refine wpO_val rfl (load_SetR (N := N) rfl rfl (unhide hI5).left.whole) ?_
      refine wpO_want rfl ?_
      go_simp
      refine (all_any N w5).mono ?_
      rintro e w6 ⟨rfl, rfl⟩
      refine ⟨_, rfl, ?_⟩
      refine wpO_done ?_
      try go_frame
      have hBa := hide (Blk.new w5 51 (setC N))
      have hI6 := hide ((unhide hI5).ext (ext_self1 w5 (.cells (setC N) 51)))
      have hR6 := hide ((unhide hR5).stepE (ext_self1 w5 (.cells (setC N) 51)))
      clear hI5 hR5
      generalize w5.heap.size = ba at *
      generalize w5.alloc (.cells (setC N) 51) = w6 at *
      have hT6 := hide ((unhide hT').ext (unhide hR6).ext)
      have hg6 := hide ((unhide hg').ext (unhide hR6).ext)
      go_wp2_with fail
      refine wp_rng (gf := 78) (lb := #[.pointer (some ⟨ba, 0, none⟩)]) rfl (enters_of Tryz.func78 (by kernel_rfl) rfl) (ex := [0]) (T := poT bg bl bo v)
        (by intro b hb; rw [List.mem_singleton] at hb; subst hb; exact ⟨(unhide hT6).lt, fun hm => by have := (unhide hR6).tin _ hm; have := unhide hTl; omega⟩)
        (all_iter N ba w6 (unhide hBa) (unhide hT6)) (fun _ => rfl)
        (fun pre T' W => T' = poT bg bl bo v ∧ PoI og bg bl bo (bo + 1) N xs v W ∧ ∀ x ∈ pre, simpleS E x N = false)
        (fun c T' W => c = .exit 1 ∧ ∃ u v', T' = poT bg bl bo v' ∧ PoI og bg bl bo (bo + 1) (withoutS N u) (xs ++ [u]) v' W ∧ (toL N).find? (fun x => simpleS E x N) = some u)
        (fun tm _ u a1 _ => a1 = ⟨(tm.setIfInBounds 14 (.int .i64 u)).setIfInBounds 6 (.int .i64 u), []⟩)
        (fun pre T' A B S ⟨h1, h2, h3⟩ hk hS => ⟨h1, h2.keep hk (by rw [← h1]; exact hS), h3⟩)
        (fun c T' A B S ⟨h0, u, v', h1, h2, h3⟩ hk hS => ⟨h0, u, v', h1, h2.keep hk (by rw [← h1]; exact hS), h3⟩)
        (fun pre T' A ⟨h1, h2, _⟩ => by rw [h1]; exact h2.below) (fun _ _ _ _ _ h _ => h) (unhide hI6).below ⟨rfl, unhide hI6, by simp⟩ ?_ ?_ ?_ ?_
      · intro _ u W K _ hsz hK
        have hK' := hide hK
        clear hK
        rw [zip1]
        simp only [List.setIfInBounds_toArray, List.set_cons_succ, List.set_cons_zero]
        try dsimp only
        repeat ((fail_if_success (with_reducible refine wpI_reg (id := 5) (by kernel_rfl) ?_)); (first | go_values | gi_step | gi_guarded | gi_upon | gi_in | gi_back | fail))
        with_reducible refine wpI_reg (id := 5) (by kernel_rfl) ?_
        refine wpO_want rfl ?_
        go_simp
        refine wpO_done ?_
        try go_frame
        exact unhide hK' _ _ rfl (Ext.refl _)
      · rintro pre u a1 T' W ⟨rfl, hI, hpre⟩ hkW hTin rfl hpx hsz _
        simp only [List.setIfInBounds_toArray, List.set_cons_succ, List.set_cons_zero]
        have hxW := (unhide hR6).after hkW
        have hgW := hide ((unhide hg').ext hxW)
        have hTW := hide ((unhide hT').ext hxW)
        have hIW := hide hI
        have hpre' := hide hpre
        have hpx' := hide hpx
        have c0 := hI.gc.cells 0 (v := .pointer og) rfl
        have hself := Ext.refl W
        clear hI hpre hpx hkW hTin hsz hxW
        obtain ⟨q, hq⟩ : ∃ q, simpleS E u N = q := ⟨_, rfl⟩
        have hq' := hide hq
        clear hq
        try dsimp only
        repeat ((fail_if_success (with_reducible refine wpI_reg (id := 6) (by kernel_rfl) ?_)); (first | go_values | gi_step | gi_guarded | gi_upon | gi_in | gi_back | fail))
        with_reducible refine wpI_reg (id := 6) (by kernel_rfl) ?_
        iterate 2
          refine wpO_want rfl ?_
          go_simp
        refine wpO_val rfl (load_SetR (N := N) rfl rfl (unhide hIW).left.whole) ?_
        go_frame
        refine wpO_want rfl ?_
        go_simp
        refine (simple_any og V E u N W (unhide hgW) (unhide hTW)).mono ?_
        rw [unhide hq']
        rintro _ w7 ⟨rfl, hx7⟩
        refine ⟨_, rfl, ?_⟩
        refine wpO_done ?_
        try go_frame
        have hI7 := hide ((unhide hIW).ext hx7)
        have hx7' := hide hx7
        clear c0 hself hx7 hIW hgW hTW
        cases q
        · gi_wp2_with fail
          refine ⟨_, ⟨rfl, unhide hI7, fun x hx => ?_⟩, (unhide hx7').keep _, .refl _ _⟩
          rcases List.mem_append.1 hx with hx | hx
          · exact unhide hpre' x hx
          · rw [List.mem_singleton] at hx
            rw [hx]
            exact unhide hq'
        · obtain ⟨A, c, rfl⟩ := own_slice (unhide hI7).out.own
          obtain ⟨n, hn⟩ : ∃ n, n = xs.length := ⟨_, rfl⟩
          rw [← hn] at hI7
          have hn' := hide hn
          clear hn
          obtain ⟨S, hS⟩ : ∃ S, S = (Value.slice A n c).ownBlock.toList := ⟨_, rfl⟩
          have hS' := hide hS
          have hoff := hide (show ∀ x ∈ S, bo + 1 ≤ x ∧ x < w7.heap.size by rw [hS]; exact (unhide hI7).out.own_off)
          clear hS
          have hbS : bo ∉ S := fun hm => by have := unhide hoff bo hm; omega
          have hlS : bl ∉ S := fun hm => by
            have h1 := unhide hoff bl hm
            have h2 := unhide hblo
            omega
          have cb := (unhide hI7).out.cell.cellsK hbS 0 (v := .slice A n c) rfl
          have hsel7 := Keep.refl S w7
          have hlS' := hide hlS
          have hbS' := hide hbS
          clear hbS hlS
          gi_wp2_with fail
          refine wpI_region_cls (P := Tryz.prog) (Keep S w7) ((Keep.refl S w7).drew) [0,1,4,5] [7,8] 5 #[true,true,false,false,true,true,false,false,false] (by kernel_rfl) (by kernel_rfl) (by kernel_rfl) rfl (by rfl) ?_
          iterate 2
            refine ql_want (v := ?_) rfl (by rfl) (fun W hW => ?_) ?_
            rotate_left
            · go_simp
              first | done | rfl
            go_frame
          refine ql_want (v := .agg (setC N)) rfl (by rfl) (fun W hW => qUpon_eq (load_SetR rfl rfl ((unhide hI7).left.keep hW (unhide hlS')).whole)) ?_
          go_frame
          iterate 1
            refine ql_want (v := ?_) rfl (by rfl) (fun W hW => ?_) ?_
            rotate_left
            · go_simp
              first | done | rfl
            go_frame
          refine wpQL_nil ?_
          have hx8 := (Ext.refl w7).drew
          generalize w7.drew = w8 at *
          have hI8 := hide ((unhide hI7).ext hx8)
          have hx8' := hide hx8
          clear cb hsel7 hx8
          refine lx_one (i := 2) (by kernel_rfl) rfl (by rfl) #[true,true,true,false,true,true,false,false,false] (by rfl) ?_
          go_simp
          refine ⟨(unhide hx8').keep S |>.trans ((ext_self1 w8 (.cells #[.int .i64 u] 3)).keep S), ?_⟩
          try go_frame
          have hxa := hide (ext_self1 w8 (.cells #[.int .i64 u] 3))
          refine lx_ap1E (i := 3) (enc := encI) (by kernel_rfl) rfl (by rfl) #[true,true,true,true,true,true,false,false,false] (by rfl) infoI Tryz.underlying31 one_encI (fun _ => rfl) (by decide) (by decide) rfl (v := .slice A n c) (m := n) (xs := xs) u (by rfl) (by rfl) (Blk.new w8 3 #[.int .i64 u]) (by have h := own_ext (unhide hI8).out.own (unhide hxa); rw [← unhide hn'] at h; exact h) (by have := unhide hn'; have := unhide hxl'; omega) (Nat.le_trans (unhide hI8).out.le (Below.size (unhide hxa))) ?_
          intro A6 c6 w9 ho9 hg9 hat9
          refine ⟨fun _ => ((((unhide hx8').trans (unhide hxa)).keep S).trans (by rw [unhide hS']; exact Keep.of_grown hg9)), ?_⟩
          try go_frame
          have ho9' := hide ho9
          have hg9' := hide hg9
          have hat9' := hide hat9
          clear ho9 hg9 hat9
          refine lx_one (i := 6) (by kernel_rfl) rfl (by rfl) #[true,true,true,true,true,true,true,false,false] (by rfl) ?_
          go_simp
          refine (without_S N u w9).mono ?_
          rintro _ w10 ⟨rfl, hx10⟩
          refine ⟨_, rfl, ⟨((((unhide hx8').trans (unhide hxa)).keep S).trans (by rw [unhide hS']; exact Keep.of_grown (unhide hg9'))).trans (hx10.keep _), ?_⟩⟩
          try go_frame
          obtain ⟨hBo, hA, hk10, ht10⟩ := (unhide hI8).out.push' (ys := xs ++ [u]) (unhide hxa) (unhide ho9') (by rw [unhide hn', List.length_append]; rfl) (unhide hg9') (unhide hat9') hx10
          rw [← unhide hS'] at hk10
          have hBg := (unhide hI8).gc.keep hk10 (fun hm => by have h1 := unhide hoff bg hm; have h2 := unhide hblo; omega)
          have hBl := (unhide hI8).left.keep hk10 (unhide hlS')
          refine lx_skipE (i := 7) (by kernel_rfl) rfl (by rfl) #[true,true,true,true,true,true,true,true,false] (by rfl) (run_store_row (v := .slice A6 (n + 1) c6) rfl (by rfl) (by rfl) (by simp [go_sem]) hBo rfl (by simp [Value.cells, Value.oneCell'])) (fun h => by simp at h) ?_
          try go_frame
          have hBl2 := hBl.keep (Keep.setRow w10 bo (Value.slice A6 (n + 1) c6).cells) (by have h2 := unhide hblo; rw [List.mem_singleton]; omega)
          refine lx_skipE (i := 8) (by kernel_rfl) rfl (by rfl) #[true,true,true,true,true,true,true,true,true] (by rfl) (store_SetR (N := withoutS N u) rfl (by rfl) (by rfl) hBl2) (fun h => by simp at h) ?_
          refine wpX_done (by kernel_rfl) ?_
          try go_frame
          rw [show (Value.slice A6 (n + 1) c6).cells = #[.slice A6 (n + 1) c6] from rfl] at *
          have hfin : PoI og bg bl bo (bo + 1) (withoutS N u) (xs ++ [u]) (.slice A6 (n + 1) c6) ((w10.setRow bo #[.slice A6 (n + 1) c6]).setRow bl (setC (withoutS N u))) :=
            ⟨(hBg.keep (Keep.setRow _ bo _) (by have h2 := unhide hblo; rw [List.mem_singleton]; omega)).keep (Keep.setRow _ bl _) (by have h2 := unhide hblo; rw [List.mem_singleton]; omega), hBl2.row _,
              hA.keep (Keep.setRow _ bl _) (fun x hx hm => by
                rw [List.mem_singleton] at hx
                subst hx
                have h2 := unhide hblo
                rcases List.mem_cons.1 hm with h | h
                · omega
                · have := (hA.own_off _ h).1; omega)⟩
          have hkf : Keep (poT bg bl bo (.slice A n c)) w7 ((w10.setRow bo #[.slice A6 (n + 1) c6]).setRow bl (setC (withoutS N u))) :=
            (((((unhide hx8').keep _).trans hk10).mono (fun x hx => by rw [unhide hS'] at hx; exact List.mem_cons_of_mem _ (List.mem_cons_of_mem _ (List.mem_cons_of_mem _ hx)))).trans ((Keep.setRow _ bo _).mono (fun x hx => by rw [List.mem_singleton] at hx; subst hx; simp [poT, accT]))).trans ((Keep.setRow _ bl _).mono (fun x hx => by rw [List.mem_singleton] at hx; subst hx; simp [poT]))
          have htf : tIn (poT bg bl bo (.slice A n c)) W.heap.size (poT bg bl bo (.slice A6 (n + 1) c6)) := fun x hx => by
            have hz := Below.size (unhide hx7')
            have hz8 := Below.size (unhide hx8')
            rcases List.mem_cons.1 hx with rfl | hx
            · exact .inl (by simp [poT])
            rcases List.mem_cons.1 hx with rfl | hx
            · exact .inl (by simp [poT])
            rcases ht10 x hx with h | h
            · exact .inl (List.mem_cons_of_mem _ (List.mem_cons_of_mem _ h))
            · exact .inr (by omega)
          have hfin' := hide hfin
          have hkf' := hide hkf
          have htf' := hide htf
          clear hfin hkf htf hBo hA hk10 ht10 hBg hBl hBl2 hx10
          gi_wp2_with fail
          refine ⟨_, ⟨rfl, u, _, rfl, unhide hfin', find_pre (unhide hpx') (unhide hpre') (unhide hq')⟩, ?_, ?_⟩
          · rw [← unhide hn']
            exact ((unhide hx7').keep _).trans (unhide hkf')
          · rw [← unhide hn']
            exact unhide htf'
      · -- none is simplicial
        rintro T' W ⟨rfl, hI, hall⟩ hkW hTin hD
        have hRW := hide ((unhide hR6).mark hkW hTin hI.below hD)
        have hnone : peoS V E = none := by
          rw [unhide hpeo', poS_none (unhide hf') (unhide hq') hall]; rfl
        have hnone' := hide hnone
        clear hI hall hkW hTin hD hnone
        go_wp2_with fail
        refine (unhide hRW).leaves ?_
        intro w' S _ _ hx
        rw [unhide hnone']
        refine ⟨_, results_tmp2 (t := 2) (u := 3) rfl _ _ _, ?_⟩
        exact PoPost.none hx
      · -- one is taken
        rintro c T' W ⟨rfl, u, v', rfl, hI, hfind⟩ hkW hTin hD
        have hRW := hide ((unhide hR6).mark hkW hTin hI.below hD)
        have hI' := hide hI
        obtain ⟨f', hf2, hp2, hl2⟩ := poS_step (E := E) (unhide hf') (unhide hq') hfind
        have hp2' := hide hp2
        have hl2' := hide hl2
        have hf2' := hide hf2
        clear hI hfind hkW hTin hD hp2 hl2 hf2
        go_wp2_with fail
        have h1 := unhide hl2'
        have h2 := unhide hf'
        have h3 := unhide hf2'
        have h4 := unhide hxl'
        refine ⟨(toL (withoutS N u)).length, ⟨withoutS N u, f', xs ++ [u], v', rfl, rfl, rfl, rfl, unhide hI', unhide hRW, rfl, by omega, by rw [List.length_append, List.length_singleton]; omega, ?_⟩, by omega⟩
        rw [unhide hpeo', unhide hp2', Option.map_map]
        congr 1
        funext l
        simp
    · -- empty
      have hIE := hide ((unhide hI5).out.slice (fun _ => rfl))
      obtain ⟨A, c, rfl, hsl⟩ := (unhide hI5).out.slice (fun _ => rfl)
      have hown' := hide (unhide hI5).out.own
      have hnil := eqS_nil.1 (unhide hq')
      have hsome : peoS V E = some xs := by
        rw [unhide hpeo', poS_nil (unhide hf') hnil]; simp
      have hsome' := hide hsome
      obtain ⟨n, hn⟩ : ∃ n, n = xs.length := ⟨_, rfl⟩
      have cb := (unhide hI5).out.cell.cells 0 (v := .slice A xs.length c) rfl
      rw [← hn] at cb
      have hn' := hide hn
      have hself := Ext.refl w5
      clear hsl hnil hsome hn hIE
      go_wp2_with fail
      refine (unhide hR5).leaves ?_
      intro w' S hkS hS hx
      rw [unhide hsome']
      refine ⟨_, results_tmp2 (t := 2) (u := 3) rfl _ _ _, ?_⟩
      exact PoPost.some (unhide hn') (own_base_le (own_keep (unhide hown') hkS fun g hg e => hS g hg (by unfold poT accT; rw [e]; simp)) (by have := unhide hblo; omega)) hx
end Go.Proofs.YtmfkkkhddigkfaaGreatDoor
