/- Parts of a proof, laid together: Hr, Hz, Hy. Each part says its own conditions. -/
import Derived.Test.YtmfkkkhddigkfaaGreatDoorB15
/- HOLES, plain: package chordal's search finds the least shortest hole. No program in sight. Conditions: see each theorem. -/
namespace Go.Proofs.YtmfkkkhddigkfaaGreatDoor
open Go

section
variable {V : List (Int × Thing)} {E : List ((Int × Int) × Thing)}
theorem way_get0 {s u : Int} {mid : List Int} (h : 0 < (wayL s mid u).length) : (wayL s mid u)[0] = s := by
  have : (wayL s mid u)[0]? = some s := by simp [wayL]
  rw [List.getElem?_eq_getElem h] at this
  exact Option.some.inj this
theorem way_getU {s u : Int} {mid : List Int} (h : mid.length + 1 < (wayL s mid u).length) : (wayL s mid u)[mid.length + 1] = u := by
  have : (wayL s mid u)[mid.length + 1]? = some u := by simp [wayL]
  rw [List.getElem?_eq_getElem h] at this
  exact Option.some.inj this
theorem way_getM {s u : Int} {mid : List Int} {i : Nat} (hi : i < mid.length) (h : i + 1 < (wayL s mid u).length) : (wayL s mid u)[i + 1] = mid[i] := by
  have : (wayL s mid u)[i + 1]? = some mid[i] := by simp [wayL, List.getElem?_append_left, hi]
  rw [List.getElem?_eq_getElem h] at this
  exact Option.some.inj this
theorem ind_of_get : ∀ {q : List Int}, (∀ (i k : Nat) (h1 : i < q.length) (h2 : k < q.length), i < k → q[i] ≠ q[k] ∧ (hasE q[i] q[k] E = true ↔ k = i + 1)) → Ind E q
  | [], _ => trivial
  | [_], _ => trivial
  | x :: y :: l, h => by
    refine ⟨(h 0 1 (by simp) (by simp) (by omega)).2.2 rfl, fun z hz => ?_, ind_of_get fun i k h1 h2 h3 => ?_⟩
    · obtain ⟨j, hj, rfl⟩ := List.getElem_of_mem hz
      have := h 0 (j + 2) (by simp) (by simpa using hj) (by omega)
      simp only [List.getElem_cons_zero, List.getElem_cons_succ] at this
      exact ⟨fun hc => by have := this.2.1 hc; omega, this.1⟩
    · have := h (i + 1) (k + 1) (by simpa using h1) (by simpa using h2) (by omega)
      simp only [List.getElem_cons_succ] at this
      exact ⟨this.1, this.2.trans (by omega)⟩
theorem cyc_ind {w r : List Int} {x : Int} (h : Cyc E (w ++ r ++ [x])) : Ind E w := by
  have hlen : (w ++ r ++ [x]).length = w.length + r.length + 1 := by simp; omega
  refine ind_of_get fun i k h1 h2 h3 => ?_
  have := h.2 i k (by omega) (by omega) h3
  have e : ∀ j (hj : j < w.length), (w ++ r ++ [x])[j]'(by omega) = w[j] := fun j hj => by
    rw [List.getElem_append_left (by rw [List.length_append]; omega), List.getElem_append_left hj]
  rw [e i h1, e k h2] at this
  refine ⟨this.1, this.2.trans ⟨fun h => ?_, fun h => .inl h⟩⟩
  rcases h with h | ⟨_, h⟩
  · exact h
  · omega
theorem good_lo {n : Nat} {s : Int} {l : List Int} (h : Good E n (s :: l)) : ∀ z ∈ l, s < z := fun z hz => by
  obtain ⟨j, hj, rfl⟩ := List.getElem_of_mem hz
  have := h.2.2 (j + 1) (by simpa using hj) (by omega)
  simpa using this
theorem good_mk {n : Nat} {s : Int} {l : List Int} (hl : (s :: l).length = n) (hc : Cyc E (s :: l)) (h : ∀ z ∈ l, s < z) : Good E n (s :: l) :=
  ⟨hl, hc, fun k hk h0 => by
    cases k with
    | zero => omega
    | succ k => simpa using h _ (List.getElem_mem (by simpa using hk))⟩
/-- the second vertex is less than the last one, where none less goes -/
theorem good_turn {n : Nat} {s a x : Int} {l : List Int} (h : Good E n (s :: a :: l ++ [x])) (hg : ∀ v, v < a → ¬ Pre E n [s, v]) : a < x := by
  have h1 := good_rev (l := a :: l ++ [x]) h
  have h2 : (a :: l ++ [x]).reverse = x :: (a :: l).reverse := by simp
  rw [h2] at h1
  have h3 : ¬ x < a := fun hx => hg x hx ⟨_, h1, by simp⟩
  have h4 : a ≠ x := by
    have hlen : (s :: a :: l ++ [x]).length = l.length + 3 := by simp
    have := (h.2.1.2 1 (l.length + 2) (by omega) (by omega) (by have := h.2.1.1; omega)).1
    have e1 : (s :: a :: l ++ [x])[l.length + 2]'(by omega) = x := by
      rw [List.getElem_append_right (by simp)]
      simp
    rw [e1] at this
    exact this
  omega
theorem find_least {l : List Int} (hl : l.Pairwise (· < ·)) {p : Int → Bool} {v : Int} (h : l.find? p = some v) : v ∈ l ∧ p v = true ∧ ∀ y ∈ l, y < v → p y = false := by
  obtain ⟨h1, l1, l2, rfl, h2⟩ := List.find?_eq_some_iff_append.1 h
  refine ⟨by simp, h1, fun y hy hlt => ?_⟩
  rcases List.mem_append.1 hy with hy | hy
  · simpa using h2 y hy
  · rw [List.pairwise_append] at hl
    rcases List.mem_cons.1 hy with rfl | hy
    · omega
    · have := (List.pairwise_cons.1 hl.2.1).1 y hy
      omega
theorem min_least {N : Nat} (h : anyB N = true) : minV N ∈ toL N ∧ ∀ y ∈ toL N, minV N ≤ y := by
  have hs := toL_sorted N
  unfold minV
  cases hl : toL N with
  | nil => exact absurd hl (anyB_iff.1 h)
  | cons a r =>
    rw [hl] at hs
    refine ⟨by simp, fun y hy => ?_⟩
    rcases List.mem_cons.1 hy with rfl | hy
    · simp
    · have := (List.pairwise_cons.1 hs).1 y hy
      simp; omega
theorem way_snoc (s : Int) (mid : List Int) (u v : Int) : wayL s mid u ++ [v] = wayL s (mid ++ [u]) v := by simp [wayL]
theorem headD_snoc (mid : List Int) (u v : Int) : (mid ++ [u] ++ [v]).headD 0 = (mid ++ [u]).headD 0 := by cases mid <;> simp
section
variable {n : Nat} (hi : GInv V E) (hmin : ∀ n' c', Good E n' c' → n ≤ n') {s : Int} {mid : List Int} {u : Int} (hg : ∀ v, v < (mid ++ [u]).headD 0 → ¬ Pre E n [s, v])
include hg
theorem turn_way {r : List Int} {x : Int} (h : Good E n (wayL s mid u ++ r ++ [x])) : (mid ++ [u]).headD 0 < x := by
  cases mid with
  | nil => exact good_turn (l := r) (by simpa [wayL] using h) (by simpa using hg)
  | cons a m => exact good_turn (l := m ++ [u] ++ r) (by simpa [wayL] using h) (by simpa using hg)
include hi hmin
/-- the next vertex -/
theorem longer_spec (hp : Pre E n (wayL s mid u)) (hl : (wayL s mid u).length < n) :
    ∃ v, longerS V E (wayL s mid u) n = some (wayL s mid u ++ [v]) ∧ Pre E n (wayL s mid u ++ [v]) ∧ ∀ v', v' < v → ¬ Pre E n (wayL s mid u ++ [v']) := by
  obtain ⟨c, hc, rest, rfl⟩ := hp
  have hrl : rest ≠ [] := fun e => by
    subst e
    have := hc.1
    rw [List.append_nil] at this
    omega
  obtain ⟨r0, x0, rfl⟩ : ∃ r x, rest = r ++ [x] := ⟨_, _, (List.dropLast_concat_getLast hrl).symm⟩
  rw [← List.append_assoc] at hc
  have hw : Ind E (wayL s mid u) := cyc_ind hc.2.1
  have hwlo : ∀ z ∈ mid ++ [u], s < z := fun z hz => good_lo (l := mid ++ [u] ++ r0 ++ [x0]) (by simpa [wayL] using hc) z (by
    rw [List.append_assoc, List.mem_append]; exact .inl hz)
  unfold longerS
  rw [way_last]
  by_cases h1 : (wayL s mid u).length + 1 = n
  · have hcond : ((wayL s mid u).length : Int) = (n : Int) - 1 := by omega
    rw [if_pos hcond]
    have key : ∀ y, y ∈ toL (lastW V E (wayL s mid u) &&& nearS u E) ↔ Pre E n (wayL s mid u ++ [y]) := fun y => by
      rw [mem_and, mem_near hi]
      constructor
      · rintro ⟨k1, k2⟩
        obtain ⟨⟨g1, g2, g3, g4⟩, g5, g6, g7⟩ := (mem_lastW hi).1 k1
        have hn4 := hc.four
        have hl3 : 3 ≤ (wayL s mid u).length := by omega
        refine ⟨wayL s mid u ++ [y], ?_, List.prefix_rfl⟩
        refine good_mk (s := s) (l := mid ++ [u] ++ [y]) (by rw [way_len] at h1; simp; omega) ?_ (fun z hz => ?_)
        · have := cyc_snoc hi (x := y) hl3 hw (fun k hk => ?_)
          · simpa [wayL] using this
          · refine ⟨fun e => g3 (e ▸ List.getElem_mem hk), ?_⟩
            rw [way_len] at hk
            rcases Nat.eq_zero_or_pos k with h0 | h0
            · subst h0
              rw [way_get0]
              exact ⟨fun _ => .inl rfl, fun _ => g5⟩
            · rcases Nat.lt_or_ge k (mid.length + 1) with h2 | h2
              · obtain ⟨k, rfl⟩ : ∃ j, k = j + 1 := ⟨k - 1, by omega⟩
                have hkm : k < mid.length := by omega
                rw [way_getM hkm]
                refine ⟨fun h => absurd h (g4 _ (List.getElem_mem _)), fun h => ?_⟩
                rw [way_len] at h
                omega
              · have hk2 : k = mid.length + 1 := by omega
                subst hk2
                rw [way_getU]
                exact ⟨fun _ => .inr (by rw [way_len]), fun _ => k2⟩
        · rcases List.mem_append.1 hz with hz | hz
          · exact hwlo z hz
          · rw [List.mem_singleton] at hz; rw [hz]; exact g2
      · rintro ⟨d, hd, t, rfl⟩
        have ht : t = [] := by
          have := hd.1
          simp only [List.length_append, List.length_singleton] at this h1
          exact List.eq_nil_of_length_eq_zero (by omega)
        subst ht
        rw [List.append_nil] at hd
        have hd2 : Good E n (wayL s mid u ++ [] ++ [y]) := by simpa using hd
        have hty := turn_way hg hd2
        obtain ⟨q1, _, q3, _⟩ := hole_mem hi hd2.2.1 (good_lo (l := mid ++ [u] ++ [] ++ [y]) (by simpa [wayL] using hd2)) hty
        exact ⟨q1, q3.1⟩
    have hx0 : r0 = [] := by
      have := hc.1
      simp only [List.length_append, List.length_singleton] at this h1
      exact List.eq_nil_of_length_eq_zero (by omega)
    subst hx0
    have hany : anyB (lastW V E (wayL s mid u) &&& nearS u E) = true := any_mem.2 ⟨x0, (key x0).2 ⟨_, hc, by simp⟩⟩
    rw [if_pos hany]
    obtain ⟨m1, m2⟩ := min_least hany
    exact ⟨_, rfl, (key _).1 m1, fun v' hv hp => by have := m2 v' ((key v').2 hp); omega⟩
  · have hcond : ¬ ((wayL s mid u).length : Int) = (n : Int) - 1 := by omega
    rw [if_neg hcond]
    have key : ∀ y, (y ∈ toL (nextW V E (wayL s mid u) &&& nearS u E) ∧ decide (shortS V E (wayL s mid u ++ [y]) = n) = true) ↔ Pre E n (wayL s mid u ++ [y]) := fun y => by
      rw [mem_and, mem_near hi, decide_eq_true_eq, way_snoc]
      constructor
      · rintro ⟨⟨k1, k2⟩, k3⟩
        obtain ⟨g1, g2, g3, g4, g5⟩ := (mem_nextW hi).1 k1
        have hiw : Ind E (wayL s (mid ++ [u]) y) := by
          have := ind_glue (E := E) (p := s :: mid) (u := u) (r := [y]) hw ⟨k2, by simp, trivial⟩ (fun a ha b hb => by
            rw [List.mem_singleton] at hb
            subst hb
            refine ⟨?_, fun e => g3 (e ▸ way_mem.2 ?_)⟩
            · rcases List.mem_cons.1 ha with rfl | ha
              · exact g5
              · exact g4 a ha
            · rcases List.mem_cons.1 ha with h | h
              · exact .inl h
              · exact .inr (.inl h))
          simpa [wayL] using this
        have hylo : ∀ z ∈ (mid ++ [u]) ++ [y], s < z := fun z hz => by
          rcases List.mem_append.1 hz with hz | hz
          · exact hwlo z hz
          · rw [List.mem_singleton] at hz; rw [hz]; exact g2
        have hn4 := hc.four
        obtain ⟨r, x, q1, q2, _, q4⟩ := short_hole hi hiw hylo (by rw [k3]; omega)
        rw [k3] at q4
        refine ⟨wayL s (mid ++ [u]) y ++ r ++ [x], ?_, by rw [List.append_assoc]; exact List.prefix_append _ _⟩
        have := good_mk (E := E) (n := n) (s := s) (l := (mid ++ [u]) ++ [y] ++ r ++ [x]) (by simp [wayL] at q4 ⊢; omega) (by simpa [wayL] using q1) q2
        simpa [wayL] using this
      · rintro ⟨d, hd, t, rfl⟩
        have ht : t ≠ [] := fun e => by
          subst e
          have := hd.1
          rw [List.append_nil, way_len] at this
          rw [way_len] at h1
          simp at this
          omega
        obtain ⟨r, x, rfl⟩ : ∃ r x, t = r ++ [x] := ⟨_, _, (List.dropLast_concat_getLast ht).symm⟩
        rw [← List.append_assoc] at hd
        have hd2 : Good E n (wayL s mid u ++ (y :: r) ++ [x]) := by simpa [wayL] using hd
        have hty := turn_way hg hd2
        obtain ⟨_, q2, q3, _⟩ := hole_mem hi hd2.2.1 (good_lo (l := mid ++ [u] ++ (y :: r) ++ [x]) (by simpa [wayL] using hd2)) hty
        have hlo2 : ∀ z ∈ (mid ++ [u]) ++ [y] ++ r ++ [x], s < z := good_lo (l := (mid ++ [u]) ++ [y] ++ r ++ [x]) (by simpa [wayL] using hd)
        obtain ⟨p1, p2⟩ := short_min hi (mid := mid ++ [u]) hd.2.1 hlo2 (by rw [headD_snoc]; exact hty)
        have hiw := cyc_ind hd.2.1
        obtain ⟨r', x', s1, s2, _, s4⟩ := short_hole hi hiw (fun z hz => hlo2 z (by simp only [List.mem_append] at hz ⊢; exact .inl (.inl hz))) p1
        have hge := hmin _ (wayL s (mid ++ [u]) y ++ r' ++ [x']) (by
          have := good_mk (E := E) (n := (wayL s (mid ++ [u]) y ++ r' ++ [x']).length) (s := s) (l := (mid ++ [u]) ++ [y] ++ r' ++ [x']) (by simp [wayL]) (by simpa [wayL] using s1) s2
          simpa [wayL] using this)
        have hlen := hd.1
        have hlen2 : (wayL s (mid ++ [u]) y ++ r' ++ [x']).length = mid.length + 1 + 2 + r'.length + 1 := by simp only [List.length_append, way_len, List.length_singleton]
        refine ⟨⟨q2 y (by simp), q3.1⟩, ?_⟩
        omega
    obtain ⟨v0, hv0⟩ : ∃ v, Pre E n (wayL s mid u ++ [v]) := by
      cases hr : r0 with
      | nil =>
        rw [hr] at hc
        have := hc.1
        simp only [List.append_nil, List.length_append, List.length_singleton] at this
        omega
      | cons v r' =>
        rw [hr] at hc
        exact ⟨v, _, hc, by simp⟩
    obtain ⟨m1, m2⟩ := (key v0).2 hv0
    cases hf : (toL (nextW V E (wayL s mid u) &&& nearS u E)).find? (fun v => decide (shortS V E (wayL s mid u ++ [v]) = n)) with
    | none =>
      have := List.find?_eq_none.1 hf v0 m1
      exact absurd m2 this
    | some v =>
      obtain ⟨f1, f2, f3⟩ := find_least (toL_sorted _) hf
      refine ⟨v, rfl, (key v).1 ⟨f1, f2⟩, fun v' hlt hp => ?_⟩
      obtain ⟨e1, e2⟩ := (key v').2 hp
      rw [f3 v' e1 hlt] at e2
      cases e2
end
theorem extend_spec (hi : GInv V E) {n : Nat} (hmin : ∀ n' c', Good E n' c' → n ≤ n') {s a : Int} (hg : ∀ v, v < a → ¬ Pre E n [s, v]) (f : Nat) : ∀ (mid : List Int) (u : Int), (mid ++ [u]).headD 0 = a → Pre E n (wayL s mid u) → n ≤ (wayL s mid u).length + f →
    ∃ c, extendS V E n f (wayL s mid u) = some c ∧ Good E n c ∧ wayL s mid u <+: c ∧ ∀ j, (wayL s mid u).length ≤ j → (hj : j < c.length) → ∀ v, v < c[j] → ¬ Pre E n (c.take j ++ [v]) := by
  induction f with
  | zero =>
    intro mid u _ hp hl
    obtain ⟨c, hc, hpre⟩ := hp
    have hlen := hc.1
    have hle := hpre.length_le
    have e : wayL s mid u = c := hpre.eq_of_length (by omega)
    refine ⟨c, by rw [extendS, e], hc, hpre, fun j h1 h2 => by omega⟩
  | succ f ih =>
    intro mid u ha hp hl
    rw [extendS]
    by_cases hlt : (wayL s mid u).length < n
    · rw [if_pos (by omega)]
      obtain ⟨v, h1, h2, h3⟩ := longer_spec hi hmin (by rw [ha]; exact hg) hp hlt
      rw [h1, Option.bind_some]
      rw [way_snoc] at h2 ⊢
      obtain ⟨c, c1, c2, c3, c4⟩ := ih (mid ++ [u]) v (by rw [headD_snoc]; exact ha) h2 (by rw [way_len] at hl ⊢; simp; omega)
      have hcp : wayL s mid u <+: c := List.IsPrefix.trans (by rw [← way_snoc]; exact List.prefix_append _ _) c3
      refine ⟨c, c1, c2, hcp, fun j j1 j2 y hy => ?_⟩
      rcases Nat.lt_or_ge j (wayL s (mid ++ [u]) v).length with h4 | h4
      · have hj : j = (wayL s mid u).length := by rw [way_len] at h4 j1 ⊢; simp at h4; omega
        subst hj
        have et : c.take (wayL s mid u).length = wayL s mid u := (List.prefix_iff_eq_take.1 hcp).symm
        have ev : c[(wayL s mid u).length] = v := by
          have := List.prefix_iff_getElem?.1 c3 (wayL s mid u).length (by rw [way_len, way_len]; simp)
          rw [List.getElem?_eq_getElem j2] at this
          have h5 := Option.some.inj this
          rw [h5]
          have h6 : (wayL s (mid ++ [u]) v)[(wayL s mid u).length]? = some v := by rw [← way_snoc]; simp
          rw [List.getElem?_eq_getElem (by rw [way_len, way_len]; simp)] at h6
          exact Option.some.inj h6
        rw [et]
        exact h3 y (by omega)
      · exact c4 j h4 j2 y hy
    · obtain ⟨c, hc, hpre⟩ := hp
      have hlen := hc.1
      have hle := hpre.length_le
      have e : wayL s mid u = c := hpre.eq_of_length (by omega)
      rw [if_neg (by omega)]
      exact ⟨c, by rw [e], hc, hpre, fun j h1 h2 => by omega⟩
end
end Go.Proofs.YtmfkkkhddigkfaaGreatDoor
/- HOLES, plain: package chordal's Hole answers the least shortest hole, and the reference's search answers the same. No program in sight. Conditions: see each theorem. -/
namespace Go.Proofs.YtmfkkkhddigkfaaGreatDoor
open Go

section
variable {V : List (Int × Thing)} {E : List ((Int × Int) × Thing)}
/-- the pairs that are tried, in order -/
def prsS (V : List (Int × Thing)) (E : List ((Int × Int) × Thing)) : List (Int × Int) := (toL (vS V)).flatMap fun s => (toL (minusS (nearS s E) (belS (s + 1)))).map fun a => (s, a)
theorem fold_flat {α β γ : Type} (f : α → β → γ → α) (g : β → List γ) (l : List β) : ∀ st : α, l.foldl (fun st s => (g s).foldl (fun st a => f st s a) st) st = (l.flatMap fun s => (g s).map fun a => (s, a)).foldl (fun st p => f st p.1 p.2) st := by
  induction l with
  | nil => intro st; rfl
  | cons b r ih =>
    intro st
    rw [List.foldl_cons, List.flatMap_cons, List.foldl_append, List.foldl_map, ih]
theorem firstS_eq : firstS V E = (prsS V E).foldl (fun st p => firstF V E p.1 st p.2) ([], 0) := fold_flat (fun st s a => firstF V E s st a) (fun s => toL (minusS (nearS s E) (belS (s + 1)))) (toL (vS V)) ([], 0)
theorem mem_prs (hi : GInv V E) {p : Int × Int} : p ∈ prsS V E ↔ hasE p.1 p.2 E = true ∧ p.1 < p.2 := by
  unfold prsS
  rw [List.mem_flatMap]
  constructor
  · rintro ⟨s, _, h⟩
    obtain ⟨a, ha, rfl⟩ := List.mem_map.1 h
    obtain ⟨h1, h2⟩ := mem_minus.1 ha
    rw [mem_near hi] at h1
    rw [mem_bel] at h2
    have hr := ids_rng hi (hasE_rng hi h1).2
    exact ⟨h1, by simp only; omega⟩
  · rintro ⟨h1, h2⟩
    refine ⟨p.1, (mem_vS hi).2 (hasE_rng hi h1).1, List.mem_map.2 ⟨p.2, mem_minus.2 ⟨(mem_near hi).2 h1, fun h => ?_⟩, rfl⟩⟩
    rw [mem_bel] at h
    omega
def lexP (p q : Int × Int) : Prop := p.1 < q.1 ∨ p.1 = q.1 ∧ p.2 < q.2
theorem prs_sorted : (prsS V E).Pairwise lexP := by
  unfold prsS
  rw [List.pairwise_flatMap]
  refine ⟨fun s _ => ?_, (toL_sorted _).imp fun {s t} hst p hp q hq => ?_⟩
  · rw [List.pairwise_map]
    exact (toL_sorted _).imp fun h => .inr ⟨rfl, h⟩
  · obtain ⟨a, _, rfl⟩ := List.mem_map.1 hp
    obtain ⟨b, _, rfl⟩ := List.mem_map.1 hq
    exact .inl hst
/-- what the fold keeps -/
theorem first_spec (l : List (Int × Int)) : ((l.foldl (fun st p => firstF V E p.1 st p.2) ([], 0)).2 = 0 ∧ ∀ p ∈ l, shortS V E [p.1, p.2] ≤ 0) ∨
    ∃ l1 p l2, l = l1 ++ p :: l2 ∧ l.foldl (fun st p => firstF V E p.1 st p.2) ([], 0) = ([p.1, p.2], shortS V E [p.1, p.2]) ∧ 0 < shortS V E [p.1, p.2] ∧
      (∀ q ∈ l1, shortS V E [q.1, q.2] ≤ 0 ∨ shortS V E [p.1, p.2] < shortS V E [q.1, q.2]) ∧ ∀ q ∈ l2, shortS V E [q.1, q.2] ≤ 0 ∨ shortS V E [p.1, p.2] ≤ shortS V E [q.1, q.2] := by
  suffices h : ∀ m : List (Int × Int), ((m.reverse.foldl (fun st p => firstF V E p.1 st p.2) ([], 0)).2 = 0 ∧ ∀ p ∈ m.reverse, shortS V E [p.1, p.2] ≤ 0) ∨
    ∃ l1 p l2, m.reverse = l1 ++ p :: l2 ∧ m.reverse.foldl (fun st p => firstF V E p.1 st p.2) ([], 0) = ([p.1, p.2], shortS V E [p.1, p.2]) ∧ 0 < shortS V E [p.1, p.2] ∧
      (∀ q ∈ l1, shortS V E [q.1, q.2] ≤ 0 ∨ shortS V E [p.1, p.2] < shortS V E [q.1, q.2]) ∧ ∀ q ∈ l2, shortS V E [q.1, q.2] ≤ 0 ∨ shortS V E [p.1, p.2] ≤ shortS V E [q.1, q.2] by
    have := h l.reverse
    rwa [List.reverse_reverse] at this
  intro m
  induction m with
  | nil => exact .inl ⟨rfl, by simp⟩
  | cons x m ih =>
    rw [List.reverse_cons, List.foldl_append, List.foldl_cons, List.foldl_nil]
    rcases ih with ⟨h1, h2⟩ | ⟨l1, p, l2, h1, h2, h3, h4, h5⟩
    · by_cases hx : 0 < shortS V E [x.1, x.2]
      · right
        refine ⟨m.reverse, x, [], rfl, ?_, hx, fun q hq => .inl (h2 q hq), by simp⟩
        unfold firstF
        rw [if_pos (by rw [Bool.and_eq_true, Bool.or_eq_true, decide_eq_true_eq, decide_eq_true_eq]; exact ⟨hx, .inl h1⟩)]
      · left
        unfold firstF
        rw [if_neg (by simp [hx])]
        refine ⟨h1, fun p hp => ?_⟩
        rcases List.mem_append.1 hp with hp | hp
        · exact h2 p hp
        · rw [List.mem_singleton] at hp; rw [hp]; omega
    · right
      rw [h2]
      by_cases hx : 0 < shortS V E [x.1, x.2] ∧ shortS V E [x.1, x.2] < shortS V E [p.1, p.2]
      · refine ⟨m.reverse, x, [], rfl, ?_, hx.1, fun q hq => ?_, by simp⟩
        · unfold firstF
          rw [if_pos (by simp [hx])]
        · rw [h1] at hq
          rcases List.mem_append.1 hq with hq | hq
          · rcases h4 q hq with h | h
            · exact .inl h
            · exact .inr (by omega)
          · rcases List.mem_cons.1 hq with rfl | hq
            · exact .inr hx.2
            · rcases h5 q hq with h | h
              · exact .inl h
              · exact .inr (by omega)
      · refine ⟨l1, p, l2 ++ [x], by rw [h1]; simp, ?_, h3, h4, fun q hq => ?_⟩
        · unfold firstF
          rw [if_neg ?_]
          simp only [Bool.and_eq_true, Bool.or_eq_true, decide_eq_true_eq]
          omega
        · rcases List.mem_append.1 hq with hq | hq
          · exact h5 q hq
          · rw [List.mem_singleton] at hq
            rw [hq]
            omega
theorem pair_way (s a : Int) : [s, a] = wayL s [] a := rfl
/-- a hole, oriented, is found from its first two vertices -/
theorem pair_le (hi : GInv V E) {n : Nat} {s a x : Int} {l : List Int} (h : Good E n (s :: a :: l ++ [x])) (hax : a < x) : (s, a) ∈ prsS V E ∧ 0 < shortS V E [s, a] ∧ shortS V E [s, a] ≤ n := by
  have hg : Good E n (wayL s [] a ++ l ++ [x]) := h
  have hlo := good_lo (l := a :: l ++ [x]) h
  have h1 := short_min hi (mid := []) hg.2.1 (by simpa using hlo) (by simpa using hax)
  have hlen := hg.1
  rw [← pair_way] at h1
  have hadj := ((hg.2.1.2 0 1 (by simp [wayL]) (by simp [wayL]) (by omega)).2).2 (.inl rfl)
  refine ⟨(mem_prs hi).2 ⟨by simpa [wayL] using hadj, hlo a (by simp)⟩, h1.1, ?_⟩
  have h9 : ([s, a] ++ l ++ [x]).length = n := hlen
  have := h1.2
  rw [h9] at this
  exact this
/-- either orientation -/
theorem good_two {n : Nat} {c : List Int} (h : Good E n c) : ∃ s a l x, Good E n (s :: a :: l ++ [x]) ∧ a < x ∧ c[0]? = some s ∧ (c = s :: a :: l ++ [x] ∨ c = s :: (a :: l ++ [x]).reverse) := by
  have h4 := h.2.1.1
  obtain ⟨s, a, l, x, rfl⟩ : ∃ s a l x, c = s :: a :: l ++ [x] := by
    match c, h4 with
    | s :: a :: b :: t, _ => exact ⟨s, a, (b :: t).dropLast, (b :: t).getLast (by simp), by
        have := List.dropLast_concat_getLast (l := b :: t) (by simp)
        simp only [List.cons_append, this]⟩
  by_cases hax : a < x
  · exact ⟨s, a, l, x, h, hax, rfl, .inl rfl⟩
  · have h1 := good_rev (l := a :: l ++ [x]) h
    have h2 : (a :: l ++ [x]).reverse = x :: l.reverse ++ [a] := by simp
    rw [h2] at h1
    have hne : a ≠ x := by
      have hlen : (s :: a :: l ++ [x]).length = l.length + 3 := by simp
      have := (h.2.1.2 1 (l.length + 2) (by omega) (by omega) (by omega)).1
      have e1 : (s :: a :: l ++ [x])[l.length + 2]'(by omega) = x := by
        rw [List.getElem_append_right (by simp)]
        simp
      rw [e1] at this
      exact this
    refine ⟨s, x, l.reverse, a, h1, by omega, rfl, .inr ?_⟩
    simp
theorem extend_nil (V : List (Int × Thing)) (E : List ((Int × Int) × Thing)) : extendS V E 0 0 [] = some [] := rfl
/-- the search of package chordal: nothing where there is no hole; else the least of the shortest holes -/
theorem hole_spec (hi : GInv V E) : ((∀ n c, ¬ Good E n c) ∧ (firstS V E).2 = 0) ∨
    ∃ n c, extendS V E (firstS V E).2 (firstS V E).2.toNat (firstS V E).1 = some c ∧ Good E n c ∧ Greedy E n c ∧ ∀ n' c', Good E n' c' → n ≤ n' := by
  rw [firstS_eq]
  rcases first_spec (V := V) (E := E) (prsS V E) with ⟨h1, h2⟩ | ⟨l1, p, l2, h1, h2, h3, h4, h5⟩
  · left
    refine ⟨fun n c hc => ?_, h1⟩
    obtain ⟨s, a, l, x, hg, hax, _⟩ := good_two hc
    obtain ⟨k1, k2, _⟩ := pair_le hi hg hax
    have := h2 _ k1
    simp only at this
    omega
  · right
    obtain ⟨s, a⟩ := p
    rw [h2]
    simp only at h3 h4 h5 ⊢
    have hsp : (s, a) ∈ prsS V E := by rw [h1]; simp
    obtain ⟨hsa, hlt⟩ := (mem_prs hi).1 hsp
    simp only at hsa hlt
    have hall : ∀ q ∈ prsS V E, shortS V E [q.1, q.2] ≤ 0 ∨ shortS V E [s, a] ≤ shortS V E [q.1, q.2] := fun q hq => by
      rw [h1] at hq
      rcases List.mem_append.1 hq with hq | hq
      · rcases h4 q hq with h | h
        · exact .inl h
        · exact .inr (by omega)
      · rcases List.mem_cons.1 hq with rfl | hq
        · exact .inr (Int.le_refl _)
        · exact h5 q hq
    have hfirst : ∀ q ∈ prsS V E, lexP q (s, a) → shortS V E [q.1, q.2] ≤ 0 ∨ shortS V E [s, a] < shortS V E [q.1, q.2] := fun q hq hlex => by
      have hs := prs_sorted (V := V) (E := E)
      rw [h1] at hq hs
      rcases List.mem_append.1 hq with hq | hq
      · exact h4 q hq
      · exfalso
        rcases List.mem_cons.1 hq with rfl | hq
        · unfold lexP at hlex; omega
        · have := (List.pairwise_cons.1 (List.pairwise_append.1 hs).2.1).1 q hq
          unfold lexP at this hlex
          simp only at this hlex
          omega
    obtain ⟨n, hn⟩ : ∃ n : Nat, shortS V E [s, a] = n := ⟨(shortS V E [s, a]).toNat, by omega⟩
    have hmin : ∀ n' c', Good E n' c' → n ≤ n' := fun n' c' hc => by
      obtain ⟨s', a', l, x, hg, hax, _⟩ := good_two hc
      obtain ⟨k1, k2, k3⟩ := pair_le hi hg hax
      have := hall _ k1
      simp only at this
      omega
    have hb : ∀ v, v < s → ¬ Pre E n [v] := fun v hv ⟨c, hc, hpre⟩ => by
      obtain ⟨s', a', l, x, hg, hax, hc0, _⟩ := good_two hc
      have hv0 : c[0]? = some v := List.prefix_iff_getElem?.1 hpre 0 (by simp)
      rw [hv0] at hc0
      have hvs : v = s' := Option.some.inj hc0
      subst hvs
      obtain ⟨k1, k2, k3⟩ := pair_le hi hg hax
      have := hfirst _ k1 (.inl hv)
      simp only at this
      omega
    have hg : ∀ v, v < a → ¬ Pre E n [s, v] := fun v hv ⟨c, hc, hpre⟩ => by
      obtain ⟨s', a', l, x, hg, hax, hc0, hor⟩ := good_two hc
      have hv0 : c[0]? = some s := List.prefix_iff_getElem?.1 hpre 0 (by simp)
      have hv1 : c[1]? = some v := List.prefix_iff_getElem?.1 hpre 1 (by simp)
      rw [hv0] at hc0
      have hss : s = s' := Option.some.inj hc0
      subst hss
      have ha' : a' < a := by
        rcases hor with e | e
        · rw [e] at hv1
          have : a' = v := by simpa using hv1
          omega
        · rw [e] at hv1
          have : x = v := by simpa using hv1
          omega
      obtain ⟨k1, k2, k3⟩ := pair_le hi hg hax
      have := hfirst _ k1 (.inr ⟨rfl, ha'⟩)
      simp only at this
      omega
    have hind : Ind E (wayL s [] a) := ⟨hsa, by simp, trivial⟩
    obtain ⟨r, x, q1, q2, q3, q4⟩ := short_hole hi (mid := []) hind (by simpa using hlt) (by rw [← pair_way]; exact h3)
    rw [← pair_way, hn] at q4
    have hpre : Pre E n (wayL s [] a) := by
      refine ⟨wayL s [] a ++ r ++ [x], ?_, by rw [List.append_assoc]; exact List.prefix_append _ _⟩
      have := good_mk (E := E) (n := n) (s := s) (l := [] ++ [a] ++ r ++ [x]) (by simp at q4 ⊢; omega) (by simpa [wayL] using q1) q2
      simpa [wayL] using this
    obtain ⟨c, c1, c2, c3, c4⟩ := extend_spec hi hmin hg n [] a rfl hpre (by omega)
    rw [← pair_way] at c1 c3 c4
    refine ⟨n, c, by rw [hn, Int.toNat_natCast]; exact c1, c2, fun j hj v hv => ?_, hmin⟩
    have e0 : c[0]? = some s := List.prefix_iff_getElem?.1 c3 0 (by simp)
    have e1 : c[1]? = some a := List.prefix_iff_getElem?.1 c3 1 (by simp)
    match j, hj, hv with
    | 0, hj, hv =>
      rw [List.getElem?_eq_getElem hj] at e0
      have := Option.some.inj e0
      rw [this] at hv
      exact hb v hv
    | 1, hj, hv =>
      rw [List.getElem?_eq_getElem hj] at e1
      have := Option.some.inj e1
      rw [this] at hv
      have et : c.take 1 = [s] := by
        have hl : 0 < c.length := by omega
        rw [List.take_succ_eq_append_getElem hl, List.take_zero]
        rw [List.getElem?_eq_getElem hl] at e0
        rw [Option.some.inj e0]; rfl
      rw [et]
      exact hg v hv
    | j + 2, hj, hv => exact c4 (j + 2) (by simp) hj v hv
end
end Go.Proofs.YtmfkkkhddigkfaaGreatDoor
/- HOLES, plain: the reference's search finds the same hole as package chordal's. No program in sight. Conditions: see each theorem. -/
namespace Go.Proofs.YtmfkkkhddigkfaaGreatDoor
open Go

section
variable {V : List (Int × Thing)} {E : List ((Int × Int) × Thing)}
/-- the reference's test of a next vertex -/
def FitR (E : List ((Int × Int) × Thing)) (n : Nat) (w : List Int) (v : Int) : Prop := w[0]?.getD 0 < v ∧ hasE (w.getLastD 0) v E = true ∧ ∀ k, k + 1 < w.length → w[k]?.getD 0 ≠ v ∧ (hasE (w[k]?.getD 0) v E = true → k = 0 ∧ w.length + 1 = n)
theorem take_at {w : List Int} {j k : Nat} (hj : j ≤ w.length) (hk : k < j) : (w.take j)[k]?.getD 0 = w[k]'(Nat.lt_of_lt_of_le hk hj) := by
  rw [List.getElem?_take_of_lt hk, List.getElem?_eq_getElem (by omega)]; rfl
theorem take_last {w : List Int} {j : Nat} (hj : j < w.length) : (w.take (j + 1)).getLastD 0 = w[j] := by
  rw [List.take_succ_eq_append_getElem hj, List.getLastD_eq_getLast?, List.getLast?_concat]; rfl
theorem fit_iff {n : Nat} {w : List Int} {j : Nat} {v : Int} (hj : j < w.length) : FitR E n (w.take (j + 1)) v ↔ w[0]'(Nat.lt_of_le_of_lt (Nat.zero_le _) hj) < v ∧ hasE w[j] v E = true ∧ ∀ k (hk : k < j), w[k]'(Nat.lt_trans hk hj) ≠ v ∧ (hasE (w[k]'(Nat.lt_trans hk hj)) v E = true → k = 0 ∧ j + 2 = n) := by
  have hlen : (w.take (j + 1)).length = j + 1 := by rw [List.length_take]; omega
  unfold FitR
  rw [take_at (by omega) (by omega), take_last hj, hlen]
  constructor
  · rintro ⟨h1, h2, h3⟩
    refine ⟨h1, h2, fun k hk => ?_⟩
    have := h3 k (by omega)
    rw [take_at (by omega) (by omega)] at this
    exact this
  · rintro ⟨h1, h2, h3⟩
    refine ⟨h1, h2, fun k hk => ?_⟩
    rw [take_at (by omega) (by omega)]
    exact h3 k (by omega)
def WayR (E : List ((Int × Int) × Thing)) (n : Nat) (w : List Int) : Prop := w ≠ [] ∧ w.length ≤ n ∧ ∀ j (hj : j + 1 < w.length), FitR E n (w.take (j + 1)) w[j + 1]
theorem good_of_way (hi : GInv V E) {n : Nat} {c : List Int} (h4 : 4 ≤ n) (hw : WayR E n c) (hl : c.length = n) (hcl : hasE (c[0]'(by omega)) (c[n - 1]'(by omega)) E = true) : Good E n c := by
  subst hl
  refine ⟨rfl, ⟨h4, fun i k h1 h2 h3 => ?_⟩, fun k hk h0 => ?_⟩
  · obtain ⟨j, rfl⟩ : ∃ j, k = j + 1 := ⟨k - 1, by omega⟩
    obtain ⟨f1, f2, f3⟩ := (fit_iff (by omega)).1 (hw.2.2 j h2)
    rcases Nat.lt_or_ge i j with h5 | h5
    · obtain ⟨g1, g2⟩ := f3 i h5
      refine ⟨g1, fun h => ?_, fun h => ?_⟩
      · have := g2 h
        exact .inr ⟨this.1, by omega⟩
      · rcases h with h | ⟨rfl, h⟩
        · omega
        · have : j + 1 = c.length - 1 := by omega
          simp only [this]
          exact hcl
    · have : i = j := by omega
      subst this
      exact ⟨hasE_ne hi f2, fun _ => .inl rfl, fun _ => f2⟩
  · obtain ⟨j, rfl⟩ : ∃ j, k = j + 1 := ⟨k - 1, by omega⟩
    exact ((fit_iff (by omega)).1 (hw.2.2 j hk)).1
theorem good_fit {n : Nat} {c : List Int} (h : Good E n c) {j : Nat} (hj : j + 1 < c.length) : FitR E n (c.take (j + 1)) c[j + 1] := by
  obtain ⟨h1, h2, h3⟩ := h
  refine (fit_iff (by omega)).2 ⟨h3 (j + 1) hj (by omega), ((h2.2 j (j + 1) (by omega) hj (by omega)).2).2 (.inl rfl), fun k hk => ?_⟩
  have := h2.2 k (j + 1) (by omega) hj (by omega)
  refine ⟨this.1, fun h => ?_⟩
  rcases this.2.1 h with h5 | ⟨h5, h6⟩
  · omega
  · exact ⟨h5, by omega⟩
theorem good_close {n : Nat} {c : List Int} (h : Good E n c) : hasE (c.headD 0) (c.getLastD 0) E = true := by
  have h4 := h.2.1.1
  have := ((h.2.1.2 0 (c.length - 1) (by omega) (by omega) (by omega)).2).2 (.inr ⟨rfl, by omega⟩)
  have e1 : c.headD 0 = c[0]'(by omega) := by
    cases c with
    | nil => simp at h4
    | cons a l => rfl
  have e2 : c.getLastD 0 = c[c.length - 1]'(by omega) := by
    have := take_last (w := c) (j := c.length - 1) (by omega)
    rw [show c.length - 1 + 1 = c.length by omega, List.take_length] at this
    exact this
  rw [e1, e2]
  exact this
theorem close_get {n : Nat} {c : List Int} (hl : c.length = n) (h4 : 4 ≤ n) (h : hasE (c.headD 0) (c.getLastD 0) E = true) : hasE (c[0]'(by omega)) (c[n - 1]'(by omega)) E = true := by
  subst hl
  have e1 : c.headD 0 = c[0]'(by omega) := by
    cases c with
    | nil => simp at h4
    | cons a l => rfl
  have e2 : c.getLastD 0 = c[c.length - 1]'(by omega) := by
    have := take_last (w := c) (j := c.length - 1) (by omega)
    rw [show c.length - 1 + 1 = c.length by omega, List.take_length] at this
    exact this
  rw [e1, e2] at h
  exact h
theorem way_one {n : Nat} (hn : 1 ≤ n) (s : Int) : WayR E n [s] := ⟨by simp, by simpa using hn, fun j hj => by simp at hj⟩
theorem WayR.snoc {n : Nat} {w : List Int} {v : Int} (h : WayR E n w) (hl : w.length < n) (hf : FitR E n w v) : WayR E n (w ++ [v]) := by
  refine ⟨by simp, by simp; omega, fun j hj => ?_⟩
  simp only [List.length_append, List.length_singleton] at hj
  rcases Nat.lt_or_ge (j + 1) w.length with h1 | h1
  · rw [List.getElem_append_left h1, List.take_append_of_le_length (by omega)]
    exact h.2.2 j h1
  · have hj2 : j + 1 = w.length := by omega
    have e1 : (w ++ [v])[j + 1]'(by simp; omega) = v := by
      rw [List.getElem_append_right (by omega)]
      simp [hj2]
    rw [e1, hj2, List.take_left' rfl]
    exact hf
open Classical in
/-- the reference's search for a hole of n vertices -/
noncomputable def holeR (V : List (Int × Thing)) (E : List ((Int × Int) × Thing)) (n : Nat) : Nat → List Int → Option (List Int)
  | 0, w => if w.length = n then (if hasE (w.headD 0) (w.getLastD 0) E = true then some w else none) else none
  | f + 1, w => if w.length = n then (if hasE (w.headD 0) (w.getLastD 0) E = true then some w else none) else (V.map (·.1)).findSome? fun v => if FitR E n w v then holeR V E n f (w ++ [v]) else none
theorem sorted_split {l : List Int} (hs : l.Pairwise (· < ·)) {l1 l2 : List Int} {v y : Int} (he : l = l1 ++ v :: l2) (hy : y ∈ l) (hlt : y < v) : y ∈ l1 := by
  subst he
  rcases List.mem_append.1 hy with h | h
  · exact h
  · rcases List.mem_cons.1 h with rfl | h
    · omega
    · have := (List.pairwise_cons.1 (List.pairwise_append.1 hs).2.1).1 y h
      omega
theorem pre_ids (hi : GInv V E) {n : Nat} {w : List Int} {v : Int} (h : Pre E n (w ++ [v])) : v ∈ V.map (·.1) := by
  obtain ⟨c, hc, hp⟩ := h
  have h4 := hc.2.1.1
  have hl := hp.length_le
  simp only [List.length_append, List.length_singleton] at hl
  have hv : c[w.length]? = some v := by
    have := List.prefix_iff_getElem?.1 hp w.length (by simp)
    rw [this]; simp
  have hlt : w.length < c.length := by omega
  rw [List.getElem?_eq_getElem hlt] at hv
  have hv := Option.some.inj hv
  rcases Nat.eq_zero_or_pos w.length with h0 | h0
  · have := ((hc.2.1.2 w.length (w.length + 1) hlt (by omega) (by omega)).2).2 (.inl rfl)
    rw [hv] at this
    exact (hasE_rng hi this).1
  · have := ((hc.2.1.2 (w.length - 1) w.length (by omega) hlt (by omega)).2).2 (.inl (by omega))
    rw [hv] at this
    exact (hasE_rng hi this).2
theorem pre_fit {n : Nat} {w : List Int} {v : Int} (hne : w ≠ []) (h : Pre E n (w ++ [v])) : FitR E n w v := by
  obtain ⟨c, hc, hp⟩ := h
  have hl := hp.length_le
  simp only [List.length_append, List.length_singleton] at hl
  have hw0 : 0 < w.length := List.length_pos_iff.2 hne
  have hlt : w.length - 1 + 1 < c.length := by omega
  have := good_fit hc hlt
  have e1 : c.take (w.length - 1 + 1) = w := by
    rw [show w.length - 1 + 1 = w.length by omega]
    exact (List.prefix_iff_eq_take.1 (List.IsPrefix.trans (List.prefix_append _ _) hp)).symm
  have e2 : c[w.length - 1 + 1] = v := by
    have hv : c[w.length]? = some v := by
      have := List.prefix_iff_getElem?.1 hp w.length (by simp)
      rw [this]; simp
    have hq : w.length - 1 + 1 = w.length := by omega
    simp only [hq]
    rw [List.getElem?_eq_getElem (by omega)] at hv
    exact Option.some.inj hv
  rw [e1, e2] at this
  exact this
open Classical in
theorem holeR_spec (hi : GInv V E) {n : Nat} (h4 : 4 ≤ n) (f : Nat) : ∀ (w : List Int), WayR E n w → n ≤ w.length + f →
    (∀ c, holeR V E n f w = some c → Good E n c ∧ w <+: c ∧ ∀ j, w.length ≤ j → (hj : j < c.length) → ∀ v, v < c[j] → ¬ Pre E n (c.take j ++ [v])) ∧ (holeR V E n f w = none → ¬ Pre E n w) := by
  have full : ∀ w : List Int, WayR E n w → w.length = n → (∀ c, (if hasE (w.headD 0) (w.getLastD 0) E = true then some w else none) = some c → Good E n c ∧ w <+: c ∧ ∀ j, w.length ≤ j → (hj : j < c.length) → ∀ v, v < c[j] → ¬ Pre E n (c.take j ++ [v])) ∧ ((if hasE (w.headD 0) (w.getLastD 0) E = true then some w else none) = none → ¬ Pre E n w) := by
    intro w hw hl
    refine ⟨fun c hc => ?_, fun hc => ?_⟩
    · split at hc
      · rename_i hh
        cases hc
        exact ⟨good_of_way hi h4 hw hl (close_get hl h4 hh), List.prefix_rfl, fun j h1 h2 => by omega⟩
      · cases hc
    · split at hc
      · cases hc
      · rename_i hh
        rintro ⟨c, hg, hp⟩
        have : w = c := hp.eq_of_length (hl.trans hg.1.symm)
        subst this
        exact hh (good_close hg)
  induction f with
  | zero =>
    intro w hw hl
    have hl2 : w.length = n := by have := hw.2.1; omega
    rw [holeR, if_pos hl2]
    exact full w hw hl2
  | succ f ih =>
    intro w hw hl
    rw [holeR]
    by_cases hl2 : w.length = n
    · rw [if_pos hl2]
      exact full w hw hl2
    · rw [if_neg hl2]
      have hlt : w.length < n := by have := hw.2.1; omega
      have hsub : ∀ v, FitR E n w v → (∀ c, holeR V E n f (w ++ [v]) = some c → Good E n c ∧ (w ++ [v]) <+: c ∧ ∀ j, (w ++ [v]).length ≤ j → (hj : j < c.length) → ∀ v', v' < c[j] → ¬ Pre E n (c.take j ++ [v'])) ∧ (holeR V E n f (w ++ [v]) = none → ¬ Pre E n (w ++ [v])) := fun v hf => ih (w ++ [v]) (hw.snoc hlt hf) (by simp; omega)
      refine ⟨fun c hc => ?_, fun hc => ?_⟩
      · obtain ⟨l1, v, l2, he, hv, hno⟩ := List.findSome?_eq_some_iff.1 hc
        split at hv
        · rename_i hf
          obtain ⟨g1, g2, g3⟩ := (hsub v hf).1 c hv
          have hwp : w <+: c := List.IsPrefix.trans (List.prefix_append _ _) g2
          refine ⟨g1, hwp, fun j j1 j2 y hy hp => ?_⟩
          rcases Nat.lt_or_ge w.length j with h5 | h5
          · exact g3 j (by simp; omega) j2 y hy hp
          · have hj : j = w.length := by omega
            subst hj
            have et : c.take w.length = w := (List.prefix_iff_eq_take.1 hwp).symm
            have ev : c[w.length] = v := by
              have := List.prefix_iff_getElem?.1 g2 w.length (by simp)
              rw [List.getElem?_eq_getElem j2] at this
              have h7 := Option.some.inj this
              rw [h7]
              simp
            rw [et] at hp
            rw [ev] at hy
            have hyi := pre_ids hi hp
            have hyl := sorted_split (sv_map.1 hi.sv) he hyi hy
            have hfy := pre_fit hw.1 hp
            have h8 := hno y hyl
            rw [if_pos hfy] at h8
            exact (hsub y hfy).2 h8 hp
        · cases hv
      · rintro ⟨c, hg, hp⟩
        have hclen := hg.1
        have hjc : w.length < c.length := by omega
        have hps : Pre E n (w ++ [c[w.length]]) := by
          have et : c.take w.length = w := (List.prefix_iff_eq_take.1 hp).symm
          refine ⟨c, hg, ?_⟩
          have := take_snoc hjc
          rwa [et] at this
        have hfy := pre_fit hw.1 hps
        have := (List.findSome?_eq_none_iff.1 hc) c[w.length] (pre_ids hi hps)
        rw [if_pos hfy] at this
        exact (hsub _ hfy).2 this hps
/-- the reference's answer -/
noncomputable def holeRef (V : List (Int × Thing)) (E : List ((Int × Int) × Thing)) : Option (List Int) :=
  ((List.range (V.length + 1)).filter fun n => decide (4 ≤ n)).findSome? fun n => (V.map (·.1)).findSome? fun s => holeR V E n n [s]
theorem ref_none (hi : GInv V E) (h : ∀ n c, ¬ Good E n c) : holeRef V E = none := by
  unfold holeRef
  rw [List.findSome?_eq_none_iff]
  intro n hn
  rw [List.findSome?_eq_none_iff]
  intro s _
  have h4 : 4 ≤ n := by simpa using (List.mem_filter.1 hn).2
  cases hr : holeR V E n n [s] with
  | none => rfl
  | some c => exact absurd (((holeR_spec hi h4 n [s] (way_one (by omega) s) (by simp)).1 c hr).1) (h n c)
theorem ref_some (hi : GInv V E) {n : Nat} {c : List Int} (hc : Good E n c) (hg : Greedy E n c) (hmin : ∀ n' c', Good E n' c' → n ≤ n') : holeRef V E = some c := by
  have h4 := hc.four
  have hlen := hc.1
  have hids : ∀ k (hk : k < c.length), c[k] ∈ V.map (·.1) := fun k hk => by
    refine pre_ids hi (n := n) (w := c.take k) (v := c[k]) ⟨c, hc, take_snoc hk⟩
  have hcn : c.Nodup := by
    rw [List.nodup_iff_pairwise_ne, List.pairwise_iff_getElem]
    intro i j h1 h2 h3
    exact (hc.2.1.2 i j h1 h2 h3).1
  have hnl : n ≤ V.length := by
    have := len_le_sub c (V.map (·.1)) hcn (fun x hx => by
      obtain ⟨k, hk, rfl⟩ := List.getElem_of_mem hx
      exact hids k hk)
    rw [List.length_map] at this
    omega
  have hinner : (V.map (·.1)).findSome? (fun s => holeR V E n n [s]) = some c := by
    have h0 : 0 < c.length := by omega
    obtain ⟨l1, l2, he⟩ := List.append_of_mem (hids 0 h0)
    refine List.findSome?_eq_some_iff.2 ⟨l1, c[0], l2, he, ?_, fun s hs => ?_⟩
    · have hpre : Pre E n [c[0]] := by
        have := take_snoc h0
        exact ⟨c, hc, by simpa using this⟩
      have hsp := holeR_spec hi h4 n [c[0]] (way_one (by omega) _) (by simp)
      cases hr : holeR V E n n [c[0]] with
      | none => exact absurd hpre (hsp.2 hr)
      | some d =>
        obtain ⟨d1, d2, d3⟩ := hsp.1 d hr
        have : d = c := greedy_uniq d1 hc (fun j hj v hv hp => by
          rcases Nat.eq_zero_or_pos j with h5 | h5
          · subst h5
            have hd0 : d[0] = c[0] := by
              have := List.prefix_iff_getElem?.1 d2 0 (by simp)
              rw [List.getElem?_eq_getElem hj] at this
              have h6 := Option.some.inj this
              rw [h6]; rfl
            rw [hd0] at hv
            exact hg 0 h0 v hv (by simpa using hp)
          · exact d3 j (by simp; omega) hj v hv hp) hg
        rw [this]
    · have hs' : s < c[0] := by
        have hp := sv_map.1 hi.sv
        rw [he] at hp
        exact (List.pairwise_append.1 hp).2.2 s hs c[0] (by simp)
      cases hr : holeR V E n n [s] with
      | none => rfl
      | some d =>
        obtain ⟨d1, d2, _⟩ := (holeR_spec hi h4 n [s] (way_one (by omega) s) (by simp)).1 d hr
        exact absurd (show Pre E n [s] from ⟨d, d1, d2⟩) (by have := hg 0 h0 s hs'; simpa using this)
  unfold holeRef
  obtain ⟨k1, k2, hk⟩ := List.append_of_mem (show n ∈ (List.range (V.length + 1)).filter fun n => decide (4 ≤ n) from List.mem_filter.2 ⟨List.mem_range.2 (by omega), by simpa using h4⟩)
  refine List.findSome?_eq_some_iff.2 ⟨k1, n, k2, hk, hinner, fun m hm => ?_⟩
  have hmm : m ∈ (List.range (V.length + 1)).filter fun n => decide (4 ≤ n) := by rw [hk]; simp [hm]
  have hm4 : 4 ≤ m := by simpa using (List.mem_filter.1 hmm).2
  have hmn : m < n := by
    have hs : ((List.range (V.length + 1)).filter fun n => decide (4 ≤ n)).Pairwise (· < ·) := List.pairwise_lt_range.filter _
    rw [hk] at hs
    exact (List.pairwise_append.1 hs).2.2 m hm n (by simp)
  rw [List.findSome?_eq_none_iff]
  intro s _
  cases hr : holeR V E m m [s] with
  | none => rfl
  | some d =>
    have := hmin m d ((holeR_spec hi hm4 m [s] (way_one (by omega) s) (by simp)).1 d hr).1
    omega
/-- both searches answer alike -/
theorem hole_ref (hi : GInv V E) : (Cho E (V.map (·.1)) → holeRef V E = none ∧ (firstS V E).2 = 0) ∧
    (¬ Cho E (V.map (·.1)) → ∃ c, extendS V E (firstS V E).2 (firstS V E).2.toNat (firstS V E).1 = some c ∧ holeRef V E = some c ∧ 4 ≤ c.length ∧ Cyc E c) := by
  rcases hole_spec (V := V) hi with ⟨h1, h2⟩ | ⟨n, c, h1, h2, h3, h4⟩
  · refine ⟨fun _ => ⟨ref_none hi h1, h2⟩, fun hno => absurd (cho_of hi _ (V.map (·.1)) (Nat.le_refl _) (sv_nodup hi.sv) fun c _ hcy => ?_) hno⟩
    obtain ⟨d, hd⟩ := good_of hcy
    exact h1 _ d hd
  · refine ⟨fun hch => absurd h2.2.1 (no_cyc hi hch fun x hx => ?_), fun _ => ⟨c, h1, ref_some hi h2 h3 h4, h2.2.1.1, h2.2.1⟩⟩
    obtain ⟨k, hk, rfl⟩ := List.getElem_of_mem hx
    exact pre_ids hi (n := n) (w := c.take k) (v := c[k]) ⟨c, h2, take_snoc hk⟩
end
end Go.Proofs.YtmfkkkhddigkfaaGreatDoor
