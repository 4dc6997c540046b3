/- THE ORDER OF CONSTRUCTION IS IRRELEVANT, plainly. No program in sight. Conditions: see each theorem. -/
import Derived.Test.YtdkhondfahebnaaFr
import Derived.Test.YtdkhondfahebnaaEq
namespace Go.Proofs.Ytdkhondfahebnaa
open Go Go.RowKit

theorem orderV : ∀ (l acc : List (Int × Thing)), GInv acc [] → (∀ p ∈ l, idB p.1 = true ∧ heavyB p.2.2 = false) → ((acc ++ l).map (·.1)).Nodup → ∃ S, l.foldl stV (acc, []) = (S, []) ∧ S.Perm (acc ++ l) ∧ GInv S [] ∧ fe erV stV l (acc, []) = 0
  | [], acc, hi, _, _ => ⟨acc, rfl, by simp, hi, rfl⟩
  | x :: l, acc, hi, hv, hn => by
    obtain ⟨u, lab, wt⟩ := x
    obtain ⟨h1, h2⟩ := hv _ List.mem_cons_self
    have hno : hasV u acc = false := hasV_false fun p hp e => by
      rw [List.map_append, List.nodup_append] at hn
      exact hn.2.2 p.1 (List.mem_map.2 ⟨p, hp, rfl⟩) u (by simp) e
    have he : wrongR 0 u 0 wt acc [] = 0 := by
      simp only at h1 h2
      unfold wrongR
      rw [if_neg (by simp [w1B]), if_neg (by simp [w2B, h1, h2, pairsB]), if_neg (by simp [w3B, pairsB]), if_pos rfl, hno]
      rfl
    have hst : stV (acc, []) (u, (lab, wt)) = (refV 0 u lab wt acc, []) := by
      unfold stV nxV nxE
      simp only [he, if_true]
      rfl
    have hi2 : GInv (refV 0 u lab wt acc) [] := hi.step (lab := lab) he
    have hp2 : (refV 0 u lab wt acc).Perm (acc ++ [(u, (lab, wt))]) := by
      simp only [refV, if_true]
      rw [insF_eq]
      exact insP_perm _ _ _
    have hp3 : (refV 0 u lab wt acc ++ l).Perm (acc ++ (u, (lab, wt)) :: l) := by
      have := hp2.append_right l
      simpa using this
    obtain ⟨S, k1, k2, k3, k4⟩ := orderV l (refV 0 u lab wt acc) hi2 (fun p hp => hv p (List.mem_cons_of_mem _ hp)) ((hp3.map (·.1)).nodup_iff.2 hn)
    have her : erV (acc, []) (u, (lab, wt)) = 0 := he
    refine ⟨S, ?_, k2.trans hp3, k3, ?_⟩
    · rw [List.foldl_cons, hst]; exact k1
    · simp only [fe, her, hst, if_true]; exact k4

/-- an edge's ends in order -/
def normE (p : (Int × Int) × Thing) : (Int × Int) × Thing := ((min p.1.1 p.1.2, max p.1.1 p.1.2), p.2)
theorem orderE (V : List (Int × Thing)) : ∀ (l acc : List ((Int × Int) × Thing)), GInv V acc → (∀ p ∈ l, hasV p.1.1 V = true ∧ hasV p.1.2 V = true ∧ p.1.1 ≠ p.1.2 ∧ heavyB p.2.2 = false) → ((acc ++ l.map normE).map (·.1)).Nodup → acc.length + l.length ≤ 1024 →
    ∃ S, l.foldl stE (V, acc) = (V, S) ∧ S.Perm (acc ++ l.map normE) ∧ GInv V S ∧ fe erE stE l (V, acc) = 0
  | [], acc, hi, _, _, _ => ⟨acc, rfl, by simp, hi, rfl⟩
  | x :: l, acc, hi, hv, hn, hl => by
    obtain ⟨⟨u, v⟩, lab, wt⟩ := x
    obtain ⟨h1, h2, h3, h4⟩ := hv _ List.mem_cons_self
    simp only at h1 h2 h3 h4
    simp only [List.length_cons] at hl
    have hno : hasE u v acc = false := hasE_false hi.lo fun p hp e => by
      rw [List.map_append, List.nodup_append] at hn
      exact hn.2.2 p.1 (List.mem_map.2 ⟨p, hp, rfl⟩) (min u v, max u v) (by simp [normE]) e
    have i1 : idB u = true := by
      rw [hasV_look, lookM_isSome] at h1
      obtain ⟨p, hp, rfl⟩ := h1
      exact hi.ids p hp
    have i2 : idB v = true := by
      rw [hasV_look, lookM_isSome] at h2
      obtain ⟨p, hp, rfl⟩ := h2
      exact hi.ids p hp
    have he : wrongR 2 u v wt V acc = 0 := by
      unfold wrongR
      rw [if_neg (by simp [w1B]), if_neg (by simp [w2B, h4, i1, i2, pairsB]), if_neg (by simp [w3B, pairsB, h3]), if_neg (by decide), if_neg (by simp [h1, h2]), if_pos rfl, hno, if_neg (by simp), if_neg (by omega)]
    have hst : stE (V, acc) ((u, v), (lab, wt)) = (V, refE 2 u v lab wt acc) := by
      unfold stE nxV nxE
      simp only [he, if_true]
      rfl
    have hi2 : GInv V (refE 2 u v lab wt acc) := hi.step (lab := lab) he
    have hp2 : (refE 2 u v lab wt acc).Perm (acc ++ [normE ((u, v), (lab, wt))]) := by
      simp only [refE, Int.reduceEq, if_false, if_true]
      rw [insF_eq]
      exact insP_perm _ _ _
    have hp3 : (refE 2 u v lab wt acc ++ l.map normE).Perm (acc ++ (((u, v), (lab, wt)) :: l).map normE) := by
      have := hp2.append_right (l.map normE)
      simpa using this
    obtain ⟨S, k1, k2, k3, k4⟩ := orderE V l (refE 2 u v lab wt acc) hi2 (fun p hp => hv p (List.mem_cons_of_mem _ hp)) ((hp3.map (·.1)).nodup_iff.2 hn) (by
      have := hp2.length_eq
      simp only [List.length_append, List.length_cons, List.length_nil] at this
      omega)
    have her : erE (V, acc) ((u, v), (lab, wt)) = 0 := he
    refine ⟨S, ?_, k2.trans hp3, k3, ?_⟩
    · rw [List.foldl_cons, hst]; exact k1
    · simp only [fe, her, hst, if_true]; exact k4

/-- the turned order -/
def idx (n t i : Nat) : Nat := (n - 1 - i + t) % n
theorem idx_lt {n t i : Nat} (h : i < n) : idx n t i < n := Nat.mod_lt _ (by omega)
theorem idx_inj {n t i j : Nat} (hi : i < n) (hj : j < n) (h : idx n t i = idx n t j) : i = j := by
  unfold idx at h
  rcases Nat.lt_trichotomy i j with hlt | he | hlt
  · have h1 := Nat.sub_mod_eq_zero_of_mod_eq h
    have h2 := Nat.eq_zero_of_dvd_of_lt (Nat.dvd_of_mod_eq_zero h1) (by omega)
    omega
  · exact he
  · have h1 := Nat.sub_mod_eq_zero_of_mod_eq h.symm
    have h2 := Nat.eq_zero_of_dvd_of_lt (Nat.dvd_of_mod_eq_zero h1) (by omega)
    omega
theorem idx_perm (n t : Nat) : ((List.range n).map (idx n t)).Perm (List.range n) := by
  refine sub_perm _ _ ?_ ?_ (by simp)
  · rw [List.nodup_iff_pairwise_ne, List.pairwise_map]
    refine List.Pairwise.imp_of_mem ?_ (List.nodup_range (n := n))
    intro a b ha hb hab e
    exact hab (idx_inj (List.mem_range.1 ha) (List.mem_range.1 hb) e)
  · intro x hx
    obtain ⟨i, hi, rfl⟩ := List.mem_map.1 hx
    exact List.mem_range.2 (idx_lt (List.mem_range.1 hi))
def turned {α : Type} [Inhabited α] (l : List α) (t : Nat) : List α := (List.range l.length).map fun i => l.getD (idx l.length t i) default
theorem turned_len {α : Type} [Inhabited α] (l : List α) (t : Nat) : (turned l t).length = l.length := by simp [turned]
theorem turned_get {α : Type} [Inhabited α] {l : List α} {t k : Nat} (hk : k < l.length) (hk' : k < (turned l t).length) : (turned l t)[k] = l[idx l.length t k]'(idx_lt hk) := by
  simp [turned, List.getD, List.getElem?_eq_getElem (idx_lt (t := t) hk)]
theorem turned_perm {α : Type} [Inhabited α] (l : List α) (t : Nat) : (turned l t).Perm l := by
  have h := (idx_perm l.length t).map (fun j => l.getD j default)
  rw [List.map_map] at h
  have e : (List.range l.length).map (fun j => l.getD j default) = l := by
    apply List.ext_getElem?
    intro i
    by_cases hi : i < l.length
    · simp [hi, List.getD]
    · simp [hi]
  rw [e] at h
  exact h

/-- vertices added in any order make the same list -/
theorem any_orderV {V l : List (Int × Thing)} {E : List ((Int × Int) × Thing)} (hi : GInv V E) (hp : l.Perm V) : l.foldl stV ([], []) = (V, []) ∧ fe erV stV l ([], []) = 0 := by
  obtain ⟨S, h1, h2, h3, h4⟩ := orderV l [] GInv.nil (fun p hm => ⟨hi.ids p (hp.mem_iff.1 hm), hi.wv p (hp.mem_iff.1 hm)⟩) (by simpa using (hp.map (·.1)).nodup_iff.2 (sv_nodup hi.sv))
  have : S = V := ((by simpa using h2 : S.Perm l).trans hp).eq_of_pairwise (fun a b _ _ h h' => by unfold ltV at h h'; omega) h3.sv hi.sv
  subst this
  exact ⟨h1, h4⟩
theorem normE_lo {p : (Int × Int) × Thing} (h : p.1.1 < p.1.2) : normE p = p ∧ normE ((p.1.2, p.1.1), p.2) = p := by
  obtain ⟨⟨u, v⟩, t⟩ := p
  simp only at h
  unfold normE
  simp only [Prod.mk.injEq, and_true]
  omega
def swE (p : (Int × Int) × Thing) : (Int × Int) × Thing := ((p.1.2, p.1.1), p.2)
theorem any_orderE {V : List (Int × Thing)} {E l : List ((Int × Int) × Thing)} (hi : GInv V E) (hp : l.Perm E) : (l.map swE).foldl stE (V, []) = (V, E) ∧ fe erE stE (l.map swE) (V, []) = 0 := by
  have hn : (l.map swE).map normE = l := by
    rw [List.map_map]
    refine (List.map_congr_left fun p hm => ?_).trans (List.map_id l)
    exact (normE_lo (hi.lo p (hp.mem_iff.1 hm))).2
  have hV : GInv V [] := ⟨hi.sv, .nil, by simp, by simp, hi.ids, hi.wv, by simp, by simp⟩
  obtain ⟨S, h1, h2, h3, h4⟩ := orderE V (l.map swE) [] hV (fun p hm => by
    obtain ⟨q, hq, rfl⟩ := List.mem_map.1 hm
    have hqE := hp.mem_iff.1 hq
    obtain ⟨⟨t, ht⟩, ⟨s, hs⟩⟩ := hi.ends q hqE
    have := hi.lo q hqE
    exact ⟨hasV_true hs, hasV_true ht, by simp only [swE]; omega, hi.we q hqE⟩) (by
    rw [hn]
    simpa using (hp.map (·.1)).nodup_iff.2 (se_nodup hi.se)) (by
    have := hi.ne
    have := hp.length_eq
    simp
    omega)
  rw [hn] at h2
  have : S = E := ((by simpa using h2 : S.Perm l).trans hp).eq_of_pairwise (fun a b _ _ h h' => by unfold ltE at h h'; omega) h3.se hi.se
  subst this
  exact ⟨h1, h4⟩
theorem fe_pre {σ α : Type} {er : σ → α → Int} {st : σ → α → σ} {l : List α} {s : σ} (h : fe er st l s = 0) (k : Nat) : fe er st (l.take k) s = 0 := by
  rw [← List.take_append_drop k l, fe_append] at h
  by_cases h0 : fe er st (l.take k) s = 0
  · exact h0
  · rw [if_neg h0] at h; exact h
theorem fe_at {σ α : Type} {er : σ → α → Int} {st : σ → α → σ} {l : List α} {s : σ} (h : fe er st l s = 0) {k : Nat} (hk : k < l.length) : er ((l.take k).foldl st s) l[k] = 0 := by
  apply Classical.byContradiction
  intro hn
  exact hn ((fe_stop hk (fe_pre h k) hn).symm.trans h)
end Go.Proofs.Ytdkhondfahebnaa
