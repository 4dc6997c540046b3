/- AN EDIT AND THE EDITS THAT UNDO IT, plainly. No program in sight. Conditions: see each theorem. -/
import Derived.Test.YtdkhondfahebnaaPo
import Derived.Test.YtdkhondfahebnaaIv
namespace Go.Proofs.Ytdkhondfahebnaa
open Go Go.RowKit

def erD (s : GS) (d : Ed) : Int := wrongR d.1 d.2.1 d.2.2.1 d.2.2.2.2 s.1 s.2
theorem wrongR_ok {op u v wt : Int} {V : List (Int × Thing)} {E : List ((Int × Int) × Thing)} (hop : op = 0 ∨ op = 1 ∨ op = 2 ∨ op = 3 ∨ op = 4 ∨ op = 5 ∨ op = 6 ∨ op = 7) (h2 : w2B op u v wt = false) (h3 : w3B op u v = false)
    (k0 : op = 0 → hasV u V = false) (k1 : op ≠ 0 → hasV u V = true) (k2 : op = 2 → hasV v V = true ∧ hasE u v E = false ∧ E.length < 1024) (k3 : op = 3 ∨ op = 6 ∨ op = 7 → hasE u v E = true) : wrongR op u v wt V E = 0 := by
  unfold wrongR
  have h1 : w1B op = false := by unfold w1B; simp; omega
  rw [h1, h2, h3, if_neg (by simp), if_neg (by simp), if_neg (by simp)]
  generalize hasV u V = iu at *
  generalize hasV v V = iv at *
  generalize hasE u v E = ie at *
  generalize E.length = n at *
  rcases hop with rfl | rfl | rfl | rfl | rfl | rfl | rfl | rfl <;> simp [pairsB] at k0 k1 k2 k3 ⊢ <;> simp_all
theorem hasV_iff {u : Int} {V : List (Int × Thing)} : hasV u V = true ↔ u ∈ V.map (·.1) := by
  rw [hasV_look, lookM_isSome, List.mem_map]
theorem hasE_iff {u v : Int} {E : List ((Int × Int) × Thing)} (hlo : ∀ e ∈ E, e.1.1 < e.1.2) : hasE u v E = true ↔ (min u v, max u v) ∈ E.map (·.1) := by
  rw [hasE_look hlo, lookM_isSome, List.mem_map]
theorem refV_same {op u lab wt : Int} {V : List (Int × Thing)} (h0 : op ≠ 0) (h1 : op ≠ 1) (h4 : op ≠ 4) (h5 : op ≠ 5) : refV op u lab wt V = V := by
  unfold refV
  rw [if_neg h0]
  split
  · rfl
  · rw [flat_map (g := id) (fun x _ => by simp [fV, h1, h4, h5])]
    simp
theorem refE_same {op u v lab wt : Int} {E : List ((Int × Int) × Thing)} (h1 : op ≠ 1) (h2 : op ≠ 2) (h3 : op ≠ 3) (h6 : op ≠ 6) (h7 : op ≠ 7) : refE op u v lab wt E = E := by
  unfold refE
  split
  · rfl
  · first
      | rw [if_neg h2, flat_zip (g := fun x => [x]) (fun x i _ => by simp [fE, h1, h3, h6, h7])]
      | rw [flat_zip (g := fun x => [x]) (fun x i _ => by simp [fE, h1, h3, h6, h7])]
    simp
theorem refV_1 {u lab wt : Int} {V : List (Int × Thing)} : refV 1 u lab wt V = V.filter fun p => decide (p.1 ≠ u) := by
  simp only [refV, Int.reduceEq, if_false]
  exact flat_filter (fun x _ => by by_cases hh : x.1 = u <;> simp [fV, hh])
theorem refV_4 {u lab wt : Int} {V : List (Int × Thing)} : refV 4 u lab wt V = V.map fun p => if p.1 = u then (p.1, (lab, p.2.2)) else p := by
  simp only [refV, Int.reduceEq, if_false]
  exact flat_map (fun x _ => by by_cases hh : x.1 = u <;> simp [fV, hh])
theorem refV_5 {u lab wt : Int} {V : List (Int × Thing)} : refV 5 u lab wt V = V.map fun p => if p.1 = u then (p.1, (p.2.1, wt)) else p := by
  simp only [refV, Int.reduceEq, if_false]
  exact flat_map (fun x _ => by by_cases hh : x.1 = u <;> simp [fV, hh])
theorem refE_1 {u v lab wt : Int} {E : List ((Int × Int) × Thing)} : refE 1 u v lab wt E = E.filter fun q => !atB u q.1 := by
  simp only [refE, Int.reduceEq, if_false]
  rw [flat_zip (g := fun x => if (!atB u x.1) = true then [x] else []) (fun x i _ => by
    by_cases h1 : x.1.1 = u <;> by_cases h2 : x.1.2 = u <;> simp [fE, atB, h1, h2]), flat_filter (fun x _ => rfl)]
section
variable {u v lab wt : Int} {E : List ((Int × Int) × Thing)} (hlo : ∀ e ∈ E, e.1.1 < e.1.2) (hn : (E.map (·.1)).Nodup)
include hlo hn
theorem refE_3 : refE 3 u v lab wt E = E.filter fun q => decide (q.1 ≠ (min u v, max u v)) := by
  simp only [refE, Int.reduceEq, if_false]
  rw [flat_zip (g := fun x => if (decide (x.1 ≠ (min u v, max u v))) = true then [x] else []) (fun x i hx => by
    have hp := pos_iff (u := u) (v := v) hlo hn hx
    rw [show posD 3 u v E = posI (isE u v) E from by simp [posD, pairsB]]
    by_cases hh : x.1 = (min u v, max u v)
    · simp [fE, hp.2 hh, hh]
    · have : ¬ ((i : Int) = posI (isE u v) E) := fun e => hh (hp.1 e)
      simp [fE, hh, this]), flat_filter (fun x _ => rfl)]
theorem refE_6 : refE 6 u v lab wt E = E.map fun q => if q.1 = (min u v, max u v) then (q.1, (lab, q.2.2)) else q := by
  simp only [refE, Int.reduceEq, if_false]
  rw [flat_zip (g := fun q => [if q.1 = (min u v, max u v) then (q.1, (lab, q.2.2)) else q]) (fun x i hx => by
    have hp := pos_iff (u := u) (v := v) hlo hn hx
    rw [show posD 6 u v E = posI (isE u v) E from by simp [posD, pairsB]]
    by_cases hh : x.1 = (min u v, max u v)
    · simp only [fE, Int.reduceEq, false_and, hp.2 hh, and_self, if_true, if_false, hh]
    · have : ¬ ((i : Int) = posI (isE u v) E) := fun e => hh (hp.1 e)
      simp [fE, hh, this]), flat_map (fun x _ => rfl)]
theorem refE_7 : refE 7 u v lab wt E = E.map fun q => if q.1 = (min u v, max u v) then (q.1, (q.2.1, wt)) else q := by
  simp only [refE, Int.reduceEq, if_false]
  rw [flat_zip (g := fun q => [if q.1 = (min u v, max u v) then (q.1, (q.2.1, wt)) else q]) (fun x i hx => by
    have hp := pos_iff (u := u) (v := v) hlo hn hx
    rw [show posD 7 u v E = posI (isE u v) E from by simp [posD, pairsB]]
    by_cases hh : x.1 = (min u v, max u v)
    · simp only [fE, Int.reduceEq, false_and, hp.2 hh, and_self, if_true, if_false, hh]
    · have : ¬ ((i : Int) = posI (isE u v) E) := fun e => hh (hp.1 e)
      simp [fE, hh, this]), flat_map (fun x _ => rfl)]
end
theorem eqV_of {A B : List (Int × Thing)} (hp : A.Perm B) (ha : A.Pairwise ltV) (hb : B.Pairwise ltV) : A = B := hp.eq_of_pairwise (fun a b _ _ h h' => by unfold ltV at h h'; omega) ha hb
theorem eqE_of {A B : List ((Int × Int) × Thing)} (hp : A.Perm B) (ha : A.Pairwise ltE) (hb : B.Pairwise ltE) : A = B := hp.eq_of_pairwise (fun a b _ _ h h' => by unfold ltE at h h'; omega) ha hb
theorem stD_ok {op u v lab wt : Int} {V : List (Int × Thing)} {E : List ((Int × Int) × Thing)} (h : wrongR op u v wt V E = 0) : stD (V, E) (op, (u, (v, (lab, wt)))) = (refV op u lab wt V, refE op u v lab wt E) := by
  unfold stD nxV nxE
  simp only [h, if_true]
/-- one edit that undoes -/
theorem undo1 {op u v lab wt : Int} {V V1 : List (Int × Thing)} {E E1 : List ((Int × Int) × Thing)} (h1 : wrongR op u v wt V1 E1 = 0) (hv : refV op u lab wt V1 = V) (he : refE op u v lab wt E1 = E) :
    fe erD stD [(op, (u, (v, (lab, wt))))] (V1, E1) = 0 ∧ [(op, (u, (v, (lab, wt))))].foldl stD (V1, E1) = (V, E) := by
  constructor
  · have : erD (V1, E1) (op, (u, (v, (lab, wt)))) = 0 := h1
    simp [fe, this]
  · rw [List.foldl_cons, List.foldl_nil, stD_ok h1, hv, he]
theorem filter_self {α : Type} {p : α → Bool} {l : List α} (h : ∀ x ∈ l, p x = true) : l.filter p = l := List.filter_eq_self.2 h
/-- a key's pair, taken out and put at the end -/
theorem key_perm {κ τ : Type} [DecidableEq κ] {x : κ} {t : τ} : ∀ {l : List (κ × τ)}, (l.map (·.1)).Nodup → (x, t) ∈ l → ((l.filter fun p => decide (p.1 ≠ x)) ++ [(x, t)]).Perm l
  | [], _, h => by simp at h
  | p :: l, hn, h => by
    simp only [List.map_cons, List.nodup_cons] at hn
    by_cases hp : p.1 = x
    · have hpt : p = (x, t) := by
        rcases List.mem_cons.1 h with h | h
        · exact h.symm
        · exact absurd (List.mem_map.2 ⟨(x, t), h, hp.symm⟩) hn.1
      subst hpt
      rw [List.filter_cons_of_neg (by simp), filter_self (fun q hq => by
        simp only [ne_eq, decide_eq_true_eq]
        intro e
        exact hn.1 (List.mem_map.2 ⟨q, hq, e⟩))]
      exact List.perm_append_comm (l₁ := l) (l₂ := [(x, t)])
    · rw [List.filter_cons_of_pos (by simpa using hp)]
      have hm : (x, t) ∈ l := by
        rcases List.mem_cons.1 h with h | h
        · rw [← h] at hp; exact absurd rfl hp
        · exact h
      exact (key_perm hn.2 hm).cons p
theorem look_mem {κ τ : Type} [DecidableEq κ] {x : κ} {d : τ} {l : List (κ × τ)} (hn : (l.map (·.1)).Nodup) (h : (lookM l x).isSome = true) : (x, (lookM l x).getD d) ∈ l := by
  cases hl : lookM l x with
  | none => rw [hl] at h; cases h
  | some t => exact (lookM_some hn).1 hl
theorem back_fold (u : Int) : ∀ (l : List ((Int × Int) × Thing)) (s : GS), (l.flatMap (bkE u)).foldl stD s = (l.filter fun q => atB u q.1).foldl stE s ∧ fe erD stD (l.flatMap (bkE u)) s = fe erE stE (l.filter fun q => atB u q.1) s
  | [], s => ⟨rfl, rfl⟩
  | e :: l, s => by
    obtain ⟨⟨a, b⟩, lab, wt⟩ := e
    by_cases h : atB u (a, b) = true
    · have h' : (a == u || b == u) = true := h
      have e1 : bkE u ((a, b), (lab, wt)) = [(2, (a, (b, (lab, wt))))] := by unfold bkE; rw [if_pos h']
      rw [List.flatMap_cons, e1, List.filter_cons_of_pos (p := fun q : (Int × Int) × Thing => atB u q.1) h]
      simp only [List.singleton_append, List.foldl_cons, fe]
      have ih := back_fold u l (stE s ((a, b), (lab, wt)))
      exact ⟨ih.1, by
        show (if erE s ((a, b), (lab, wt)) = 0 then fe erD stD (l.flatMap (bkE u)) (stE s ((a, b), (lab, wt))) else erE s ((a, b), (lab, wt))) = _
        rw [ih.2]⟩
    · have h' : ¬ (a == u || b == u) = true := h
      have e1 : bkE u ((a, b), (lab, wt)) = [] := by unfold bkE; rw [if_neg h']
      rw [List.flatMap_cons, e1, List.filter_cons_of_neg (p := fun q : (Int × Int) × Thing => atB u q.1) h]
      exact back_fold u l s
theorem mm_idem (u v : Int) : min (min u v) (max u v) = min u v ∧ max (min u v) (max u v) = max u v := by omega
theorem mem_filter_key {V : List (Int × Thing)} {u x : Int} (h : x ∈ V.map (·.1)) (hne : x ≠ u) : x ∈ (V.filter fun p => decide (p.1 ≠ u)).map (·.1) := by
  obtain ⟨p, hp, rfl⟩ := List.mem_map.1 h
  exact List.mem_map.2 ⟨p, List.mem_filter.2 ⟨hp, by simpa using hne⟩, rfl⟩

/-- AN EDIT AND THE EDITS THAT UNDO IT leave the lists as they were. -/
theorem inv_ok {op u v lab wt : Int} {V : List (Int × Thing)} {E : List ((Int × Int) × Thing)} (hi : GInv V E) (h0 : wrongR op u v wt V E = 0) :
    fe erD stD (invS op u v V E) (stD (V, E) (op, (u, (v, (lab, wt))))) = 0 ∧ (invS op u v V E).foldl stD (stD (V, E) (op, (u, (v, (lab, wt))))) = (V, E) := by
  have hd := wrongR_0_iff h0
  have hi2 := hi.step (lab := lab) h0
  rw [stD_ok h0]
  obtain ⟨hop, h2, h3, k0, k1, k2, k3⟩ := hd
  have iu : idB u = true := w2B_u h2
  have nV := sv_nodup hi.sv
  have nE := se_nodup hi.se
  rcases hop with rfl | rfl | rfl | rfl | rfl | rfl | rfl | rfl
  · -- a vertex was added
    have hno := k0 rfl
    have hnu : ∀ p ∈ V, p.1 ≠ u := fun p hp e => by
      have : hasV u V = true := hasV_iff.2 (List.mem_map.2 ⟨p, hp, e⟩)
      rw [hno] at this; cases this
    have hI : refV 0 u lab wt V = insF (gtV (u, (lab, wt))) (u, (lab, wt)) V := rfl
    have hE0 : refE 0 u v lab wt E = E := rfl
    rw [hE0] at hi2 ⊢
    rw [hI] at hi2 ⊢
    have hs : invS 0 u v V E = [(1, (u, (0, (0, 0))))] := by simp [invS, invT]
    rw [hs]
    refine undo1 (wrongR_ok (by simp) (by simp [w2B, iu, pairsB, weighsB]) (by simp [w3B, pairsB]) (by simp) (fun _ => hasV_iff.2 ?_) (by simp) (by simp)) ?_ ?_
    · exact List.mem_map.2 ⟨_, mem_insF.2 (.inr rfl), rfl⟩
    · rw [refV_1]
      refine eqV_of ?_ (hi2.sv.filter _) hi.sv
      rw [insF_eq]
      have := (insP_perm (gtV (u, (lab, wt))) (u, (lab, wt)) V).filter fun p => decide (p.1 ≠ u)
      rw [List.filter_append, filter_self (l := V) (fun p hp => by simpa using hnu p hp)] at this
      simpa using this
    · rw [refE_1]
      exact filter_self fun q hq => by
        obtain ⟨⟨t, ht⟩, ⟨s, hs⟩⟩ := hi.ends q hq
        have a1 := hnu _ ht
        have a2 := hnu _ hs
        simp only at a1 a2
        simp [atB, a1, a2]
  · -- a vertex was removed, and its edges
    have hu := k1 (by decide)
    have hm := look_mem (d := (0, 0)) nV (by rw [← hasV_look]; exact hu)
    generalize (lookM V u).getD (0, 0) = tv at hm
    have htv : (lookM V u).getD (0, 0) = tv := by
      have := (lookM_some nV).2 hm
      rw [this]; rfl
    obtain ⟨tl, tw⟩ := tv
    have hs : invS 1 u v V E = (0, (u, (0, (tl, tw)))) :: E.flatMap (bkE u) := by simp [invS, invT, htv]
    rw [hs, refV_1, refE_1]
    rw [refV_1, refE_1] at hi2
    have hw : heavyB tw = false := hi.wv _ hm
    have hnu : hasV u (V.filter fun p => decide (p.1 ≠ u)) = false := hasV_false fun p hp => by
      have := (List.mem_filter.1 hp).2
      simpa using this
    have h1 : wrongR 0 u 0 tw (V.filter fun p => decide (p.1 ≠ u)) (E.filter fun q => !atB u q.1) = 0 :=
      wrongR_ok (by simp) (by simp [w2B, iu, pairsB, hw]) (by simp [w3B, pairsB]) (fun _ => hnu) (by simp) (by simp) (by simp)
    have hi3 := hi2.step (lab := tl) h1
    have hV : refV 0 u tl tw (V.filter fun p => decide (p.1 ≠ u)) = V := by
      refine eqV_of ?_ hi3.sv hi.sv
      simp only [refV, if_true]
      rw [insF_eq]
      exact (insP_perm _ _ _).trans (key_perm nV hm)
    have hst : stD (V.filter (fun p => decide (p.1 ≠ u)), E.filter fun q => !atB u q.1) (0, (u, (0, (tl, tw)))) = (V, E.filter fun q => !atB u q.1) := by
      rw [stD_ok h1, hV]; rfl
    have her : erD (V.filter (fun p => decide (p.1 ≠ u)), E.filter fun q => !atB u q.1) (0, (u, (0, (tl, tw)))) = 0 := h1
    obtain ⟨b1, b2⟩ := back_fold u E (V, E.filter fun q => !atB u q.1)
    have hacc : GInv V (E.filter fun q => !atB u q.1) := by
      have := hi3
      rw [hV] at this
      exact this
    have hsub : ∀ q ∈ E.filter (fun q => atB u q.1), q ∈ E := fun q hq => (List.mem_filter.1 hq).1
    have hnorm : (E.filter fun q => atB u q.1).map normE = E.filter fun q => atB u q.1 := by
      refine (List.map_congr_left fun q hq => ?_).trans (List.map_id _)
      exact (normE_lo (hi.lo q (hsub q hq))).1
    have hpe : ((E.filter fun q => !atB u q.1) ++ E.filter fun q => atB u q.1).Perm E := by
      have := List.filter_append_perm (fun q : (Int × Int) × Thing => atB u q.1) E
      exact (List.perm_append_comm).trans this
    obtain ⟨S, s1, s2, s3, s4⟩ := orderE V (E.filter fun q => atB u q.1) (E.filter fun q => !atB u q.1) hacc (fun q hq => by
      have hq' := hsub q hq
      obtain ⟨⟨t, ht⟩, ⟨s, hs⟩⟩ := hi.ends q hq'
      have := hi.lo q hq'
      exact ⟨hasV_true ht, hasV_true hs, by omega, hi.we q hq'⟩) (by rw [hnorm]; exact (hpe.map (·.1)).nodup_iff.2 nE) (by
      have := hpe.length_eq
      rw [List.length_append] at this
      have := hi.ne
      omega)
    rw [hnorm] at s2
    have hSE : S = E := eqE_of (s2.trans hpe) s3.se hi.se
    subst hSE
    constructor
    · simp only [fe, her, if_true]
      rw [hst, b2]; exact s4
    · rw [List.foldl_cons, hst, b1]; exact s1
  · -- an edge was added
    obtain ⟨kv, ke, kl⟩ := k2 rfl
    have ku := k1 (by decide)
    have iv : idB v = true := w2B_v h2 rfl
    have hne : u ≠ v := by
      intro e
      subst e
      simp [w3B, pairsB] at h3
    have hI : refE 2 u v lab wt E = insF (gtE ((min u v, max u v), (lab, wt))) ((min u v, max u v), (lab, wt)) E := rfl
    have hV0 : refV 2 u lab wt V = V := rfl
    rw [hV0] at hi2 ⊢
    rw [hI] at hi2 ⊢
    have hs : invS 2 u v V E = [(3, (min u v, (max u v, (0, 0))))] := by simp [invS, invT]
    rw [hs]
    obtain ⟨m1, m2⟩ := mm_idem u v
    have hnk : ∀ q ∈ E, q.1 ≠ (min u v, max u v) := fun q hq e => by
      have : hasE u v E = true := (hasE_iff hi.lo).2 (List.mem_map.2 ⟨q, hq, e⟩)
      rw [ke] at this; cases this
    have kmin : hasV (min u v) V = true := by
      rcases Int.le_total u v with h | h
      · rw [Int.min_eq_left h]; exact ku
      · rw [Int.min_eq_right h]; exact kv
    have imin : idB (min u v) = true := by
      rcases Int.le_total u v with h | h
      · rw [Int.min_eq_left h]; exact iu
      · rw [Int.min_eq_right h]; exact iv
    have imax : idB (max u v) = true := by
      rcases Int.le_total u v with h | h
      · rw [Int.max_eq_right h]; exact iv
      · rw [Int.max_eq_left h]; exact iu
    refine undo1 (wrongR_ok (by simp) (by simp [w2B, imin, imax, weighsB]) (by simp [w3B, pairsB]; omega) (by simp) (fun _ => kmin) (by simp) (fun _ => (hasE_iff hi2.lo).2 ?_)) (refV_same (by decide) (by decide) (by decide) (by decide)) ?_
    · rw [m1, m2]
      exact List.mem_map.2 ⟨_, mem_insF.2 (.inr rfl), rfl⟩
    · rw [refE_3 hi2.lo (se_nodup hi2.se), m1, m2]
      refine eqE_of ?_ (hi2.se.filter _) hi.se
      rw [insF_eq]
      have := (insP_perm (gtE ((min u v, max u v), (lab, wt))) ((min u v, max u v), (lab, wt)) E).filter fun q => decide (q.1 ≠ (min u v, max u v))
      rw [List.filter_append, filter_self (l := E) (fun q hq => by simpa using hnk q hq)] at this
      simpa using this
  · -- an edge was removed
    have ke := k3 (.inl rfl)
    obtain ⟨ku, kv⟩ := has_ends hi ke
    have iv : idB v = true := w2B_v h2 rfl
    have hne : u ≠ v := by
      intro e
      subst e
      simp [w3B, pairsB] at h3
    have hm := look_mem (d := (0, 0)) nE (by rw [← hasE_look hi.lo]; exact ke)
    generalize (lookM E (min u v, max u v)).getD (0, 0) = te at hm
    have hte : (lookM E (min u v, max u v)).getD (0, 0) = te := by
      have := (lookM_some nE).2 hm
      rw [this]; rfl
    obtain ⟨sl, sw⟩ := te
    have hs : invS 3 u v V E = [(2, (min u v, (max u v, (sl, sw))))] := by simp [invS, invT, hte]
    rw [hs, refE_3 hi.lo nE, refV_same (by decide) (by decide) (by decide) (by decide)]
    rw [refE_3 hi.lo nE, refV_same (by decide) (by decide) (by decide) (by decide)] at hi2
    obtain ⟨m1, m2⟩ := mm_idem u v
    have hw : heavyB sw = false := hi.we _ hm
    have kk : hasV (min u v) V = true ∧ hasV (max u v) V = true ∧ idB (min u v) = true ∧ idB (max u v) = true := by
      rcases Int.le_total u v with h | h
      · rw [Int.min_eq_left h, Int.max_eq_right h]; exact ⟨ku, kv, iu, iv⟩
      · rw [Int.min_eq_right h, Int.max_eq_left h]; exact ⟨kv, ku, iv, iu⟩
    obtain ⟨q1, q2, q3, q4⟩ := kk
    have hpe := key_perm nE hm
    have h1 : wrongR 2 (min u v) (max u v) sw V (E.filter fun q => decide (q.1 ≠ (min u v, max u v))) = 0 :=
      wrongR_ok (by simp) (by simp [w2B, q3, q4, hw]) (by simp [w3B, pairsB]; omega) (by simp) (fun _ => q1) (fun _ => ⟨q2, hasE_false hi2.lo (fun p hp => by
        have := (List.mem_filter.1 hp).2
        rw [m1, m2]
        simpa using this), by
          have := hpe.length_eq
          rw [List.length_append] at this
          simp only [List.length_cons, List.length_nil] at this
          have := hi.ne
          omega⟩) (by simp)
    have hi3 := hi2.step (lab := sl) h1
    refine undo1 h1 rfl ?_
    refine eqE_of ?_ hi3.se hi.se
    simp only [refE, Int.reduceEq, if_false, if_true, m1, m2]
    rw [insF_eq]
    exact (insP_perm _ _ _).trans hpe
  · -- a vertex's label
    have hu := k1 (by decide)
    have hm := look_mem (d := (0, 0)) nV (by rw [← hasV_look]; exact hu)
    have hval : ∀ p ∈ V, p.1 = u → (lookM V u).getD (0, 0) = p.2 := fun p hp e => by
      have := (lookM_some nV).2 (show (u, p.2) ∈ V by rw [← e]; exact hp)
      rw [this]; rfl
    generalize (lookM V u).getD (0, 0) = tv at hm hval
    have htv : (lookM V u).getD (0, 0) = tv := by
      have := (lookM_some nV).2 hm
      rw [this]; rfl
    obtain ⟨tl, tw⟩ := tv
    have hs : invS 4 u v V E = [(4, (u, (0, (tl, 0))))] := by simp [invS, invT, htv]
    rw [hs, refV_4, refE_same (by decide) (by decide) (by decide) (by decide) (by decide)]
    refine undo1 (wrongR_ok (by simp) (by simp [w2B, iu, pairsB, weighsB]) (by simp [w3B, pairsB]) (by simp) (fun _ => hasV_iff.2 ?_) (by simp) (by simp)) ?_ (refE_same (by decide) (by decide) (by decide) (by decide) (by decide))
    · rw [List.map_map]
      refine List.mem_map.2 ⟨_, hm, by simp⟩
    · rw [refV_4, List.map_map]
      refine (List.map_congr_left fun p hp => ?_).trans (List.map_id V)
      simp only [Function.comp, id]
      by_cases hh : p.1 = u
      · have := hval p hp hh
        simp only [hh, if_true]
        rw [← hh]
        obtain ⟨a, b, c⟩ := p
        simp only [Prod.mk.injEq] at this ⊢
        exact ⟨trivial, this.1, trivial⟩
      · simp [hh]
  · -- a vertex's weight
    have hu := k1 (by decide)
    have hm := look_mem (d := (0, 0)) nV (by rw [← hasV_look]; exact hu)
    have hval : ∀ p ∈ V, p.1 = u → (lookM V u).getD (0, 0) = p.2 := fun p hp e => by
      have := (lookM_some nV).2 (show (u, p.2) ∈ V by rw [← e]; exact hp)
      rw [this]; rfl
    generalize (lookM V u).getD (0, 0) = tv at hm hval
    have htv : (lookM V u).getD (0, 0) = tv := by
      have := (lookM_some nV).2 hm
      rw [this]; rfl
    obtain ⟨tl, tw⟩ := tv
    have hw : heavyB tw = false := hi.wv _ hm
    have hs : invS 5 u v V E = [(5, (u, (0, (0, tw))))] := by simp [invS, invT, htv]
    rw [hs, refV_5, refE_same (by decide) (by decide) (by decide) (by decide) (by decide)]
    refine undo1 (wrongR_ok (by simp) (by simp [w2B, iu, pairsB, hw]) (by simp [w3B, pairsB]) (by simp) (fun _ => hasV_iff.2 ?_) (by simp) (by simp)) ?_ (refE_same (by decide) (by decide) (by decide) (by decide) (by decide))
    · rw [List.map_map]
      refine List.mem_map.2 ⟨_, hm, by simp⟩
    · rw [refV_5, List.map_map]
      refine (List.map_congr_left fun p hp => ?_).trans (List.map_id V)
      simp only [Function.comp, id]
      by_cases hh : p.1 = u
      · have := hval p hp hh
        simp only [hh, if_true]
        rw [← hh]
        obtain ⟨a, b, c⟩ := p
        simp only [Prod.mk.injEq] at this ⊢
        exact ⟨trivial, trivial, this.2⟩
      · simp [hh]
  all_goals
    have ke := k3 (by simp)
    obtain ⟨ku, kv⟩ := has_ends hi ke
    have iv : idB v = true := w2B_v h2 rfl
    have hne : u ≠ v := by
      intro e
      subst e
      simp [w3B, pairsB] at h3
    have hm := look_mem (d := (0, 0)) nE (by rw [← hasE_look hi.lo]; exact ke)
    have hval : ∀ p ∈ E, p.1 = (min u v, max u v) → (lookM E (min u v, max u v)).getD (0, 0) = p.2 := fun p hp e => by
      have := (lookM_some nE).2 (show ((min u v, max u v), p.2) ∈ E by rw [← e]; exact hp)
      rw [this]; rfl
    generalize (lookM E (min u v, max u v)).getD (0, 0) = te at hm hval
    have hte : (lookM E (min u v, max u v)).getD (0, 0) = te := by
      have := (lookM_some nE).2 hm
      rw [this]; rfl
    obtain ⟨sl, sw⟩ := te
    have hw : heavyB sw = false := hi.we _ hm
    obtain ⟨m1, m2⟩ := mm_idem u v
    have kk : hasV (min u v) V = true ∧ idB (min u v) = true ∧ idB (max u v) = true := by
      rcases Int.le_total u v with h | h
      · rw [Int.min_eq_left h, Int.max_eq_right h]; exact ⟨ku, iu, iv⟩
      · rw [Int.min_eq_right h, Int.max_eq_left h]; exact ⟨kv, iv, iu⟩
    obtain ⟨q1, q3, q4⟩ := kk
  · have hs : invS 6 u v V E = [(6, (min u v, (max u v, (sl, 0))))] := by simp [invS, invT, hte]
    rw [hs, refE_6 hi.lo nE, refV_same (by decide) (by decide) (by decide) (by decide)]
    rw [refE_6 hi.lo nE, refV_same (by decide) (by decide) (by decide) (by decide)] at hi2
    refine undo1 (wrongR_ok (by simp) (by simp [w2B, q3, q4, weighsB]) (by simp [w3B, pairsB]; omega) (by simp) (fun _ => q1) (by simp) (fun _ => (hasE_iff hi2.lo).2 ?_)) (refV_same (by decide) (by decide) (by decide) (by decide)) ?_
    · rw [m1, m2, List.map_map]
      exact List.mem_map.2 ⟨_, hm, by simp⟩
    · rw [refE_6 hi2.lo (se_nodup hi2.se), m1, m2, List.map_map]
      refine (List.map_congr_left fun p hp => ?_).trans (List.map_id E)
      simp only [Function.comp, id]
      by_cases hh : p.1 = (min u v, max u v)
      · have := hval p hp hh
        simp only [hh, if_true]
        rw [← hh]
        obtain ⟨a, b, c⟩ := p
        simp only [Prod.mk.injEq] at this ⊢
        exact ⟨trivial, this.1, trivial⟩
      · simp [hh]
  · have hs : invS 7 u v V E = [(7, (min u v, (max u v, (0, sw))))] := by simp [invS, invT, hte]
    rw [hs, refE_7 hi.lo nE, refV_same (by decide) (by decide) (by decide) (by decide)]
    rw [refE_7 hi.lo nE, refV_same (by decide) (by decide) (by decide) (by decide)] at hi2
    refine undo1 (wrongR_ok (by simp) (by simp [w2B, q3, q4, hw]) (by simp [w3B, pairsB]; omega) (by simp) (fun _ => q1) (by simp) (fun _ => (hasE_iff hi2.lo).2 ?_)) (refV_same (by decide) (by decide) (by decide) (by decide)) ?_
    · rw [m1, m2, List.map_map]
      exact List.mem_map.2 ⟨_, hm, by simp⟩
    · rw [refE_7 hi2.lo (se_nodup hi2.se), m1, m2, List.map_map]
      refine (List.map_congr_left fun p hp => ?_).trans (List.map_id E)
      simp only [Function.comp, id]
      by_cases hh : p.1 = (min u v, max u v)
      · have := hval p hp hh
        simp only [hh, if_true]
        rw [← hh]
        obtain ⟨a, b, c⟩ := p
        simp only [Prod.mk.injEq] at this ⊢
        exact ⟨trivial, trivial, this.2⟩
      · simp [hh]
end Go.Proofs.Ytdkhondfahebnaa
