/- Parts of a proof, laid together: Fn, Aj, Sf, Sg, Si, Sh, Bw2. Each part says its own conditions. -/
import Derived.Test.YtjehhilijeajnaaGreatDoorC3
import Derived.Test.YtjehhilijeajnaaGreatDoorC4
import Derived.Test.YtjehhilijeajnaaGreatDoorC5
/- SETS OUT OF LISTS OF NUMBERS, AND OF A GRAPH: plain laws. No program in sight. Conditions: see each theorem. -/
namespace Go.Proofs.YtjehhilijeajnaaGreatDoor
open Go Go.RowKit

/-- the numbers that Neighbors adds -/
def nearL (id : Int) (E : List ((Int × Int) × Thing)) : List Int := E.flatMap fun e => if id = e.1.1 then [e.1.2] else if id = e.1.2 then [e.1.1] else []
theorem nearS_fold (id : Int) (E : List ((Int × Int) × Thing)) : ∀ a, E.foldl (nearF id) a = (nearL id E).foldl withS a := by
  induction E with
  | nil => intro a; rfl
  | cons e r ih =>
    intro a
    have h : nearL id (e :: r) = (if id = e.1.1 then [e.1.2] else if id = e.1.2 then [e.1.1] else []) ++ nearL id r := by unfold nearL; rw [List.flatMap_cons]
    rw [List.foldl_cons, ih, h, List.foldl_append]
    congr 1
    unfold nearF
    split
    · rfl
    · split <;> rfl
theorem nearS_eq (id : Int) (E : List ((Int × Int) × Thing)) : nearS id E = fromS (nearL id E) := nearS_fold id E 0
theorem mem_nearL {id x : Int} {E : List ((Int × Int) × Thing)} (hlo : ∀ e ∈ E, e.1.1 < e.1.2) : x ∈ nearL id E ↔ ∃ e ∈ E, e.1 = (min id x, max id x) := by
  unfold nearL
  rw [List.mem_flatMap]
  constructor
  · rintro ⟨e, he, h⟩
    have := hlo e he
    refine ⟨e, he, ?_⟩
    split at h
    · simp at h; apply Prod.ext <;> simp <;> omega
    · split at h
      · simp at h; apply Prod.ext <;> simp <;> omega
      · simp at h
  · rintro ⟨e, he, h⟩
    have hl := hlo e he
    rw [h] at hl
    simp at hl
    refine ⟨e, he, ?_⟩
    rw [h]
    simp
    by_cases h1 : id = min id x
    · rw [if_pos h1]; simp; omega
    · rw [if_neg h1, if_pos (by omega)]; simp; omega
/-- what ref.Near lists: the neighbours -/
def rnear (id : Int) (V : List (Int × Thing)) (E : List ((Int × Int) × Thing)) : List Int := (V.filter fun p => decide (0 ≤ posI (isE p.1 id) E)).map (·.1)
theorem rnear_eq {id : Int} {V : List (Int × Thing)} {E : List ((Int × Int) × Thing)} (hi : GInv V E) : fromS (rnear id V E) = nearS id E := by
  rw [nearS_eq]
  apply fromS_congr
  intro x
  rw [mem_nearL hi.lo]
  unfold rnear
  rw [List.mem_map]
  constructor
  · rintro ⟨p, hp, rfl⟩
    rw [List.mem_filter, decide_eq_true_eq, posI_nonneg] at hp
    obtain ⟨_, e, he, h⟩ := hp
    rw [isE_iff (hi.lo e he)] at h
    exact ⟨e, he, by rw [h]; apply Prod.ext <;> simp <;> omega⟩
  · rintro ⟨e, he, h⟩
    have hv : ∃ t, (x, t) ∈ V := by
      have h2 := hi.ends e he
      have hl := hi.lo e he
      rw [h] at h2 hl
      simp at hl
      by_cases hx : x = min id x
      · rw [← hx] at h2; exact h2.1
      · have : x = max id x := by omega
        rw [← this] at h2; exact h2.2
    obtain ⟨t, ht⟩ := hv
    refine ⟨(x, t), ?_, rfl⟩
    rw [List.mem_filter, decide_eq_true_eq, posI_nonneg]
    exact ⟨ht, e, he, by rw [isE_iff (hi.lo e he), h]; apply Prod.ext <;> simp <;> omega⟩
/-- the places of the edge of two vertices: one law for graph.Edge and ref.Edge -/
theorem posI_congr {α : Type} {p q : α → Bool} : ∀ {l : List α}, (∀ x ∈ l, p x = q x) → posI p l = posI q l := by
  intro l h
  unfold posI
  have : l.findIdx? p = l.findIdx? q := by
    induction l with
    | nil => rfl
    | cons x r ih =>
      rw [List.findIdx?_cons, List.findIdx?_cons, h x (by simp), ih (fun y hy => h y (by simp [hy]))]
  rw [this]
theorem posI_cases {α : Type} (p : α → Bool) (l : List α) : posI p l = -1 ∧ (∀ x ∈ l, p x = false) ∨ ∃ i, ∃ h : i < l.length, posI p l = (i : Int) ∧ p l[i] = true := by
  unfold posI
  cases hf : l.findIdx? p with
  | none => exact .inl ⟨rfl, by simpa [List.findIdx?_eq_none_iff] using hf⟩
  | some i =>
    obtain ⟨h, hp, _⟩ := List.findIdx?_eq_some_iff_getElem.1 hf
    exact .inr ⟨i, h, rfl, hp⟩
theorem find_look {u : Int} {V : List (Int × Thing)} (hs : V.Pairwise ltV) : (lookM V u).isSome = false ∧ posI (fun p : Int × Thing => p.1 == u) V = -1 ∨ ∃ i, ∃ h : i < V.length, (lookM V u).isSome = true ∧ posI (fun p : Int × Thing => p.1 == u) V = (i : Int) ∧ V[i] = (u, (lookM V u).getD (0, 0)) := by
  rcases posI_cases (fun p : Int × Thing => p.1 == u) V with ⟨h1, h2⟩ | ⟨i, hi, h1, h2⟩
  · refine .inl ⟨?_, h1⟩
    rw [Bool.eq_false_iff]
    intro h
    obtain ⟨p, hp, h3⟩ := lookM_isSome.1 h
    have := h2 p hp
    simp [h3] at this
  · refine .inr ⟨i, hi, ?_, h1, ?_⟩
    · exact lookM_isSome.2 ⟨V[i], List.getElem_mem hi, by simpa using h2⟩
    · have h3 : V[i].1 = u := by simpa using h2
      have h4 : lookM V u = some V[i].2 := (lookM_some (sv_nodup hs)).2 (by rw [← h3]; exact List.getElem_mem hi)
      rw [h4, ← h3]
      rfl
end Go.Proofs.YtjehhilijeajnaaGreatDoor
/- ELIMINATION, plain: the graph filled step by step; what walk computes in its terms. No program in sight. Conditions: see each theorem. -/
namespace Go.Proofs.YtjehhilijeajnaaGreatDoor
open Go Go.RowKit

/-- a list without duplicates within another one that is no longer -/
theorem nodup_of_sub : ∀ (l m : List Int), l.Nodup → (∀ x ∈ l, x ∈ m) → m.length ≤ l.length → m.Nodup ∧ ∀ x ∈ m, x ∈ l
  | [], m, _, _, h => by
    have : m = [] := List.eq_nil_of_length_eq_zero (by simpa using h)
    subst this
    exact ⟨.nil, by simp⟩
  | a :: r, m, hn, hs, hl => by
    have ha : a ∈ m := hs a (by simp)
    have hp := List.perm_cons_erase ha
    obtain ⟨hna, hnr⟩ := List.nodup_cons.1 hn
    have hlen := hp.length_eq
    simp only [List.length_cons] at hlen hl
    obtain ⟨h1, h2⟩ := nodup_of_sub r (m.erase a) hnr (fun x hx => (List.mem_erase_of_ne (fun e => hna (by rw [← e]; exact hx))).2 (hs x (by simp [hx]))) (by omega)
    refine ⟨hp.nodup_iff.2 (List.nodup_cons.2 ⟨fun h => hna (h2 a h), h1⟩), fun x hx => ?_⟩
    rcases List.mem_cons.1 (hp.mem_iff.1 hx) with rfl | h
    · simp
    · exact List.mem_cons_of_mem _ (h2 x h)

/-- AN ORDER: each vertex once -/
structure Ord (V : List (Int × Thing)) (L : List Int) : Prop where
  nodup : L.Nodup
  mem : ∀ x, x ∈ L ↔ x ∈ V.map (·.1)
theorem check_ord {L : List Int} {V : List (Int × Thing)} {E : List ((Int × Int) × Thing)} (hi : GInv V E) (h : checkS L V = 0) : Ord V L := by
  have hm := checkS_mem hi h
  have hl : L.length = V.length := by
    unfold checkS at h
    split at h
    · rename_i h2; exact h2.1
    · cases h
  obtain ⟨h1, h2⟩ := nodup_of_sub (V.map (·.1)) L (sv_nodup hi.sv) hm (by simp [hl])
  exact ⟨h1, fun x => ⟨h2 x, hm x⟩⟩
theorem ord_check {L : List Int} {V : List (Int × Thing)} (h : Ord V L) (hl : L.length = V.length) : checkS L V = 0 := by
  unfold checkS
  have he : eqS (fromS L) (vS V) = true := by
    rw [eqS_iff]
    intro k hk
    rw [vS_eq, fromS_bit, fromS_bit]
    congr 1
    rw [decide_eq_decide]
    exact h.mem _
  rw [if_pos ⟨hl, he⟩]
theorem Ord.rng {V : List (Int × Thing)} {E : List ((Int × Int) × Thing)} {L : List Int} (h : Ord V L) (hi : GInv V E) {x : Int} (hx : x ∈ L) : 0 ≤ x ∧ x < 1024 := by
  obtain ⟨p, hp, rfl⟩ := List.mem_map.1 ((h.mem x).1 hx)
  have hid := hi.ids p hp
  simpa [idB] using hid
theorem Ord.len {V : List (Int × Thing)} {E : List ((Int × Int) × Thing)} {L : List Int} (h : Ord V L) (hi : GInv V E) : L.length = V.length := by
  have h1 : L.Perm (V.map (·.1)) := (List.perm_ext_iff_of_nodup h.nodup (sv_nodup hi.sv)).2 h.mem
  simpa using h1.length_eq

/-- two vertices are joined by an edge -/
def Adj0 (E : List ((Int × Int) × Thing)) (u v : Int) : Prop := ∃ e ∈ E, e.1 = (min u v, max u v)
/-- .. or by what the first k steps have added -/
def Adj (E : List ((Int × Int) × Thing)) (L : List Int) : Nat → Int → Int → Prop
  | 0, u, v => Adj0 E u v
  | k + 1, u, v => Adj E L k u v ∨ (u ≠ v ∧ u ∈ L.drop (k + 1) ∧ v ∈ L.drop (k + 1) ∧ Adj E L k (L[k]?.getD 0) u ∧ Adj E L k (L[k]?.getD 0) v)
section
variable {V : List (Int × Thing)} {E : List ((Int × Int) × Thing)} {L : List Int}
theorem Adj.symm : ∀ {k : Nat} {u v : Int}, Adj E L k u v → Adj E L k v u
  | 0, u, v, ⟨e, he, h⟩ => ⟨e, he, by rw [h]; simp only [Prod.mk.injEq]; omega⟩
  | k + 1, u, v, h => h.imp (Adj.symm) fun ⟨h1, h2, h3, h4, h5⟩ => ⟨h1.symm, h3, h2, h5, h4⟩
theorem Adj.ne (hi : GInv V E) : ∀ {k : Nat} {u v : Int}, Adj E L k u v → u ≠ v
  | 0, u, v, ⟨e, he, h⟩ => by
    have := hi.lo e he
    rw [h] at this
    simp at this
    omega
  | k + 1, u, v, h => by
    rcases h with h | h
    · exact Adj.ne hi h
    · exact h.1
theorem Adj.mem (hi : GInv V E) (ho : Ord V L) : ∀ {k : Nat} {u v : Int}, Adj E L k u v → u ∈ L ∧ v ∈ L
  | 0, u, v, ⟨e, he, h⟩ => by
    obtain ⟨⟨t1, h1⟩, t2, h2⟩ := hi.ends e he
    rw [h] at h1 h2
    have h3 := (ho.mem _).2 (List.mem_map_of_mem (f := (·.1)) h1)
    have h4 := (ho.mem _).2 (List.mem_map_of_mem (f := (·.1)) h2)
    simp only at h3 h4
    rcases Int.le_total u v with h5 | h5
    · rw [show min u v = u by omega] at h3
      rw [show max u v = v by omega] at h4
      exact ⟨h3, h4⟩
    · rw [show min u v = v by omega] at h3
      rw [show max u v = u by omega] at h4
      exact ⟨h4, h3⟩
  | k + 1, u, v, h => by
    rcases h with h | ⟨_, h1, h2, _⟩
    · exact Adj.mem hi ho h
    · exact ⟨List.mem_of_mem_drop h1, List.mem_of_mem_drop h2⟩
theorem Adj.mono {k m : Nat} {u v : Int} (h : Adj E L k u v) (hkm : k ≤ m) : Adj E L m u v := by
  induction m with
  | zero => rw [Nat.le_zero.1 hkm] at h; exact h
  | succ m ih =>
    by_cases e : k = m + 1
    · rw [← e]; exact h
    · exact .inl (ih (by omega))
/-- what later steps add does not touch what was eliminated before -/
theorem Adj.back (hn : L.Nodup) {k m : Nat} {v : Int} (hkm : k ≤ m) (hk : k < L.length) (h : Adj E L m L[k] v) : Adj E L k L[k] v := by
  induction m with
  | zero =>
    obtain rfl : k = 0 := Nat.le_zero.1 hkm
    exact h
  | succ m ih =>
    by_cases e : k = m + 1
    · subst e; exact h
    · rcases h with h | ⟨_, h1, _⟩
      · exact ih (by omega) h
      · exfalso
        obtain ⟨i, hi, he⟩ := List.getElem_of_mem h1
        rw [List.getElem_drop] at he
        have := (List.getElem_inj hn).1 he
        omega

theorem drop_get {k : Nat} (hk : k < L.length) : L.drop k = L[k] :: L.drop (k + 1) := List.drop_eq_getElem_cons hk
theorem not_drop (hn : L.Nodup) {k : Nat} (hk : k < L.length) : L[k] ∉ L.drop (k + 1) := by
  have h := (List.drop_sublist k L).nodup hn
  rw [drop_get hk] at h
  exact (List.nodup_cons.1 h).1
theorem mem_drop_iff (hn : L.Nodup) {k : Nat} (hk : k < L.length) {x : Int} : x ∈ L.drop (k + 1) ↔ x ∈ L.drop k ∧ x ≠ L[k] := by
  rw [drop_get hk, List.mem_cons]
  constructor
  · intro h
    exact ⟨.inr h, fun e => not_drop hn hk (by rw [← e]; exact h)⟩
  · rintro ⟨h | h, h2⟩
    · exact absurd h h2
    · exact h

theorem lookM_map (u x : Int) (v : Nat) : ∀ M : List (Int × Nat), lookM (M.map fun p => if p.1 = u then (u, v) else p) x = if x = u ∧ (lookM M u).isSome = true then some v else lookM M x
  | [] => by simp [lookM]
  | p :: r => by
    have ih := lookM_map u x v r
    unfold lookM at ih ⊢
    rw [List.map_cons, List.find?_cons, List.find?_cons, List.find?_cons]
    by_cases h1 : p.1 = u
    · by_cases h2 : x = u
      · subst h2; simp [h1]
      · have h3 : ¬ u = x := fun e => h2 e.symm
        rw [if_pos h1, decide_eq_false h3, decide_eq_false (show ¬ p.1 = x from fun e => h3 (h1.symm.trans e)), ih, if_neg (fun h => h2 h.1), if_neg (fun h => h2 h.1)]
    · rw [if_neg h1, decide_eq_false h1]
      by_cases h2 : p.1 = x
      · have h3 : ¬ x = u := fun e => h1 (h2.trans e)
        rw [decide_eq_true h2, if_neg (fun h => h3 h.1)]
      · rw [decide_eq_false h2, ih]
theorem lookM_putM (M : List (Int × Nat)) (u x : Int) (v : Nat) : lookM (putM M u v) x = if x = u then some v else lookM M x := by
  unfold putM
  split
  · rename_i h
    rw [lookM_map]
    by_cases h2 : x = u
    · rw [if_pos ⟨h2, h⟩, if_pos h2]
    · rw [if_neg (fun h => h2 h.1), if_neg h2]
  · rename_i h
    have h0 : lookM M u = none := by simpa using h
    unfold lookM at h0 ⊢
    rw [List.find?_append]
    by_cases h2 : x = u
    · subst h2
      have h1 : M.find? (fun p => decide (p.1 = x)) = none := by simpa using h0
      rw [h1, if_pos rfl]
      simp
    · rw [if_neg h2]
      have h3 : ¬ u = x := fun e => h2 e.symm
      simp [h3]
theorem lookM_putM_same (M : List (Int × Nat)) (u : Int) (v : Nat) : lookM (putM M u v) u = some v := by
  rw [lookM_putM, if_pos rfl]
theorem nr_put (M : List (Int × Nat)) (u x : Int) (v : Nat) : nrM (putM M u v) x = if x = u then v else nrM M x := by
  unfold nrM
  rw [lookM_putM]
  split <;> rfl
theorem m0_nr : ∀ {x : Int}, x ∈ L → nrM (m0 E L) x = nearS x E := by
  have key : ∀ (l : List Int) (M : List (Int × Nat)) (x : Int), nrM (l.foldl (fun M id => putM M id (nearS id E)) M) x = if x ∈ l then nearS x E else nrM M x := by
    intro l
    induction l with
    | nil => intro M x; simp
    | cons a r ih =>
      intro M x
      rw [List.foldl_cons, ih, nr_put]
      by_cases h1 : x ∈ r
      · rw [if_pos h1, if_pos (by simp [h1])]
      · by_cases h2 : x = a
        · subst h2; rw [if_neg h1, if_pos rfl, if_pos (by simp)]
        · rw [if_neg h1, if_neg h2, if_neg (by simp [h1, h2])]
  intro x hx
  unfold m0
  rw [key, if_pos hx]
theorem withoutS_bit (N : Nat) (x : Int) (k : Nat) : (withoutS N x).testBit k = (N.testBit k && !(decide (k < 1024) && decide (x = (k : Int)))) := by
  unfold withoutS fitB
  by_cases h : 0 ≤ x ∧ x < 1024
  · rw [if_pos (by simp [h.1, h.2]), minusS_bit, Nat.testBit_two_pow]
    congr 2
    rw [Bool.eq_iff_iff]
    simp only [Bool.and_eq_true, decide_eq_true_eq]
    omega
  · rw [if_neg (by simp; omega)]
    have : (decide (k < 1024) && decide (x = (k : Int))) = false := by
      rw [Bool.eq_false_iff]
      simp only [ne_eq, Bool.and_eq_true, decide_eq_true_eq]
      omega
    rw [this, Bool.not_false, Bool.and_true]
theorem upd_nr (s : Nat) (id : Int) : ∀ (l : List Int) (M : List (Int × Nat)) (x : Int), l.Nodup → nrM (l.foldl (updF s id) M) x = if x ∈ l then withoutS (withoutS (nrM M x ||| s) x) id else nrM M x
  | [], M, x, _ => by simp
  | a :: r, M, x, hn => by
    obtain ⟨h0, h1⟩ := List.nodup_cons.1 hn
    have hp : nrM (updF s id M a) x = if x = a then withoutS (withoutS (nrM M a ||| s) a) id else nrM M x := by
      unfold updF
      rw [nr_put]
    rw [List.foldl_cons, upd_nr s id r _ x h1, hp]
    by_cases h2 : x ∈ r
    · have : x ≠ a := fun e => h0 (by rw [← e]; exact h2)
      rw [if_pos h2, if_neg this, if_pos (List.mem_cons_of_mem _ h2)]
    · by_cases h3 : x = a
      · subst h3; rw [if_neg h2, if_pos rfl, if_pos List.mem_cons_self]
      · rw [if_neg h2, if_neg h3, if_neg (by simp [h2, h3])]

/-- THE INVARIANT OF walk: before step k, what is kept for a vertex that is left are its neighbors that are left -/
theorem mAt_bit (hi : GInv V E) (ho : Ord V L) : ∀ (k : Nat), k ≤ L.length → ∀ u ∈ L.drop k, ∀ v : Nat, v < 1024 → ((nrM (mAt E L k) u).testBit v = true ↔ (v : Int) ∈ L.drop k ∧ Adj E L k u v)
  | 0, _, u, hu, v, hv => by
    rw [List.drop_zero] at hu ⊢
    have h1 : nrM (mAt E L 0) u = nearS u E := by
      unfold mAt
      rw [List.take_zero, List.foldl_nil]
      exact m0_nr hu
    rw [h1, nearS_eq, fromS_bit]
    simp only [Bool.and_eq_true, decide_eq_true_eq, hv, true_and]
    rw [mem_nearL hi.lo]
    constructor
    · intro h; exact ⟨(Adj.mem (L := L) (k := 0) hi ho h).2, h⟩
    · intro h; exact h.2
  | k + 1, hk, u, hu, v, hv => by
    have hkl : k < L.length := by omega
    have ih := mAt_bit hi ho k (by omega)
    obtain ⟨hud, hux⟩ := (mem_drop_iff ho.nodup hkl).1 hu
    have hxk : L[k] ∈ L.drop k := by rw [drop_get hkl]; exact List.mem_cons_self
    have hs : ∀ y : Nat, y < 1024 → ((sAt E L k).testBit y = true ↔ (y : Int) ∈ L.drop k ∧ Adj E L k L[k] y) := fun y hy => by
      rw [sAt_eq E L k hkl]
      exact ih L[k] hxk y hy
    have hxr := ho.rng hi (List.getElem_mem hkl)
    have hur := ho.rng hi (List.mem_of_mem_drop hu)
    rw [mAt_next E L k hkl]
    unfold stM updM
    rw [← sAt_eq E L k hkl]
    rw [upd_nr _ _ _ _ _ (toL_nodup _)]
    have hgk : L[k]?.getD 0 = L[k] := by simp [hkl]
    have hmu : u ∈ toL (sAt E L k) ↔ Adj E L k L[k] u := by
      rw [mem_toL', hs u.toNat (by omega)]
      rw [show ((u.toNat : Nat) : Int) = u by omega]
      constructor
      · intro h; exact h.2.2.2
      · intro h; exact ⟨hur.1, hur.2, hud, h⟩
    rw [mem_drop_iff ho.nodup hkl]
    have hg : Adj E L (k + 1) u v ↔ Adj E L k u v ∨ (u ≠ v ∧ u ∈ L.drop (k + 1) ∧ (v : Int) ∈ L.drop (k + 1) ∧ Adj E L k L[k] u ∧ Adj E L k L[k] v) := by
      show (_ ∨ _) ↔ _
      rw [hgk]
    rw [hg]
    have h1 := ih u hud v hv
    have h2 := hs v hv
    by_cases hm : u ∈ toL (sAt E L k)
    · have hxu := hmu.1 hm
      rw [if_pos hm, withoutS_bit, withoutS_bit, Nat.testBit_or]
      simp only [Bool.and_eq_true, Bool.or_eq_true, Bool.not_eq_true', Bool.and_eq_false_iff, decide_eq_false_iff_not, h1, h2, hv, not_true_eq_false, false_or]
      constructor
      · rintro ⟨⟨h | h, h3⟩, h4⟩
        · exact ⟨⟨h.1, fun e => h4 e.symm⟩, .inl h.2⟩
        · exact ⟨⟨h.1, fun e => h4 e.symm⟩, .inr ⟨h3, hu, (mem_drop_iff ho.nodup hkl).2 ⟨h.1, fun e => h4 e.symm⟩, hxu, h.2⟩⟩
      · rintro ⟨⟨h3, h4⟩, h | ⟨h5, h6, h7, h8, h9⟩⟩
        · exact ⟨⟨.inl ⟨h3, h⟩, Adj.ne hi h⟩, fun e => h4 e.symm⟩
        · exact ⟨⟨.inr ⟨h3, h9⟩, h5⟩, fun e => h4 e.symm⟩
    · rw [if_neg hm, h1]
      have hxu : ¬ Adj E L k L[k] u := fun h => hm (hmu.2 h)
      constructor
      · rintro ⟨h3, h4⟩
        refine ⟨⟨h3, fun e => ?_⟩, .inl h4⟩
        rw [e] at h4
        exact hxu h4.symm
      · rintro ⟨⟨h3, h4⟩, h | h⟩
        · exact ⟨h3, h⟩
        · exact absurd h.2.2.2.1 hxu
theorem sAt_bit (hi : GInv V E) (ho : Ord V L) {k : Nat} (hk : k < L.length) (v : Nat) (hv : v < 1024) : (sAt E L k).testBit v = true ↔ (v : Int) ∈ L.drop (k + 1) ∧ Adj E L k L[k] v := by
  rw [sAt_eq E L k hk, mAt_bit hi ho k (by omega) L[k] (by rw [drop_get hk]; exact List.mem_cons_self) v hv, mem_drop_iff ho.nodup hk]
  constructor
  · rintro ⟨h1, h2⟩; exact ⟨⟨h1, fun e => Adj.ne hi h2 e.symm⟩, h2⟩
  · rintro ⟨h1, h2⟩; exact ⟨h1.1, h2⟩
theorem mem_sAt (hi : GInv V E) (ho : Ord V L) {k : Nat} (hk : k < L.length) {v : Int} : v ∈ toL (sAt E L k) ↔ v ∈ L.drop (k + 1) ∧ Adj E L k L[k] v := by
  rw [mem_toL']
  constructor
  · rintro ⟨h1, h2, h3⟩
    have := (sAt_bit hi ho hk v.toNat (by omega)).1 h3
    rwa [show ((v.toNat : Nat) : Int) = v by omega] at this
  · intro h
    have hr := ho.rng hi (List.mem_of_mem_drop h.1)
    refine ⟨hr.1, hr.2, (sAt_bit hi ho hk v.toNat (by omega)).2 ?_⟩
    rwa [show ((v.toNat : Nat) : Int) = v by omega]
/-- what step k adds -/
theorem mem_cAt (hi : GInv V E) (ho : Ord V L) {k : Nat} (hk : k < L.length) {p : Int × Int} : p ∈ cAt E L k ↔ p.1 < p.2 ∧ Adj E L (k + 1) p.1 p.2 ∧ ¬ Adj E L k p.1 p.2 := by
  obtain ⟨u, v⟩ := p
  have hg : Adj E L (k + 1) u v ↔ Adj E L k u v ∨ (u ≠ v ∧ u ∈ L.drop (k + 1) ∧ v ∈ L.drop (k + 1) ∧ Adj E L k L[k] u ∧ Adj E L k L[k] v) := by
    show (_ ∨ _) ↔ _
    rw [show L[k]?.getD 0 = L[k] by simp [hk]]
  unfold cAt comeS
  rw [List.mem_flatMap]
  simp only [hg]
  constructor
  · rintro ⟨u', hu', h⟩
    unfold comeU at h
    obtain ⟨v', hv', he⟩ := List.mem_map.1 h
    simp only [Prod.mk.injEq] at he
    obtain ⟨rfl, rfl⟩ := he
    obtain ⟨h1, h2, h3⟩ := mem_toL'.1 hv'
    rw [minusS_bit, minusS_bit] at h3
    simp only [Bool.and_eq_true, Bool.not_eq_true'] at h3
    obtain ⟨⟨h3, h4⟩, h5⟩ := h3
    obtain ⟨hu1, hu2⟩ := (mem_sAt hi ho hk).1 hu'
    have hv2 := (sAt_bit hi ho hk v'.toNat (by omega)).1 h3
    rw [show ((v'.toNat : Nat) : Int) = v' by omega] at hv2
    have hur := ho.rng hi (List.mem_of_mem_drop hu1)
    have hlt : u' < v' := by
      unfold belS at h4
      rw [Nat.testBit_two_pow_sub_one] at h4
      simp at h4
      omega
    have hnb : ¬ Adj E L k u' v' := fun h => by
      have := (mAt_bit hi ho k (by omega) u' ((mem_drop_iff ho.nodup hk).1 hu1).1 v'.toNat (by omega)).2 ?_
      · rw [this] at h5; cases h5
      · rw [show ((v'.toNat : Nat) : Int) = v' by omega]
        exact ⟨((mem_drop_iff ho.nodup hk).1 hv2.1).1, h⟩
    exact ⟨hlt, .inr ⟨by omega, hu1, hv2.1, hu2, hv2.2⟩, hnb⟩
  · rintro ⟨h1, h2, h3⟩
    rcases h2 with h2 | ⟨_, h4, h5, h6, h7⟩
    · exact absurd h2 h3
    · refine ⟨u, (mem_sAt hi ho hk).2 ⟨h4, h6⟩, ?_⟩
      unfold comeU
      refine List.mem_map.2 ⟨v, ?_, rfl⟩
      have hvr := ho.rng hi (List.mem_of_mem_drop h5)
      have hur := ho.rng hi (List.mem_of_mem_drop h4)
      refine mem_toL'.2 ⟨hvr.1, hvr.2, ?_⟩
      rw [minusS_bit, minusS_bit]
      simp only [Bool.and_eq_true, Bool.not_eq_true']
      refine ⟨⟨(sAt_bit hi ho hk v.toNat (by omega)).2 ?_, ?_⟩, ?_⟩
      · rw [show ((v.toNat : Nat) : Int) = v by omega]; exact ⟨h5, h7⟩
      · unfold belS
        rw [Nat.testBit_two_pow_sub_one]
        simp
        omega
      · rw [Bool.eq_false_iff]
        intro h
        have := (mAt_bit hi ho k (by omega) u ((mem_drop_iff ho.nodup hk).1 h4).1 v.toNat (by omega)).1 h
        rw [show ((v.toNat : Nat) : Int) = v by omega] at this
        exact h3 this.2
theorem nodup_flat {α β : Type} {f : α → List β} (g : β → α) (hg : ∀ a, ∀ b ∈ f a, g b = a) (hf : ∀ a, (f a).Nodup) : ∀ {l : List α}, l.Nodup → (l.flatMap f).Nodup
  | [], _ => by simp
  | a :: r, h => by
    obtain ⟨h0, h1⟩ := List.nodup_cons.1 h
    rw [List.flatMap_cons, List.nodup_append]
    refine ⟨hf a, nodup_flat g hg hf h1, fun x hx y hy e => ?_⟩
    subst e
    obtain ⟨b, hb, h2⟩ := List.mem_flatMap.1 hy
    rw [← hg a x hx, hg b x h2] at h0
    exact h0 hb
theorem cAt_nodup (k : Nat) : (cAt E L k).Nodup := by
  unfold cAt comeS
  refine nodup_flat (·.1) (fun a b hb => ?_) (fun a => ?_) (toL_nodup _)
  · unfold comeU at hb
    obtain ⟨v, _, rfl⟩ := List.mem_map.1 hb
    rfl
  · unfold comeU
    exact List.pairwise_map.2 ((toL_nodup _).imp fun {x y} h e => h (by simpa using e))
/-- what all steps before k have added -/
def comeK (E : List ((Int × Int) × Thing)) (L : List Int) (k : Nat) : List (Int × Int) := (List.range k).flatMap (cAt E L)
theorem comeK_next (k : Nat) : comeK E L (k + 1) = comeK E L k ++ cAt E L k := by
  unfold comeK
  rw [List.range_succ, List.flatMap_append, List.flatMap_cons, List.flatMap_nil, List.append_nil]
theorem mem_comeK (hi : GInv V E) (ho : Ord V L) : ∀ {k : Nat}, k ≤ L.length → ∀ {p : Int × Int}, p ∈ comeK E L k ↔ p.1 < p.2 ∧ Adj E L k p.1 p.2 ∧ ¬ Adj0 E p.1 p.2
  | 0, _, p => by
    unfold comeK
    simp only [List.range_zero, List.flatMap_nil, List.not_mem_nil, false_iff]
    rintro ⟨_, h1, h2⟩
    exact h2 h1
  | k + 1, hk, p => by
    rw [comeK_next, List.mem_append, mem_comeK hi ho (by omega), mem_cAt hi ho (by omega)]
    constructor
    · rintro (⟨h1, h2, h3⟩ | ⟨h1, h2, h3⟩)
      · exact ⟨h1, .inl h2, h3⟩
      · exact ⟨h1, h2, fun h => h3 (Adj.mono (k := 0) h (Nat.zero_le _))⟩
    · rintro ⟨h1, h2, h3⟩
      by_cases h : Adj E L k p.1 p.2
      · exact .inl ⟨h1, h, h3⟩
      · exact .inr ⟨h1, h2, h⟩
theorem comeK_nodup (hi : GInv V E) (ho : Ord V L) : ∀ {k : Nat}, k ≤ L.length → (comeK E L k).Nodup
  | 0, _ => by simp [comeK]
  | k + 1, hk => by
    rw [comeK_next, List.nodup_append]
    refine ⟨comeK_nodup hi ho (by omega), cAt_nodup k, fun x hx y hy e => ?_⟩
    subst e
    exact ((mem_cAt hi ho (by omega)).1 hy).2.2 ((mem_comeK hi ho (by omega)).1 hx).2.1
end
end Go.Proofs.YtjehhilijeajnaaGreatDoor
/- THE FUNCTIONS HANDED TO walk AS ITS CONTRACT ASKS. Conditions: see each theorem. -/
namespace Go.Proofs.YtjehhilijeajnaaGreatDoor
open Go Go.RowKit

theorem len_le_of_sub : ∀ (l m : List Int), l.Nodup → (∀ x ∈ l, x ∈ m) → l.length ≤ m.length
  | [], _, _, _ => Nat.zero_le _
  | a :: r, m, hn, hs => by
    have ha : a ∈ m := hs a (by simp)
    obtain ⟨hna, hnr⟩ := List.nodup_cons.1 hn
    have h1 := len_le_of_sub r (m.erase a) hnr (fun x hx => (List.mem_erase_of_ne (fun e => hna (by rw [← e]; exact hx))).2 (hs x (by simp [hx])))
    have h2 := (List.perm_cons_erase ha).length_eq
    simp only [List.length_cons] at h2 ⊢
    omega
section
variable {V : List (Int × Thing)} {E : List ((Int × Int) × Thing)} {L : List Int}
theorem sAt_len (hi : GInv V E) (ho : Ord V L) {k : Nat} (hk : k < L.length) : (toL (sAt E L k)).length ≤ L.length :=
  len_le_of_sub _ _ (toL_nodup _) fun _ hx => List.mem_of_mem_drop ((mem_sAt hi ho hk).1 hx).1
theorem comeU_len (M : List (Int × Nat)) (s : Nat) (u : Int) : (comeU M s u).length ≤ (toL s).length := by
  unfold comeU
  rw [List.length_map]
  refine len_le_of_sub _ _ (toL_nodup _) fun x hx => ?_
  obtain ⟨h1, h2, h3⟩ := mem_toL'.1 hx
  rw [minusS_bit, minusS_bit] at h3
  simp only [Bool.and_eq_true] at h3
  exact mem_toL'.2 ⟨h1, h2, h3.1.1⟩
theorem cAt_len (hi : GInv V E) (ho : Ord V L) (hl : L.length ≤ 100) {k : Nat} (hk : k < L.length) : (cAt E L k).length ≤ 10000 := by
  have h1 := sAt_len hi ho hk
  have h2 := flat_len (fun u => Nat.le_trans (comeU_len (mAt E L k) (sAt E L k) u) (Nat.le_trans h1 hl)) (toL (sAt E L k))
  have h3 : (toL (sAt E L k)).length * 100 ≤ 100 * 100 := Nat.mul_le_mul_right _ (by omega)
  unfold cAt comeS
  omega
theorem comeK_len (hi : GInv V E) (ho : Ord V L) (hl : L.length ≤ 100) : ∀ {k : Nat}, k ≤ L.length → (comeK E L k).length ≤ k * 10000
  | 0, _ => by simp [comeK]
  | k + 1, hk => by
    rw [comeK_next, List.length_append]
    have := comeK_len hi ho hl (k := k) (by omega)
    have := cAt_len hi ho hl (k := k) (by omega)
    omega

def stepsK (E : List ((Int × Int) × Thing)) (L : List Int) (k : Nat) : List (Int × Nat) := (List.range k).map fun i => (L[i]?.getD 0, sAt E L i)
theorem range_next {α : Type} (f : Nat → α) (k : Nat) : (List.range (k + 1)).map f = (List.range k).map f ++ [f k] := by rw [List.range_succ, List.map_append]; rfl
theorem get_D {k : Nat} (hk : k < L.length) : L[k]?.getD 0 = L[k] := by simp [hk]

theorem steps_clo (base bl : Nat) (hl : L.length ≤ 1024) : Clo E L 45 #[.pointer (some ⟨bl, 0, none⟩)] (fun k T W => ∃ v, Acc encSt 58 43 17 base bl (stepsK E L k) v W ∧ T = accT bl v) where
  enters := enters_of Tryz.func45 (by kernel_rfl) rfl
  keep := fun k T W W' S ⟨v, h, e⟩ hk hS => by subst e; exact ⟨v, h.keep hk hS, rfl⟩
  lt := fun k T W ⟨v, h, e⟩ => by subst e; exact h.below
  step := fun k hk T W Ac cc ⟨v, h, e⟩ _ _ _ => by
    subst e
    refine (stepFn k L[k] (sAt E L k) Ac _ cc base bl (stepsK E L k) v W h (by simp [stepsK]; omega)).mono ?_
    rintro e w' ⟨hr, v', h1, h2, h3⟩
    refine ⟨hr, accT bl v', ⟨v', ?_, rfl⟩, h2, h3⟩
    have : stepsK E L (k + 1) = stepsK E L k ++ [(L[k], sAt E L k)] := by unfold stepsK; rw [range_next, get_D hk]
    rw [this]
    exact h1
def highK (E : List ((Int × Int) × Thing)) (L : List Int) (k : Nat) : List Nat := (List.range k).map (sAt E L)
theorem high_clo (base bl : Nat) (hl : L.length ≤ 1024) : Clo E L 58 #[.pointer (some ⟨bl, 0, none⟩)] (fun k T W => ∃ v, Acc encS 56 67 16 base bl (highK E L k) v W ∧ T = accT bl v) where
  enters := enters_of Tryz.func58 (by kernel_rfl) rfl
  keep := fun k T W W' S ⟨v, h, e⟩ hk hS => by subst e; exact ⟨v, h.keep hk hS, rfl⟩
  lt := fun k T W ⟨v, h, e⟩ => by subst e; exact h.below
  step := fun k hk T W Ac cc ⟨v, h, e⟩ _ _ _ => by
    subst e
    refine (highFn k L[k] (sAt E L k) Ac _ cc base bl (highK E L k) v W h (by simp [highK]; omega)).mono ?_
    rintro e w' ⟨hr, v', h1, h2, h3⟩
    refine ⟨hr, accT bl v', ⟨v', ?_, rfl⟩, h2, h3⟩
    have : highK E L (k + 1) = highK E L k ++ [sAt E L k] := by unfold highK; rw [range_next]
    rw [this]
    exact h1
def widK (E : List ((Int × Int) × Thing)) (L : List Int) (k : Nat) : Int := (List.range k).foldl (fun m i => max m (cntF (sAt E L i) 1024 : Int)) (-1)
theorem width_clo (bn : Nat) : Clo E L 46 #[.pointer (some ⟨bn, 0, none⟩)] (fun k T W => Blk W bn 3 #[.int .i64 (widK E L k)] ∧ T = [bn]) where
  enters := enters_of Tryz.func46 (by kernel_rfl) rfl
  keep := fun k T W W' S ⟨h, e⟩ hk hS => by subst e; exact ⟨h.keep hk (fun hm => hS _ hm (by simp)), rfl⟩
  lt := fun k T W ⟨h, e⟩ => by subst e; intro x hx; rw [List.mem_singleton] at hx; subst hx; exact h.lt
  step := fun k hk T W Ac cc ⟨h, e⟩ _ _ _ => by
    subst e
    refine (widthFn k L[k] (sAt E L k) Ac _ cc bn (widK E L k) W h).mono ?_
    rintro e w' ⟨hr, h1, h2⟩
    refine ⟨hr, [bn], ⟨?_, rfl⟩, h2, fun y hy => .inl hy⟩
    have : widK E L (k + 1) = max (widK E L k) (cntF (sAt E L k) 1024 : Int) := by unfold widK; rw [List.range_succ, List.foldl_append]; rfl
    rw [this]
    exact h1
set_option maxRecDepth 100000 in
theorem fill_clo (base bl : Nat) (hi : GInv V E) (ho : Ord V L) (hl : L.length ≤ 100) : Clo E L 48 #[.pointer (some ⟨bl, 0, none⟩)] (fun k T W => k ≤ L.length ∧ ∃ v, Acc encE 62 46 4 base bl ((comeK E L k).map edgeP) v W ∧ T = accT bl v) where
  enters := enters_of Tryz.func48 (by kernel_rfl) rfl
  keep := fun k T W W' S ⟨h0, v, h, e⟩ hk hS => by subst e; exact ⟨h0, v, h.keep hk hS, rfl⟩
  lt := fun k T W ⟨_, v, h, e⟩ => by subst e; exact h.below
  step := fun k hk T W Ac cc ⟨h0, v, h, e⟩ _ hA hsep => by
    subst e
    have h1 := comeK_len hi ho hl h0
    have h2 := cAt_len hi ho hl hk
    have hb : ((comeK E L k).map edgeP).length + (cAt E L k).length ≤ 10000000 := by
      rw [List.length_map]
      have h3 : k * 10000 ≤ 100 * 10000 := Nat.mul_le_mul_right _ (by omega)
      omega
    refine (fillFn k L[k] (sAt E L k) Ac (cAt E L k) cc base bl ((comeK E L k).map edgeP) v W h hA hsep hb).mono ?_
    rintro e w' ⟨hr, v', h1, h2, h3⟩
    refine ⟨hr, accT bl v', ⟨hk, v', ?_, rfl⟩, h2, h3⟩
    rw [comeK_next, List.map_append]
    exact h1
def parK (E : List ((Int × Int) × Thing)) (L : List Int) (M : List (Int × Int)) (k : Nat) : List Int := (List.range k).map fun i => upS M (sAt E L i)
theorem par_clo (base bl bp bq : Nat) (M : List (Int × Int)) (hl : L.length ≤ 1024) (hpb : bp < bl) (hqb : bq < bl) : Clo E L 41 #[.pointer (some ⟨bp, 0, none⟩), .pointer (some ⟨bl, 0, none⟩)] (fun k T W => ∃ v, Acc encI 3 29 1 base bl (parK E L M k) v W ∧ Blk W bp 92 #[.map (some bq)] ∧ MapIs ekV evI i64ok W bq M ∧ T = bp :: bq :: accT bl v) where
  enters := enters_of Tryz.func41 (by kernel_rfl) rfl
  keep := fun k T W W' S ⟨v, h, hp, hm, e⟩ hk hS => by
    subst e
    exact ⟨v, h.keep hk (fun x hx hm => hS x hx (by simp [hm])), hp.keep hk (fun hm => hS _ hm (by simp)), hm.keep hk (fun hm => hS _ hm (by simp)), rfl⟩
  lt := fun k T W ⟨v, h, hp, hm, e⟩ => by
    subst e
    intro x hx
    simp only [List.mem_cons] at hx
    rcases hx with rfl | rfl | hx
    · exact hp.lt
    · exact hm.lt
    · exact h.below x hx
  step := fun k hk T W Ac cc ⟨v, h, hp, hm, e⟩ hT _ _ => by
    subst e
    refine (parFn k L[k] (sAt E L k) Ac _ cc base bl bp bq M (parK E L M k) v W h hp hm hT (by simp [parK]; omega)).mono ?_
    rintro e w' ⟨hr, v', h1, h2, h3⟩
    have hne : ∀ z, z < bl → z ∉ accT bl v := fun z hz hm => by
      simp only [accT, List.mem_cons, Option.mem_toList] at hm
      rcases hm with rfl | hm
      · omega
      · have := (own_base h.own hm).1
        have := h.lt
        omega
    refine ⟨hr, bp :: bq :: accT bl v', ⟨v', ?_, hp.keep h2 (hne _ hpb), hm.keep h2 (hne _ hqb), rfl⟩, h2.mono (by simp; intro a ha; simp [ha]), fun y hy => ?_⟩
    · have : parK E L M (k + 1) = parK E L M k ++ [upS M (sAt E L k)] := by unfold parK; rw [range_next]
      rw [this]
      exact h1
    · simp only [List.mem_cons] at hy ⊢
      rcases hy with h | h | h
      · exact .inl (.inl h)
      · exact .inl (.inr (.inl h))
      · rcases h3 y h with h | h
        · exact .inl (.inr (.inr h))
        · exact .inr h
end
end Go.Proofs.YtjehhilijeajnaaGreatDoor
/- elimination.Steps, HigherNeighbors, Width: what they answer. Conditions: see each theorem. -/
namespace Go.Proofs.YtjehhilijeajnaaGreatDoor
open Go Go.RowKit Go.Shelf
attribute [local go_sem] qUpon lUpon

set_option maxRecDepth 100000 in
theorem walk_nil (A : Option Addr) (n cL fd : Nat) (caps : Array Value) (w : World) : Calls Tryz.prog 40 #[.pointer none, .slice A n cL, .func (.func fd) #[] caps] w fun e w' => e = .returned (.int .i64 1) ∧ Ext w w' := by
  go_enter Tryz.func40, Tryz.ntmps40
  go_wp2_with fail
  refine (check_nil A n cL w).mono ?_
  rintro e w1 ⟨rfl, hx1⟩
  have hx1' := hide hx1
  clear hx1
  go_wp2_with fail
  go_ret
  exact ⟨rfl, unhide hx1'⟩
theorem check_cases (L : List Int) (V : List (Int × Thing)) : checkS L V = 0 ∨ checkS L V = 3 := by
  unfold checkS
  split
  · exact .inl rfl
  · exact .inr rfl
set_option maxRecDepth 100000 in
theorem walk_bad (A : Option Addr) (L : List Int) (cL : Nat) (g bv be : Nat) (V : List (Int × Thing)) (E : List ((Int × Int) × Thing)) (w : World) (fd : Nat) (caps : Array Value) (hL : SlAt encI 1 w A L) (hl : L.length ≤ 4611686018427387904) (hg : IsG w g bv be V E) (hck : checkS L V = 3) : Calls Tryz.prog 40 #[.pointer (some ⟨g, 0, none⟩), .slice A L.length cL, .func (.func fd) #[] caps] w fun e w' => e = .returned (.int .i64 3) ∧ Ext w w' := by
  have hL' := hide hL
  have hg' := hide hg
  have hck' := hide hck
  clear hL hg hck
  go_enter Tryz.func40, Tryz.ntmps40
  go_wp2_with fail
  refine (check_any A L cL g bv be V E w (unhide hL') hl (unhide hg')).mono ?_
  rw [unhide hck']
  rintro e w1 ⟨rfl, hx1⟩
  have hx1' := hide hx1
  clear hx1
  go_wp2_with fail
  go_ret
  exact ⟨rfl, unhide hx1'⟩

set_option maxRecDepth 100000 in
set_option maxHeartbeats 4000000 in
theorem steps_ok (A : Option Addr) (L : List Int) (cL : Nat) (g bv be : Nat) (V : List (Int × Thing)) (E : List ((Int × Int) × Thing)) (w : World) (hL : SlAt encI 1 w A L) (hl : L.length ≤ 1024) (hg : IsG w g bv be V E) (hT : Tab w) (hck : checkS L V = 0) :
    Calls Tryz.prog 18 #[.pointer (some ⟨g, 0, none⟩), .slice A L.length cL] w fun e w' => ∃ A' c', e = .returned (.tuple #[.slice A' (stepsK E L L.length).length c', .int .i64 0]) ∧ SlAt encSt 17 w' A' (stepsK E L L.length) ∧ Ext w w' := by
  have ho := check_ord hg.inv hck
  have hrng : ∀ x ∈ L, 0 ≤ x ∧ x < 1024 := fun x hx => ho.rng hg.inv hx
  have hL' := hide hL
  have hg' := hide hg
  have hT' := hide hT
  have hck' := hide hck
  have hr' := hide hrng
  have hltA : ∀ b off, A = some ⟨b, off, none⟩ → L ≠ [] → b < w.heap.size := fun b off e hne => by
    obtain ⟨b', off', e', h, _⟩ := hL hne
    rw [e] at e'
    injection e' with e'
    injection e' with e1
    omega
  have hlt' := hide hltA
  clear hL hg hT hck ho hrng hltA
  go_enter Tryz.func18, Tryz.ntmps18
  try dsimp only
  repeat (first | (with_reducible refine wp_reg (id := 1) ?_) | go_values | go_step | go_guarded | go_upon | go_in | go_back | fail)
  refine wpO_want rfl ?_
  go_simp
  refine wpO_done ?_
  try go_frame
  have hA0 := hide (Acc.new (enc := encSt) (T := 58) (ST := 43) (k := 17) w)
  have hx1 := hide (ext_self1 w (.cells #[.slice none 0 0] 43))
  generalize w.alloc (.cells #[.slice none 0 0] 43) = w1 at *
  go_wp2_with fail
  refine (walk_any A L cL g bv be V E _ _ _ (accT w.heap.size (.slice none 0 0)) w1 ((unhide hL').ext (unhide hx1)) hl ((unhide hg').ext (unhide hx1)) ((unhide hT').ext (unhide hx1)) (unhide hck') (unhide hr') (steps_clo _ w.heap.size hl) ⟨_, unhide hA0, rfl⟩ (by have := (unhide hT').lt; simp [accT, Value.ownBlock]; omega) (fun hne b off e hm => by have := unhide hlt' b off e hne; simp [accT, Value.ownBlock] at hm; omega)).mono ?_
  rintro e w2 ⟨rfl, T2, ⟨v2, hA2, rfl⟩, hk2, _⟩
  obtain ⟨A', c', rfl, hs2⟩ := hA2.slice (fun _ => rfl)
  have c0 := hA2.cell.cells 0 (v := .slice A' (stepsK E L L.length).length c') rfl
  have hs2' := hide hs2
  have hx2 := hide ((unhide hx1).of_new hk2 (by simp [accT, Value.ownBlock]))
  have hself := Ext.refl w2
  clear hA2 hs2 hk2
  go_wp2_with fail
  go_ret2
  exact ⟨A', c', rfl, unhide hs2', unhide hx2⟩

set_option maxRecDepth 100000 in
set_option maxHeartbeats 4000000 in
theorem high_ok (A : Option Addr) (L : List Int) (cL : Nat) (g bv be : Nat) (V : List (Int × Thing)) (E : List ((Int × Int) × Thing)) (w : World) (hL : SlAt encI 1 w A L) (hl : L.length ≤ 1024) (hg : IsG w g bv be V E) (hT : Tab w) (hck : checkS L V = 0) :
    Calls Tryz.prog 27 #[.pointer (some ⟨g, 0, none⟩), .slice A L.length cL] w fun e w' => ∃ A' c', e = .returned (.tuple #[.slice A' (highK E L L.length).length c', .int .i64 0]) ∧ SlAt encS 16 w' A' (highK E L L.length) ∧ Ext w w' := by
  have ho := check_ord hg.inv hck
  have hrng : ∀ x ∈ L, 0 ≤ x ∧ x < 1024 := fun x hx => ho.rng hg.inv hx
  have hL' := hide hL
  have hg' := hide hg
  have hT' := hide hT
  have hck' := hide hck
  have hr' := hide hrng
  have hltA : ∀ b off, A = some ⟨b, off, none⟩ → L ≠ [] → b < w.heap.size := fun b off e hne => by
    obtain ⟨b', off', e', h, _⟩ := hL hne
    rw [e] at e'
    injection e' with e'
    injection e' with e1
    omega
  have hlt' := hide hltA
  clear hL hg hT hck ho hrng hltA
  go_enter Tryz.func27, Tryz.ntmps27
  try dsimp only
  repeat (first | (with_reducible refine wp_reg (id := 1) ?_) | go_values | go_step | go_guarded | go_upon | go_in | go_back | fail)
  refine wpO_want rfl ?_
  go_simp
  refine wpO_done ?_
  try go_frame
  have hA0 := hide (Acc.new (enc := encS) (T := 56) (ST := 67) (k := 16) w)
  have hx1 := hide (ext_self1 w (.cells #[.slice none 0 0] 67))
  generalize w.alloc (.cells #[.slice none 0 0] 67) = w1 at *
  go_wp2_with fail
  refine (walk_any A L cL g bv be V E _ _ _ (accT w.heap.size (.slice none 0 0)) w1 ((unhide hL').ext (unhide hx1)) hl ((unhide hg').ext (unhide hx1)) ((unhide hT').ext (unhide hx1)) (unhide hck') (unhide hr') (high_clo _ w.heap.size hl) ⟨_, unhide hA0, rfl⟩ (by have := (unhide hT').lt; simp [accT, Value.ownBlock]; omega) (fun hne b off e hm => by have := unhide hlt' b off e hne; simp [accT, Value.ownBlock] at hm; omega)).mono ?_
  rintro e w2 ⟨rfl, T2, ⟨v2, hA2, rfl⟩, hk2, _⟩
  obtain ⟨A', c', rfl, hs2⟩ := hA2.slice encS_len
  have c0 := hA2.cell.cells 0 (v := .slice A' (highK E L L.length).length c') rfl
  have hs2' := hide hs2
  have hx2 := hide ((unhide hx1).of_new hk2 (by simp [accT, Value.ownBlock]))
  have hself := Ext.refl w2
  clear hA2 hs2 hk2
  go_wp2_with fail
  go_ret2
  exact ⟨A', c', rfl, unhide hs2', unhide hx2⟩

set_option maxRecDepth 100000 in
set_option maxHeartbeats 4000000 in
theorem width_ok (A : Option Addr) (L : List Int) (cL : Nat) (g bv be : Nat) (V : List (Int × Thing)) (E : List ((Int × Int) × Thing)) (w : World) (hL : SlAt encI 1 w A L) (hl : L.length ≤ 1024) (hg : IsG w g bv be V E) (hT : Tab w) (hck : checkS L V = 0) :
    Calls Tryz.prog 19 #[.pointer (some ⟨g, 0, none⟩), .slice A L.length cL] w fun e w' => e = .returned (.tuple #[.int .i64 (widK E L L.length), .int .i64 0]) ∧ Ext w w' := by
  have ho := check_ord hg.inv hck
  have hrng : ∀ x ∈ L, 0 ≤ x ∧ x < 1024 := fun x hx => ho.rng hg.inv hx
  have hi' := hide hg.inv
  have ho' := hide ho
  have hL' := hide hL
  have hg' := hide hg
  have hT' := hide hT
  have hck' := hide hck
  have hr' := hide hrng
  have hltA : ∀ b off, A = some ⟨b, off, none⟩ → L ≠ [] → b < w.heap.size := fun b off e hne => by
    obtain ⟨b', off', e', h, _⟩ := hL hne
    rw [e] at e'
    injection e' with e'
    injection e' with e1
    omega
  have hlt' := hide hltA
  clear hL hg hT hck ho hrng hltA
  go_enter Tryz.func19, Tryz.ntmps19
  try dsimp only
  repeat (first | (with_reducible refine wp_reg (id := 1) ?_) | go_values | go_step | go_guarded | go_upon | go_in | go_back | fail)
  iterate 2
    refine wpO_want rfl ?_
    go_simp
  refine wpO_done ?_
  try go_frame
  have hB0 := hide (Blk.new w 3 #[.int .i64 (-1)])
  have hx1 := hide (ext_self1 w (.cells #[.int .i64 (-1)] 3))
  generalize w.alloc (.cells #[.int .i64 (-1)] 3) = w1 at *
  go_wp2_with fail
  refine (walk_any A L cL g bv be V E _ _ _ [w.heap.size] w1 ((unhide hL').ext (unhide hx1)) hl ((unhide hg').ext (unhide hx1)) ((unhide hT').ext (unhide hx1)) (unhide hck') (unhide hr') (width_clo w.heap.size) ⟨unhide hB0, rfl⟩ (by have := (unhide hT').lt; rw [List.mem_singleton]; omega) (fun hne b off e hm => by have := unhide hlt' b off e hne; rw [List.mem_singleton] at hm; omega)).mono ?_
  rintro e w2 ⟨rfl, T2, ⟨hB2, rfl⟩, hk2, _⟩
  have c0 := hB2.cells 0 (v := .int .i64 (widK E L L.length)) rfl
  have hx2 := hide ((unhide hx1).of_new hk2 (by intro x hx; rw [List.mem_singleton] at hx; omega))
  have hself := Ext.refl w2
  clear hB2 hk2
  go_wp2_with fail
  go_ret2
  exact ⟨rfl, unhide hx2⟩
end Go.Proofs.YtjehhilijeajnaaGreatDoor
/- elimination.Parents. Conditions: see each theorem. -/
namespace Go.Proofs.YtjehhilijeajnaaGreatDoor
open Go Go.RowKit Go.Shelf
attribute [local go_sem] qUpon lUpon

/-- the place of each vertex, after k rounds -/
def plK (L : List Int) (k : Nat) : List (Int × Int) := (List.range k).foldl (fun M (i : Nat) => putM M (L[i]?.getD 0) (i : Int)) []
theorem plK_next (L : List Int) (k : Nat) (h : k < L.length) : plK L (k + 1) = putM (plK L k) L[k] (k : Int) := by
  unfold plK
  rw [List.range_succ, List.foldl_append, List.foldl_cons, List.foldl_nil, get_D h]
/-- a map's update as a step -/
theorem wpO_upd {P : Program} {κ τ : Type} [DecidableEq κ] {ek : κ → Value} {ev : τ → Value} {ok : κ → Prop} {kt et t : TypeId} {w : World} {b : Nat} {m : List (κ × τ)} {l : List Oper} {K : Act → World → Prop} {r : List Oper} {a : Act} {o : Oper} {p q s : Operand} (hw : Region.wanted o (yielded l.toArray a.tmps) = true)
    (KK : KE P kt ek ok) (ht : P.underlying t = some (.map kt et)) (h : MapIs ek ev ok w b m) {x : κ} (hx : ok x) (v : τ) (ho : o.op = .mapUpdate t p q s) (hp : a.eval p = .map (some b)) (hq : a.eval q = ek x) (hs : a.eval s = ev v)
    (hk : ∀ w', MapIs ek ev ok w' b (putM m x v) → Keep [b] w w' → w'.heap.size = w.heap.size → wpO P l K r (a.put o.dst undef) w') : wpO P l K (o :: r) a w := by
  obtain ⟨w', h1, h2, h3, h4⟩ := run_update_op KK ht h hx v ho hp hq hs
  exact wpO_skip hw h1 (hk w' h2 h3 h4)

set_option maxRecDepth 100000 in
set_option maxHeartbeats 4000000 in
theorem parents_ok (A : Option Addr) (L : List Int) (cL : Nat) (g bv be : Nat) (V : List (Int × Thing)) (E : List ((Int × Int) × Thing)) (w : World) (hL : SlAt encI 1 w A L) (hl : L.length ≤ 1024) (hg : IsG w g bv be V E) (hT : Tab w) (hck : checkS L V = 0) :
    Calls Tryz.prog 12 #[.pointer (some ⟨g, 0, none⟩), .slice A L.length cL] w fun e w' => ∃ A' c', e = .returned (.tuple #[.slice A' (parK E L (plK L L.length) L.length).length c', .int .i64 0]) ∧ SlAt encI 1 w' A' (parK E L (plK L L.length) L.length) ∧ Ext w w' := by
  have ho := check_ord hg.inv hck
  have hrng : ∀ x ∈ L, 0 ≤ x ∧ x < 1024 := fun x hx => ho.rng hg.inv hx
  have hLk' := hide (fun x hx => okK (hrng x hx))
  have hL' := hide hL
  have hg' := hide hg
  have hT' := hide hT
  have hck' := hide hck
  have hr' := hide hrng
  have hltA : ∀ b off, A = some ⟨b, off, none⟩ → L ≠ [] → b < w.heap.size := fun b off e hne => by
    obtain ⟨b', off', e', h, _⟩ := hL hne
    rw [e] at e'
    injection e' with e'
    injection e' with e1
    omega
  have hlt' := hide hltA
  obtain ⟨R, hR⟩ : ∃ R, R = parK E L (plK L L.length) L.length := ⟨_, rfl⟩
  rw [← hR]
  have hR' := hide hR
  clear hL hg hT hck ho hrng hltA hR
  go_enter Tryz.func12, Tryz.ntmps12
  try dsimp only
  repeat (first | (with_reducible refine wp_reg (id := 1) ?_) | go_values | go_step | go_guarded | go_upon | go_in | go_back | fail)
  have hmm := @run_makeMap Tryz.prog
  iterate 3
    refine wpO_want rfl ?_
    go_simp
  refine wpO_done ?_
  clear hmm
  have hB8 := hide (Blk.new (w.alloc (.map #[] 0)) 92 #[.map (some w.heap.size)])
  have hM8 := hide ((MapIs.made (ek := ekV) (ev := evI) (ok := i64ok) w).ext (ext_self1 _ (.cells #[.map (some w.heap.size)] 92)))
  have hx8 := hide (ext_self2 w (.map #[] 0) (.cells #[.map (some w.heap.size)] 92))
  simp only [World.size_alloc] at hB8
  generalize (w.alloc (.map #[] 0)).alloc (.cells #[.map (some w.heap.size)] 92) = W2 at *
  go_wp2_with fail
  go_loopw [14] (fun i wr => ∃ k : Nat, k ≤ L.length ∧ i = .int .i64 k ∧ Blk wr (w.heap.size + 1) 92 #[.map (some w.heap.size)] ∧ MapIs ekV evI i64ok wr w.heap.size (plK L k) ∧ Ext w wr) (fun i _ => L.length - (intOf i).toNat)
  case atStart => exact ⟨0, Nat.zero_le _, rfl, unhide hB8, unhide hM8, unhide hx8⟩
  case round =>
    obtain ⟨k, hk, rfl, hB, hM, hx⟩ := hrel
    have hB' := hide hB
    have hM' := hide hM
    have hx' := hide hx
    clear hB8 hM8 hx8
    by_cases hlt : k < L.length
    · obtain ⟨b, off, rfl, c0⟩ := atI ((unhide hL').ext hx) hlt
      have hnx := hide (plK_next L k hlt)
      have hxk := hide (unhide hLk' L[k] (List.getElem_mem hlt))
      generalize L[k] = x at c0 hnx hxk
      have hself := Ext.refl wr
      have q0 := hB.cells 0 (v := .map (some w.heap.size)) rfl
      clear hB hM hx
      try dsimp only
      repeat (first | (with_reducible refine wp_reg (id := 4) ?_) | go_values | go_step | go_guarded | go_upon | go_in | go_back | fail)
      iterate 5
        refine wpO_want rfl ?_
        go_simp
      refine wpO_done ?_
      try go_frame
      try dsimp only
      repeat (first | (with_reducible refine wp_reg (id := 5) ?_) | go_values | go_step | go_guarded | go_upon | go_in | go_back | fail)
      iterate 3
        refine wpO_want rfl ?_
        go_simp
      refine wpO_upd rfl keV Tryz.underlying92 (unhide hM') (unhide hxk) (k : Int) rfl rfl rfl rfl ?_
      intro w4 hm4 hk4 hs4
      refine wpO_done ?_
      try go_frame
      rw [← unhide hnx] at hm4
      have hM4 := hide hm4
      have hB4 := hide ((unhide hB').keep hk4 (by simp))
      have hx4 := hide ((unhide hx').of_new hk4 (by simp))
      clear hm4 hk4 hs4 hM' hB' hx' c0 q0 hself hnx
      go_wp2_with fail
      go_roundw
      case rel => exact ⟨k + 1, by omega, by go_num, unhide hB4, unhide hM4, unhide hx4⟩
      case measure => simp [intOf]; omega
    · have hke : k = L.length := by omega
      subst hke
      clear hB hM hx
      try dsimp only
      repeat (first | (with_reducible refine wp_reg (id := 7) ?_) | go_values | go_step | go_guarded | go_upon | go_in | go_back | fail)
      refine wpO_want rfl ?_
      go_simp
      refine wpO_done ?_
      try go_frame
      have hA0 := hide (Acc.new (enc := encI) (T := 3) (ST := 29) (k := 1) wr)
      have hx1 := hide ((unhide hx').trans (ext_self1 wr (.cells #[.slice none 0 0] 29)))
      have hB1 := hide ((unhide hB').ext (ext_self1 wr (.cells #[.slice none 0 0] 29)))
      have hM1 := hide ((unhide hM').ext (ext_self1 wr (.cells #[.slice none 0 0] 29)))
      have hz1 := hide ((unhide hB').lt)
      have hzx := hide (Below.size (unhide hx'))
      generalize wr.alloc (.cells #[.slice none 0 0] 29) = w1 at *
      generalize wr.heap.size = bl at *
      clear hB' hM' hx'
      go_wp2_with fail
      refine (walk_any A L cL g bv be V E _ _ _ ((w.heap.size + 1) :: w.heap.size :: accT bl (.slice none 0 0)) w1 ((unhide hL').ext (unhide hx1)) hl ((unhide hg').ext (unhide hx1)) ((unhide hT').ext (unhide hx1)) (unhide hck') (unhide hr') (par_clo (bl + 1) bl (w.heap.size + 1) w.heap.size (plK L L.length) hl (unhide hz1) (by have := unhide hz1; omega)) ⟨_, unhide hA0, unhide hB1, unhide hM1, rfl⟩ (by have := (unhide hT').lt; have := unhide hz1; simp [accT, Value.ownBlock]; omega) (fun hne b off e hm => by have := unhide hlt' b off e hne; have := unhide hz1; simp [accT, Value.ownBlock] at hm; omega)).mono ?_
      rintro e w2 ⟨rfl, T2, ⟨v2, hA2, _, _, rfl⟩, hk2, _⟩
      rw [← unhide hR'] at hA2
      obtain ⟨A', c', rfl, hs2⟩ := hA2.slice (fun _ => rfl)
      have c0 := hA2.cell.cells 0 (v := .slice A' R.length c') rfl
      have hs2' := hide hs2
      have hx2 := hide ((unhide hx1).of_new hk2 (by have := unhide hz1; simp [accT, Value.ownBlock]; omega))
      have hself := Ext.refl w2
      clear hA2 hs2 hk2
      go_wp2_with fail
      go_ret2
      exact ⟨A', c', rfl, unhide hs2', unhide hx2⟩
end Go.Proofs.YtjehhilijeajnaaGreatDoor
/- elimination.Fill: the fill-in, in ascending order. Conditions: see each theorem. -/
namespace Go.Proofs.YtjehhilijeajnaaGreatDoor
open Go Go.RowKit Go.Shelf Go.Sort
attribute [local go_sem] qUpon lUpon

set_option maxHeartbeats 1000000 in
theorem fill2_any (a b la wa c d lb wb : Int) (w : World) :
    Calls Tryz.prog 50 #[.agg #[.int .i64 a, .int .i64 b, .int .u8 la, .int .i64 wa], .agg #[.int .i64 c, .int .i64 d, .int .u8 lb, .int .i64 wb]] w fun e w' => e = .returned (.int .i64 (cmpE (a, b) (c, d))) ∧ Gr w w' := by
  go_enter Tryz.func50, Tryz.ntmps50
  go_wp2
  refine wp_abs (fun W => Gr w W ∧ Blk W w.heap.size 62 #[.int .i64 a, .int .i64 b, .int .u8 la, .int .i64 wa] ∧ Blk W (w.heap.size + 1) 62 #[.int .i64 c, .int .i64 d, .int .u8 lb, .int .i64 wb]) ⟨((Gr.refl w).alloc _).alloc _, (Blk.new w _ _).ext (ext_self1 _ _), by have := Blk.new (w.alloc (.cells #[.int .i64 a, .int .i64 b, .int .u8 la, .int .i64 wa] 62)) 62 #[.int .i64 c, .int .i64 d, .int .u8 lb, .int .i64 wb]; simpa using this⟩ ?_
  rintro w1 ⟨hx1, hb0, hb1⟩
  have c0 : ∀ W, Gr w1 W → W.cell? ⟨w.heap.size, 0, none⟩ = some (.int .i64 a) := fun W h => hb0.cells 0 rfl W h.ext
  have c1 : ∀ W, Gr w1 W → W.cell? ⟨w.heap.size, 1, none⟩ = some (.int .i64 b) := fun W h => hb0.cells 1 rfl W h.ext
  have c2 : ∀ W, Gr w1 W → W.cell? ⟨w.heap.size + 1, 0, none⟩ = some (.int .i64 c) := fun W h => hb1.cells 0 rfl W h.ext
  have c3 : ∀ W, Gr w1 W → W.cell? ⟨w.heap.size + 1, 1, none⟩ = some (.int .i64 d) := fun W h => hb1.cells 1 rfl W h.ext
  clear hb0 hb1
  refine wp_region_ql (P := Tryz.prog) (fun a b => b = a) (Gr w1) [0, 1, 2, 3, 4, 5, 6, 7, 8, 9] [] 3 #[true, true, true, true, true, true, true, true, true, true, false, false, false] (by kernel_rfl) (by kernel_rfl) rfl (by rfl) (fun _ => rfl) (fun _ _ _ h1 h2 => h2.trans h1) (fun _ _ h e => by rw [e]; exact h) (Gr.refl w1).drew ?_
  iterate 10
    refine ql_want (v := ?_) rfl (by rfl) (fun W hW => ?_) ?_
    rotate_left
    · go_simp
      first | done | rfl | (go_at_call 52; refine (cmp_any _ _ _).mono ?_; rintro _ _ ⟨h1, h2⟩; refine ⟨_, h1, ?_, h2⟩; rfl)
    go_frame
  refine wpQL_nil (fun w2 hx2 => ?_)
  refine lx_one (i := 10) (by kernel_rfl) rfl (by rfl) #[true, true, true, true, true, true, true, true, true, true, true, false, false] (by rfl) ?_
  go_simp
  refine ⟨hx2.alloc _, ?_⟩
  try go_frame
  refine lx_one (i := 11) (by kernel_rfl) rfl (by rfl) #[true, true, true, true, true, true, true, true, true, true, true, true, false] (by rfl) ?_
  go_simp
  refine (or_any (cmpI a c) (cmpI b d) w2.heap.size 2 _ (by go_simp) (by go_simp)).mono ?_
  rintro e w3 ⟨rfl, rfl⟩
  refine ⟨_, rfl, hx2.alloc _, ?_⟩
  try go_frame
  refine lx_one (i := 12) (by kernel_rfl) rfl (by rfl) #[true, true, true, true, true, true, true, true, true, true, true, true, true] (by rfl) ?_
  go_simp
  refine ⟨hx2.alloc _, ?_⟩
  refine wpX_done (by kernel_rfl) ?_
  try go_frame
  go_wp2
  go_ret
  exact ⟨rfl, (hx1.trans hx2).alloc _⟩


theorem sortF_any (base : Nat) (v : Value) (xs S : List ((Int × Int) × Thing)) (w : World) (hown : w.ownsRow base 62 4 v xs.length (xs.flatMap encE)) (hp : S.Perm xs) (hS : S.Pairwise ltE) (hsz : xs.length ≤ 10000000) :
    Calls Tryz.prog 49 #[v, .func (.func 50) #[] #[]] w fun e w' => e = .returned (.tuple #[]) ∧ w'.ownsRow base 62 4 v xs.length (S.flatMap encE) ∧ w.grownBy w' v.ownBlock := by
  have h := sortRow_any Tryz.sortE 4 (by omega) Tryz.isAgg62 Tryz.sizeOf62 encE (fun _ => rfl) one_encE (fun x y => cmpE x.1 y.1) swoE 50 (Go.Proofs.enters_of Tryz.func50 (by kernel_rfl) rfl) (fun x y W => fill2_any _ _ _ _ _ _ _ _ _)
    base 62 v xs S w hown hp (hS.imp fun h => (ltOf_E _ _).2 h) (by omega)
  exact h

/-- an insertion sort, as the reference has it -/
def ltP (p q : Int × Int) : Bool := decide (p.1 < q.1 ∨ p.1 = q.1 ∧ p.2 < q.2)
def insK (a : List (Int × Int)) (p : Int × Int) : List (Int × Int) := a.takeWhile (ltP · p) ++ p :: a.dropWhile (ltP · p)
def fillS (C : List (Int × Int)) : List (Int × Int) := C.foldl insK []
theorem mem_tw {α : Type} {p : α → Bool} : ∀ {l : List α} {x : α}, x ∈ l.takeWhile p → p x = true
  | a :: r, x, h => by
    rw [List.takeWhile_cons] at h
    split at h
    · rename_i ha
      rcases List.mem_cons.1 h with rfl | h
      · exact ha
      · exact mem_tw h
    · simp at h
theorem insK_perm (a : List (Int × Int)) (p : Int × Int) : (insK a p).Perm (p :: a) := by
  unfold insK
  have h := @List.takeWhile_append_dropWhile _ (ltP · p) a
  have h2 := @List.perm_middle _ p (a.takeWhile (ltP · p)) (a.dropWhile (ltP · p))
  rw [h] at h2
  exact h2
theorem fold_perm : ∀ (C a : List (Int × Int)), (C.foldl insK a).Perm (a ++ C)
  | [], a => by simp
  | p :: r, a => by
    rw [List.foldl_cons]
    refine (fold_perm r (insK a p)).trans ?_
    refine ((insK_perm a p).append_right r).trans ?_
    exact (List.perm_middle (a := p) (l₁ := a) (l₂ := r)).symm
theorem fillS_perm (C : List (Int × Int)) : (fillS C).Perm C := by unfold fillS; simpa using fold_perm C []
theorem insK_sorted {a : List (Int × Int)} {p : Int × Int} (h : a.Pairwise fun x y => ltP x y = true) (hp : p ∉ a) : (insK a p).Pairwise fun x y => ltP x y = true := by
  have hd : ∀ y ∈ a.dropWhile (ltP · p), ltP p y = true := by
    intro y hy
    have hs : (a.dropWhile (ltP · p)).Pairwise fun x y => ltP x y = true := h.sublist (List.dropWhile_sublist _)
    have hne : y ≠ p := fun e => hp (e ▸ (List.dropWhile_sublist _).subset hy)
    cases hw : a.dropWhile (ltP · p) with
    | nil => rw [hw] at hy; simp at hy
    | cons z r =>
      have hz : ltP z p = false := by
        have := List.head_dropWhile_not (p := (ltP · p)) (l := a) (by rw [hw]; simp)
        simpa [hw] using this
      have hzp : z ≠ p := fun e => hp (e ▸ (List.dropWhile_sublist _).subset (by rw [hw]; simp))
      have h1 : ltP p z = true := by
        obtain ⟨z1, z2⟩ := z
        obtain ⟨p1, p2⟩ := p
        simp only [ltP, decide_eq_false_iff_not, decide_eq_true_eq, ne_eq, Prod.mk.injEq] at hz hzp ⊢
        omega
      rw [hw] at hy hs
      rcases List.mem_cons.1 hy with rfl | hy
      · exact h1
      · have h2 := List.rel_of_pairwise_cons hs hy
        simp only [ltP, decide_eq_true_eq] at h1 h2 ⊢
        omega
  unfold insK
  rw [List.pairwise_append]
  refine ⟨h.sublist (List.takeWhile_sublist _), List.pairwise_cons.2 ⟨fun y hy => hd y hy, h.sublist (List.dropWhile_sublist _)⟩, fun x hx y hy => ?_⟩
  have hxp : ltP x p = true := mem_tw (p := (ltP · p)) hx
  rcases List.mem_cons.1 hy with rfl | hy
  · exact hxp
  · have h2 := hd y hy
    simp only [ltP, decide_eq_true_eq] at hxp h2 ⊢
    omega
theorem fold_sorted : ∀ (C a : List (Int × Int)), (a ++ C).Nodup → (a.Pairwise fun x y => ltP x y = true) → (C.foldl insK a).Pairwise fun x y => ltP x y = true
  | [], a, _, h => h
  | p :: r, a, hn, h => by
    rw [List.foldl_cons]
    have hm : (p :: (a ++ r)).Nodup := (List.perm_middle (a := p) (l₁ := a) (l₂ := r)).nodup_iff.1 hn
    obtain ⟨h1, h2⟩ := List.nodup_cons.1 hm
    refine fold_sorted r _ ?_ (insK_sorted h fun hp => h1 (by simp [hp]))
    refine (((insK_perm a p).append_right r).nodup_iff).2 hm
theorem fillS_sorted {C : List (Int × Int)} (h : C.Nodup) : (fillS C).Pairwise fun x y => ltP x y = true := fold_sorted C [] (by simpa using h) .nil
/-- the order of what came is irrelevant -/
theorem fillS_congr {C D : List (Int × Int)} (hC : C.Nodup) (hD : D.Nodup) (h : ∀ p, p ∈ C ↔ p ∈ D) : fillS C = fillS D := by
  have hp : (fillS C).Perm (fillS D) := (fillS_perm C).trans (((List.perm_ext_iff_of_nodup hC hD).2 h).trans (fillS_perm D).symm)
  refine sorted_unique (lt := ltP) (fillS D) (fillS C) hp (fillS_sorted hD) ((fillS_sorted hC).imp fun {x y} hxy => ?_)
  simp only [ltP, decide_eq_true_eq, decide_eq_false_iff_not] at hxy ⊢
  omega
theorem fillS_ltE {C : List (Int × Int)} (h : C.Nodup) : ((fillS C).map edgeP).Pairwise ltE := by
  rw [List.pairwise_map]
  refine (fillS_sorted h).imp fun {x y} hxy => ?_
  simpa [ltP, ltE, edgeP] using hxy

set_option maxRecDepth 100000 in
set_option maxHeartbeats 4000000 in
theorem fill_ok (A : Option Addr) (L : List Int) (cL : Nat) (g bv be : Nat) (V : List (Int × Thing)) (E : List ((Int × Int) × Thing)) (w : World) (hL : SlAt encI 1 w A L) (hl : L.length ≤ 100) (hg : IsG w g bv be V E) (hT : Tab w) (hck : checkS L V = 0) :
    Calls Tryz.prog 20 #[.pointer (some ⟨g, 0, none⟩), .slice A L.length cL] w fun e w' => ∃ A' c', e = .returned (.tuple #[.slice A' ((fillS (comeK E L L.length)).map edgeP).length c', .int .i64 0]) ∧ w'.ownsRow (w.heap.size + 1) 62 4 (.slice A' ((fillS (comeK E L L.length)).map edgeP).length c') ((fillS (comeK E L L.length)).map edgeP).length (((fillS (comeK E L L.length)).map edgeP).flatMap encE) ∧ Ext w w' := by
  have ho := check_ord hg.inv hck
  have hrng : ∀ x ∈ L, 0 ≤ x ∧ x < 1024 := fun x hx => ho.rng hg.inv hx
  have hi' := hide hg.inv
  have ho' := hide ho
  have hL' := hide hL
  have hg' := hide hg
  have hT' := hide hT
  have hck' := hide hck
  have hr' := hide hrng
  have hltA : ∀ b off, A = some ⟨b, off, none⟩ → L ≠ [] → b < w.heap.size := fun b off e hne => by
    obtain ⟨b', off', e', h, _⟩ := hL hne
    rw [e] at e'
    injection e' with e'
    injection e' with e1
    omega
  have hlt' := hide hltA
  clear hL hg hT hck ho hrng hltA
  obtain ⟨S, hS⟩ : ∃ S, S = (fillS (comeK E L L.length)).map edgeP := ⟨_, rfl⟩
  rw [← hS]
  have hS' := hide hS
  clear hS
  go_enter Tryz.func20, Tryz.ntmps20
  try dsimp only
  repeat (first | (with_reducible refine wp_reg (id := 1) ?_) | go_values | go_step | go_guarded | go_upon | go_in | go_back | fail)
  refine wpO_want rfl ?_
  go_simp
  refine wpO_done ?_
  try go_frame
  have hA0 := hide (Acc.new (enc := encE) (T := 62) (ST := 46) (k := 4) w)
  have hx1 := hide (ext_self1 w (.cells #[.slice none 0 0] 46))
  generalize w.alloc (.cells #[.slice none 0 0] 46) = w1 at *
  go_wp2_with fail
  refine (walk_any A L cL g bv be V E _ _ _ (accT w.heap.size (.slice none 0 0)) w1 ((unhide hL').ext (unhide hx1)) (by omega) ((unhide hg').ext (unhide hx1)) ((unhide hT').ext (unhide hx1)) (unhide hck') (unhide hr') (fill_clo _ w.heap.size (unhide hi') (unhide ho') hl) ⟨Nat.zero_le _, _, unhide hA0, rfl⟩ (by have := (unhide hT').lt; simp [accT, Value.ownBlock]; omega) (fun hne b off e hm => by have := unhide hlt' b off e hne; simp [accT, Value.ownBlock] at hm; omega)).mono ?_
  rintro e w2 ⟨rfl, T2, ⟨_, v2, hA2, rfl⟩, hk2, _⟩
  have hC : ((comeK E L L.length).map edgeP).length ≤ 10000000 := by
    have h1 := comeK_len (unhide hi') (unhide ho') hl (k := L.length) (Nat.le_refl _)
    have h3 : L.length * 10000 ≤ 100 * 10000 := Nat.mul_le_mul_right _ hl
    rw [List.length_map]
    omega
  have hnd := comeK_nodup (unhide hi') (unhide ho') (k := L.length) (Nat.le_refl _)
  have hperm : ((fillS (comeK E L L.length)).map edgeP).Perm ((comeK E L L.length).map edgeP) := (fillS_perm _).map _
  have hsort := fillS_ltE hnd
  obtain ⟨D, hD⟩ : ∃ D, D = (comeK E L L.length).map edgeP := ⟨_, rfl⟩
  rw [← hD] at hA2 hC hperm
  rw [← unhide hS'] at hperm hsort
  clear hnd hD
  have c0 := hA2.cell.cells 0 (v := v2) rfl
  have hA2' := hide hA2
  have hC' := hide hC
  have hp' := hide hperm
  have hs' := hide hsort
  have hx2 := hide ((unhide hx1).of_new hk2 (by simp [accT, Value.ownBlock]))
  have hself := Ext.refl w2
  clear hA2 hk2 hC hperm hsort
  go_wp2_with fail
  refine (sortF_any _ v2 D S w2 (unhide hA2').own (unhide hp') (unhide hs') (unhide hC')).mono ?_
  rintro e w3 ⟨rfl, ho3, hg3⟩
  have hne : w.heap.size ∉ v2.ownBlock.toList := fun hm => by
    have h1 := (own_base (unhide hA2').own (by simpa using hm)).1
    have := (unhide hA2').lt
    omega
  have hB3 := (unhide hA2').cell.keep (Keep.of_grown hg3) hne
  have hlen := (unhide hp').length_eq
  obtain ⟨A', c', rfl⟩ := own_slice ho3
  rw [← hlen] at ho3 hB3
  have d0 := hB3.cells 0 (v := .slice A' S.length c') rfl
  have ho3' := hide ho3
  have hx3 := hide ((unhide hx2).of_new (Keep.of_grown hg3) (fun x hx => by have h1 := (own_base (unhide hA2').own (by simpa using hx)).1; omega))
  have hself3 := Ext.refl w3
  clear c0 hself ho3 hg3 hB3 hlen hne
  go_wp2_with fail
  go_ret2
  exact ⟨A', c', rfl, unhide ho3', unhide hx3⟩
end Go.Proofs.YtjehhilijeajnaaGreatDoor
/- slices.Backward over a slice of ints: what the iterator does. Conditions: see each theorem. -/
namespace Go.Proofs.YtjehhilijeajnaaGreatDoor
open Go Go.RowKit Go.Shelf
attribute [local go_sem] qUpon lUpon

def bwF (L : List Int) (i : Nat) : Int × Int := ((i : Int), L[i]?.getD 0)
/-- places and elements, from the end -/
def bwL (L : List Int) : List (Int × Int) := ((List.range L.length).map (bwF L)).reverse
def exA (A : Option Addr) (L : List Int) : List Nat := if L.length = 0 then [] else match A with | some a => [a.block] | none => []
theorem exA_lt {A : Option Addr} {L : List Int} {w : World} (h : SlAt encI 1 w A L) : ∀ b ∈ exA A L, b < w.heap.size := by
  intro b hb
  unfold exA at hb
  split at hb
  · simp at hb
  · rename_i hne
    obtain ⟨b', off, rfl, hlt, _⟩ := h (by rintro rfl; simp at hne)
    simp at hb
    omega
theorem bw_next (L : List Int) (k : Nat) : ((List.range (k + 1)).map (bwF L)).reverse = bwF L k :: ((List.range k).map (bwF L)).reverse := by
  rw [List.range_succ, List.map_append, List.reverse_append]; rfl

set_option maxRecDepth 100000 in
theorem back_any (A : Option Addr) (n c : Nat) (w : World) : Calls Tryz.prog 43 #[.slice A n c] w fun e w' => e = .returned (.func (.func 79) #[] #[.pointer (some ⟨w.heap.size, 0, none⟩)]) ∧ w' = w.alloc (.cells #[.slice A n c] 29) := by
  go_enter Tryz.func43, Tryz.ntmps43
  go_wp2_with fail
  go_ret
  exact ⟨rfl, rfl⟩

set_option maxRecDepth 100000 in
set_option maxHeartbeats 4000000 in
theorem back_iter (A : Option Addr) (L : List Int) (c bN : Nat) (w : World) (hB : Blk w bN 29 #[.slice A L.length c]) (hL : SlAt encI 1 w A L) (hl : L.length ≤ 100000000) :
    Iter1 Tryz.prog 79 #[.pointer (some ⟨bN, 0, none⟩)] (fun p : Int × Int => #[.int .i64 p.1, .int .i64 p.2]) (bwL L) 0 (bN :: exA A L) w := by
  intro l J Jx W hW hJ hJx hY h0
  have hBW := hide (hB.ext hW)
  have hLW := hide (hL.ext hW)
  have hl' := hide hl
  have hY' := hide hY
  have h0' := hide h0
  have c0 := (unhide hBW).cells 0 (v := .slice A L.length c) rfl
  have hself := Ext.refl W
  clear hB hL hW hJ hJx hY h0 hl
  refine callsIn_of_wp Tryz.func79 rfl trivial ?_ rfl
  simp only [Tryz.ntmps79, List.size_toArray, List.length_cons, List.length_nil, Nat.reduceAdd, Nat.reduceSub, Array.replicate_succ, Array.replicate_zero, List.push_toArray, List.append_toArray, List.nil_append, List.cons_append]
  try dsimp only
  repeat (first | (with_reducible refine wpW_reg (id := 0) (by kernel_rfl) ?_) | go_values | gi_step | gi_guarded | gi_upon | gi_in | gi_back | fail)
  iterate 4
    refine wpO_want rfl ?_
    go_simp
  refine wpO_done ?_
  have hm1 : IntKind.i64.wrap ((L.length : Int) - 1) = (L.length : Int) - 1 := IntWalk.i64_in _ (by have := unhide hl'; omega)
  try rw [hm1]
  clear c0 hself hm1
  gi_wp2_with fail
  gi_loopw [3] (fun i wr => ∃ (pre : List (Int × Int)) (k : Nat), k ≤ L.length ∧ bwL L = pre ++ ((List.range k).map (bwF L)).reverse ∧ i = .int .i64 ((k : Int) - 1) ∧ Blk wr bN 29 #[.slice A L.length c] ∧ SlAt encI 1 wr A L ∧ J pre wr ∧ W.heap.size ≤ wr.heap.size) (fun i _ => (intOf i + 1).toNat)
  case atStart => exact ⟨[], L.length, Nat.le_refl _, rfl, rfl, unhide hBW, unhide hLW, unhide h0', Nat.le_refl _⟩
  case round =>
    obtain ⟨pre, k, hk, hpre, rfl, hB, hL, hJp, hsz⟩ := hrel
    cases k with
    | zero =>
      rw [List.range_zero, List.map_nil, List.reverse_nil, List.append_nil] at hpre
      have hJp' := hide hJp
      have hpre' := hide hpre
      clear hB hL hJp hpre hY' h0' hBW hLW hsz
      gi_wp2_with fail
      go_end0
      exact ⟨⟨_, rfl⟩, .inl (by rw [unhide hpre']; exact unhide hJp')⟩
    | succ k =>
      rw [bw_next] at hpre
      have hp1 : (pre ++ [bwF L k]) <+: bwL L := ⟨((List.range k).map (bwF L)).reverse, by rw [hpre]; simp⟩
      obtain ⟨fn, tmps, assign, body, hy, hRd⟩ := unhide hY' pre (bwF L k) wr hJp hp1 hsz
      obtain ⟨b, off, rfl, d0⟩ := atI hL hk
      have hx : bwF L k = ((k : Int), L[k]) := by unfold bwF; rw [List.getElem?_eq_getElem hk, Option.getD_some]
      rw [hx] at hy
      simp only at hy
      have hB' := hide hB
      have hL' := hide hL
      have hpre' := hide hpre
      have hRd' := hide hRd
      have hsz' := hide hsz
      have c0 := hB.cells 0 (v := .slice (some ⟨b, off, none⟩) L.length c) rfl
      have hself := Ext.refl wr
      have hk1 : ((k + 1 : Nat) : Int) - 1 = (k : Int) := by omega
      generalize L[k] = x at d0 hy
      clear hB hL hJp hpre h0' hBW hLW hRd hsz hp1 hY' hx
      rw [hk1]
      clear hk1
      gi_wp2_with fail
      refine ⟨rfl, (unhide hRd').mono ?_⟩
      rintro e W6 ⟨(⟨rfl, hJ6⟩ | ⟨rfl, hJx6⟩), hsame, hsz6⟩
      · have hB6 := hide ((unhide hB').of_block (hsame bN (List.mem_append.2 (.inr (by simp)))))
        have hL6 := hide ((unhide hL').of_blocks hsz6 (fun b' off' e _ => hsame b' (List.mem_append.2 (.inr (by injection e with e; injection e with e1; subst e1; have hne : L.length ≠ 0 := (by omega); simp [exA, hne])))))
        have hJ6' := hide hJ6
        have hsz6' := hide (Nat.le_trans (unhide hsz') hsz6)
        clear hsame hsz6 hB' hL' hJ6 hRd' hsz' hy c0 d0 hself
        have hkl : (k : Int) < 100000000 := by have := unhide hl'; omega
        gi_wp2_with fail
        go_roundw
        case rel => exact ⟨pre ++ [bwF L k], k, by omega, by rw [unhide hpre']; simp, by go_num, unhide hB6, unhide hL6, unhide hJ6', unhide hsz6'⟩
        case measure => simp [intOf]
      · have hJx6' := hide hJx6
        clear hJx6 hsame hsz6 hy hRd'
        gi_wp2_with fail
        refine bodyPost_ret (results_none rfl _ _ _) rfl ?_
        exact ⟨⟨_, rfl⟩, .inr ⟨_, unhide hJx6'⟩⟩
end Go.Proofs.YtjehhilijeajnaaGreatDoor
