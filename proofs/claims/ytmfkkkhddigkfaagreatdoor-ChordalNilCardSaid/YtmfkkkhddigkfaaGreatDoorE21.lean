/- Parts of a proof, laid together: Tr, Mk. Each part says its own conditions. -/
import Derived.Test.YtmfkkkhddigkfaaGreatDoorE19
import Derived.Test.YtmfkkkhddigkfaaGreatDoorE10
import Derived.Test.YtmfkkkhddigkfaaGreatDoorE13
/- THE TREE of the maximal cliques, plain: each vertex has one root. No program in sight. Conditions: see each theorem. -/
namespace Go.Proofs.YtmfkkkhddigkfaaGreatDoor
open Go

/-- how many elements two sets share -/
def capS (l : List Nat) (i k : Nat) : Nat := (toL (l.getD i 0 &&& l.getD k 0)).length
def admB (inn : List Bool) (i k : Nat) : Bool := !inn.getD i false && inn.getD k false
def stepK (l : List Nat) (inn : List Bool) (i : Nat) (s : Int × Int × Int) (k : Nat) : Int × Int × Int :=
  if admB inn i k = true ∧ s.2.2 < (capS l i k : Int) then ((i : Int), (k : Int), (capS l i k : Int)) else s
def rowK (l : List Nat) (inn : List Bool) (s : Int × Int × Int) (i : Nat) : Int × Int × Int := (List.range l.length).foldl (stepK l inn i) s
/-- the first pair, one in and one out, that shares the most -/
def pickS (l : List Nat) (inn : List Bool) : Int × Int × Int := (List.range l.length).foldl (rowK l inn) (-1, -1, -1)
abbrev TSt := List Bool × List Int × List Nat
def roundT (l : List Nat) (st : TSt) : TSt :=
  (st.1.set (pickS l st.1).1.toNat true, st.2.1.set (pickS l st.1).1.toNat (pickS l st.1).2.1, st.2.2.set (pickS l st.1).1.toNat (l.getD (pickS l st.1).1.toNat 0 &&& l.getD (pickS l st.1).2.1.toNat 0))
def treeN (l : List Nat) : Nat → TSt
  | 0 => ((List.replicate l.length false).set 0 true, (List.replicate l.length 0).set 0 (-1), List.replicate l.length 0)
  | n + 1 => roundT l (treeN l n)
def treeS (l : List Nat) : TSt := treeN l (l.length - 1)

theorem fold_pairs {α : Type} (f : Nat → α → Nat → α) : ∀ (I K : List Nat) (s : α), I.foldl (fun s i => K.foldl (f i) s) s = (I.flatMap fun i => K.map fun k => (i, k)).foldl (fun s p => f p.1 s p.2) s
  | [], _, _ => rfl
  | i :: I, K, s => by
    rw [List.foldl_cons, fold_pairs f I K, List.flatMap_cons, List.foldl_append, List.foldl_map]
/-- what is known of the pairs seen -/
def Pk (l : List Nat) (inn : List Bool) (s0 : Int × Int × Int) (P : List (Nat × Nat)) (s : Int × Int × Int) : Prop :=
  (s = s0 ∧ ∀ p ∈ P, admB inn p.1 p.2 = false) ∨ ∃ p ∈ P, admB inn p.1 p.2 = true ∧ s = ((p.1 : Int), (p.2 : Int), (capS l p.1 p.2 : Int)) ∧ ∀ r ∈ P, admB inn r.1 r.2 = true → capS l r.1 r.2 ≤ capS l p.1 p.2
theorem Pk.snoc {l : List Nat} {inn : List Bool} {s0 : Int × Int × Int} (h0 : s0.2.2 = -1) {P : List (Nat × Nat)} {s : Int × Int × Int} (h : Pk l inn s0 P s) (p : Nat × Nat) : Pk l inn s0 (P ++ [p]) (stepK l inn p.1 s p.2) := by
  unfold stepK
  rcases h with ⟨rfl, h⟩ | ⟨r, hr, h1, rfl, h2⟩
  · by_cases ha : admB inn p.1 p.2 = true
    · rw [if_pos ⟨ha, by rw [h0]; omega⟩]
      refine .inr ⟨p, by simp, ha, rfl, fun r hr hra => ?_⟩
      rcases List.mem_append.1 hr with hr | hr
      · rw [h r hr] at hra; cases hra
      · rw [List.mem_singleton] at hr; rw [hr]; exact Nat.le_refl _
    · rw [if_neg fun h => ha h.1]
      refine .inl ⟨rfl, fun r hr => ?_⟩
      rcases List.mem_append.1 hr with hr | hr
      · exact h r hr
      · rw [List.mem_singleton] at hr; rw [hr]; simpa using ha
  · by_cases ha : admB inn p.1 p.2 = true ∧ (capS l r.1 r.2 : Int) < (capS l p.1 p.2 : Int)
    · rw [if_pos ha]
      refine .inr ⟨p, by simp, ha.1, rfl, fun z hz hza => ?_⟩
      rcases List.mem_append.1 hz with hz | hz
      · have := h2 z hz hza; have := ha.2; omega
      · rw [List.mem_singleton] at hz; rw [hz]; exact Nat.le_refl _
    · rw [if_neg ha]
      refine .inr ⟨r, by simp [hr], h1, rfl, fun z hz hza => ?_⟩
      rcases List.mem_append.1 hz with hz | hz
      · exact h2 z hz hza
      · rw [List.mem_singleton] at hz
        subst hz
        have : ¬ (capS l r.1 r.2 : Int) < (capS l z.1 z.2 : Int) := fun h => ha ⟨hza, h⟩
        omega
theorem Pk.fold {l : List Nat} {inn : List Bool} {s0 : Int × Int × Int} (h0 : s0.2.2 = -1) : ∀ (Q P : List (Nat × Nat)) (s : Int × Int × Int), Pk l inn s0 P s → Pk l inn s0 (P ++ Q) (Q.foldl (fun s p => stepK l inn p.1 s p.2) s)
  | [], P, s, h => by simpa using h
  | q :: Q, P, s, h => by
    have := Pk.fold h0 Q (P ++ [q]) _ (h.snoc h0 q)
    simpa using this
/-- where one is in and one is out, a pair is found -/
theorem pick_spec0 {l : List Nat} {inn : List Bool} {s0 : Int × Int × Int} (h00 : s0.2.2 = -1) (hin : ∃ i k, i < l.length ∧ k < l.length ∧ admB inn i k = true) : ∃ b t : Nat, b < l.length ∧ t < l.length ∧ admB inn b t = true ∧ (List.range l.length).foldl (rowK l inn) s0 = ((b : Int), (t : Int), (capS l b t : Int)) ∧ ∀ i k, i < l.length → k < l.length → admB inn i k = true → capS l i k ≤ capS l b t := by
  have h : Pk l inn s0 ([] ++ (List.range l.length).flatMap fun i => (List.range l.length).map fun k => (i, k)) ((List.range l.length).foldl (rowK l inn) s0) := by
    have h0 : Pk l inn s0 [] s0 := .inl ⟨rfl, by simp⟩
    have h1 := Pk.fold h00 ((List.range l.length).flatMap fun i => (List.range l.length).map fun k => (i, k)) [] _ h0
    rw [← fold_pairs (fun i s k => stepK l inn i s k)] at h1
    exact h1
  have hm : ∀ i k, i < l.length → k < l.length → (i, k) ∈ [] ++ (List.range l.length).flatMap fun i => (List.range l.length).map fun k => (i, k) := fun i k h1 h2 => by
    rw [List.nil_append, List.mem_flatMap]
    exact ⟨i, List.mem_range.2 h1, List.mem_map.2 ⟨k, List.mem_range.2 h2, rfl⟩⟩
  rcases h with ⟨_, h⟩ | ⟨p, hp, h1, h2, h3⟩
  · obtain ⟨i, k, hi, hk, ha⟩ := hin
    have := h (i, k) (hm i k hi hk)
    rw [ha] at this
    cases this
  · rw [List.nil_append, List.mem_flatMap] at hp
    obtain ⟨i, hi, hp⟩ := hp
    obtain ⟨k, hk, rfl⟩ := List.mem_map.1 hp
    exact ⟨i, k, List.mem_range.1 hi, List.mem_range.1 hk, h1, h2, fun i' k' a b c => h3 (i', k') (hm i' k' a b) c⟩
theorem fold_init {l : List Nat} {inn : List Bool} {s0 s1 : Int × Int × Int} (h0 : s0.2.2 = -1) (h1 : s1.2.2 = -1) : ∀ (Q : List (Nat × Nat)), (∃ p ∈ Q, admB inn p.1 p.2 = true) → Q.foldl (fun s p => stepK l inn p.1 s p.2) s0 = Q.foldl (fun s p => stepK l inn p.1 s p.2) s1
  | [], h => by obtain ⟨p, hp, _⟩ := h; cases hp
  | q :: Q, h => by
    rw [List.foldl_cons, List.foldl_cons]
    by_cases ha : admB inn q.1 q.2 = true
    · have e : ∀ s : Int × Int × Int, s.2.2 = -1 → stepK l inn q.1 s q.2 = ((q.1 : Int), (q.2 : Int), (capS l q.1 q.2 : Int)) := fun s hs => by
        unfold stepK
        rw [if_pos ⟨ha, by rw [hs]; omega⟩]
      rw [e s0 h0, e s1 h1]
    · have e : ∀ s : Int × Int × Int, stepK l inn q.1 s q.2 = s := fun s => by
        unfold stepK
        rw [if_neg fun h => ha h.1]
      rw [e s0, e s1]
      refine fold_init h0 h1 Q ?_
      obtain ⟨p, hp, hpa⟩ := h
      rcases List.mem_cons.1 hp with rfl | hp
      · exact absurd hpa ha
      · exact ⟨p, hp, hpa⟩
theorem pick_init {l : List Nat} {inn : List Bool} {s0 s1 : Int × Int × Int} (h0 : s0.2.2 = -1) (h1 : s1.2.2 = -1) (hin : ∃ i k, i < l.length ∧ k < l.length ∧ admB inn i k = true) : (List.range l.length).foldl (rowK l inn) s0 = (List.range l.length).foldl (rowK l inn) s1 := by
  have e : ∀ s, (List.range l.length).foldl (rowK l inn) s = ((List.range l.length).flatMap fun i => (List.range l.length).map fun k => (i, k)).foldl (fun s p => stepK l inn p.1 s p.2) s := fun s => fold_pairs (fun i s k => stepK l inn i s k) _ _ s
  rw [e, e]
  refine fold_init h0 h1 _ ?_
  obtain ⟨i, k, hi, hk, ha⟩ := hin
  exact ⟨(i, k), List.mem_flatMap.2 ⟨i, List.mem_range.2 hi, List.mem_map.2 ⟨k, List.mem_range.2 hk, rfl⟩⟩, ha⟩
theorem pick_spec {l : List Nat} {inn : List Bool} (hin : ∃ i k, i < l.length ∧ k < l.length ∧ admB inn i k = true) : ∃ b t : Nat, b < l.length ∧ t < l.length ∧ admB inn b t = true ∧ pickS l inn = ((b : Int), (t : Int), (capS l b t : Int)) ∧ ∀ i k, i < l.length → k < l.length → admB inn i k = true → capS l i k ≤ capS l b t := pick_spec0 rfl hin
/-- the places in the order in which they came in, each with its parent -/
structure Prim (l : List Nat) (ord : List Nat) (up : List Int) : Prop where
  nodup : ord.Nodup
  lt : ∀ k ∈ ord, k < l.length
  first : ord[0]? = some 0
  root : up.getD 0 0 = -1
  par : ∀ (j : Nat) (hj : j < ord.length), 0 < j → ∃ t : Nat, t ∈ ord.take j ∧ up.getD ord[j] 0 = (t : Int) ∧ ∀ a ∈ ord.take j, ∀ b, b < l.length → b ∉ ord.take j → capS l b a ≤ capS l ord[j] t
structure TInv (l : List Nat) (n : Nat) (st : TSt) (ord : List Nat) : Prop where
  li : st.1.length = l.length
  lu : st.2.1.length = l.length
  ls : st.2.2.length = l.length
  lo : ord.length = n + 1
  prim : Prim l ord st.2.1
  inn : ∀ k, st.1.getD k false = true ↔ k ∈ ord
theorem getD_set {α : Type} {l : List α} {i k : Nat} {v d : α} : (l.set i v).getD k d = if i = k ∧ i < l.length then v else l.getD k d := by
  rw [List.getD_eq_getElem?_getD, List.getD_eq_getElem?_getD, List.getElem?_set]
  by_cases h : i = k
  · subst h
    by_cases hl : i < l.length
    · simp [hl]
    · simp [hl]
  · simp [h]
theorem missing {ord : List Nat} {m : Nat} (h : ord.length < m) : ∃ k, k < m ∧ k ∉ ord := Classical.byContradiction fun hno => by
  have h1 : ∀ k, k < m → k ∈ ord := fun k hk => Classical.byContradiction fun h => hno ⟨k, hk, h⟩
  have h2 := len_le_sub ((List.range m).map fun (k : Nat) => (k : Int)) (ord.map fun (k : Nat) => (k : Int)) (by
    rw [List.Nodup, List.pairwise_map]
    exact (List.nodup_range (n := m)).imp fun {a b} h e => h (by omega)) (fun x hx => by
    obtain ⟨k, hk, rfl⟩ := List.mem_map.1 hx
    exact List.mem_map.2 ⟨k, h1 k (List.mem_range.1 hk), rfl⟩)
  rw [List.length_map, List.length_map, List.length_range] at h2
  omega
theorem tree_inv {l : List Nat} (hl : l ≠ []) : ∀ n, n < l.length → ∃ ord, TInv l n (treeN l n) ord
  | 0, h => ⟨[0], by
    refine ⟨by simp [treeN], by simp [treeN], by simp [treeN], rfl, ⟨by simp, fun k hk => ?_, rfl, ?_, fun j hj h0 => ?_⟩, fun k => ?_⟩
    · rw [List.mem_singleton] at hk; omega
    · show ((List.replicate l.length (0 : Int)).set 0 (-1)).getD 0 0 = -1
      rw [getD_set, List.length_replicate, if_pos ⟨rfl, h⟩]
    · simp at hj; omega
    · show ((List.replicate l.length false).set 0 true).getD k false = true ↔ k ∈ [0]
      rw [getD_set, List.length_replicate, List.mem_singleton]
      by_cases hk : 0 = k
      · simp [hk.symm, h]
      · rw [if_neg fun h => hk h.1]
        simp [List.getD_eq_getElem?_getD, List.getElem?_replicate]
        constructor
        · split <;> simp
        · omega⟩
  | n + 1, h => by
    obtain ⟨ord, hv⟩ := tree_inv hl n (by omega)
    obtain ⟨i, hi, hio⟩ := missing (ord := ord) (m := l.length) (by rw [hv.lo]; exact h)
    have h0o : 0 ∈ ord := List.mem_of_getElem? hv.prim.first
    have hadm : ∀ a b, admB (treeN l n).1 a b = true ↔ a ∉ ord ∧ b ∈ ord := fun a b => by
      unfold admB
      rw [Bool.and_eq_true, Bool.not_eq_true', hv.inn, ← Bool.not_eq_true, hv.inn]
    obtain ⟨b, t, hb, ht, ha, hp, hmax⟩ := pick_spec (l := l) (inn := (treeN l n).1) ⟨i, 0, hi, by omega, (hadm i 0).2 ⟨hio, h0o⟩⟩
    obtain ⟨hbo, hto⟩ := (hadm b t).1 ha
    refine ⟨ord ++ [b], ?_⟩
    have e : treeN l (n + 1) = ((treeN l n).1.set b true, (treeN l n).2.1.set b (t : Int), (treeN l n).2.2.set b (l.getD b 0 &&& l.getD t 0)) := by
      show roundT l (treeN l n) = _
      unfold roundT
      rw [hp]
      simp only [Int.toNat_natCast]
    rw [e]
    have hb0 : b ≠ 0 := fun e => hbo (e ▸ h0o)
    have hup : ∀ k, k ∈ ord → ((treeN l n).2.1.set b (t : Int)).getD k 0 = (treeN l n).2.1.getD k 0 := fun k hk => by
      rw [getD_set, if_neg (by rintro ⟨rfl, _⟩; exact hbo hk)]
    have hupb : ((treeN l n).2.1.set b (t : Int)).getD b 0 = (t : Int) := by rw [getD_set, hv.lu, if_pos ⟨rfl, hb⟩]
    refine ⟨by rw [List.length_set]; exact hv.li, by rw [List.length_set]; exact hv.lu, by rw [List.length_set]; exact hv.ls, by rw [List.length_append, hv.lo]; rfl, ⟨?_, fun k hk => ?_, ?_, ?_, fun j hj h0 => ?_⟩, fun k => ?_⟩
    · refine List.nodup_append.2 ⟨hv.prim.nodup, by simp, fun x hx y hy e => ?_⟩
      rw [List.mem_singleton] at hy
      exact hbo (hy ▸ e ▸ hx)
    · rcases List.mem_append.1 hk with hk | hk
      · exact hv.prim.lt k hk
      · rw [List.mem_singleton] at hk; rw [hk]; exact hb
    · rw [List.getElem?_append_left (by rw [hv.lo]; omega)]; exact hv.prim.first
    · rw [hup 0 h0o]; exact hv.prim.root
    · rw [List.length_append, hv.lo] at hj
      by_cases hjn : j < ord.length
      · obtain ⟨t', h1, h2, h3⟩ := hv.prim.par j hjn h0
        rw [List.take_append_of_le_length (by omega), List.getElem_append_left hjn, hup _ (List.getElem_mem hjn)]
        exact ⟨t', h1, h2, h3⟩
      · have hje : j = ord.length := by
          have : ([b] : List Nat).length = 1 := rfl
          have := hv.lo
          omega
        subst hje
        rw [List.take_left, List.getElem_append_right (Nat.le_refl _)]
        simp only [Nat.sub_self, List.getElem_cons_zero]
        exact ⟨t, hto, hupb, fun a hao c hc hco => hmax c a hc (hv.prim.lt a hao) ((hadm c a).2 ⟨hco, hao⟩)⟩
    · rw [getD_set, hv.li, List.mem_append, List.mem_singleton]
      by_cases hk : b = k
      · subst hk; simp [hb]
      · rw [if_neg fun h => hk h.1, hv.inn]
        exact ⟨.inl, fun h => h.resolve_right fun e => hk e.symm⟩
/-- a round of the tree: what is picked, and what becomes of it -/
theorem tree_round {l : List Nat} (hl : l ≠ []) {n : Nat} (hn : n + 1 < l.length) {s0 : Int × Int × Int} (h00 : s0.2.2 = -1) {inn : List Bool} {up : List Int} {sh : List Nat} (hst : (inn, up, sh) = treeN l n) :
    inn.length = l.length ∧ up.length = l.length ∧ sh.length = l.length ∧ ∃ b t : Nat, b < l.length ∧ t < l.length ∧ (List.range l.length).foldl (rowK l inn) s0 = ((b : Int), (t : Int), (capS l b t : Int)) ∧ (inn.set b true, up.set b (t : Int), sh.set b (l.getD b 0 &&& l.getD t 0)) = treeN l (n + 1) := by
  obtain ⟨ord, hv⟩ := tree_inv hl n (by omega)
  rw [← hst] at hv
  obtain ⟨i, hi, hio⟩ := missing (ord := ord) (m := l.length) (by rw [hv.lo]; exact hn)
  have h0o : 0 ∈ ord := List.mem_of_getElem? hv.prim.first
  have hin : ∃ i k, i < l.length ∧ k < l.length ∧ admB inn i k = true := ⟨i, 0, hi, by omega, by
    unfold admB
    rw [Bool.and_eq_true, Bool.not_eq_true', hv.inn, ← Bool.not_eq_true, hv.inn]
    exact ⟨hio, h0o⟩⟩
  obtain ⟨b, t, hb, ht, _, hp, hm⟩ := pick_spec0 h00 hin
  obtain ⟨b', t', hb', ht', _, hp', hm'⟩ := pick_spec hin
  refine ⟨hv.li, hv.lu, hv.ls, b, t, hb, ht, hp, ?_⟩
  -- the first pair is the same
  have he : pickS l inn = ((b : Int), (t : Int), (capS l b t : Int)) := by
    have h1 : pickS l inn = (List.range l.length).foldl (rowK l inn) s0 := pick_init rfl h00 hin
    rw [h1, hp]
  have e : treeN l (n + 1) = roundT l (inn, up, sh) := by rw [hst]; rfl
  rw [e]
  unfold roundT
  dsimp only
  rw [he]
  simp only [Int.toNat_natCast]
theorem tree_full {l : List Nat} (hl : l ≠ []) : ∃ ord, TInv l (l.length - 1) (treeS l) ord ∧ ∀ k, k < l.length → k ∈ ord := by
  have hlen : 0 < l.length := List.length_pos_iff.2 hl
  obtain ⟨ord, h⟩ := tree_inv hl (l.length - 1) (by omega)
  refine ⟨ord, h, fun k hk => Classical.byContradiction fun hno => ?_⟩
  -- too many places otherwise
  have h2 := len_le_sub ((k :: ord).map fun (k : Nat) => (k : Int)) ((List.range l.length).map fun (k : Nat) => (k : Int)) (by
    rw [List.Nodup, List.pairwise_map]
    exact (List.nodup_cons.2 ⟨hno, h.prim.nodup⟩).imp fun {a b} h e => h (by omega)) (fun x hx => by
    obtain ⟨j, hj, rfl⟩ := List.mem_map.1 hx
    refine List.mem_map.2 ⟨j, List.mem_range.2 ?_, rfl⟩
    rcases List.mem_cons.1 hj with rfl | hj
    · exact hk
    · exact h.prim.lt j hj)
  rw [List.length_map, List.length_map, List.length_range, List.length_cons, h.lo] at h2
  omega
theorem cap_comm (l : List Nat) (i k : Nat) : capS l i k = capS l k i := by unfold capS; rw [Nat.and_comm]
/-- linked by steps that share t elements at least -/
inductive Lnk (l : List Nat) (t : Nat) (a : Nat) : Nat → Prop
  | refl : Lnk l t a a
  | step {b c : Nat} : Lnk l t a b → b < l.length → c < l.length → t ≤ capS l b c → Lnk l t a c
/-- how much a clique shares with its parent -/
def wP (l : List Nat) (up : List Int) (k : Nat) : Nat := if up.getD k 0 < 0 then 0 else capS l k (up.getD k 0).toNat
theorem Lnk.side {l ord : List Nat} {up : List Int} (hp : Prim l ord up) {j : Nat} (hj : j < ord.length) {t : Nat} (hw : wP l up ord[j] < t) {a b : Nat} (h : Lnk l t a b) : a ∈ ord.take j ↔ b ∈ ord.take j := by
  induction h with
  | refl => exact Iff.rfl
  | @step b c _ hb hc ht ih =>
    rw [ih]
    rcases Nat.eq_zero_or_pos j with h0 | h0
    · subst h0; simp
    · obtain ⟨p, h1, h2, h3⟩ := hp.par j hj h0
      unfold wP at hw
      rw [h2, if_neg (by omega), Int.toNat_natCast] at hw
      constructor
      · intro h; exact Classical.byContradiction fun hn => by have := h3 b h c hc hn; rw [cap_comm] at ht; omega
      · intro h; exact Classical.byContradiction fun hn => by have := h3 c h b hb hn; omega
theorem cap_of {l : List Nat} {i k : Nat} {K : List Int} (hn : K.Nodup) (h1 : ∀ x ∈ K, x ∈ toL (l.getD i 0)) (h2 : ∀ x ∈ K, x ∈ toL (l.getD k 0)) : K.length ≤ capS l i k := len_le_sub K _ hn fun x hx => mem_and.2 ⟨h1 x hx, h2 x hx⟩
theorem greatest {P : Nat → Prop} {n : Nat} (hb : ∀ i, P i → i < n) : (∃ i, P i) → ∃ i, P i ∧ ∀ j, i < j → ¬ P j := by
  intro h
  refine Classical.byContradiction fun hno => ?_
  have : ∀ d i, n - i = d → ¬ P i := by
    intro d
    induction d using Nat.strongRecOn with
    | ind d ih =>
      intro i hd hP
      refine hno ⟨i, hP, fun j hj hPj => ?_⟩
      have := hb j hPj
      exact ih (n - j) (by omega) j rfl hPj
  obtain ⟨i, h⟩ := h
  exact this _ i rfl h
variable {V : List (Int × Thing)} {E : List ((Int × Int) × Thing)}
/-- what is known of the list of the maximal cliques -/
structure MaxL (E : List ((Int × Int) × Thing)) (o : List Int) (N : Nat) (l : List Nat) : Prop where
  from1 : ∀ k, k < l.length → ∃ (i : Nat) (h : i < (allC E o N).length), (allC E o N)[i] = l.getD k 0
  into : ∀ K : List Int, K ≠ [] → K.Nodup → (∀ x ∈ K, x ∈ o) → Clq E K → ∃ k, k < l.length ∧ ∀ x ∈ K, x ∈ toL (l.getD k 0)
/-- for each number t up to the size of a clique: a vertex with t later neighbors and itself, linked to the clique -/
theorem vert_of (hi : GInv V E) {o : List Int} {N : Nat} {l : List Nat} (hn : o.Nodup) (hr : ∀ x ∈ o, 0 ≤ x ∧ x < 1024) (hm : ∀ x, x ∈ toL N ↔ x ∈ o) (hp : Peo E o) (hL : MaxL E o N l) {k0 t : Nat} (hk0 : k0 < l.length) (ht0 : 0 < t) (ht : t ≤ (toL (l.getD k0 0)).length) :
    ∃ i, i < o.length ∧ (toL ((allC E o N).getD i 0)).length = t ∧ ∃ k, k < l.length ∧ (∀ x ∈ toL ((allC E o N).getD i 0), x ∈ toL (l.getD k 0)) ∧ Lnk l t k0 k := by
  obtain ⟨i0, hi0, he0⟩ := hL.from1 k0 hk0
  obtain ⟨i, ⟨h1, h2, k, h3, h4, h5⟩, hgr⟩ := greatest (n := o.length) (P := fun i => i < o.length ∧ t ≤ (toL ((allC E o N).getD i 0)).length ∧ ∃ k, k < l.length ∧ (∀ x ∈ toL ((allC E o N).getD i 0), x ∈ toL (l.getD k 0)) ∧ Lnk l t k0 k) (fun i h => h.1) ⟨i0, by rw [allC_len] at hi0; exact hi0, by rw [getD_get hi0, he0]; exact ht, k0, hk0, fun x hx => by rw [getD_get hi0, he0] at hx; exact hx, .refl⟩
  refine ⟨i, h1, ?_, k, h3, h4, h5⟩
  refine Classical.byContradiction fun hne => ?_
  have h1' : i < (allC E o N).length := by rw [allC_len]; exact h1
  rw [getD_get h1'] at h2 h4 hne
  have hin := allC_mem hi o N hn hr hm i h1 h1'
  have hc := allC_clq hi hn hr hm hp h1 h1'
  have hlen := perm_out1 (toL_nodup ((allC E o N)[i])) ((hin o[i]).2 (.inl rfl))
  have hlen2 := hlen.length_eq
  rw [List.length_cons] at hlen2
  have hKn : (outR (toL (allC E o N)[i]) o[i]).Nodup := (toL_nodup _).filter _
  have hKm : ∀ x ∈ outR (toL (allC E o N)[i]) o[i], x ∈ toL (allC E o N)[i] ∧ x ∈ o.drop (i + 1) := fun x hx => by
    obtain ⟨x1, x2⟩ := mem_out.1 hx
    exact ⟨x1, ((hin x).1 x1).resolve_left x2 |>.1⟩
  have hKne : outR (toL (allC E o N)[i]) o[i] ≠ [] := fun e => by rw [e] at hlen2; simp at hlen2; omega
  obtain ⟨i', a1, a2, a3, a4⟩ := clq_in (N := N) hi hn hr hm hKne (fun x hx => (List.drop_sublist _ _).subset (hKm x hx).2) (fun x hx y hy => hc x (hKm x hx).1 y (hKm y hy).1)
  have hlt : i < i' := by
    refine Nat.lt_of_not_le fun hle => ?_
    exact drop_not hn a1 hle (hKm _ a3).2
  have hc' := allC_clq hi hn hr hm hp a1 a2
  have hin' := allC_mem hi o N hn hr hm i' a1 a2
  obtain ⟨k', b1, b2⟩ := hL.into (toL (allC E o N)[i']) (fun e => by have := (hin' o[i']).2 (.inl rfl); rw [e] at this; cases this) (toL_nodup _) (fun x hx => by
    rcases (hin' x).1 hx with rfl | ⟨h, _⟩
    · exact List.getElem_mem a1
    · exact (List.drop_sublist _ _).subset h) hc'
  refine hgr i' hlt ⟨a1, ?_, k', b1, fun x hx => by rw [getD_get a2] at hx; exact b2 x hx, .step h5 h3 b1 ?_⟩
  · rw [getD_get a2]
    have := len_le_sub _ _ hKn a4
    omega
  · have := cap_of (l := l) (i := k) (k := k') hKn (fun x hx => h4 x (hKm x hx).1) (fun x hx => b2 x (a4 x hx))
    omega
theorem sum_len {α : Type} (f : Nat → List α) (g : Nat → Nat) : ∀ L : List Nat, (∀ k ∈ L, (f k).length = g k) → (L.flatMap f).length = (L.map g).sum
  | [], _ => rfl
  | a :: r, h => by rw [List.flatMap_cons, List.length_append, h a (by simp), sum_len f g r fun k hk => h k (by simp [hk]), List.map_cons, List.sum_cons]
theorem filter_len2 {α : Type} (p : α → Bool) : ∀ l : List α, (l.filter p).length + (l.filter fun x => !p x).length = l.length
  | [] => rfl
  | a :: r => by
    have ih := filter_len2 p r
    cases h : p a <;> simp [h] <;> omega
/-- the vertices that a clique has and its parent has not -/
def rootsL (l : List Nat) (up : List Int) (k : Nat) : List Int := (toL (l.getD k 0)).filter fun v => decide (up.getD k 0 < 0) || !decide (v ∈ toL (l.getD (up.getD k 0).toNat 0))
theorem mem_rootsL {l : List Nat} {up : List Int} {k : Nat} {v : Int} : v ∈ rootsL l up k ↔ v ∈ toL (l.getD k 0) ∧ (decide (up.getD k 0 < 0) || !decide (v ∈ toL (l.getD (up.getD k 0).toNat 0))) = true := by
  unfold rootsL
  rw [List.mem_filter]
theorem rootsL_len (l : List Nat) (up : List Int) (k : Nat) : (rootsL l up k).length = (toL (l.getD k 0)).length - wP l up k := by
  unfold rootsL wP
  by_cases h : up.getD k 0 < 0
  · rw [if_pos h, Nat.sub_zero, List.filter_eq_self.2 fun x _ => by rw [decide_eq_true h, Bool.true_or]]
  · rw [if_neg h, decide_eq_false h]
    simp only [Bool.false_or]
    have e : capS l k (up.getD k 0).toNat = ((toL (l.getD k 0)).filter fun v => decide (v ∈ toL (l.getD (up.getD k 0).toNat 0))).length := by
      unfold capS
      refine congrArg List.length ?_
      exact sorted_ext (toL_sorted _) ((toL_sorted _).filter _) fun x => by rw [mem_and, List.mem_filter, decide_eq_true_eq]
    rw [e]
    have h2 := filter_len2 (fun v => decide (v ∈ toL (l.getD (up.getD k 0).toNat 0))) (toL (l.getD k 0))
    omega
theorem wP_le (l : List Nat) (up : List Int) (k : Nat) : wP l up k ≤ (toL (l.getD k 0)).length := by
  unfold wP
  split
  · omega
  · exact len_le_sub _ _ (toL_nodup _) fun x hx => (mem_and.1 hx).1
/-- as many roots as vertices at most -/
theorem roots_le (hi : GInv V E) {o : List Int} {N : Nat} {l ord : List Nat} {up : List Int} (hn : o.Nodup) (hr : ∀ x ∈ o, 0 ≤ x ∧ x < 1024) (hm : ∀ x, x ∈ toL N ↔ x ∈ o) (hp : Peo E o) (hL : MaxL E o N l) (hP : Prim l ord up) (hall : ∀ k, k < l.length → k ∈ ord) :
    ((List.range l.length).flatMap (rootsL l up)).length ≤ o.length := by
  have hex : ∀ k t : Nat, ∃ i : Nat, k < l.length → 0 < t → t ≤ (toL (l.getD k 0)).length → i < o.length ∧ (toL ((allC E o N).getD i 0)).length = t ∧ ∃ k', k' < l.length ∧ (∀ x ∈ toL ((allC E o N).getD i 0), x ∈ toL (l.getD k' 0)) ∧ Lnk l t k k' := fun k t => by
    by_cases h : k < l.length ∧ 0 < t ∧ t ≤ (toL (l.getD k 0)).length
    · obtain ⟨i, h1⟩ := vert_of hi hn hr hm hp hL h.1 h.2.1 h.2.2
      exact ⟨i, fun _ _ _ => h1⟩
    · exact ⟨0, fun a b c => absurd ⟨a, b, c⟩ h⟩
  obtain ⟨u, hu⟩ : ∃ u : Nat → Nat → Nat, ∀ k t, k < l.length → 0 < t → t ≤ (toL (l.getD k 0)).length → u k t < o.length ∧ (toL ((allC E o N).getD (u k t) 0)).length = t ∧ ∃ k', k' < l.length ∧ (∀ x ∈ toL ((allC E o N).getD (u k t) 0), x ∈ toL (l.getD k' 0)) ∧ Lnk l t k k' := ⟨fun k t => Classical.choose (hex k t), fun k t => Classical.choose_spec (hex k t)⟩
  rw [sum_len (rootsL l up) (fun k => (toL (l.getD k 0)).length - wP l up k) _ fun k _ => rootsL_len l up k]
  have e := sum_len (fun k => (List.range ((toL (l.getD k 0)).length - wP l up k)).map fun d => ((u k (wP l up k + 1 + d) : Nat) : Int)) (fun k => (toL (l.getD k 0)).length - wP l up k) (List.range l.length) fun k _ => by rw [List.length_map, List.length_range]
  rw [← e]
  -- no vertex twice
  have key : ∀ k k' t t', k < l.length → k' < l.length → wP l up k < t → t ≤ (toL (l.getD k 0)).length → wP l up k' < t' → t' ≤ (toL (l.getD k' 0)).length → u k t = u k' t' → k = k' ∧ t = t' := by
    intro k k' t t' hk hk' ht1 ht2 ht1' ht2' he
    obtain ⟨_, a2, c, a3, a4, a5⟩ := hu k t hk (by omega) ht2
    obtain ⟨_, b2, c', b3, b4, b5⟩ := hu k' t' hk' (by omega) ht2'
    rw [← he] at b2 b4
    have htt : t = t' := by omega
    subst htt
    refine ⟨Classical.byContradiction fun hne => ?_, rfl⟩
    have hcc : Lnk l t k c' := .step a5 a3 b3 (by have := cap_of (l := l) (toL_nodup _) a4 b4; omega)
    obtain ⟨j, hj, hjk⟩ := List.getElem_of_mem (hall k hk)
    obtain ⟨j', hj', hjk'⟩ := List.getElem_of_mem (hall k' hk')
    have hjj : j ≠ j' := fun e => hne (by subst e; rw [← hjk, hjk'])
    have mem_lt : ∀ {a b : Nat} (ha : a < ord.length), a < b → ord[a] ∈ ord.take b := fun {a b} ha hab => List.mem_take_iff_getElem.2 ⟨a, by omega, rfl⟩
    have not_mem : ∀ {b : Nat} (hb : b < ord.length), ord[b] ∉ ord.take b := fun {b} hb hm => by
      obtain ⟨a, ha, he⟩ := List.mem_take_iff_getElem.1 hm
      have := (List.getElem_inj hP.nodup).1 he
      omega
    rcases Nat.lt_or_gt_of_ne hjj with h | h
    · have h1 := (Lnk.side hP hj' (by rw [hjk']; exact ht1') hcc).1 (hjk ▸ mem_lt hj h)
      have h2 := (Lnk.side hP hj' (by rw [hjk']; exact ht1') b5).2 h1
      exact not_mem hj' (hjk'.symm ▸ h2)
    · have h1 := (Lnk.side hP hj (by rw [hjk]; exact ht1) b5).1 (hjk' ▸ mem_lt hj' h)
      have h2 := (Lnk.side hP hj (by rw [hjk]; exact ht1) hcc).2 h1
      exact not_mem hj (hjk.symm ▸ h2)
  have hlen := len_le_sub ((List.range l.length).flatMap fun k => (List.range ((toL (l.getD k 0)).length - wP l up k)).map fun d => ((u k (wP l up k + 1 + d) : Nat) : Int)) ((List.range o.length).map fun (k : Nat) => (k : Int)) ?_ ?_
  · rwa [List.length_map, List.length_range] at hlen
  · rw [List.Nodup, List.pairwise_flatMap]
    refine ⟨fun k hk => ?_, ?_⟩
    · rw [List.pairwise_map]
      refine List.Pairwise.imp_of_mem (fun {a b} ha hb hab he => ?_) (List.nodup_range (n := (toL (l.getD k 0)).length - wP l up k))
      have ha := List.mem_range.1 ha
      have hb := List.mem_range.1 hb
      have hk := List.mem_range.1 hk
      have := (key k k (wP l up k + 1 + a) (wP l up k + 1 + b) hk hk (by omega) (by omega) (by omega) (by omega) (by omega)).2
      exact hab (by omega)
    · refine List.Pairwise.imp_of_mem (fun {k k'} hk hk' hne => ?_) (List.nodup_range (n := l.length))
      intro x hx y hy he
      obtain ⟨d, hd, rfl⟩ := List.mem_map.1 hx
      obtain ⟨d', hd', rfl⟩ := List.mem_map.1 hy
      have hk := List.mem_range.1 hk
      have hk' := List.mem_range.1 hk'
      have hd := List.mem_range.1 hd
      have hd' := List.mem_range.1 hd'
      exact hne (key k k' (wP l up k + 1 + d) (wP l up k' + 1 + d') hk hk' (by omega) (by omega) (by omega) (by omega) (by omega)).1
  · intro x hx
    obtain ⟨k, hk, hx⟩ := List.mem_flatMap.1 hx
    obtain ⟨d, hd, rfl⟩ := List.mem_map.1 hx
    have hk := List.mem_range.1 hk
    have hd := List.mem_range.1 hd
    exact List.mem_map.2 ⟨_, List.mem_range.2 (hu k (wP l up k + 1 + d) hk (by omega) (by omega)).1, rfl⟩
/-- each vertex has a root -/
theorem root_ex {l ord : List Nat} {up : List Int} (hP : Prim l ord up) (hall : ∀ k, k < l.length → k ∈ ord) {v : Int} (hv : ∃ k, k < l.length ∧ v ∈ toL (l.getD k 0)) : v ∈ (List.range l.length).flatMap (rootsL l up) := by
  obtain ⟨k, hk, hvk⟩ := hv
  obtain ⟨j0, hj0, hjk0⟩ := List.getElem_of_mem (hall k hk)
  obtain ⟨j, ⟨hj, hjv⟩, hmin⟩ := least_ex (p := fun j => ∃ h : j < ord.length, v ∈ toL (l.getD ord[j] 0)) ⟨j0, hj0, by rw [hjk0]; exact hvk⟩
  refine List.mem_flatMap.2 ⟨ord[j], List.mem_range.2 (hP.lt _ (List.getElem_mem hj)), mem_rootsL.2 ⟨hjv, ?_⟩⟩
  rcases Nat.eq_zero_or_pos j with h0 | h0
  · subst h0
    have : ord[0] = 0 := by have := hP.first; rw [List.getElem?_eq_getElem hj] at this; exact Option.some.inj this
    rw [this, hP.root]
    rfl
  · obtain ⟨t, h1, h2, _⟩ := hP.par j hj h0
    rw [h2, Int.toNat_natCast, Bool.or_eq_true, Bool.not_eq_true', decide_eq_false_iff_not]
    refine .inr fun hvt => ?_
    obtain ⟨a, ha, he⟩ := List.mem_take_iff_getElem.1 h1
    have := hmin a ⟨by omega, by rw [he]; exact hvt⟩
    omega
theorem count_one {V R : List Int} (hn : V.Nodup) (hs : ∀ x ∈ V, x ∈ R) (hl : R.length ≤ V.length) {v : Int} (hv : v ∈ V) : R.count v = 1 := by
  have h1 : 1 ≤ R.count v := List.count_pos_iff.2 (hs v hv)
  refine Nat.le_antisymm (Nat.le_of_not_lt fun h => ?_) h1
  have h2 := len_le_sub V (R.erase v) hn fun x hx => by
    by_cases hxv : x = v
    · subst hxv
      exact List.count_pos_iff.1 (by rw [List.count_erase_self]; omega)
    · exact (List.mem_erase_of_ne hxv).2 (hs x hx)
  rw [List.length_erase_of_mem (hs v hv)] at h2
  have := List.length_pos_of_mem hv
  omega
theorem sv_ids (hi : GInv V E) : (V.map (·.1)).Nodup := (sv_map.1 hi.sv).imp fun h => Int.ne_of_lt h
/-- at how many places a vertex has a root -/
def rootB (l : List Nat) (up : List Int) (v : Int) (k : Nat) : Bool := decide (v ∈ toL (l.getD k 0)) && (decide (up.getD k 0 < 0) || !decide (v ∈ toL (l.getD (up.getD k 0).toNat 0)))
theorem count_flat {f : Nat → List Int} {v : Int} (hn : ∀ k, (f k).Nodup) : ∀ L : List Nat, (L.flatMap f).count v = L.countP fun k => decide (v ∈ f k)
  | [] => rfl
  | a :: r => by
    rw [List.flatMap_cons, List.count_append, count_flat hn r, List.countP_cons]
    by_cases h : v ∈ f a
    · have h1 : (f a).count v = 1 := count_one (hn a) (fun x hx => hx) (Nat.le_refl _) h
      rw [h1, if_pos (decide_eq_true h)]
      omega
    · rw [List.count_eq_zero.2 h, if_neg (by rw [decide_eq_false h]; simp)]
      omega
theorem maxL_of (hi : GInv V E) {o : List Int} {N : Nat} (hn : o.Nodup) (ho : ∀ x, x ∈ o ↔ x ∈ V.map (·.1)) (hm : ∀ x, x ∈ toL N ↔ x ∈ o) (hp : Peo E o) : MaxL E o N ((cliquesR V E).map fromS) := by
  constructor
  · intro k hk
    rw [getD_get hk]
    obtain ⟨K, hK, he⟩ := List.mem_map.1 (List.getElem_mem hk)
    obtain ⟨i, h, h1, _⟩ := mem_outC.1 ((mem_outC_cliques hi hn ho hm hp).2 ⟨K, hK, he⟩)
    exact ⟨i, h, h1⟩
  · intro K hne hnd hs hc
    obtain ⟨M, hM, hsub⟩ := clique_in hi (V.map (·.1)).length K (by omega) hne hnd (fun x hx => (ho x).1 (hs x hx)) hc
    obtain ⟨k, hk, he⟩ := List.getElem_of_mem (List.mem_map.2 ⟨M, hM, rfl⟩ : fromS M ∈ (cliquesR V E).map fromS)
    refine ⟨k, hk, fun x hx => ?_⟩
    rw [getD_get hk, he, mem_from]
    have h := ids_rng hi ((ho x).1 (hs x hx))
    exact ⟨h.1, h.2, hsub x hx⟩
/-- the tree's law -/
theorem tree_laws (hi : GInv V E) {o : List Int} {N : Nat} (hn : o.Nodup) (ho : ∀ x, x ∈ o ↔ x ∈ V.map (·.1)) (hm : ∀ x, x ∈ toL N ↔ x ∈ o) (hp : Peo E o) (hV : (V.map (·.1)).length = o.length) {l : List Nat} (hl : l = (cliquesR V E).map fromS) (hne : l ≠ []) :
    (∀ k, k < l.length → (treeS l).2.1.getD k 0 < (l.length : Int) ∧ (0 < k → 0 ≤ (treeS l).2.1.getD k 0)) ∧ ∀ v ∈ V.map (·.1), (List.range l.length).countP (rootB l (treeS l).2.1 v) = 1 := by
  have hL := maxL_of hi hn ho hm hp
  rw [← hl] at hL
  have hr : ∀ x ∈ o, 0 ≤ x ∧ x < 1024 := fun x hx => ids_rng hi ((ho x).1 hx)
  obtain ⟨ord, hT, hall⟩ := tree_full hne
  have hP := hT.prim
  generalize (treeS l).2.1 = up at *
  refine ⟨fun k hk => ?_, fun v hv => ?_⟩
  · obtain ⟨j, hj, rfl⟩ := List.getElem_of_mem (hall k hk)
    rcases Nat.eq_zero_or_pos j with h0 | h0
    · subst h0
      have h2 : ord[0] = 0 := by have := hP.first; rw [List.getElem?_eq_getElem hj] at this; exact Option.some.inj this
      rw [h2] at hk ⊢
      rw [hP.root]
      exact ⟨by omega, fun h => by omega⟩
    · obtain ⟨t, h1, h2, _⟩ := hP.par j hj h0
      rw [h2]
      have := hP.lt t ((List.take_sublist _ _).subset h1)
      exact ⟨by omega, fun _ => by omega⟩
  · have hle := roots_le hi hn hr hm hp hL hP hall
    have hex : ∀ x ∈ V.map (·.1), x ∈ (List.range l.length).flatMap (rootsL l up) := fun x hx => root_ex hP hall (by
      obtain ⟨k, h1, h2⟩ := hL.into [x] (by simp) (by simp) (fun y hy => by rw [List.mem_singleton] at hy; rw [hy]; exact (ho x).2 hx) (fun a ha b hb hne => by
        rw [List.mem_singleton] at ha hb
        exact absurd (ha.trans hb.symm) hne)
      exact ⟨k, h1, h2 x (by simp)⟩)
    have h1 := count_one (sv_ids hi) hex (by rw [hV]; exact hle) hv
    rw [count_flat (f := rootsL l up) (fun k => (toL_nodup _).filter _)] at h1
    rw [← h1]
    refine congrArg (fun p => List.countP p (List.range l.length)) (funext fun k => ?_)
    unfold rootB
    rw [Bool.eq_iff_iff, decide_eq_true_eq, mem_rootsL, Bool.and_eq_true, decide_eq_true_eq]
theorem edge_in (hi : GInv V E) {o : List Int} {N : Nat} (hn : o.Nodup) (ho : ∀ x, x ∈ o ↔ x ∈ V.map (·.1)) (hm : ∀ x, x ∈ toL N ↔ x ∈ o) (hp : Peo E o) {l : List Nat} (hl : l = (cliquesR V E).map fromS) {u v : Int} (h : hasE u v E = true) (hu : u ∈ V.map (·.1)) (hv : v ∈ V.map (·.1)) (hne : u ≠ v) : ∃ k, k < l.length ∧ u ∈ toL (l.getD k 0) ∧ v ∈ toL (l.getD k 0) := by
  have hL := maxL_of hi hn ho hm hp
  rw [← hl] at hL
  obtain ⟨k, h1, h2⟩ := hL.into [u, v] (by simp) (by simp [hne]) (fun y hy => by
    rcases List.mem_cons.1 hy with rfl | hy
    · exact (ho _).2 hu
    · rw [List.mem_singleton] at hy; rw [hy]; exact (ho _).2 hv) (fun a ha b hb hab => by
    rcases List.mem_cons.1 ha with rfl | ha
    · rcases List.mem_cons.1 hb with rfl | hb
      · exact absurd rfl hab
      · rw [List.mem_singleton] at hb; rw [hb]; exact h
    · rw [List.mem_singleton] at ha
      subst ha
      rcases List.mem_cons.1 hb with rfl | hb
      · exact hasE_symm h
      · rw [List.mem_singleton] at hb; exact absurd hb.symm hab)
  exact ⟨k, h1, h2 u (by simp), h2 v (by simp)⟩
end Go.Proofs.YtmfkkkhddigkfaaGreatDoor
/- A slice of ints that is made, written at a place, read at a place, as a variable of the state. Conditions: see each theorem. -/
namespace Go.Proofs.YtmfkkkhddigkfaaGreatDoor
open Go Go.RowKit Go.Shelf
attribute [local go_sem] qUpon lUpon

/-- the cells of a slice of ints -/
def vI (C : List Int) : Array Value := (C.map (Value.int .i64 ·)).toArray
theorem vI_size (C : List Int) : (vI C).size = C.length := by simp [vI]
theorem vI_get {C : List Int} {k : Nat} (h : k < C.length) : (vI C)[k]? = some (.int .i64 C[k]) := by simp [vI, h]
theorem vI_set (C : List Int) (k : Nat) (v : Int) : (vI C).setIfInBounds k (.int .i64 v) = vI (C.set k v) := by
  unfold vI
  simp
theorem vI_list (C : List Int) : (vI C).toList = C.flatMap encI := by
  unfold vI
  induction C with
  | nil => rfl
  | cons x C ih => simp only [List.map_cons, List.flatMap_cons] at ih ⊢; rw [← ih]; rfl
theorem run_store_int {P : Program} {ρ : Operand → Value} {o : Oper} {t : TypeId} {p x : Operand} {w : World} {b k : Nat} {C : List Int} {v : Int} {t0 : TypeId} (ho : o.op = .store t p x) (hp : ρ p = .pointer (some ⟨b, k, none⟩)) (hx : ρ x = .int .i64 v)
    (hs : (sizeOf t).run P w = .ok 1 w) (hb : Blk w b t0 (vI C)) (hk : k < C.length) :
    (execOp ρ o).run P w = .ok .skip (w.setRow b (vI (C.set k v))) := by
  have hc : w.cell? ⟨b, k, none⟩ = some (.int .i64 C[k]) := (hb.cell k).trans (vI_get hk)
  have hf := hb.frozen k
  have hset : w.setCell ⟨b, k, none⟩ (.int .i64 v) = w.setRow b (vI (C.set k v)) := by rw [setCell_eq_setRow w b k _ t0 (0, 0) _ hb, vI_set]
  have hst : (store ((⟨b, k, none⟩ : Addr).add 0) (.int .i64 v)).run P w = .ok () (w.setRow b (vI (C.set k v))) := by
    rw [show ((⟨b, k, none⟩ : Addr).add 0) = ⟨b, k, none⟩ by unfold Addr.add; split <;> simp_all, run_store P w _ _ _ rfl, hc]
    simp [hf, hset]
  unfold execOp
  simp only [ho, hp, hx]
  simp [Instr.storeAt, Instr.sureAddr, storeVar, hs, storeCells, Value.cells, Result.andThen, hst]
set_option maxRecDepth 100000 in
theorem run_mkI {ρ : Operand → Value} {o : Oper} {x y : Operand} {n : Nat} (ho : o.op = .makeSlice 31 x y) (hx : ρ x = .int .i64 n) (hy : ρ y = .int .i64 n) (hn : n ≤ 100000) (w : World) : (execOp ρ o).run Tryz.prog w = .ok (.value (.slice (some ⟨w.heap.size, 0, none⟩) n n)) (w.alloc (.cells (vI (List.replicate n 0)) 3)) := by
  obtain ⟨i0, hi, hi1⟩ := Option.map_eq_some_iff.1 infoI
  simp only [Prod.mk.injEq] at hi1
  obtain ⟨hz1, hz2, hz3⟩ := hi1
  obtain ⟨z0, hz, hz4⟩ := Option.map_eq_some_iff.1 hz1
  have hzc : z0 = .int .i64 0 := by
    have h1 : Tryz.prog.info? 3 = some i0 := hi
    have h2 : (Tryz.prog.info? 3).bind (·.zero) = some (.int .i64 0) := by kernel_rfl
    rw [h1] at h2
    simp only [Option.bind_some] at h2
    rw [hz] at h2
    exact Option.some.inj h2
  subst hzc
  have h := run_make (P := Tryz.prog) w 31 3 i0 (.int .i64 0) Tryz.underlying31 hi hz .i64 .i64 n n (by omega) (Int.le_refl _) (by rw [hz3]; omega) (by omega)
  rw [hz2] at h
  simp only [Int.toNat_natCast, Nat.mul_one] at h
  have e : madeCells (Value.int .i64 0).cells n = vI (List.replicate n 0) := by
    apply Array.ext_getElem?
    intro j
    by_cases hj : j < n
    · simp [madeCells, vI, Value.cells, hj, Nat.mod_one]
    · rw [Array.getElem?_eq_none (by simp [madeCells]; omega), Array.getElem?_eq_none (by rw [vI_size, List.length_replicate]; omega)]
  rw [e] at h
  unfold execOp
  simp only [ho, hx, hy]
  simp [h, Result.andThen]
section
variable {P : Program} {wf : World} {T0 : List Nat} {w W : World} {ds : List Deferred} {L : List Cl} {Rs : List Rw} {l : List Oper} {K : Act → World → Prop} {r : List Oper} {o : Oper} {a : Act}
/-- a variable is made, its value told by its block -/
theorem Sp.allocVO (h : Sp wf T0 w ds L Rs W) {v : Nat → Value} (t : TypeId) (cs : Array Value) (hw : Region.wanted o (yielded l.toArray a.tmps) = true) (hrun : (execOp a.eval o).run P W = .ok (.value (v W.heap.size)) (W.alloc (.cells cs t)))
    (hk : ∀ b W', Sp wf T0 w ds (L ++ [(b, t, cs)]) Rs W' → wpO P l K r (a.put o.dst (v b)) W') : wpO P l K (o :: r) a W := wpO_val hw hrun (hk _ _ (h.alloc t cs))
end
end Go.Proofs.YtmfkkkhddigkfaaGreatDoor
