/- Parts of a proof, laid together. Each part says its own conditions. -/
import Derived.Test.YtmfkkkhddigkfaaGreatDoorP45
import Derived.Test.YtmfkkkhddigkfaaGreatDoorP22
namespace Go.Proofs.YtmfkkkhddigkfaaGreatDoor
open Go
def capS (l : List Nat) (i k : Nat) : Nat := (toL (l.getD i 0 &&& l.getD k 0)).length
def admB (inn : List Bool) (i k : Nat) : Bool := !inn.getD i false && inn.getD k false
def stepK (l : List Nat) (inn : List Bool) (i : Nat) (s : Int × Int × Int) (k : Nat) : Int × Int × Int :=
 if admB inn i k = true ∧ s.2.2 < (capS l i k : Int) then ((i : Int), (k : Int), (capS l i k : Int)) else s
def rowK (l : List Nat) (inn : List Bool) (s : Int × Int × Int) (i : Nat) : Int × Int × Int := (List.range l.length).foldl (stepK l inn i) s
def pickS (l : List Nat) (inn : List Bool) : Int × Int × Int := (List.range l.length).foldl (rowK l inn) (-1, -1, -1)
abbrev TSt := List Bool × List Int × List Nat
def roundT (l : List Nat) (st : TSt) : TSt :=
 (st.1.set (pickS l st.1).1.toNat true, st.2.1.set (pickS l st.1).1.toNat (pickS l st.1).2.1, st.2.2.set (pickS l st.1).1.toNat (l.getD (pickS l st.1).1.toNat 0 &&& l.getD (pickS l st.1).2.1.toNat 0))
def treeN (l : List Nat) : Nat → TSt
 | 0 => ((List.replicate l.length false).set 0 true, (List.replicate l.length 0).set 0 (-1), List.replicate l.length 0)
 | n + 1 => roundT l (treeN l n)
def treeS (l : List Nat) : TSt := treeN l (l.length - 1)
theorem fold_pairs {α : Type} (f : Nat → α → Nat → α) : ∀ (I K : List Nat) (s : α), I.foldl (fun s i => K.foldl (f i) s) s = (I.flatMap fun i => K.map fun k => (i, k)).foldl (fun s p => f p.1 s p.2) s
 | [], _, _ => rfl
 | i :: I, K, s => by
  rw [List.foldl_cons, fold_pairs f I K, List.flatMap_cons, List.foldl_append, List.foldl_map]
def Pk (l : List Nat) (inn : List Bool) (s0 : Int × Int × Int) (P : List (Nat × Nat)) (s : Int × Int × Int) : Prop :=
 (s = s0 ∧ ∀ p ∈ P, admB inn p.1 p.2 = false) ∨ ∃ p ∈ P, admB inn p.1 p.2 = true ∧ s = ((p.1 : Int), (p.2 : Int), (capS l p.1 p.2 : Int)) ∧ ∀ r ∈ P, admB inn r.1 r.2 = true → capS l r.1 r.2 ≤ capS l p.1 p.2
theorem Pk.snoc {l : List Nat} {inn : List Bool} {s0 : Int × Int × Int} (h0 : s0.2.2 = -1) {P : List (Nat × Nat)} {s : Int × Int × Int} (h : Pk l inn s0 P s) (p : Nat × Nat) : Pk l inn s0 (P ++ [p]) (stepK l inn p.1 s p.2) := by
 unfold stepK
 rcases h with ⟨rfl, h⟩ | ⟨r, hr, h1, rfl, h2⟩
 ·by_cases ha : admB inn p.1 p.2 = true
  ·rw [if_pos ⟨ha, by rw [h0]; omega⟩]
   refine .inr ⟨p, by simp, ha, rfl, fun r hr hra => ?_⟩
   rcases List.mem_append.1 hr with hr | hr
   ·rw [h r hr] at hra; cases hra
   ·rw [List.mem_singleton] at hr; rw [hr]; exact Nat.le_refl _
  ·rw [if_neg fun h => ha h.1]
   refine .inl ⟨rfl, fun r hr => ?_⟩
   rcases List.mem_append.1 hr with hr | hr
   ·exact h r hr
   ·rw [List.mem_singleton] at hr; rw [hr]; simpa using ha
 ·by_cases ha : admB inn p.1 p.2 = true ∧ (capS l r.1 r.2 : Int) < (capS l p.1 p.2 : Int)
  ·rw [if_pos ha]
   refine .inr ⟨p, by simp, ha.1, rfl, fun z hz hza => ?_⟩
   rcases List.mem_append.1 hz with hz | hz
   ·have := h2 z hz hza; have := ha.2; omega
   ·rw [List.mem_singleton] at hz; rw [hz]; exact Nat.le_refl _
  ·rw [if_neg ha]
   refine .inr ⟨r, by simp [hr], h1, rfl, fun z hz hza => ?_⟩
   rcases List.mem_append.1 hz with hz | hz
   ·exact h2 z hz hza
   ·rw [List.mem_singleton] at hz
    subst hz
    have : ¬ (capS l r.1 r.2 : Int) < (capS l z.1 z.2 : Int) := fun h => ha ⟨hza, h⟩
    omega
theorem Pk.fold {l : List Nat} {inn : List Bool} {s0 : Int × Int × Int} (h0 : s0.2.2 = -1) : ∀ (Q P : List (Nat × Nat)) (s : Int × Int × Int), Pk l inn s0 P s → Pk l inn s0 (P ++ Q) (Q.foldl (fun s p => stepK l inn p.1 s p.2) s)
 | [], P, s, h => by simpa using h
 | q :: Q, P, s, h => by
  have := Pk.fold h0 Q (P ++ [q]) _ (h.snoc h0 q)
  simpa using this
theorem pick_spec0 {l : List Nat} {inn : List Bool} {s0 : Int × Int × Int} (h00 : s0.2.2 = -1) (hin : ∃ i k, i < l.length ∧ k < l.length ∧ admB inn i k = true) : ∃ b t : Nat, b < l.length ∧ t < l.length ∧ admB inn b t = true ∧ (List.range l.length).foldl (rowK l inn) s0 = ((b : Int), (t : Int), (capS l b t : Int)) ∧ ∀ i k, i < l.length → k < l.length → admB inn i k = true → capS l i k ≤ capS l b t := by
 have h : Pk l inn s0 ([] ++ (List.range l.length).flatMap fun i => (List.range l.length).map fun k => (i, k)) ((List.range l.length).foldl (rowK l inn) s0) := by
  have h0 : Pk l inn s0 [] s0 := .inl ⟨rfl, by simp⟩
  have h1 := Pk.fold h00 ((List.range l.length).flatMap fun i => (List.range l.length).map fun k => (i, k)) [] _ h0
  rw [← fold_pairs (fun i s k => stepK l inn i s k)] at h1
  exact h1
 have hm : ∀ i k, i < l.length → k < l.length → (i, k) ∈ [] ++ (List.range l.length).flatMap fun i => (List.range l.length).map fun k => (i, k) := fun i k h1 h2 => by
  rw [List.nil_append, List.mem_flatMap]
  exact ⟨i, List.mem_range.2 h1, List.mem_map.2 ⟨k, List.mem_range.2 h2, rfl⟩⟩
 rcases h with ⟨_, h⟩ | ⟨p, hp, h1, h2, h3⟩
 ·obtain ⟨i, k, hi, hk, ha⟩ := hin
  have := h (i, k) (hm i k hi hk)
  rw [ha] at this
  cases this
 ·rw [List.nil_append, List.mem_flatMap] at hp
  obtain ⟨i, hi, hp⟩ := hp
  obtain ⟨k, hk, rfl⟩ := List.mem_map.1 hp
  exact ⟨i, k, List.mem_range.1 hi, List.mem_range.1 hk, h1, h2, fun i' k' a b c => h3 (i', k') (hm i' k' a b) c⟩
theorem fold_init {l : List Nat} {inn : List Bool} {s0 s1 : Int × Int × Int} (h0 : s0.2.2 = -1) (h1 : s1.2.2 = -1) : ∀ (Q : List (Nat × Nat)), (∃ p ∈ Q, admB inn p.1 p.2 = true) → Q.foldl (fun s p => stepK l inn p.1 s p.2) s0 = Q.foldl (fun s p => stepK l inn p.1 s p.2) s1
 | [], h => by obtain ⟨p, hp, _⟩ := h; cases hp
 | q :: Q, h => by
  rw [List.foldl_cons, List.foldl_cons]
  by_cases ha : admB inn q.1 q.2 = true
  ·have e : ∀ s : Int × Int × Int, s.2.2 = -1 → stepK l inn q.1 s q.2 = ((q.1 : Int), (q.2 : Int), (capS l q.1 q.2 : Int)) := fun s hs => by
    unfold stepK
    rw [if_pos ⟨ha, by rw [hs]; omega⟩]
   rw [e s0 h0, e s1 h1]
  ·have e : ∀ s : Int × Int × Int, stepK l inn q.1 s q.2 = s := fun s => by
    unfold stepK
    rw [if_neg fun h => ha h.1]
   rw [e s0, e s1]
   refine fold_init h0 h1 Q ?_
   obtain ⟨p, hp, hpa⟩ := h
   rcases List.mem_cons.1 hp with rfl | hp
   ·exact absurd hpa ha
   ·exact ⟨p, hp, hpa⟩
theorem pick_init {l : List Nat} {inn : List Bool} {s0 s1 : Int × Int × Int} (h0 : s0.2.2 = -1) (h1 : s1.2.2 = -1) (hin : ∃ i k, i < l.length ∧ k < l.length ∧ admB inn i k = true) : (List.range l.length).foldl (rowK l inn) s0 = (List.range l.length).foldl (rowK l inn) s1 := by
 have e : ∀ s, (List.range l.length).foldl (rowK l inn) s = ((List.range l.length).flatMap fun i => (List.range l.length).map fun k => (i, k)).foldl (fun s p => stepK l inn p.1 s p.2) s := fun s => fold_pairs (fun i s k => stepK l inn i s k) _ _ s
 rw [e, e]
 refine fold_init h0 h1 _ ?_
 obtain ⟨i, k, hi, hk, ha⟩ := hin
 exact ⟨(i, k), List.mem_flatMap.2 ⟨i, List.mem_range.2 hi, List.mem_map.2 ⟨k, List.mem_range.2 hk, rfl⟩⟩, ha⟩
theorem pick_spec {l : List Nat} {inn : List Bool} (hin : ∃ i k, i < l.length ∧ k < l.length ∧ admB inn i k = true) : ∃ b t : Nat, b < l.length ∧ t < l.length ∧ admB inn b t = true ∧ pickS l inn = ((b : Int), (t : Int), (capS l b t : Int)) ∧ ∀ i k, i < l.length → k < l.length → admB inn i k = true → capS l i k ≤ capS l b t := pick_spec0 rfl hin
structure Prim (l : List Nat) (ord : List Nat) (up : List Int) : Prop where
 nodup : ord.Nodup
 lt : ∀ k ∈ ord, k < l.length
 first : ord[0]? = some 0
 root : up.getD 0 0 = -1
 par : ∀ (j : Nat) (hj : j < ord.length), 0 < j → ∃ t : Nat, t ∈ ord.take j ∧ up.getD ord[j] 0 = (t : Int) ∧ ∀ a ∈ ord.take j, ∀ b, b < l.length → b ∉ ord.take j → capS l b a ≤ capS l ord[j] t
structure TInv (l : List Nat) (n : Nat) (st : TSt) (ord : List Nat) : Prop where
 li : st.1.length = l.length
 lu : st.2.1.length = l.length
 ls : st.2.2.length = l.length
 lo : ord.length = n + 1
 prim : Prim l ord st.2.1
 inn : ∀ k, st.1.getD k false = true ↔ k ∈ ord
theorem getD_set {α : Type} {l : List α} {i k : Nat} {v d : α} : (l.set i v).getD k d = if i = k ∧ i < l.length then v else l.getD k d := by
 rw [List.getD_eq_getElem?_getD, List.getD_eq_getElem?_getD, List.getElem?_set]
 by_cases h : i = k
 ·subst h
  by_cases hl : i < l.length
  ·simp [hl]
  ·simp [hl]
 ·simp [h]
theorem missing {ord : List Nat} {m : Nat} (h : ord.length < m) : ∃ k, k < m ∧ k ∉ ord := Classical.byContradiction fun hno => by
 have h1 : ∀ k, k < m → k ∈ ord := fun k hk => Classical.byContradiction fun h => hno ⟨k, hk, h⟩
 have h2 := len_le_sub ((List.range m).map fun (k : Nat) => (k : Int)) (ord.map fun (k : Nat) => (k : Int)) (by
  rw [List.Nodup, List.pairwise_map]
  exact (List.nodup_range (n := m)).imp fun {a b} h e => h (by omega)) (fun x hx => by
  obtain ⟨k, hk, rfl⟩ := List.mem_map.1 hx
  exact List.mem_map.2 ⟨k, h1 k (List.mem_range.1 hk), rfl⟩)
 rw [List.length_map, List.length_map, List.length_range] at h2
 omega
theorem tree_inv {l : List Nat} (hl : l ≠ []) : ∀ n, n < l.length → ∃ ord, TInv l n (treeN l n) ord
 | 0, h => ⟨[0], by
  refine ⟨by simp [treeN], by simp [treeN], by simp [treeN], rfl, ⟨by simp, fun k hk => ?_, rfl, ?_, fun j hj h0 => ?_⟩, fun k => ?_⟩
  ·rw [List.mem_singleton] at hk; omega
  ·show ((List.replicate l.length (0 : Int)).set 0 (-1)).getD 0 0 = -1
   rw [getD_set, List.length_replicate, if_pos ⟨rfl, h⟩]
  ·simp at hj; omega
  ·show ((List.replicate l.length false).set 0 true).getD k false = true ↔ k ∈ [0]
   rw [getD_set, List.length_replicate, List.mem_singleton]
   by_cases hk : 0 = k
   ·simp [hk.symm, h]
   ·rw [if_neg fun h => hk h.1]
    simp [List.getD_eq_getElem?_getD, List.getElem?_replicate]
    constructor
    ·split <;> simp
    ·omega⟩
 | n + 1, h => by
  obtain ⟨ord, hv⟩ := tree_inv hl n (by omega)
  obtain ⟨i, hi, hio⟩ := missing (ord := ord) (m := l.length) (by rw [hv.lo]; exact h)
  have h0o : 0 ∈ ord := List.mem_of_getElem? hv.prim.first
  have hadm : ∀ a b, admB (treeN l n).1 a b = true ↔ a ∉ ord ∧ b ∈ ord := fun a b => by
   unfold admB
   rw [Bool.and_eq_true, Bool.not_eq_true', hv.inn, ← Bool.not_eq_true, hv.inn]
  obtain ⟨b, t, hb, ht, ha, hp, hmax⟩ := pick_spec (l := l) (inn := (treeN l n).1) ⟨i, 0, hi, by omega, (hadm i 0).2 ⟨hio, h0o⟩⟩
  obtain ⟨hbo, hto⟩ := (hadm b t).1 ha
  refine ⟨ord ++ [b], ?_⟩
  have e : treeN l (n + 1) = ((treeN l n).1.set b true, (treeN l n).2.1.set b (t : Int), (treeN l n).2.2.set b (l.getD b 0 &&& l.getD t 0)) := by
   show roundT l (treeN l n) = _
   unfold roundT
   rw [hp]
   simp only [Int.toNat_natCast]
  rw [e]
  have hb0 : b ≠ 0 := fun e => hbo (e ▸ h0o)
  have hup : ∀ k, k ∈ ord → ((treeN l n).2.1.set b (t : Int)).getD k 0 = (treeN l n).2.1.getD k 0 := fun k hk => by
   rw [getD_set, if_neg (by rintro ⟨rfl, _⟩; exact hbo hk)]
  have hupb : ((treeN l n).2.1.set b (t : Int)).getD b 0 = (t : Int) := by rw [getD_set, hv.lu, if_pos ⟨rfl, hb⟩]
  refine ⟨by rw [List.length_set]; exact hv.li, by rw [List.length_set]; exact hv.lu, by rw [List.length_set]; exact hv.ls, by rw [List.length_append, hv.lo]; rfl, ⟨?_, fun k hk => ?_, ?_, ?_, fun j hj h0 => ?_⟩, fun k => ?_⟩
  ·refine List.nodup_append.2 ⟨hv.prim.nodup, by simp, fun x hx y hy e => ?_⟩
   rw [List.mem_singleton] at hy
   exact hbo (hy ▸ e ▸ hx)
  ·rcases List.mem_append.1 hk with hk | hk
   ·exact hv.prim.lt k hk
   ·rw [List.mem_singleton] at hk; rw [hk]; exact hb
  ·rw [List.getElem?_append_left (by rw [hv.lo]; omega)]; exact hv.prim.first
  ·rw [hup 0 h0o]; exact hv.prim.root
  ·rw [List.length_append, hv.lo] at hj
   by_cases hjn : j < ord.length
   ·obtain ⟨t', h1, h2, h3⟩ := hv.prim.par j hjn h0
    rw [List.take_append_of_le_length (by omega), List.getElem_append_left hjn, hup _ (List.getElem_mem hjn)]
    exact ⟨t', h1, h2, h3⟩
   ·have hje : j = ord.length := by
     have : ([b] : List Nat).length = 1 := rfl
     have := hv.lo
     omega
    subst hje
    rw [List.take_left, List.getElem_append_right (Nat.le_refl _)]
    simp only [Nat.sub_self, List.getElem_cons_zero]
    exact ⟨t, hto, hupb, fun a hao c hc hco => hmax c a hc (hv.prim.lt a hao) ((hadm c a).2 ⟨hco, hao⟩)⟩
  ·rw [getD_set, hv.li, List.mem_append, List.mem_singleton]
   by_cases hk : b = k
   ·subst hk; simp [hb]
   ·rw [if_neg fun h => hk h.1, hv.inn]
    exact ⟨.inl, fun h => h.resolve_right fun e => hk e.symm⟩
theorem tree_round {l : List Nat} (hl : l ≠ []) {n : Nat} (hn : n + 1 < l.length) {s0 : Int × Int × Int} (h00 : s0.2.2 = -1) {inn : List Bool} {up : List Int} {sh : List Nat} (hst : (inn, up, sh) = treeN l n) :
  inn.length = l.length ∧ up.length = l.length ∧ sh.length = l.length ∧ ∃ b t : Nat, b < l.length ∧ t < l.length ∧ (List.range l.length).foldl (rowK l inn) s0 = ((b : Int), (t : Int), (capS l b t : Int)) ∧ (inn.set b true, up.set b (t : Int), sh.set b (l.getD b 0 &&& l.getD t 0)) = treeN l (n + 1) := by
 obtain ⟨ord, hv⟩ := tree_inv hl n (by omega)
 rw [← hst] at hv
 obtain ⟨i, hi, hio⟩ := missing (ord := ord) (m := l.length) (by rw [hv.lo]; exact hn)
 have h0o : 0 ∈ ord := List.mem_of_getElem? hv.prim.first
 have hin : ∃ i k, i < l.length ∧ k < l.length ∧ admB inn i k = true := ⟨i, 0, hi, by omega, by
  unfold admB
  rw [Bool.and_eq_true, Bool.not_eq_true', hv.inn, ← Bool.not_eq_true, hv.inn]
  exact ⟨hio, h0o⟩⟩
 obtain ⟨b, t, hb, ht, _, hp, hm⟩ := pick_spec0 h00 hin
 obtain ⟨b', t', hb', ht', _, hp', hm'⟩ := pick_spec hin
 refine ⟨hv.li, hv.lu, hv.ls, b, t, hb, ht, hp, ?_⟩
 -- the first pair is the same
 have he : pickS l inn = ((b : Int), (t : Int), (capS l b t : Int)) := by
  have h1 : pickS l inn = (List.range l.length).foldl (rowK l inn) s0 := pick_init rfl h00 hin
  rw [h1, hp]
 have e : treeN l (n + 1) = roundT l (inn, up, sh) := by rw [hst]; rfl
 rw [e]
 unfold roundT
 dsimp only
 rw [he]
 simp only [Int.toNat_natCast]
theorem tree_full {l : List Nat} (hl : l ≠ []) : ∃ ord, TInv l (l.length - 1) (treeS l) ord ∧ ∀ k, k < l.length → k ∈ ord := by
 have hlen : 0 < l.length := List.length_pos_iff.2 hl
 obtain ⟨ord, h⟩ := tree_inv hl (l.length - 1) (by omega)
 refine ⟨ord, h, fun k hk => Classical.byContradiction fun hno => ?_⟩
 -- too many places otherwise
 have h2 := len_le_sub ((k :: ord).map fun (k : Nat) => (k : Int)) ((List.range l.length).map fun (k : Nat) => (k : Int)) (by
  rw [List.Nodup, List.pairwise_map]
  exact (List.nodup_cons.2 ⟨hno, h.prim.nodup⟩).imp fun {a b} h e => h (by omega)) (fun x hx => by
  obtain ⟨j, hj, rfl⟩ := List.mem_map.1 hx
  refine List.mem_map.2 ⟨j, List.mem_range.2 ?_, rfl⟩
  rcases List.mem_cons.1 hj with rfl | hj
  ·exact hk
  ·exact h.prim.lt j hj)
 rw [List.length_map, List.length_map, List.length_range, List.length_cons, h.lo] at h2
 omega
theorem cap_comm (l : List Nat) (i k : Nat) : capS l i k = capS l k i := by unfold capS; rw [Nat.and_comm]
variable {V : List (Int × Thing)} {E : List ((Int × Int) × Thing)}
end Go.Proofs.YtmfkkkhddigkfaaGreatDoor
