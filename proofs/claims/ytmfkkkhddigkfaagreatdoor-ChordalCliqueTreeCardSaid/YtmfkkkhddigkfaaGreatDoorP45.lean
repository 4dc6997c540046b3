/- Parts of a proof, laid together. Each part says its own conditions. -/
import Derived.Test.YtmfkkkhddigkfaaGreatDoorP42
namespace Go.Proofs.YtmfkkkhddigkfaaGreatDoor
open Go
variable {V : List (Int × Thing)} {E : List ((Int × Int) × Thing)}
def InR (c : Nat) : Prop := ∀ k, 1024 ≤ k → c.testBit k = false
theorem InR.ext {c d : Nat} (hc : InR c) (hd : InR d) (h : ∀ x, x ∈ toL c ↔ x ∈ toL d) : c = d := by
 refine Nat.eq_of_testBit_eq fun k => ?_
 by_cases hk : k < 1024
 ·have h1 := h (k : Int)
  rw [mem_toL', mem_toL', Int.toNat_natCast] at h1
  cases hc1 : c.testBit k <;> cases hd1 : d.testBit k <;> simp [hc1, hd1] at h1 ⊢ <;> omega
 ·rw [hc k (by omega), hd k (by omega)]
theorem InR.from (l : List Int) : InR (fromS l) := fun k hk => by
 rw [fromS_bit, show decide (k < 1024) = false from decide_eq_false (by omega), Bool.false_and]
theorem InR.with {c : Nat} (h : InR c) (v : Int) : InR (withS c v) := fun k hk => by
 rw [withS_bit, h k hk, show decide (k < 1024) = false from decide_eq_false (by omega), Bool.false_and, Bool.false_or]
theorem InR.near (v : Int) (E : List ((Int × Int) × Thing)) : InR (nearS v E) := by rw [nearS_eq]; exact InR.from _
theorem InR.and {c d : Nat} (h : InR c) : InR (c &&& d) := fun k hk => by rw [Nat.testBit_and, h k hk, Bool.false_and]
theorem InR.lt {c : Nat} (h : InR c) {K : Nat} (hK : K = 1024) : c < 2 ^ K := by
 exact Nat.lt_pow_two_of_testBit c fun k hk => h k (by omega)
theorem mem_with {c : Nat} {v x : Int} (hv : 0 ≤ v ∧ v < 1024) : x ∈ toL (withS c v) ↔ x = v ∨ x ∈ toL c := by
 rw [mem_toL', mem_toL', withS_bit]
 constructor
 ·rintro ⟨h1, h2, h3⟩
  rw [Bool.or_eq_true, Bool.and_eq_true, decide_eq_true_eq, decide_eq_true_eq] at h3
  rcases h3 with h3 | ⟨_, h3⟩
  ·exact .inr ⟨h1, h2, h3⟩
  ·left; omega
 ·rintro (rfl | ⟨h1, h2, h3⟩)
  ·refine ⟨hv.1, hv.2, ?_⟩
   rw [Bool.or_eq_true, Bool.and_eq_true, decide_eq_true_eq, decide_eq_true_eq]
   right; omega
  ·exact ⟨h1, h2, by rw [h3, Bool.true_or]⟩
def allC (E : List ((Int × Int) × Thing)) : List Int → Nat → List Nat
 | [], _ => []
 | v :: o, N => withS (nearS v E &&& withoutS N v) v :: allC E o (withoutS N v)
theorem allC_len (E : List ((Int × Int) × Thing)) : ∀ (o : List Int) (N : Nat), (allC E o N).length = o.length
 | [], _ => rfl
 | v :: o, N => by unfold allC; rw [List.length_cons, List.length_cons, allC_len E o]
theorem allC_inR (E : List ((Int × Int) × Thing)) : ∀ (o : List Int) (N : Nat), ∀ c ∈ allC E o N, InR c
 | [], _, c, h => by cases h
 | v :: o, N, c, h => by
  unfold allC at h
  rcases List.mem_cons.1 h with rfl | h
  ·exact ((InR.near v E).and).with v
  ·exact allC_inR E o _ c h
theorem allC_mem (hi : GInv V E) (o : List Int) : ∀ (N : Nat), o.Nodup → (∀ x ∈ o, 0 ≤ x ∧ x < 1024) → (∀ x, x ∈ toL N ↔ x ∈ o) → ∀ (k : Nat) (h : k < o.length) (h2 : k < (allC E o N).length) (x : Int), x ∈ toL (allC E o N)[k] ↔ x = o[k] ∨ (x ∈ o.drop (k + 1) ∧ hasE o[k] x E = true) := by
 induction o with
 | nil => intro _ _ _ _ k h; simp at h
 | cons v o ih =>
  intro N hn hr hm k h h2 x
  obtain ⟨hn1, hn2⟩ := List.nodup_cons.1 hn
  have hm2 : ∀ x, x ∈ toL (withoutS N v) ↔ x ∈ o := fun x => by
   rw [mem_without, hm, List.mem_cons]
   constructor
   ·rintro ⟨h1 | h1, h2⟩
    ·exact absurd h1 h2
    ·exact h1
   ·intro h; exact ⟨.inr h, fun e => hn1 (e ▸ h)⟩
  cases k with
  | zero =>
   show x ∈ toL (withS (nearS v E &&& withoutS N v) v) ↔ x = v ∨ (x ∈ (v :: o).drop 1 ∧ hasE v x E = true)
   rw [mem_with (hr v (by simp)), mem_and, mem_near hi, hm2, List.drop_one, List.tail_cons]
   exact or_congr Iff.rfl And.comm
  | succ k =>
   have ih := ih (withoutS N v) hn2 (fun x hx => hr x (by simp [hx])) hm2 k (by simpa using h) (by simpa [allC] using h2) x
   simpa [allC] using ih
def innerS (l : List Nat) (i : Nat) : Bool := (List.range l.length).any fun k => decide (i ≠ k) && subS (l.getD i 0) (l.getD k 0)
def outC (l : List Nat) : List Nat := ((List.range l.length).filter fun i => !innerS l i).map (l.getD · 0)
theorem getD_get {l : List Nat} {i : Nat} (h : i < l.length) : l.getD i 0 = l[i] := by simp [List.getD, h]
theorem mem_outC {l : List Nat} {c : Nat} : c ∈ outC l ↔ ∃ (i : Nat) (h : i < l.length), l[i] = c ∧ ∀ (k : Nat) (h2 : k < l.length), i ≠ k → subS l[i] l[k] = false := by
 unfold outC
 rw [List.mem_map]
 constructor
 ·rintro ⟨i, hi, rfl⟩
  obtain ⟨h1, h2⟩ := List.mem_filter.1 hi
  have h1 := List.mem_range.1 h1
  refine ⟨i, h1, (getD_get h1).symm, fun k hk hne => ?_⟩
  rw [Bool.not_eq_true', innerS, List.any_eq_false] at h2
  have h3 := h2 k (List.mem_range.2 hk)
  rw [getD_get h1, getD_get hk, decide_eq_true hne, Bool.true_and, Bool.not_eq_true] at h3
  exact h3
 ·rintro ⟨i, h, rfl, h2⟩
  refine ⟨i, List.mem_filter.2 ⟨List.mem_range.2 h, ?_⟩, getD_get h⟩
  rw [Bool.not_eq_true', innerS, List.any_eq_false]
  intro k hk
  have hk := List.mem_range.1 hk
  rw [getD_get h, getD_get hk]
  by_cases hne : i ≠ k
  ·rw [h2 k hk hne]; simp
  ·simp [hne]
theorem sub_refl (c : Nat) : subS c c = true := subS_iff.2 fun _ h => h
theorem outC_nodup (l : List Nat) : (outC l).Nodup := by
 unfold outC
 rw [List.Nodup, List.pairwise_map]
 have h : ((List.range l.length).filter fun i => !innerS l i).Pairwise (fun a b => a ≠ b) := (List.nodup_range).filter _
 refine List.Pairwise.imp_of_mem (fun {a b} ha hb hne he => ?_) h
 obtain ⟨a1, a2⟩ := List.mem_filter.1 ha
 have a1 := List.mem_range.1 a1
 have b1 := List.mem_range.1 (List.mem_filter.1 hb).1
 rw [Bool.not_eq_true', innerS, List.any_eq_false] at a2
 have h3 := a2 b (List.mem_range.2 b1)
 rw [← he, decide_eq_true hne, Bool.true_and, sub_refl] at h3
 exact h3 rfl
theorem peo_at : ∀ {o : List Int}, Peo E o → ∀ (k : Nat) (h : k < o.length), Smp E o[k] (o.drop (k + 1))
 | [], _, k, h => by simp at h
 | v :: o, hp, 0, h => by simpa using hp.1
 | v :: o, hp, k + 1, h => by simpa using peo_at hp.2 k (by simpa using h)
theorem allC_clq (hi : GInv V E) {o : List Int} {N : Nat} (hn : o.Nodup) (hr : ∀ x ∈ o, 0 ≤ x ∧ x < 1024) (hm : ∀ x, x ∈ toL N ↔ x ∈ o) (hp : Peo E o) {k : Nat} (h : k < o.length) (h2 : k < (allC E o N).length) : Clq E (toL (allC E o N)[k]) := by
 intro x hx y hy hne
 have hx := (allC_mem hi o N hn hr hm k h h2 x).1 hx
 have hy := (allC_mem hi o N hn hr hm k h h2 y).1 hy
 rcases hx with rfl | ⟨h3, h4⟩
 ·rcases hy with rfl | ⟨h5, h6⟩
  ·exact absurd rfl hne
  ·exact h6
 ·rcases hy with rfl | ⟨h5, h6⟩
  ·exact hasE_symm h4
  ·exact peo_at hp k h x h3 y h5 h4 h6 hne
theorem first_in {P : Int → Prop} : ∀ (o : List Int), (∃ x ∈ o, P x) → ∃ (k : Nat) (h : k < o.length), P o[k] ∧ ∀ x ∈ o, P x → x = o[k] ∨ x ∈ o.drop (k + 1)
 | [], ⟨x, hx, _⟩ => by cases hx
 | v :: o, ⟨x, hx, hP⟩ => by
  by_cases hv : P v
  ·exact ⟨0, by simp, hv, fun y hy _ => by simpa using hy⟩
  ·have hx : x ∈ o := by
    rcases List.mem_cons.1 hx with rfl | h
    ·exact absurd hP hv
    ·exact h
   obtain ⟨k, h, h1, h2⟩ := first_in o ⟨x, hx, hP⟩
   refine ⟨k + 1, by simpa using h, by simpa using h1, fun y hy hPy => ?_⟩
   rcases List.mem_cons.1 hy with rfl | hy
   ·exact absurd hPy hv
   ·simpa using h2 y hy hPy
theorem clq_in (hi : GInv V E) {o : List Int} {N : Nat} (hn : o.Nodup) (hr : ∀ x ∈ o, 0 ≤ x ∧ x < 1024) (hm : ∀ x, x ∈ toL N ↔ x ∈ o) {K : List Int} (hK : K ≠ []) (hs : ∀ x ∈ K, x ∈ o) (hc : Clq E K) : ∃ (k : Nat) (h1 : k < o.length) (h2 : k < (allC E o N).length), o[k] ∈ K ∧ ∀ x ∈ K, x ∈ toL (allC E o N)[k] := by
 obtain ⟨y, hy⟩ := List.exists_mem_of_ne_nil K hK
 obtain ⟨k, h, h1, h2⟩ := first_in (P := fun x => x ∈ K) o ⟨y, hs y hy, hy⟩
 have h3 : k < (allC E o N).length := by rw [allC_len]; exact h
 refine ⟨k, h, h3, h1, fun x hx => (allC_mem hi o N hn hr hm k h h3 x).2 ?_⟩
 rcases h2 x (hs x hx) hx with e | h4
 ·exact .inl e
 ·by_cases e : x = o[k]
  ·exact .inl e
  ·exact .inr ⟨h4, hc _ h1 _ hx (fun e2 => e e2.symm)⟩
theorem drop_not {o : List Int} (hn : o.Nodup) {i k : Nat} (hi : i < o.length) (hk : i ≤ k) : o[i] ∉ o.drop (k + 1) := fun hm => by
 obtain ⟨j, hj, he⟩ := List.getElem_of_mem hm
 rw [List.getElem_drop] at he
 have hj2 : k + 1 + j < o.length := by rw [List.length_drop] at hj; omega
 have := (List.getElem_inj hn).1 he
 omega
theorem allC_sub_ne (hi : GInv V E) {o : List Int} {N : Nat} (hn : o.Nodup) (hr : ∀ x ∈ o, 0 ≤ x ∧ x < 1024) (hm : ∀ x, x ∈ toL N ↔ x ∈ o) {i k : Nat} (h1 : i < o.length) (h2 : k < o.length) (h3 : i < (allC E o N).length) (h4 : k < (allC E o N).length) (hne : i ≠ k) (he : ∀ x, x ∈ toL (allC E o N)[i] ↔ x ∈ toL (allC E o N)[k]) : False := by
 rcases Nat.lt_or_gt_of_ne hne with h | h
 ·have h5 := (allC_mem hi o N hn hr hm k h2 h4 o[i]).1 ((he o[i]).1 ((allC_mem hi o N hn hr hm i h1 h3 o[i]).2 (.inl rfl)))
  rcases h5 with h5 | ⟨h5, _⟩
  ·exact hne ((List.getElem_inj hn).1 h5)
  ·exact drop_not hn h1 (by omega) h5
 ·have h5 := (allC_mem hi o N hn hr hm i h1 h3 o[k]).1 ((he o[k]).2 ((allC_mem hi o N hn hr hm k h2 h4 o[k]).2 (.inl rfl)))
  rcases h5 with h5 | ⟨h5, _⟩
  ·exact hne ((List.getElem_inj hn).1 h5).symm
  ·exact drop_not hn h2 (by omega) h5
theorem sub_sorted {l : List Int} (hl : l.Pairwise (· < ·)) {K : List Int} (hk : K.Pairwise (· < ·)) (hs : ∀ x ∈ K, x ∈ l) : K.Sublist l := by
 have h : K = l.filter fun x => decide (x ∈ K) := sorted_ext hk (hl.filter _) fun x => by
  rw [List.mem_filter, decide_eq_true_eq]
  exact ⟨fun h => ⟨hs x h, h⟩, fun h => h.2⟩
 rw [h]
 exact List.filter_sublist
theorem mem_outC_cliques (hi : GInv V E) {o : List Int} {N : Nat} (hn : o.Nodup) (ho : ∀ x, x ∈ o ↔ x ∈ V.map (·.1)) (hm : ∀ x, x ∈ toL N ↔ x ∈ o) (hp : Peo E o) {c : Nat} : c ∈ outC (allC E o N) ↔ ∃ K ∈ cliquesR V E, fromS K = c := by
 have hr : ∀ x ∈ o, 0 ≤ x ∧ x < 1024 := fun x hx => ids_rng hi ((ho x).1 hx)
 have hsV := sv_map.1 hi.sv
 rw [mem_outC]
 constructor
 ·rintro ⟨i, h, rfl, hmax⟩
  have h1 : i < o.length := by rw [allC_len] at h; exact h
  have hin := allC_mem hi o N hn hr hm i h1 h
  have hsub : ∀ x ∈ toL (allC E o N)[i], x ∈ o := fun x hx => by
   rcases (hin x).1 hx with rfl | ⟨h2, _⟩
   ·exact List.getElem_mem h1
   ·exact (List.drop_sublist _ _).subset h2
  have hc := allC_clq hi hn hr hm hp h1 h
  refine ⟨toL (allC E o N)[i], mem_cliques.2 ⟨sub_sorted hsV (toL_sorted _) fun x hx => (ho x).1 (hsub x hx), ?_, ?_, ?_⟩, ?_⟩
  ·intro e
   have := (hin o[i]).2 (.inl rfl)
   rw [e] at this
   cases this
  ·exact (clqR_any hi).2 ⟨toL_nodup _, fun x hx => (ho x).1 (hsub x hx), hc⟩
  ·intro v hv
   by_cases hvc : v ∈ toL (allC E o N)[i]
   ·exact .inl hvc
   ·refine .inr fun hbig => ?_
    obtain ⟨b1, b2, b3⟩ := (clqR_any hi).1 hbig
    obtain ⟨k, hk, hk2, _, hsk⟩ := clq_in (N := N) hi hn hr hm (by simp) (fun x hx => (ho x).2 (b2 x hx)) b3
    by_cases hik : i = k
    ·subst hik
     exact hvc (hsk v (by simp))
    ·have := hmax k hk2 hik
     rw [subS_iff.2 fun x hx => hsk x (by simp [hx])] at this
     cases this
  ·refine InR.ext (InR.from _) (allC_inR E o N _ (List.getElem_mem h)) fun x => ?_
   rw [mem_from]
   constructor
   ·rintro ⟨_, _, h⟩; exact h
   ·intro h; exact ⟨(hr x (hsub x h)).1, (hr x (hsub x h)).2, h⟩
 ·rintro ⟨K, hK, rfl⟩
  obtain ⟨hs, hne, hcl, hmx⟩ := mem_cliques.1 hK
  obtain ⟨k1, k2, k3⟩ := (clqR_any hi).1 hcl
  obtain ⟨k, hk, hk2, _, hsk⟩ := clq_in (N := N) hi hn hr hm hne (fun x hx => (ho x).2 (k2 x hx)) k3
  have hin := allC_mem hi o N hn hr hm k hk hk2
  -- any larger clique of the kind is the same
  have hall : ∀ (j : Nat) (hj : j < o.length) (hj2 : j < (allC E o N).length), (∀ x ∈ K, x ∈ toL (allC E o N)[j]) → ∀ x ∈ toL (allC E o N)[j], x ∈ K := by
   intro j hj hj2 hsj x hx
   have hxo : x ∈ o := by
    rcases (allC_mem hi o N hn hr hm j hj hj2 x).1 hx with rfl | ⟨h2, _⟩
    ·exact List.getElem_mem hj
    ·exact (List.drop_sublist _ _).subset h2
   rcases hmx x ((ho x).1 hxo) with h | h
   ·exact h
   ·by_cases hxK : x ∈ K
    ·exact hxK
    ·exact absurd ((clq_snoc hi k1 k2 k3 ((ho x).1 hxo) hxK).2 fun y hy => allC_clq hi hn hr hm hp hj hj2 y (hsj y hy) x hx (fun e => hxK (e ▸ hy))) h
  refine ⟨k, hk2, ?_, fun j hj2 hne2 => ?_⟩
  ·refine InR.ext (allC_inR E o N _ (List.getElem_mem hk2)) (InR.from _) fun x => ?_
   rw [mem_from]
   constructor
   ·intro h
    have h2 := hall k hk hk2 hsk x h
    have h3 := ids_rng hi (k2 x h2)
    exact ⟨h3.1, h3.2, h2⟩
   ·rintro ⟨_, _, h⟩; exact hsk x h
  ·have hj : j < o.length := by rw [allC_len] at hj2; exact hj2
   rw [Bool.eq_false_iff]
   intro hsub
   have hsub := subS_iff.1 hsub
   exact allC_sub_ne hi hn hr hm hk hj hk2 hj2 hne2 fun x => ⟨hsub x, fun hx => hsk x (hall j hj hj2 (fun y hy => hsub y (hsk y hy)) x hx)⟩
theorem fromS_snoc (K : List Int) (x : Int) : fromS (K ++ [x]) = withS (fromS K) x := by unfold fromS; rw [List.foldl_append]; rfl
theorem fromS_small {K : List Int} {n : Nat} (h : ∀ x ∈ K, 0 ≤ x ∧ x < n) : fromS K < 2 ^ n := by
 refine Nat.lt_pow_two_of_testBit _ fun k hk => ?_
 rw [fromS_bit]
 by_cases hm : (k : Int) ∈ K
 ·have := h _ hm
  omega
 ·simp [hm]
theorem withS_add {c n : Nat} (hc : c < 2 ^ n) (hn : n < 1024) : withS c (n : Int) = c + 2 ^ n := by
 unfold withS
 rw [if_pos (by unfold fitB; simp; omega), Int.toNat_natCast, Nat.or_comm, show (2 : Nat) ^ n = 2 ^ n * 1 from (Nat.mul_one _).symm, ← Nat.two_pow_add_eq_or_of_lt hc, Nat.mul_one, Nat.add_comm]
theorem subsR_sorted (l : List Int) (hl : l.Pairwise (· < ·)) (hr : ∀ x ∈ l, 0 ≤ x ∧ x < 1024) : ((subsR l).map fromS).Pairwise (· < ·) := by
 suffices h : ∀ m : List Int, m.reverse.Pairwise (· < ·) → (∀ x ∈ m, 0 ≤ x ∧ x < 1024) → ((subsR m.reverse).map fromS).Pairwise (· < ·) by
  have := h l.reverse
  rw [List.reverse_reverse] at this
  exact this hl fun x hx => hr x (List.mem_reverse.1 hx)
 intro m
 induction m with
 | nil => intro _ _; simp [subsR]
 | cons x m ih =>
  intro hs hr
  rw [List.reverse_cons] at hs ⊢
  obtain ⟨h1, _, h3⟩ := List.pairwise_append.1 hs
  obtain ⟨n, rfl⟩ : ∃ n : Nat, x = (n : Int) := ⟨x.toNat, by have := hr x (by simp); omega⟩
  have hn : n < 1024 := by have := hr n (by simp); omega
  have ih := ih h1 fun y hy => hr y (by simp [hy])
  have hlt : ∀ K ∈ subsR m.reverse, fromS K < 2 ^ n := fun K hK => fromS_small fun y hy => by
   have hy := ((mem_subsR _).1 hK).subset hy
   have := h3 y hy n (by simp)
   have := hr y (by simp [List.mem_reverse.1 hy])
   omega
  rw [subsR_snoc, List.map_append, List.map_map]
  have e : ∀ K ∈ subsR m.reverse, fromS (K ++ [(n : Int)]) = fromS K + 2 ^ n := fun K hK => by rw [fromS_snoc, withS_add (hlt K hK) hn]
  refine List.pairwise_append.2 ⟨ih, ?_, ?_⟩
  ·rw [List.pairwise_map] at ih ⊢
   refine List.Pairwise.imp_of_mem (fun {a b} ha hb hab => ?_) ih
   show fromS (a ++ [(n : Int)]) < fromS (b ++ [(n : Int)])
   rw [e a ha, e b hb]
   omega
  ·intro a ha b hb
   obtain ⟨a', ha', rfl⟩ := List.mem_map.1 ha
   obtain ⟨b', hb', rfl⟩ := List.mem_map.1 hb
   have := hlt a' ha'
   show fromS a' < fromS (b' ++ [(n : Int)])
   rw [e b' hb']
   omega
theorem cliques_sorted (hi : GInv V E) : ((cliquesR V E).map fromS).Pairwise (· < ·) := by
 have h := subsR_sorted (V.map (·.1)) (sv_map.1 hi.sv) fun x hx => ids_rng hi hx
 unfold cliquesR
 exact h.sublist (List.Sublist.map _ List.filter_sublist)
theorem cliques_perm (hi : GInv V E) {o : List Int} {N : Nat} (hn : o.Nodup) (ho : ∀ x, x ∈ o ↔ x ∈ V.map (·.1)) (hm : ∀ x, x ∈ toL N ↔ x ∈ o) (hp : Peo E o) : ((cliquesR V E).map fromS).Perm (outC (allC E o N)) := by
 refine (List.perm_ext_iff_of_nodup ((cliques_sorted hi).imp fun {a b} h => Nat.ne_of_lt h) (outC_nodup _)).2 fun c => ?_
 rw [mem_outC_cliques hi hn ho hm hp, List.mem_map]
end Go.Proofs.YtmfkkkhddigkfaaGreatDoor
