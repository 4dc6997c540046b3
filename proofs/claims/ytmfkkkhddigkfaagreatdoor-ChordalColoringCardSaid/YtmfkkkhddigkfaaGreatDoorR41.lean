/- Parts of a proof, laid together. Each part says its own conditions. -/
import Derived.Test.YtmfkkkhddigkfaaGreatDoorR32
namespace Go.Proofs.YtmfkkkhddigkfaaGreatDoor
open Go
def subsR (l : List Int) : List (List Int) := l.foldl (fun out x => out ++ out.map fun K => K ++ [x]) [[]]
theorem subsR_snoc (l : List Int) (x : Int) : subsR (l ++ [x]) = subsR l ++ (subsR l).map fun K => K ++ [x] := by
 unfold subsR
 rw [List.foldl_append]; rfl
theorem mem_subsR {K : List Int} (l : List Int) : K ∈ subsR l ↔ K.Sublist l := by
 suffices h : ∀ (m : List Int) (K : List Int),K ∈ subsR m.reverse ↔ K.Sublist m.reverse by
  have := h l.reverse K
  rwa [List.reverse_reverse] at this
 intro m
 induction m with
 | nil => intro K; simp [subsR]
 | cons x m ih =>
  intro K
  rw [List.reverse_cons,subsR_snoc,List.mem_append,ih,List.mem_map,List.sublist_append_iff]
  constructor
  ·rintro (h | ⟨K',h,rfl⟩)
   ·exact ⟨K,[],by simp,h,List.nil_sublist _⟩
   ·exact ⟨K',[x],rfl,(ih K').1 h,List.Sublist.refl _⟩
  ·rintro ⟨l1,l2,rfl,h1,h2⟩
   have h3 : l2 = [] ∨ l2 = [x] := by
    cases h2 with
    | cons _ h => left; exact List.sublist_nil.1 h
    | cons_cons _ h => right; rw [List.sublist_nil.1 h]
   rcases h3 with rfl | rfl
   ·left; simpa using h1
   ·right; exact ⟨l1,(ih l1).2 h1,rfl⟩
theorem subsR_len (l : List Int) : (subsR l).length = 2 ^ l.length := by
 suffices h : ∀ m : List Int,(subsR m.reverse).length = 2 ^ m.length by
  have := h l.reverse
  rwa [List.reverse_reverse,List.length_reverse] at this
 intro m
 induction m with
 | nil => rfl
 | cons x m ih =>
  rw [List.reverse_cons,subsR_snoc,List.length_append,List.length_map,ih,List.length_cons,Nat.pow_succ]
  omega
section
open Classical
def MaxR (V : List (Int × Thing)) (E : List ((Int × Int) × Thing)) (K : List Int) : Prop := K ≠ [] ∧ ClqR V E K ∧ ∀ v ∈ V.map (·.1),v ∈ K ∨ ¬ ClqR V E (K ++ [v])
noncomputable def cliquesR (V : List (Int × Thing)) (E : List ((Int × Int) × Thing)) : List (List Int) := (subsR (V.map (·.1))).filter fun K => decide (MaxR V E K)
variable {V : List (Int × Thing)} {E : List ((Int × Int) × Thing)}
theorem mem_cliques {K : List Int} : K ∈ cliquesR V E ↔ K.Sublist (V.map (·.1)) ∧ MaxR V E K := by
 unfold cliquesR
 rw [List.mem_filter,mem_subsR,decide_eq_true_eq]
theorem clq_snoc (hi : GInv V E) {K : List Int} (hn : K.Nodup) (hm : ∀ x ∈ K,x ∈ V.map (·.1)) (hc : Clq E K) {v : Int} (hv : v ∈ V.map (·.1)) (hvk : v ∉ K) : ClqR V E (K ++ [v]) ↔ ∀ x ∈ K,hasE x v E = true := by
 rw [clqR_any hi]
 constructor
 ·rintro ⟨_,_,h⟩ x hx
  exact h x (by simp [hx]) v (by simp) (fun e => hvk (e ▸ hx))
 ·intro h
  refine ⟨List.nodup_append.2 ⟨hn,by simp,fun a ha b hb e => ?_⟩,fun x hx => ?_,fun x hx y hy hne => ?_⟩
  ·rw [List.mem_singleton] at hb
   exact hvk (hb ▸ e ▸ ha)
  ·rcases List.mem_append.1 hx with hx | hx
   ·exact hm x hx
   ·rw [List.mem_singleton] at hx; rw [hx]; exact hv
  ·rcases List.mem_append.1 hx with hx | hx
   ·rcases List.mem_append.1 hy with hy | hy
    ·exact hc x hx y hy hne
    ·rw [List.mem_singleton] at hy; rw [hy]; exact h x hx
   ·rw [List.mem_singleton] at hx
    rcases List.mem_append.1 hy with hy | hy
    ·rw [hx]; exact hasE_symm (h y hy)
    ·rw [List.mem_singleton] at hy
     exact absurd (hx.trans hy.symm) hne
theorem clique_in (hi : GInv V E) : ∀ (n : Nat) (K : List Int),(V.map (·.1)).length ≤ K.length + n → K ≠ [] → K.Nodup → (∀ x ∈ K,x ∈ V.map (·.1)) → Clq E K → ∃ M ∈ cliquesR V E, ∀ x ∈ K,x ∈ M
 | n,K,hl,hne,hn,hm,hc => by
  by_cases hex : ∃ v ∈ V.map (·.1),v ∉ K ∧ ∀ x ∈ K,hasE x v E = true
  ·obtain ⟨v,hv,hvk,hx⟩ := hex
   have h1 := (clqR_any hi).1 ((clq_snoc hi hn hm hc hv hvk).2 hx)
   cases n with
   | zero =>
    have := len_le_sub (K ++ [v]) (V.map (·.1)) h1.1 h1.2.1
    rw [List.length_append,List.length_singleton] at this
    omega
   | succ n =>
    obtain ⟨M,hM,hs⟩ := clique_in hi n (K ++ [v]) (by rw [List.length_append,List.length_singleton]; omega) (by simp) h1.1 h1.2.1 h1.2.2
    exact ⟨M,hM,fun x hx => hs x (by simp [hx])⟩
  ·have hIn := sv_nodup hi.sv
   have hmem : ∀ x,x ∈ (V.map (·.1)).filter (fun x => decide (x ∈ K)) ↔ x ∈ K := fun x => by
    rw [List.mem_filter,decide_eq_true_eq]
    exact ⟨fun h => h.2,fun h => ⟨hm x h,h⟩⟩
   refine ⟨(V.map (·.1)).filter (fun x => decide (x ∈ K)),mem_cliques.2 ⟨List.filter_sublist, ?_, ?_, ?_⟩,fun x hx => (hmem x).2 hx⟩
   ·obtain ⟨x,hx⟩ := List.exists_mem_of_ne_nil K hne
    exact List.ne_nil_of_mem ((hmem x).2 hx)
   ·exact (clqR_any hi).2 ⟨hIn.filter _,fun x hx => (List.mem_filter.1 hx).1,fun x hx y hy => hc x ((hmem x).1 hx) y ((hmem y).1 hy)⟩
   ·intro v hv
    rw [hmem]
    by_cases hvk : v ∈ K
    ·exact .inl hvk
    ·right
     intro h
     have h2 := (clq_snoc hi (hIn.filter _) (fun x hx => (List.mem_filter.1 hx).1) (fun x hx y hy => hc x ((hmem x).1 hx) y ((hmem y).1 hy)) hv (fun h => hvk ((hmem v).1 h))).1 h
     exact hex ⟨v,hv,hvk,fun x hx => h2 x ((hmem x).2 hx)⟩
noncomputable def mostR (V : List (Int × Thing)) (E : List ((Int × Int) × Thing)) : Int := (cliquesR V E).foldl (fun m K => max m (K.length : Int)) 0
theorem fold_len_ge : ∀ (l : List (List Int)) (m : Int),m ≤ l.foldl (fun m K => max m (K.length : Int)) m ∧ ∀ K ∈ l,(K.length : Int) ≤ l.foldl (fun m K => max m (K.length : Int)) m
 | [],m => ⟨Int.le_refl _,fun x hx => by cases hx⟩
 | a :: r,m => by
  obtain ⟨h1,h2⟩ := fold_len_ge r (max m (a.length : Int))
  rw [List.foldl_cons]
  refine ⟨by omega,fun K hK => ?_⟩
  rcases List.mem_cons.1 hK with rfl | hK
  ·omega
  ·exact h2 K hK
theorem fold_len_le {c : Int} : ∀ (l : List (List Int)) (m : Int),m ≤ c → (∀ K ∈ l,(K.length : Int) ≤ c) → l.foldl (fun m K => max m (K.length : Int)) m ≤ c
 | [],m,h,_ => h
 | a :: r,m,h,h2 => by
  rw [List.foldl_cons]
  have := h2 a (by simp)
  exact fold_len_le r _ (by omega) (fun K hK => h2 K (by simp [hK]))
theorem most_col (hi : GInv V E) {o : List Int} (hn : o.Nodup) (hm : ∀ x,x ∈ o ↔ x ∈ V.map (·.1)) (hp : Peo E o) : mostR V E = (colS E o).2 := by
 have h1 : mostR V E ≤ (colS E o).2 := fold_len_le _ _ (colS_inv hi o hn).many fun K hK => by
  obtain ⟨hs,_,hc,_⟩ := mem_cliques.1 hK
  obtain ⟨h1,h2,h3⟩ := (clqR_any hi).1 hc
  exact clique_col hi hn h1 (fun x hx => (hm x).2 (h2 x hx)) h3
 obtain ⟨K,k1,k2,k3,k4⟩ := col_clique hi o hn hp
 have h2 := fold_len_ge (cliquesR V E) 0
 have h3 : (colS E o).2 ≤ mostR V E := by
  by_cases hK : K = []
  ·subst hK
   have : (0 : Int) ≤ mostR V E := h2.1
   simp at k4
   omega
  ·obtain ⟨M,hM,hs⟩ := clique_in hi (V.map (·.1)).length K (by omega) hK k1 (fun x hx => (hm x).1 (k2 x hx)) k3
   have h5 := len_le_sub K M k1 hs
   have h6 := h2.2 M hM
   unfold mostR
   omega
 omega
end
end Go.Proofs.YtmfkkkhddigkfaaGreatDoor
