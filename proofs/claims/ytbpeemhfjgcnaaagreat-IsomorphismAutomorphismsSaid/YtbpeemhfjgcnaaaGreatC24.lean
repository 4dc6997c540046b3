/- Parts of a proof, laid together. Each part says its own conditions. -/
import Derived.Test.YtbpeemhfjgcnaaaGreatC23
import Derived.Test.YtbpeemhfjgcnaaaGreatC17
import Derived.Test.YtbpeemhfjgcnaaaGreatC22
import Derived.Test.YtbpeemhfjgcnaaaGreatC16
import Derived.Test.YtbpeemhfjgcnaaaGreatC20
namespace Go.Proofs.YtbpeemhfjgcnaaaGreat
def idsV (V : List (Int × Thing)) : List Int := V.map (·.1)
def renV (V : List (Int × Thing)) (to : List Int) : List (Int × Thing) := List.zipWith (fun p n => (n,p.2)) V to
def renE (E : List ((Int × Int) × Thing)) (ids to : List Int) : List ((Int × Int) × Thing) := E.map fun e => ((tr ids to e.1.1,tr ids to e.1.2),e.2)
section
variable {V V' : List (Int × Thing)} {E E' : List ((Int × Int) × Thing)} {to : List Int}
theorem GInv.idsS (hi : GInv V E) : (idsV V).Pairwise (· < ·) := List.pairwise_map.2 (hi.sv.imp fun {_ _} h => h)
theorem GInv.idsN (hi : GInv V E) : (idsV V).Nodup := hi.idsS.imp fun {a b} h e => by omega
theorem idsV_len : (idsV V).length = V.length := List.length_map _
theorem renV_ids : ∀ (V : List (Int × Thing)) (to : List Int),to.length = V.length → (renV V to).map (·.1) = to
 | [],[],_ => rfl
 | [],_ :: _,h => by simp at h
 | _ :: _,[],h => by simp at h
 | p :: V,n :: to,h => by
  have ih := renV_ids V to (by simpa using h)
  unfold renV at ih ⊢
  rw [List.zipWith_cons_cons,List.map_cons,ih]
theorem mem_renV {q : Int × Thing} (h : q ∈ renV V to) : q.1 ∈ to ∧ ∃ p ∈ V,q.2 = p.2 := by
 unfold renV at h
 obtain ⟨i,hi,e⟩ := List.mem_iff_getElem.1 h
 rw [List.getElem_zipWith] at e
 rw [← e]
 exact ⟨List.getElem_mem _,_,List.getElem_mem _,rfl⟩
theorem bet_iff (hi : GInv V E) {u v : Int} {t : Thing} : betE E u v = some t ↔ ((min u v,max u v),t) ∈ E := by
 unfold betE
 have hk : ∀ e ∈ E,isE u v e = true ↔ e.1 = (min u v,max u v) := fun e he => by
  have hlo := hi.lo e he
  unfold isE
  simp only [Bool.or_eq_true,Bool.and_eq_true,beq_iff_eq]
  constructor
  ·intro h
   refine Prod.ext ?_ ?_ <;> simp only <;> omega
  ·intro h
   have h1 : e.1.1 = min u v := by rw [h]
   have h2 : e.1.2 = max u v := by rw [h]
   omega
 have hn : (E.map (·.1)).Nodup := List.pairwise_map.2 (hi.se.imp fun {a b} h e => by
  rcases h with h | ⟨_,h⟩
  ·rw [e] at h; omega
  ·rw [e] at h; omega)
 constructor
 ·intro h
  rw [Option.map_eq_some_iff] at h
  obtain ⟨e,h1,h2⟩ := h
  have hm := List.mem_of_find?_eq_some h1
  have := (hk e hm).1 (List.find?_some h1)
  rw [← this, ← h2]
  exact hm
 ·intro hm
  cases hf : E.find? (isE u v) with
  | none =>
   rw [List.find?_eq_none] at hf
   exact absurd ((hk _ hm).2 rfl) (hf _ hm)
  | some e =>
   have he := List.mem_of_find?_eq_some hf
   have h1 := (hk e he).1 (List.find?_some hf)
   have h2 : e = ((min u v,max u v),t) := by
    obtain ⟨i,hil,ei⟩ := List.mem_iff_getElem.1 he
    obtain ⟨j,hjl,ej⟩ := List.mem_iff_getElem.1 hm
    have : i = j := (List.getElem_inj (xs := E.map (·.1)) (h₀ := by simpa using hil) (h₁ := by simpa using hjl) hn).1 (by rw [List.getElem_map,List.getElem_map,ei,ej]; exact h1)
    subst this
    rw [← ei,ej]
   rw [h2]; rfl
theorem th_mem (hi : GInv V E) {u : Int} {t : Thing} (h : (u,t) ∈ V) : thV V u = t := by
 unfold thV
 cases hf : V.find? (fun p => p.1 == u) with
 | none =>
  rw [List.find?_eq_none] at hf
  exact absurd (by simp) (hf _ h)
 | some p =>
  have hp := List.mem_of_find?_eq_some hf
  have h1 : p.1 = u := by have := List.find?_some hf; simpa using this
  have hn := hi.idsN
  unfold idsV at hn
  obtain ⟨i,hil,ei⟩ := List.mem_iff_getElem.1 hp
  obtain ⟨j,hjl,ej⟩ := List.mem_iff_getElem.1 h
  have : i = j := (List.getElem_inj (xs := V.map (·.1)) (h₀ := by simpa using hil) (h₁ := by simpa using hjl) hn).1 (by rw [List.getElem_map,List.getElem_map,ei,ej]; exact h1)
  subst this
  have : p = (u,t) := by rw [← ei,ej]
  rw [this]; rfl
theorem th_at (hi : GInv V E) {i : Nat} (h : i < V.length) : thV V V[i].1 = V[i].2 := th_mem hi (List.getElem_mem h)
structure OkTo (V : List (Int × Thing)) (to : List Int) : Prop where
 len : to.length = V.length
 nd : to.Nodup
 rng : ∀ x ∈ to,0 ≤ x ∧ x ≤ 1023
theorem ids_mem (hi : GInv V E) {e : (Int × Int) × Thing} (he : e ∈ E) : e.1.1 ∈ idsV V ∧ e.1.2 ∈ idsV V := by
 obtain ⟨⟨t,h1⟩,s,h2⟩ := hi.ends e he
 exact ⟨List.mem_map.2 ⟨_,h1,rfl⟩,List.mem_map.2 ⟨_,h2,rfl⟩⟩
theorem tr_mem (hi : GInv V E) (ho : OkTo V to) {u : Int} (hu : u ∈ idsV V) : tr (idsV V) to u ∈ to := by
 obtain ⟨i,hil,e⟩ := mem_at hu
 have : i < to.length := by rw [ho.len, ← idsV_len]; exact hil
 rw [← e,tr_at hi.idsN hil,getD_at this]
 exact List.getElem_mem _
theorem tr_inj (hi : GInv V E) (ho : OkTo V to) {u v : Int} (hu : u ∈ idsV V) (hv : v ∈ idsV V) (h : tr (idsV V) to u = tr (idsV V) to v) : u = v := by
 obtain ⟨i,hil,e⟩ := mem_at hu
 obtain ⟨j,hjl,f⟩ := mem_at hv
 have h1 : i < to.length := by rw [ho.len, ← idsV_len]; exact hil
 have h2 : j < to.length := by rw [ho.len, ← idsV_len]; exact hjl
 rw [← e, ← f,tr_at hi.idsN hil,tr_at hi.idsN hjl,getD_at h1,getD_at h2] at h
 have := (List.getElem_inj ho.nd).1 h
 rw [← e, ← f,this]
structure IsRen (V : List (Int × Thing)) (E : List ((Int × Int) × Thing)) (to : List Int) (V2 : List (Int × Thing)) (E2 : List ((Int × Int) × Thing)) : Prop where
 inv : GInv V2 E2
 pv : V2.Perm (renV V to)
 pe : E2.Perm ((renE E (idsV V) to).map normE)
theorem ren_keys (hi : GInv V E) (ho : OkTo V to) : (((renE E (idsV V) to).map normE).map (·.1)).Nodup := by
 have hn : (E.map (·.1)).Nodup := List.pairwise_map.2 (hi.se.imp fun {a b} h e => by
  rcases h with h | ⟨_,h⟩
  ·rw [e] at h; omega
  ·rw [e] at h; omega)
 unfold renE
 rw [List.map_map,List.map_map]
 refine List.pairwise_map.2 ((List.pairwise_map.1 hn).imp_of_mem fun {a b} ha hb hab e => hab ?_)
 obtain ⟨a1,a2⟩ := ids_mem hi ha
 obtain ⟨b1,b2⟩ := ids_mem hi hb
 have la := hi.lo a ha
 have lb := hi.lo b hb
 simp only [Function.comp,normE,Prod.mk.injEq] at e
 have key : (tr (idsV V) to a.1.1 = tr (idsV V) to b.1.1 ∧ tr (idsV V) to a.1.2 = tr (idsV V) to b.1.2) ∨ (tr (idsV V) to a.1.1 = tr (idsV V) to b.1.2 ∧ tr (idsV V) to a.1.2 = tr (idsV V) to b.1.1) := by omega
 rcases key with ⟨h1,h2⟩ | ⟨h1,h2⟩
 ·exact Prod.ext (tr_inj hi ho a1 b1 h1) (tr_inj hi ho a2 b2 h2)
 ·have h3 := tr_inj hi ho a1 b2 h1
  have h4 := tr_inj hi ho a2 b1 h2
  omega
theorem ren_build (hi : GInv V E) (ho : OkTo V to) (Es : List ((Int × Int) × Thing)) (hEs : Es.map normE = (renE E (idsV V) to).map normE) (hm : ∀ x ∈ Es, ∃ e ∈ E,(x.1 = (tr (idsV V) to e.1.1,tr (idsV V) to e.1.2) ∨ x.1 = (tr (idsV V) to e.1.2,tr (idsV V) to e.1.1)) ∧ x.2 = e.2) : ∃ V2 E2,bErr (renV V to) Es = 0 ∧ bS (renV V to) Es = (V2,E2) ∧ IsRen V E to V2 E2 := by
 obtain ⟨S,h1,h2,h3,h4⟩ := orderV (renV V to) [] GInv.nil (fun p hp => by
  obtain ⟨h1,q,hq,h2⟩ := mem_renV hp
  have := ho.rng _ h1
  refine ⟨?_,by rw [h2]; exact hi.wv q hq⟩
  unfold idB
  simp
  omega) (by rw [List.nil_append,renV_ids V to ho.len]; exact ho.nd)
 rw [List.nil_append] at h2
 have hmem : ∀ x,x ∈ to → hasV x S = true := fun x hx => by
  rw [← renV_ids V to ho.len] at hx
  obtain ⟨p,hp,e⟩ := List.mem_map.1 hx
  exact hasV_true (t := p.2) (by rw [← e]; exact h2.mem_iff.2 hp)
 obtain ⟨S2,k1,k2,k3,k4⟩ := orderE S Es [] h3 (fun p hp => by
  obtain ⟨e,he,h5,h6⟩ := hm p hp
  obtain ⟨a1,a2⟩ := ids_mem hi he
  have hlo := hi.lo e he
  have hne : tr (idsV V) to e.1.1 ≠ tr (idsV V) to e.1.2 := fun h => by have := tr_inj hi ho a1 a2 h; omega
  rcases h5 with h5 | h5
  ·rw [h5]
   exact ⟨hmem _ (tr_mem hi ho a1),hmem _ (tr_mem hi ho a2),hne,by rw [h6]; exact hi.we e he⟩
  ·rw [h5]
   exact ⟨hmem _ (tr_mem hi ho a2),hmem _ (tr_mem hi ho a1),hne.symm,by rw [h6]; exact hi.we e he⟩) (by rw [List.nil_append,hEs]; exact ren_keys hi ho) (by
  have h7 := congrArg List.length hEs
  unfold renE at h7
  simp only [List.length_map] at h7
  have := hi.ne
  simp only [List.length_nil]
  omega)
 rw [List.nil_append,hEs] at k2
 have e1 : bS1 (renV V to) = (S,[]) := h1
 refine ⟨S,S2, ?_, ?_,k3,h2,k2⟩
 ·unfold bErr
  rw [if_pos h4,e1]
  exact k4
 ·unfold bS
  rw [e1]
  exact k1
theorem norm_norm (p : (Int × Int) × Thing) : normE (normE p) = normE p := by
 unfold normE
 refine Prod.ext (Prod.ext ?_ ?_) rfl <;> simp only <;> omega
theorem ren_raw (hi : GInv V E) (ho : OkTo V to) : ∃ V2 E2,bErr (renV V to) (renE E (idsV V) to) = 0 ∧ bS (renV V to) (renE E (idsV V) to) = (V2,E2) ∧ IsRen V E to V2 E2 :=
 ren_build hi ho _ rfl fun x hx => by
  obtain ⟨e,he,h⟩ := List.mem_map.1 hx
  exact ⟨e,he, .inl (by rw [← h]),by rw [← h]⟩
theorem ren_norm (hi : GInv V E) (ho : OkTo V to) : ∃ V2 E2,bErr (renV V to) ((renE E (idsV V) to).map normE) = 0 ∧ bS (renV V to) ((renE E (idsV V) to).map normE) = (V2,E2) ∧ IsRen V E to V2 E2 :=
 ren_build hi ho _ (by rw [List.map_map]; exact List.map_congr_left fun x _ => norm_norm x) fun x hx => by
  obtain ⟨y,hy,h⟩ := List.mem_map.1 hx
  obtain ⟨e,he,h2⟩ := List.mem_map.1 hy
  refine ⟨e,he, ?_,by rw [← h, ← h2]; rfl⟩
  rw [← h, ← h2]
  unfold normE
  simp only
  by_cases hle : tr (idsV V) to e.1.1 ≤ tr (idsV V) to e.1.2
  ·exact .inl (Prod.ext (by simp only; omega) (by simp only; omega))
  ·exact .inr (Prod.ext (by simp only; omega) (by simp only; omega))
theorem ltE_anti {a b : (Int × Int) × Thing} (h1 : ltE a b) (h2 : ltE b a) : a = b := by
 unfold ltE at h1 h2
 omega
theorem IsRen.ids {V2 : List (Int × Thing)} {E2 : List ((Int × Int) × Thing)} (h : IsRen V E to V2 E2) (ho : OkTo V to) : (idsV V2).Perm to := by
 have := h.pv.map (·.1)
 rwa [renV_ids V to ho.len] at this
theorem IsRen.th {V2 : List (Int × Thing)} {E2 : List ((Int × Int) × Thing)} (h : IsRen V E to V2 E2) (hi : GInv V E) (ho : OkTo V to) {i : Nat} (hil : i < V.length) : thV V2 (to.getD i 0) = thV V V[i].1 := by
 have h2 : i < to.length := by rw [ho.len]; exact hil
 rw [th_at hi hil]
 refine th_mem h.inv (h.pv.mem_iff.2 ?_)
 unfold renV
 refine List.mem_iff_getElem.2 ⟨i,by rw [List.length_zipWith]; omega, ?_⟩
 rw [List.getElem_zipWith,getD_at h2]
theorem IsRen.bet {V2 : List (Int × Thing)} {E2 : List ((Int × Int) × Thing)} (h : IsRen V E to V2 E2) (hi : GInv V E) (ho : OkTo V to) {u v : Int} (hu : u ∈ idsV V) (hv : v ∈ idsV V) : betE E2 (tr (idsV V) to u) (tr (idsV V) to v) = betE E u v := by
 have key : ∀ t,betE E2 (tr (idsV V) to u) (tr (idsV V) to v) = some t ↔ betE E u v = some t := fun t => by
  rw [bet_iff h.inv,bet_iff hi,h.pe.mem_iff]
  constructor
  ·intro hm
   obtain ⟨y,hy,h1⟩ := List.mem_map.1 hm
   obtain ⟨e,he,h2⟩ := List.mem_map.1 hy
   obtain ⟨a1,a2⟩ := ids_mem hi he
   have hlo := hi.lo e he
   rw [← h2] at h1
   unfold normE at h1
   simp only [Prod.mk.injEq] at h1
   have hc : (tr (idsV V) to e.1.1 = tr (idsV V) to u ∧ tr (idsV V) to e.1.2 = tr (idsV V) to v) ∨ (tr (idsV V) to e.1.1 = tr (idsV V) to v ∧ tr (idsV V) to e.1.2 = tr (idsV V) to u) := by omega
   have hc2 : e.1 = (min u v,max u v) := by
    rcases hc with ⟨h3,h4⟩ | ⟨h3,h4⟩
    ·have h5 := tr_inj hi ho a1 hu h3
     have h6 := tr_inj hi ho a2 hv h4
     exact Prod.ext (by simp only; omega) (by simp only; omega)
    ·have h5 := tr_inj hi ho a1 hv h3
     have h6 := tr_inj hi ho a2 hu h4
     exact Prod.ext (by simp only; omega) (by simp only; omega)
   rw [← hc2, ← h1.2]
   exact he
  ·intro hm
   refine List.mem_map.2 ⟨_,List.mem_map.2 ⟨_,hm,rfl⟩, ?_⟩
   unfold normE
   simp only [Prod.mk.injEq]
   rcases Int.le_total u v with h1 | h1
   ·rw [Int.min_eq_left h1,Int.max_eq_right h1]; exact ⟨⟨rfl,rfl⟩,trivial⟩
   ·rw [Int.min_eq_right h1,Int.max_eq_left h1]; exact ⟨⟨by omega,by omega⟩,trivial⟩
 cases hc : betE E u v with
 | some t => exact (key t).2 hc
 | none =>
  cases hd : betE E2 (tr (idsV V) to u) (tr (idsV V) to v) with
  | none => rfl
  | some t => rw [(key t).1 hd] at hc; cases hc
theorem IsRen.code {V2 : List (Int × Thing)} {E2 : List ((Int × Int) × Thing)} (h : IsRen V E to V2 E2) (hi : GInv V E) (ho : OkTo V to) : codeR V2 E2 to = codeR V E (idsV V) := by
 have hl : to.length = (idsV V).length := by rw [ho.len,idsV_len]
 have hg : ∀ i (hil : i < V.length),(idsV V).getD i 0 = V[i].1 := fun i hil => by
  rw [getD_at (by rw [idsV_len]; exact hil)]
  unfold idsV
  rw [List.getElem_map]
 refine (codeR_inj hl).2 ⟨List.ext_getElem (by simp [hl]) fun i h1 h2 => ?_,(pairsL_iff hl).2 fun i j hij hj hj' => ?_⟩
 ·have h3 : i < to.length := by simpa using h1
  have h4 : i < V.length := by rw [← ho.len]; exact h3
  have := h.th hi ho h4
  rw [getD_at h3] at this
  rw [List.getElem_map,List.getElem_map,this]
  unfold idsV
  rw [List.getElem_map]
 ·have h5 : i < (idsV V).length := by omega
  have := h.bet hi ho (u := (idsV V).getD i 0) (v := (idsV V).getD j 0) (by rw [getD_at h5]; exact List.getElem_mem _) (by rw [getD_at hj']; exact List.getElem_mem _)
  rw [tr_at hi.idsN h5,tr_at hi.idsN hj',getD_at h5,getD_at hj',getD_at (by omega : i < to.length),getD_at hj] at this
  exact this
def atP (p ids : List Int) : List Int := ids.map fun u => (p.idxOf u : Int)
theorem atP_ok (hi : GInv V E) {p : List Int} (hp : p.Perm (idsV V)) (hl : V.length ≤ 1024) : OkTo V (atP p (idsV V)) := by
 have hlp : p.length = V.length := by rw [hp.length_eq,idsV_len]
 have hlt : ∀ u ∈ idsV V,p.idxOf u < p.length := fun u hu => List.idxOf_lt_length_of_mem (hp.mem_iff.2 hu)
 refine ⟨by unfold atP; rw [List.length_map,idsV_len], ?_,fun x hx => ?_⟩
 ·unfold atP
  refine List.pairwise_map.2 (hi.idsN.imp_of_mem fun {a b} ha hb hab e => hab ?_)
  have e : p.idxOf a = p.idxOf b := by omega
  have h1 := List.getElem_idxOf (hlt a ha)
  have h2 := List.getElem_idxOf (hlt b hb)
  rw [← h1, ← h2]
  simp only [e]
 ·unfold atP at hx
  obtain ⟨u,hu,e⟩ := List.mem_map.1 hx
  have := hlt u hu
  omega
def upto (n : Nat) : List Int := (List.range n).map fun i : Nat => (i : Int)
theorem upto_len (n : Nat) : (upto n).length = n := by unfold upto; simp
theorem upto_get {n i : Nat} (h : i < (upto n).length) : (upto n)[i] = (i : Int) := by simp [upto]
theorem atP_get {p l : List Int} {i : Nat} (h : i < (atP p l).length) (h2 : i < l.length) : (atP p l)[i] = (p.idxOf l[i] : Int) := by simp [atP]
theorem upto_at {n i : Nat} (h : i < n) : (upto n).getD i 0 = (i : Int) := by
 rw [getD_at (by rw [upto_len]; exact h),upto_get]
theorem upto_sorted (n : Nat) : (upto n).Pairwise (· < ·) := List.pairwise_map.2 (List.pairwise_lt_range.imp fun {a b} h => by omega)
theorem atP_perm (hi : GInv V E) {p : List Int} (hp : p.Perm (idsV V)) : (atP p (idsV V)).Perm (upto V.length) := by
 have hpn := hp.nodup_iff.2 hi.idsN
 have h1 : (atP p (idsV V)).Perm (p.map fun u => (p.idxOf u : Int)) := (hp.symm.map _)
 refine h1.trans (List.Perm.of_eq ?_)
 refine List.ext_getElem (by rw [List.length_map,upto_len,hp.length_eq,idsV_len]) fun i h2 h3 => ?_
 rw [List.getElem_map,upto_get,List.Nodup.idxOf_getElem hpn]
theorem sortedI_eq {l m : List Int} (hl : l.Pairwise (· < ·)) (hm : m.Pairwise (· < ·)) (h : l.Perm m) : l = m := List.Perm.eq_of_pairwise (le := (· < ·)) (fun a b _ _ h1 h2 => by omega) hl hm h
theorem form_code {V2 : List (Int × Thing)} {E2 : List ((Int × Int) × Thing)} (hi : GInv V E) {p : List Int} (hp : p.Perm (idsV V)) (hl : V.length ≤ 1024) (h : IsRen V E (atP p (idsV V)) V2 E2) : idsV V2 = upto V.length ∧ codeR V2 E2 (upto V.length) = codeR V E p := by
 have ho := atP_ok hi hp hl
 have hpn := hp.nodup_iff.2 hi.idsN
 have hids : idsV V2 = upto V.length := sortedI_eq h.inv.idsS (upto_sorted _) ((h.ids ho).trans (atP_perm hi hp))
 refine ⟨hids, ?_⟩
 have hc := h.code hi ho
 have hlen : (idsV V).length = (atP p (idsV V)).length := by rw [ho.len,idsV_len]
 have := carry_perm hi.idsN hlen hc.symm hp
 rw [this]
 congr 1
 refine List.ext_getElem (by rw [upto_len,List.length_map,hp.length_eq,idsV_len]) fun i h1 h2 => ?_
 have hil : i < p.length := by simpa using h2
 rw [List.getElem_map]
 obtain ⟨j,hj,e⟩ := mem_at (hp.mem_iff.1 (List.getElem_mem hil))
 rw [← e,tr_at hi.idsN hj,getD_at (by omega : j < (atP p (idsV V)).length),atP_get _ hj,upto_get]
 rw [getD_at hj] at e
 rw [e,List.Nodup.idxOf_getElem hpn]
theorem code_det {n : Nat} (hi : GInv V E) (hi' : GInv V' E') (h1 : idsV V = upto n) (h2 : idsV V' = upto n) (hc : codeR V E (upto n) = codeR V' E' (upto n)) : V = V' ∧ E = E' := by
 obtain ⟨h3,h4⟩ := (codeR_inj rfl).1 hc
 have hlV : V.length = n := by rw [← idsV_len,h1,upto_len]
 have hlV' : V'.length = n := by rw [← idsV_len,h2,upto_len]
 rw [pairsL_iff rfl] at h4
 constructor
 ·refine List.ext_getElem (by omega) fun i k1 k2 => ?_
  have e1 : V[i].1 = (i : Int) := by
   have := upto_at (n := n) (i := i) (by omega)
   rw [← h1,getD_at (by rw [idsV_len]; exact k1)] at this
   unfold idsV at this
   rwa [List.getElem_map] at this
  have e2 : V'[i].1 = (i : Int) := by
   have := upto_at (n := n) (i := i) (by omega)
   rw [← h2,getD_at (by rw [idsV_len]; exact k2)] at this
   unfold idsV at this
   rwa [List.getElem_map] at this
  have e3 := congrArg (fun l => l[i]?) h3
  have hiu : i < (upto n).length := by rw [upto_len]; omega
  simp only [List.getElem?_map,List.getElem?_eq_getElem hiu,Option.map_some,Option.some.injEq] at e3
  have e4 : (upto n)[i] = (i : Int) := by rw [← getD_at hiu]; exact upto_at (by omega)
  rw [e4] at e3
  refine Prod.ext (by rw [e1,e2]) ?_
  rw [← th_at hi k1, ← th_at hi' k2,e1,e2]
  exact e3
 ·have hb : ∀ u v,u ∈ upto n → v ∈ upto n → u < v → betE E u v = betE E' u v := fun u v hu hv huv => by
   obtain ⟨i,hi1,ei⟩ := mem_at hu
   obtain ⟨j,hj1,ej⟩ := mem_at hv
   have hij : i < j := by
    rw [upto_len] at hi1 hj1
    rw [upto_at hi1] at ei
    rw [upto_at hj1] at ej
    omega
   rw [← ei, ← ej,getD_at hi1,getD_at hj1]
   exact h4 i j hij hj1 hj1
  have hmem : ∀ e,e ∈ E ↔ e ∈ E' := fun e => by
   constructor
   ·intro he
    obtain ⟨a1,a2⟩ := ids_mem hi he
    have hlo := hi.lo e he
    have := hb e.1.1 e.1.2 (h1 ▸ a1) (h1 ▸ a2) hlo
    have h5 : betE E e.1.1 e.1.2 = some e.2 := (bet_iff hi).2 (by rw [Int.min_eq_left (by omega),Int.max_eq_right (by omega)]; exact he)
    rw [h5] at this
    have h6 := (bet_iff hi').1 this.symm
    rw [Int.min_eq_left (by omega),Int.max_eq_right (by omega)] at h6
    exact h6
   ·intro he
    obtain ⟨a1,a2⟩ := ids_mem hi' he
    have hlo := hi'.lo e he
    have := hb e.1.1 e.1.2 (h2 ▸ a1) (h2 ▸ a2) hlo
    have h5 : betE E' e.1.1 e.1.2 = some e.2 := (bet_iff hi').2 (by rw [Int.min_eq_left (by omega),Int.max_eq_right (by omega)]; exact he)
    rw [h5] at this
    have h6 := (bet_iff hi).1 this
    rw [Int.min_eq_left (by omega),Int.max_eq_right (by omega)] at h6
    exact h6
  have nd : ∀ {V : List (Int × Thing)} {E : List ((Int × Int) × Thing)},GInv V E → E.Nodup := fun hi => hi.se.imp fun {a b} h e => by
   subst e
   unfold ltE at h
   omega
  exact List.Perm.eq_of_pairwise (le := ltE) (fun a b _ _ h1 h2 => ltE_anti h1 h2) hi.se hi'.se ((List.perm_ext_iff_of_nodup (nd hi) (nd hi')).2 hmem)
structure IsCan (V : List (Int × Thing)) (E : List ((Int × Int) × Thing)) (V2 : List (Int × Thing)) (E2 : List ((Int × Int) × Thing)) : Prop where
 ren : IsRen V E (atP (formP V E (idsV V)) (idsV V)) V2 E2
theorem can_iff {V2 V2' : List (Int × Thing)} {E2 E2' : List ((Int × Int) × Thing)} (hi : GInv V E) (hi' : GInv V' E') (hl : V.length ≤ 1024) (hl' : V'.length ≤ 1024) (h : IsCan V E V2 E2) (h' : IsCan V' E' V2' E2') : (V2 = V2' ∧ E2 = E2') ↔ mapsP V E (idsV V) V' E' (idsV V') ≠ [] := by
 have f := formP_is V E hi.idsS
 have f' := formP_is V' E' hi'.idsS
 obtain ⟨a1,a2⟩ := form_code hi f.perm hl h.ren
 obtain ⟨b1,b2⟩ := form_code hi' f'.perm hl' h'.ren
 rw [iso_form hi.idsS hi'.idsS,idsV_len,idsV_len]
 constructor
 ·rintro ⟨h1,h2⟩
  subst h1
  subst h2
  have hn : V.length = V'.length := by
   have := congrArg List.length (a1.symm.trans b1)
   rwa [upto_len,upto_len] at this
  exact ⟨hn,by rw [← a2, ← b2,hn]⟩
 ·rintro ⟨hn,hc⟩
  rw [← hn] at b1 b2
  exact code_det h.ren.inv h'.ren.inv a1 b1 (by rw [a2,b2,hc])
end
end Go.Proofs.YtbpeemhfjgcnaaaGreat
namespace Go.Proofs.YtbpeemhfjgcnaaaGreat
open Go Go.RowKit
theorem insS_mem {α : Type} (gt : α → Bool) (x : α) : ∀ (l : List α) (s : Bool × List α) (y : α),y ∈ (l.foldl (insS gt x) s).2 → y ∈ s.2 ∨ y ∈ l ∨ y = x
 | [],s,y,h => .inl h
 | z :: l,s,y,h => by
  rw [List.foldl_cons] at h
  rcases insS_mem gt x l _ y h with h | h | h
  ·unfold insS at h
   split at h
   ·simp only [List.mem_append,List.mem_singleton] at h
    rcases h with (h | h) | h
    ·exact .inl h
    ·exact .inr (.inr h)
    ·exact .inr (.inl (by simp [h]))
   ·simp only [List.mem_append,List.mem_singleton] at h
    rcases h with h | h
    ·exact .inl h
    ·exact .inr (.inl (by simp [h]))
  ·exact .inr (.inl (List.mem_cons_of_mem _ h))
  ·exact .inr (.inr h)
theorem insF_mem {α : Type} {gt : α → Bool} {x y : α} {l : List α} (h : y ∈ insF gt x l) : y ∈ l ∨ y = x := by
 unfold insF at h
 split at h
 ·rcases insS_mem gt x l _ y h with h | h | h
  ·cases h
  ·exact .inl h
  ·exact .inr h
 ·rcases List.mem_append.1 h with h | h
  ·rcases insS_mem gt x l _ y h with h | h | h
   ·cases h
   ·exact .inl h
   ·exact .inr h
  ·exact .inr (by simpa using h)
def okL (n : Int) : Prop := 0 ≤ n ∧ n ≤ 255
theorem lab_V {op u lab wt : Int} {V : List (Int × Thing)} (hl : okL lab) (h : ∀ p ∈ V,okL p.2.1) : ∀ p ∈ refV op u lab wt V,okL p.2.1 := by
 intro p hp
 unfold refV at hp
 split at hp
 ·rcases insF_mem hp with hp | hp
  ·exact h p hp
  ·subst hp; exact hl
 ·split at hp
  ·exact h p hp
  ·obtain ⟨x,hx,hp⟩ := List.mem_flatMap.1 hp
   unfold fV at hp
   repeat' split at hp
   all_goals (simp only [List.not_mem_nil,List.mem_singleton] at hp)
   ·subst hp; exact hl
   ·subst hp; exact h x hx
   ·subst hp; exact h p hx
theorem lab_E {op u v lab wt : Int} {E : List ((Int × Int) × Thing)} (hl : okL lab) (h : ∀ p ∈ E,okL p.2.1) : ∀ p ∈ refE op u v lab wt E,okL p.2.1 := by
 intro p hp
 unfold refE at hp
 split at hp
 ·exact h p hp
 ·split at hp
  ·rcases insF_mem hp with hp | hp
   ·exact h p hp
   ·subst hp; exact hl
  ·obtain ⟨x,hx,hp⟩ := List.mem_flatMap.1 hp
   have hxE : x.1 ∈ E := by
    have h9 : x.1 ∈ E.zipIdx.map Prod.fst := List.mem_map.2 ⟨x,hx,rfl⟩
    rw [List.zipIdx_map_fst] at h9
    exact h9
   unfold fE at hp
   repeat' split at hp
   all_goals (simp only [List.not_mem_nil,List.mem_singleton] at hp)
   ·subst hp; exact hl
   ·subst hp; exact h x.1 hxE
   ·subst hp; exact h x.1 hxE
def okB (d : Ed) : Prop := okD d ∧ 0 ≤ d.2.2.2.1 ∧ d.2.2.2.1 ≤ 255
theorem lab_next {V : List (Int × Thing)} {E : List ((Int × Int) × Thing)} (h : LabB V E) (d : Ed) (hd : 0 ≤ d.2.2.2.1 ∧ d.2.2.2.1 ≤ 255) : LabB (stD (V,E) d).1 (stD (V,E) d).2 := by
 unfold stD nxV nxE
 dsimp only
 by_cases hw : wrongR d.1 d.2.1 d.2.2.1 d.2.2.2.2 V E = 0
 ·rw [if_pos hw,if_pos hw]
  exact ⟨lab_V hd h.1,lab_E hd h.2⟩
 ·rw [if_neg hw,if_neg hw]
  exact h
theorem lab_fold : ∀ (L : List Ed) (s : GS),LabB s.1 s.2 → (∀ d ∈ L,okB d) → LabB (L.foldl stD s).1 (L.foldl stD s).2
 | [],_,h,_ => h
 | d :: L,s,h,ho => lab_fold L (stD s d) (lab_next (V := s.1) (E := s.2) h d (ho d (by simp)).2) fun d hd => ho d (List.mem_cons_of_mem _ hd)
theorem mdS_lab {L : List Ed} (h : ∀ d ∈ L,okB d) : LabB (mdS L).1 (mdS L).2 := lab_fold _ _ ⟨by simp,by simp⟩ fun d hd => h d (List.mem_of_mem_take hd)
theorem ren_lab {V V2 : List (Int × Thing)} {E E2 : List ((Int × Int) × Thing)} {to : List Int} (h : LabB V E) (hr : IsRen V E to V2 E2) : LabB V2 E2 := by
 refine ⟨fun p hp => ?_,fun e he => ?_⟩
 ·obtain ⟨_,q,hq,e⟩ := mem_renV (hr.pv.mem_iff.1 hp)
  rw [e]
  exact h.1 q hq
 ·obtain ⟨x,hx,rfl⟩ := List.mem_map.1 (hr.pe.mem_iff.1 he)
  obtain ⟨y,hy,rfl⟩ := List.mem_map.1 hx
  exact h.2 y hy
section
variable {H : Type} {enc : TypeId × Value → H} {w : World} {base : Nat} {spare : Nat → Bool} {held : Bool} {fuel : Nat} {x : DataW H × List MemPlace} {a : Option Addr} {len cap : Nat}
theorem open_editsB (h : DataW.trod enc Tryz.prog w base spare held fuel 22 [.slice a len cap] = some x) : ∃ L : List Ed,L.length = len ∧ SlAt encD 5 w a L ∧ (∀ d ∈ L,okB d) ∧ len ≤ 9223372036854775807 ∧ len ≤ cap := by
 rcases open_slice_fields Tryz.underlying22 Tryz.underlying57 (by kernel_rfl) (by kernel_rfl) h with h0 | ⟨a',len',cap',n,hcs,hl,hm,hf⟩
 ·simp at h0
  obtain ⟨rfl,rfl,rfl⟩ := h0
  exact ⟨[],rfl,SlAt.nil,by simp,by omega,by omega⟩
 ·simp at hcs
  obtain ⟨rfl,rfl,rfl⟩ := hcs
  obtain ⟨L,h1,h2,h3⟩ := slAt_of (α := Ed) (enc := encD) (k := 5) (w := w) (a := a') (len := len) (p := okB) (fun x => ⟨_,rfl⟩) (fun i hi => by
   obtain ⟨v0,y0,c0,r0⟩ := hf i hi 0 _ rfl
   obtain ⟨v1,y1,c1,r1⟩ := hf i hi 1 _ rfl
   obtain ⟨v2,y2,c2,r2⟩ := hf i hi 2 _ rfl
   obtain ⟨v3,y3,c3,r3⟩ := hf i hi 3 _ rfl
   obtain ⟨v4,y4,c4,r4⟩ := hf i hi 4 _ rfl
   obtain ⟨n0,e0,_,w0⟩ := DataW.trod_int Tryz.underlying3 r0
   obtain ⟨n1,e1,_,w1⟩ := DataW.trod_int Tryz.underlying3 r1
   obtain ⟨n2,e2,_,w2⟩ := DataW.trod_int Tryz.underlying3 r2
   obtain ⟨n3,e3,_,w3⟩ := DataW.trod_int Tryz.underlying5 r3
   obtain ⟨n4,e4,_,w4⟩ := DataW.trod_int Tryz.underlying3 r4
   simp at e0 e1 e2 e3 e4
   subst e0 e1 e2 e3 e4
   refine ⟨(n0,n1,n2,n3,n4),fun j u hu => ?_,⟨i64_of_wf w0,i64_of_wf w1,i64_of_wf w2,i64_of_wf w4⟩,Go.bounds_u8 w3⟩
   match j,hu with
   | 0,hu => simp [encD] at hu; subst hu; exact c0
   | 1,hu => simp [encD] at hu; subst hu; exact c1
   | 2,hu => simp [encD] at hu; subst hu; exact c2
   | 3,hu => simp [encD] at hu; subst hu; exact c3
   | 4,hu => simp [encD] at hu; subst hu; exact c4)
  exact ⟨L,h1,h2,h3,by unfold maxLen at hm; omega,hl⟩
end
end Go.Proofs.YtbpeemhfjgcnaaaGreat
namespace Go.Proofs.YtbpeemhfjgcnaaaGreat
open Go Go.RowKit Go.Shelf
abbrev Sl := Option Addr × Nat × Nat
def encSl (p : Sl) : List Value := [.slice p.1 p.2.1 p.2.2]
theorem one_encSl (p : Sl) : ∀ v ∈ encSl p,v.oneCell' = true := by intro v hv; simp [encSl] at hv; subst hv; rfl
theorem atSl {w : World} {A : Option Addr} {ps : List Sl} (h : SlAt encSl 1 w A ps) {i : Nat} (hi : i < ps.length) : ∃ b off,A = some ⟨b,off,none⟩ ∧ b < w.heap.size ∧ ∀ S W,Keep S w W → b ∉ S → W.cell? ⟨b,off + i,none⟩ = some (.slice ps[i].1 ps[i].2.1 ps[i].2.2) := by
 obtain ⟨b,off,hA,hlt,hc⟩ := h (fun e => by rw [e] at hi; simp at hi)
 refine ⟨b,off,hA,hlt,fun S W hk hn => ?_⟩
 rw [World.cell?_of_block (hk.block b hlt hn)]
 have := hc i _ (List.getElem?_eq_getElem hi) 0 (.slice ps[i].1 ps[i].2.1 ps[i].2.2) rfl
 rw [show off + i * 1 + 0 = off + i by omega] at this
 exact this
def rowJ (p : Sl × List Int) : Rw := (3,1, .slice p.1.1 p.1.2.1 p.1.2.2,p.1.2.1,p.2.flatMap encI)
end Go.Proofs.YtbpeemhfjgcnaaaGreat
