/- Every input makes the law IsomorphismInvariant answer true, and each argument reads behind the call as it read before: the given statement. No condition. -/
import Derived.Test.YtbpeemhfjgcnaaaGreatC21
import Derived.Test.YtbpeemhfjgcnaaaGreatC23
import Derived.Test.YtbpeemhfjgcnaaaGreatC17
import Derived.Test.YtbpeemhfjgcnaaaGreatC24
import Derived.Test.YtbpeemhfjgcnaaaGreatC22
import Derived.Test.YtbpeemhfjgcnaaaGreatC16
import Derived.Test.YtbpeemhfjgcnaaaGreatC38
import Derived.Test.YtbpeemhfjgcnaaaGreatC42
import Derived.WalkKit
import Derived.ProofKit
import Derived.OpenShut
import Derived.ShutString
import Derived.ChangeOld
import Derived.Below
import Derived.Test.YtbpeemhfjgcnaaaGreatC43
namespace Go.Proofs.YtbpeemhfjgcnaaaGreat
section
variable {V V' : List (Int × Thing)} {E E' : List ((Int × Int) × Thing)} {x y p q : List Int}
theorem iso_form {ids ids' : List Int} (hi : ids.Pairwise (· < ·)) (hi' : ids'.Pairwise (· < ·)) : mapsP V E ids V' E' ids' ≠ [] ↔ ids.length = ids'.length ∧ codeR V E (formP V E ids) = codeR V' E' (formP V' E' ids') := by
 have hn : ids.Nodup := hi.imp fun {a b} h e => by omega
 have hn' : ids'.Nodup := hi'.imp fun {a b} h e => by omega
 have f := formP_is V E hi
 have f' := formP_is V' E' hi'
 constructor
 ·intro h
  obtain ⟨q,hq⟩ := List.exists_mem_of_ne_nil _ h
  unfold mapsP at hq
  split at hq
  ·rename_i hl
   obtain ⟨h1,h2⟩ := List.mem_filter.1 hq
   rw [decide_eq_true_eq] at h2
   have hqp := (mem_allN _ _ rfl q).1 h1
   have hqn := hqp.nodup_iff.2 hn'
   refine ⟨hl, ?_⟩
   have hlq : ids.length = q.length := by rw [hqp.length_eq]; exact hl
   have e1 := carry_perm hn hlq h2.symm f.perm
   have p1 : ((formP V E ids).map (tr ids q)).Perm ids' := (tr_perm hn hlq f.perm).trans hqp
   have e2 := carry_perm hqn hlq.symm h2 (f'.perm.trans hqp.symm)
   have p2 : ((formP V' E' ids').map (tr q ids)).Perm ids := tr_perm hqn hlq.symm (f'.perm.trans hqp.symm)
   have le1 : lcmp (codeR V' E' (formP V' E' ids')) (codeR V E (formP V E ids)) ≤ 0 := by
    rw [e1]
    rcases f'.least _ p1 with h | ⟨h,_⟩
    ·omega
    ·rw [h,lcmp_self]; decide
   have le2 : lcmp (codeR V E (formP V E ids)) (codeR V' E' (formP V' E' ids')) ≤ 0 := by
    rw [e2]
    rcases f.least _ p2 with h | ⟨h,_⟩
    ·omega
    ·rw [h,lcmp_self]; decide
   exact lcmp_anti le2 le1
  ·cases hq
 ·rintro ⟨hl,hc⟩
  have hlf : (formP V E ids).length = (formP V' E' ids').length := by rw [f.perm.length_eq,f'.perm.length_eq,hl]
  have hnf := f.perm.nodup_iff.2 hn
  have e := carry_perm hnf hlf hc f.perm.symm
  have p := (tr_perm hnf hlf f.perm.symm).trans f'.perm
  refine List.ne_nil_of_mem (a := ids.map (tr (formP V E ids) (formP V' E' ids'))) ?_
  unfold mapsP
  rw [if_pos hl]
  exact List.mem_filter.2 ⟨(mem_allN _ _ rfl _).2 p,by rw [decide_eq_true_eq]; exact e.symm⟩
theorem auto_le {ids ids' : List Int} (hn : ids.Nodup) (hn' : ids'.Nodup) (hm : q ∈ mapsP V E ids V' E' ids') (hallnd : (mapsP V E ids V E ids).Nodup) : (mapsP V E ids V E ids).length ≤ (mapsP V' E' ids' V' E' ids').length := by
 obtain ⟨hl,hq1,hq2⟩ := mem_mapsP.1 hm
 have hqn := hq1.nodup_iff.2 hn'
 have hlq : ids.length = q.length := by rw [hq1.length_eq]; exact hl
 -- a goes to ids' carried back by q,then by a,then by q
 have := nodup_len_le ((mapsP V E ids V E ids).map fun a => ((ids'.map (tr q ids)).map (tr ids a)).map (tr ids q)) (mapsP V' E' ids' V' E' ids') ?_ ?_
 ·rwa [List.length_map] at this
 ·refine List.pairwise_map.2 (hallnd.imp_of_mem fun {a b} ha hb hab e => hab ?_)
  obtain ⟨_,ha1,_⟩ := mem_mapsP.1 ha
  obtain ⟨_,hb1,_⟩ := mem_mapsP.1 hb
  have p0 : (ids'.map (tr q ids)).Perm ids := tr_perm hqn hlq.symm hq1.symm
  have hla : ids.length = a.length := ha1.length_eq.symm
  have hlb : ids.length = b.length := hb1.length_eq.symm
  have e1 : (ids'.map (tr q ids)).map (tr ids a) = (ids'.map (tr q ids)).map (tr ids b) := by
   have inj : ∀ u ∈ ids, ∀ v ∈ ids,tr ids q u = tr ids q v → u = v := fun u hu v hv h => by
    obtain ⟨i,hi,ei⟩ := mem_at hu
    obtain ⟨j,hj,ej⟩ := mem_at hv
    rw [← ei, ← ej,tr_at hn hi,tr_at hn hj,getD_at (by omega : i < q.length),getD_at (by omega : j < q.length)] at h
    have := (List.getElem_inj hqn).1 h
    rw [← ei, ← ej,this]
   rw [List.map_map,List.map_map] at e
   rw [List.map_map,List.map_map] at e ⊢
   refine List.map_congr_left fun u hu => ?_
   have h := List.map_inj_left.1 e u hu
   have hu2 : tr q ids u ∈ ids := p0.mem_iff.1 (List.mem_map.2 ⟨u,hu,rfl⟩)
   simp only [Function.comp] at h ⊢
   refine inj _ ?_ _ ?_ h
   ·obtain ⟨i,hi,ei⟩ := mem_at hu2
    rw [← ei,tr_at hn hi,getD_at (by omega : i < a.length)]
    exact ha1.mem_iff.1 (List.getElem_mem _)
   ·obtain ⟨i,hi,ei⟩ := mem_at hu2
    rw [← ei,tr_at hn hi,getD_at (by omega : i < b.length)]
    exact hb1.mem_iff.1 (List.getElem_mem _)
  have hpt : ∀ u ∈ ids'.map (tr q ids),tr ids a u = tr ids b u := List.map_inj_left.1 e1
  refine List.ext_getElem (by omega) fun i h1 h2 => ?_
  have hi : i < ids.length := by omega
  have := hpt (ids.getD i 0) (p0.mem_iff.2 (by rw [getD_at hi]; exact List.getElem_mem _))
  rw [tr_at hn hi,tr_at hn hi,getD_at h1,getD_at h2] at this
  exact this
 ·intro z hz
  obtain ⟨a,ha,e⟩ := List.mem_map.1 hz
  obtain ⟨_,ha1,ha2⟩ := mem_mapsP.1 ha
  have hla : ids.length = a.length := ha1.length_eq.symm
  have p0 : (ids'.map (tr q ids)).Perm ids := tr_perm hqn hlq.symm hq1.symm
  have p1 : ((ids'.map (tr q ids)).map (tr ids a)).Perm ids := (tr_perm hn hla p0).trans ha1
  rw [← e]
  refine mem_mapsP.2 ⟨rfl,(tr_perm hn hlq p1).trans hq1, ?_⟩
  rw [← carry_perm hn hlq hq2.symm p1, ← carry_perm hn hla ha2.symm p0]
  exact (carry_perm hqn hlq.symm hq2 hq1.symm).symm
theorem maps_back {ids ids' : List Int} (hn' : ids'.Nodup) (hm : q ∈ mapsP V E ids V' E' ids') : ids'.map (tr q ids) ∈ mapsP V' E' ids' V E ids := by
 obtain ⟨hl,hq1,hq2⟩ := mem_mapsP.1 hm
 have hqn := hq1.nodup_iff.2 hn'
 have hlq : q.length = ids.length := by rw [hq1.length_eq,hl]
 exact mem_mapsP.2 ⟨hl.symm,tr_perm hqn hlq hq1.symm,(carry_perm hqn hlq hq2 hq1.symm).symm⟩
theorem mapsP_sorted {ids ids' : List Int} (hs : ids'.Pairwise (· < ·)) : (mapsP V E ids V' E' ids').Pairwise fun x y => lcmp x y < 0 := by
 unfold mapsP
 split
 ·exact (allN_sorted _ _ rfl hs).filter _
 ·exact .nil
theorem mapsP_nodup {ids ids' : List Int} (hs : ids'.Pairwise (· < ·)) : (mapsP V E ids V' E' ids').Nodup := (mapsP_sorted hs).imp fun {a b} h e => by rw [e,lcmp_self] at h; omega
theorem auto_eq {ids ids' : List Int} (hs : ids.Pairwise (· < ·)) (hs' : ids'.Pairwise (· < ·)) (h : mapsP V E ids V' E' ids' ≠ []) : (mapsP V E ids V E ids).length = (mapsP V' E' ids' V' E' ids').length := by
 have hn : ids.Nodup := hs.imp fun {a b} h e => by omega
 have hn' : ids'.Nodup := hs'.imp fun {a b} h e => by omega
 obtain ⟨q,hq⟩ := List.exists_mem_of_ne_nil _ h
 exact Nat.le_antisymm (auto_le hn hn' hq (mapsP_nodup hs)) (auto_le hn' hn (maps_back hn' hq) (mapsP_nodup hs'))
end
end Go.Proofs.YtbpeemhfjgcnaaaGreat
namespace Go.Proofs.YtbpeemhfjgcnaaaGreat
section
variable {V V' : List (Int × Thing)} {E E' : List ((Int × Int) × Thing)} {to : List Int}
theorem IsRen.ids {V2 : List (Int × Thing)} {E2 : List ((Int × Int) × Thing)} (h : IsRen V E to V2 E2) (ho : OkTo V to) : (idsV V2).Perm to := by
 have := h.pv.map (·.1)
 rwa [renV_ids V to ho.len] at this
theorem IsRen.th {V2 : List (Int × Thing)} {E2 : List ((Int × Int) × Thing)} (h : IsRen V E to V2 E2) (hi : GInv V E) (ho : OkTo V to) {i : Nat} (hil : i < V.length) : thV V2 (to.getD i 0) = thV V V[i].1 := by
 have h2 : i < to.length := by rw [ho.len]; exact hil
 rw [th_at hi hil]
 refine th_mem h.inv (h.pv.mem_iff.2 ?_)
 unfold renV
 refine List.mem_iff_getElem.2 ⟨i,by rw [List.length_zipWith]; omega, ?_⟩
 rw [List.getElem_zipWith,getD_at h2]
theorem IsRen.code {V2 : List (Int × Thing)} {E2 : List ((Int × Int) × Thing)} (h : IsRen V E to V2 E2) (hi : GInv V E) (ho : OkTo V to) : codeR V2 E2 to = codeR V E (idsV V) := by
 have hl : to.length = (idsV V).length := by rw [ho.len,idsV_len]
 have hg : ∀ i (hil : i < V.length),(idsV V).getD i 0 = V[i].1 := fun i hil => by
  rw [getD_at (by rw [idsV_len]; exact hil)]
  unfold idsV
  rw [List.getElem_map]
 refine (codeR_inj hl).2 ⟨List.ext_getElem (by simp [hl]) fun i h1 h2 => ?_,(pairsL_iff hl).2 fun i j hij hj hj' => ?_⟩
 ·have h3 : i < to.length := by simpa using h1
  have h4 : i < V.length := by rw [← ho.len]; exact h3
  have := h.th hi ho h4
  rw [getD_at h3] at this
  rw [List.getElem_map,List.getElem_map,this]
  unfold idsV
  rw [List.getElem_map]
 ·have h5 : i < (idsV V).length := by omega
  have := h.bet hi ho (u := (idsV V).getD i 0) (v := (idsV V).getD j 0) (by rw [getD_at h5]; exact List.getElem_mem _) (by rw [getD_at hj']; exact List.getElem_mem _)
  rw [tr_at hi.idsN h5,tr_at hi.idsN hj',getD_at h5,getD_at hj',getD_at (by omega : i < to.length),getD_at hj] at this
  exact this
def upto (n : Nat) : List Int := (List.range n).map fun i : Nat => (i : Int)
theorem upto_len (n : Nat) : (upto n).length = n := by unfold upto; simp
theorem upto_get {n i : Nat} (h : i < (upto n).length) : (upto n)[i] = (i : Int) := by simp [upto]
theorem atP_get {p l : List Int} {i : Nat} (h : i < (atP p l).length) (h2 : i < l.length) : (atP p l)[i] = (p.idxOf l[i] : Int) := by simp [atP]
theorem upto_at {n i : Nat} (h : i < n) : (upto n).getD i 0 = (i : Int) := by
 rw [getD_at (by rw [upto_len]; exact h),upto_get]
theorem upto_sorted (n : Nat) : (upto n).Pairwise (· < ·) := List.pairwise_map.2 (List.pairwise_lt_range.imp fun {a b} h => by omega)
theorem atP_perm (hi : GInv V E) {p : List Int} (hp : p.Perm (idsV V)) : (atP p (idsV V)).Perm (upto V.length) := by
 have hpn := hp.nodup_iff.2 hi.idsN
 have h1 : (atP p (idsV V)).Perm (p.map fun u => (p.idxOf u : Int)) := (hp.symm.map _)
 refine h1.trans (List.Perm.of_eq ?_)
 refine List.ext_getElem (by rw [List.length_map,upto_len,hp.length_eq,idsV_len]) fun i h2 h3 => ?_
 rw [List.getElem_map,upto_get,List.Nodup.idxOf_getElem hpn]
theorem sortedI_eq {l m : List Int} (hl : l.Pairwise (· < ·)) (hm : m.Pairwise (· < ·)) (h : l.Perm m) : l = m := List.Perm.eq_of_pairwise (le := (· < ·)) (fun a b _ _ h1 h2 => by omega) hl hm h
theorem form_code {V2 : List (Int × Thing)} {E2 : List ((Int × Int) × Thing)} (hi : GInv V E) {p : List Int} (hp : p.Perm (idsV V)) (hl : V.length ≤ 1024) (h : IsRen V E (atP p (idsV V)) V2 E2) : idsV V2 = upto V.length ∧ codeR V2 E2 (upto V.length) = codeR V E p := by
 have ho := atP_ok hi hp hl
 have hpn := hp.nodup_iff.2 hi.idsN
 have hids : idsV V2 = upto V.length := sortedI_eq h.inv.idsS (upto_sorted _) ((h.ids ho).trans (atP_perm hi hp))
 refine ⟨hids, ?_⟩
 have hc := h.code hi ho
 have hlen : (idsV V).length = (atP p (idsV V)).length := by rw [ho.len,idsV_len]
 have := carry_perm hi.idsN hlen hc.symm hp
 rw [this]
 congr 1
 refine List.ext_getElem (by rw [upto_len,List.length_map,hp.length_eq,idsV_len]) fun i h1 h2 => ?_
 have hil : i < p.length := by simpa using h2
 rw [List.getElem_map]
 obtain ⟨j,hj,e⟩ := mem_at (hp.mem_iff.1 (List.getElem_mem hil))
 rw [← e,tr_at hi.idsN hj,getD_at (by omega : j < (atP p (idsV V)).length),atP_get _ hj,upto_get]
 rw [getD_at hj] at e
 rw [e,List.Nodup.idxOf_getElem hpn]
theorem code_det {n : Nat} (hi : GInv V E) (hi' : GInv V' E') (h1 : idsV V = upto n) (h2 : idsV V' = upto n) (hc : codeR V E (upto n) = codeR V' E' (upto n)) : V = V' ∧ E = E' := by
 obtain ⟨h3,h4⟩ := (codeR_inj rfl).1 hc
 have hlV : V.length = n := by rw [← idsV_len,h1,upto_len]
 have hlV' : V'.length = n := by rw [← idsV_len,h2,upto_len]
 rw [pairsL_iff rfl] at h4
 constructor
 ·refine List.ext_getElem (by omega) fun i k1 k2 => ?_
  have e1 : V[i].1 = (i : Int) := by
   have := upto_at (n := n) (i := i) (by omega)
   rw [← h1,getD_at (by rw [idsV_len]; exact k1)] at this
   unfold idsV at this
   rwa [List.getElem_map] at this
  have e2 : V'[i].1 = (i : Int) := by
   have := upto_at (n := n) (i := i) (by omega)
   rw [← h2,getD_at (by rw [idsV_len]; exact k2)] at this
   unfold idsV at this
   rwa [List.getElem_map] at this
  have e3 := congrArg (fun l => l[i]?) h3
  have hiu : i < (upto n).length := by rw [upto_len]; omega
  simp only [List.getElem?_map,List.getElem?_eq_getElem hiu,Option.map_some,Option.some.injEq] at e3
  have e4 : (upto n)[i] = (i : Int) := by rw [← getD_at hiu]; exact upto_at (by omega)
  rw [e4] at e3
  refine Prod.ext (by rw [e1,e2]) ?_
  rw [← th_at hi k1, ← th_at hi' k2,e1,e2]
  exact e3
 ·have hb : ∀ u v,u ∈ upto n → v ∈ upto n → u < v → betE E u v = betE E' u v := fun u v hu hv huv => by
   obtain ⟨i,hi1,ei⟩ := mem_at hu
   obtain ⟨j,hj1,ej⟩ := mem_at hv
   have hij : i < j := by
    rw [upto_len] at hi1 hj1
    rw [upto_at hi1] at ei
    rw [upto_at hj1] at ej
    omega
   rw [← ei, ← ej,getD_at hi1,getD_at hj1]
   exact h4 i j hij hj1 hj1
  have hmem : ∀ e,e ∈ E ↔ e ∈ E' := fun e => by
   constructor
   ·intro he
    obtain ⟨a1,a2⟩ := ids_mem hi he
    have hlo := hi.lo e he
    have := hb e.1.1 e.1.2 (h1 ▸ a1) (h1 ▸ a2) hlo
    have h5 : betE E e.1.1 e.1.2 = some e.2 := (bet_iff hi).2 (by rw [Int.min_eq_left (by omega),Int.max_eq_right (by omega)]; exact he)
    rw [h5] at this
    have h6 := (bet_iff hi').1 this.symm
    rw [Int.min_eq_left (by omega),Int.max_eq_right (by omega)] at h6
    exact h6
   ·intro he
    obtain ⟨a1,a2⟩ := ids_mem hi' he
    have hlo := hi'.lo e he
    have := hb e.1.1 e.1.2 (h2 ▸ a1) (h2 ▸ a2) hlo
    have h5 : betE E' e.1.1 e.1.2 = some e.2 := (bet_iff hi').2 (by rw [Int.min_eq_left (by omega),Int.max_eq_right (by omega)]; exact he)
    rw [h5] at this
    have h6 := (bet_iff hi).1 this
    rw [Int.min_eq_left (by omega),Int.max_eq_right (by omega)] at h6
    exact h6
  have nd : ∀ {V : List (Int × Thing)} {E : List ((Int × Int) × Thing)},GInv V E → E.Nodup := fun hi => hi.se.imp fun {a b} h e => by
   subst e
   unfold ltE at h
   omega
  exact List.Perm.eq_of_pairwise (le := ltE) (fun a b _ _ h1 h2 => ltE_anti h1 h2) hi.se hi'.se ((List.perm_ext_iff_of_nodup (nd hi) (nd hi')).2 hmem)
theorem can_iff {V2 V2' : List (Int × Thing)} {E2 E2' : List ((Int × Int) × Thing)} (hi : GInv V E) (hi' : GInv V' E') (hl : V.length ≤ 1024) (hl' : V'.length ≤ 1024) (h : IsCan V E V2 E2) (h' : IsCan V' E' V2' E2') : (V2 = V2' ∧ E2 = E2') ↔ mapsP V E (idsV V) V' E' (idsV V') ≠ [] := by
 have f := formP_is V E hi.idsS
 have f' := formP_is V' E' hi'.idsS
 obtain ⟨a1,a2⟩ := form_code hi f.perm hl h.ren
 obtain ⟨b1,b2⟩ := form_code hi' f'.perm hl' h'.ren
 rw [iso_form hi.idsS hi'.idsS,idsV_len,idsV_len]
 constructor
 ·rintro ⟨h1,h2⟩
  subst h1
  subst h2
  have hn : V.length = V'.length := by
   have := congrArg List.length (a1.symm.trans b1)
   rwa [upto_len,upto_len] at this
  exact ⟨hn,by rw [← a2, ← b2,hn]⟩
 ·rintro ⟨hn,hc⟩
  rw [← hn] at b1 b2
  exact code_det h.ren.inv h'.ren.inv a1 b1 (by rw [a2,b2,hc])
theorem sorted_leastI : ∀ (A B : List Int),A.Pairwise (· < ·) → A.Perm B → lcmp A B ≤ 0
 | [],B,_,h => by
  have : B = [] := List.nil_perm.1 h
  subst this
  show lcmp [] [] ≤ 0
  decide
 | a :: A,[],_,h => by have := h.length_eq; simp at this
 | a :: A,b :: B,hs,h => by
  obtain ⟨h1,h2⟩ := List.pairwise_cons.1 hs
  rw [lcmp_cons]
  split
  ·decide
  ·rename_i hab
   have hba : b = a := by
    rcases List.mem_cons.1 (h.mem_iff.2 (List.mem_cons_self : b ∈ b :: B)) with e | hm
    ·exact e
    ·have := h1 b hm; omega
   subst hba
   rw [if_neg hab]
   exact sorted_leastI A B h2 h.cons_inv
theorem form_again {V2 : List (Int × Thing)} {E2 : List ((Int × Int) × Thing)} (hi : GInv V E) (hl : V.length ≤ 1024) (h : IsCan V E V2 E2) : formP V2 E2 (idsV V2) = idsV V2 := by
 have f := formP_is V E hi.idsS
 obtain ⟨a1,a2⟩ := form_code hi f.perm hl h.ren
 have hs2 := h.ren.inv.idsS
 refine (formP_is V2 E2 hs2).uniq ⟨List.Perm.refl _,fun q hq => ?_⟩
 have hq' := hq
 rw [a1] at hq' ⊢
 have hun : (upto V.length).Nodup := (upto_sorted _).imp fun {a b} h e => by omega
 have hlen : (upto V.length).length = (formP V E (idsV V)).length := by rw [upto_len,f.perm.length_eq,idsV_len]
 have hc := carry_perm hun hlen a2 hq'
 have hp := (tr_perm hun hlen hq').trans f.perm
 rw [a2,hc]
 rcases f.least _ hp with h1 | ⟨h1,_⟩
 ·exact .inl h1
 ·exact .inr ⟨h1,sorted_leastI _ _ (upto_sorted _) hq'.symm⟩
theorem can_again {V2 V3 : List (Int × Thing)} {E2 E3 : List ((Int × Int) × Thing)} (hi : GInv V E) (hl : V.length ≤ 1024) (h : IsCan V E V2 E2) (h2 : IsCan V2 E2 V3 E3) : V3 = V2 ∧ E3 = E2 := by
 have f := formP_is V E hi.idsS
 obtain ⟨a1,a2⟩ := form_code hi f.perm hl h.ren
 have hl2 : V2.length = V.length := by rw [← idsV_len,a1,upto_len]
 have fa := form_again hi hl h
 have f2 := formP_is V2 E2 h.ren.inv.idsS
 obtain ⟨b1,b2⟩ := form_code h.ren.inv f2.perm (by omega) h2.ren
 rw [hl2] at b1 b2
 exact code_det h2.ren.inv h.ren.inv b1 a1 (by rw [b2,fa,a1])
end
end Go.Proofs.YtbpeemhfjgcnaaaGreat
namespace Go.Proofs.YtbpeemhfjgcnaaaGreat
open Go Go.RowKit
theorem ren_lab {V V2 : List (Int × Thing)} {E E2 : List ((Int × Int) × Thing)} {to : List Int} (h : LabB V E) (hr : IsRen V E to V2 E2) : LabB V2 E2 := by
 refine ⟨fun p hp => ?_,fun e he => ?_⟩
 ·obtain ⟨_,q,hq,e⟩ := mem_renV (hr.pv.mem_iff.1 hp)
  rw [e]
  exact h.1 q hq
 ·obtain ⟨x,hx,rfl⟩ := List.mem_map.1 (hr.pe.mem_iff.1 he)
  obtain ⟨y,hy,rfl⟩ := List.mem_map.1 hx
  exact h.2 y hy
section
variable {H : Type} {enc : TypeId × Value → H} {w : World} {base : Nat} {spare : Nat → Bool} {held : Bool} {fuel : Nat} {x : DataW H × List MemPlace} {a : Option Addr} {len cap : Nat}
end
end Go.Proofs.YtbpeemhfjgcnaaaGreat
namespace Go.Proofs.YtbpeemhfjgcnaaaGreat
open Go Go.RowKit Go.Shelf
attribute [local go_sem] qUpon lUpon
attribute [local irreducible] wpO wpX wpQL
theorem ren_maps {V V2 : List (Int × Thing)} {E E2 : List ((Int × Int) × Thing)} {to : List Int} (hi : GInv V E) (ho : OkTo V to) (h : IsRen V E to V2 E2) : to ∈ mapsP V E (idsV V) V2 E2 (idsV V2) := mem_mapsP.2 ⟨by rw [(h.ids ho).length_eq,idsV_len,ho.len],(h.ids ho).symm,h.code hi ho⟩
theorem ren_vlen {V V2 : List (Int × Thing)} {E E2 : List ((Int × Int) × Thing)} {to : List Int} (ho : OkTo V to) (h : IsRen V E to V2 E2) : V2.length = V.length := by rw [h.pv.length_eq,renV_len ho.len]
theorem can_eq {V V2 V3 V4 : List (Int × Thing)} {E E2 E3 E4 : List ((Int × Int) × Thing)} {to : List Int} (hi : GInv V E) (ho : OkTo V to) (h : IsRen V E to V2 E2) (hl : V.length ≤ 1024) (h3 : IsCan V E V3 E3) (h4 : IsCan V2 E2 V4 E4) : V3 = V4 ∧ E3 = E4 := (can_iff hi h.inv hl (by rw [ren_vlen ho h]; exact hl) h3 h4).2 (List.ne_nil_of_mem (ren_maps hi ho h))
theorem can_vlen {V V2 : List (Int × Thing)} {E E2 : List ((Int × Int) × Thing)} (hi : GInv V E) (hl : V.length ≤ 1024) (h : IsCan V E V2 E2) : V2.length = V.length := ren_vlen (atP_ok hi (formP_is V E hi.idsS).perm hl) h.ren
theorem can_ids {V V2 : List (Int × Thing)} {E E2 : List ((Int × Int) × Thing)} (hi : GInv V E) (hl : V.length ≤ 1024) (h : IsCan V E V2 E2) : idsV V2 = upto V.length := (form_code hi (formP_is V E hi.idsS).perm hl h.ren).1
theorem ren_auto {V V2 : List (Int × Thing)} {E E2 : List ((Int × Int) × Thing)} {to : List Int} (hi : GInv V E) (ho : OkTo V to) (h : IsRen V E to V2 E2) : (mapsP V E (idsV V) V E (idsV V)).length = (mapsP V2 E2 (idsV V2) V2 E2 (idsV V2)).length := auto_eq hi.idsS h.inv.idsS (List.ne_nil_of_mem (ren_maps hi ho h))
set_option maxRecDepth 100000 in
set_option maxHeartbeats 16000000 in
theorem isomorphismInvariant_walk (A : Option Addr) (L : List Ed) (cL : Nat) (turn : Int) (w : World) (hL : SlAt encD 5 w A L) (hok : ∀ d ∈ L,okB d) (_hl9 : L.length ≤ 9223372036854775807) (_hc9 : L.length ≤ cL) (htn : 0 ≤ turn ∧ turn ≤ 18446744073709551615) :
  Calls Tryz.prog 6 #[.slice A L.length cL, .int .u64 turn] w fun e w' => e = .returned (.bool true) ∧ Ext w w' := by
 have hL' := hide hL
 have hlb := hide (mdS_lab hok)
 have htn' := hide htn
 clear htn
 clear hL hok
 have hP := hide (Sp.new w)
 refine callsIn_wide.1 (callsIn_of_wp_marks (n := 0) Tryz.func6 rfl trivial (wpIn_wide.2 ?_))
 simp only [Tryz.ntmps6,List.size_toArray,List.length_cons,List.length_nil,Nat.reduceAdd,Nat.reduceSub,Array.replicate_succ,Array.replicate_zero,List.push_toArray,List.append_toArray,List.nil_append,List.cons_append]
 try dsimp only
 repeat ((fail_if_success (with_reducible refine wp_reg (id := 1) ?_)); (first | go_values | go_skip | go_step | go_guarded | go_upon | go_in | go_back | fail))
 with_reducible refine wp_reg (id := 1) ?_
 refine wpO_want rfl ?_
 go_simp
 have hca := known08_any w
 refine hca.mono ?_
 clear hca
 rintro _ y1 ⟨rfl,hxc⟩
 refine ⟨_,rfl, ?_⟩
 replace hP : Hid (Sp w [] w [] [] [] y1) := hide ((unhide hP).ext hxc)
 clear hxc
 refine wpO_want rfl ?_
 go_simp
 refine wpO_done ?_
 try go_frame
 try dsimp only
 repeat ((fail_if_success (with_reducible refine wp_reg (id := 3) ?_)); (first | go_values | go_skip | go_step | go_guarded | go_upon | go_in | go_back | fail))
 with_reducible refine wp_reg (id := 3) ?_
 refine wpO_want rfl ?_
 go_simp
 refine wpO_want rfl ?_
 go_simp
 have hca := take_any A L cL 8 y1 ((unhide hL').ext (unhide hP).extf)
 have hi := hide (mdS_inv L)
 refine hca.mono ?_
 clear hca
 generalize mdS L = S at *
 obtain ⟨V,E⟩ := S
 try dsimp only at hi hlb ⊢
 rintro _ y2 ⟨g,bv,be,A1,B1,cA,cB,rfl,hg0,hs0,he0,hxc⟩
 refine ⟨_,rfl, ?_⟩
 replace hP : Hid (Sp w [] w [] [] [] y2) := hide ((unhide hP).ext hxc)
 have hg := hide hg0
 have hsV := hide hs0
 have hsE := hide he0
 obtain ⟨q,hq⟩ : ∃ q,q = decide ((V.length : Int) ≤ 8) := ⟨_,rfl⟩
 rw [← hq]
 have hq' := hide hq
 clear hxc hg0 hs0 he0 hq
 generalize htu0 : Value.tuple _ = tu
 have htu := hide htu0
 clear htu0
 refine wpO_val rfl (run_move rfl rfl) ?_
 go_frame
 refine wpO_val rfl (run_extract (i := 0) (v := .pointer (some ⟨g,0,none⟩)) rfl (unhide htu).symm rfl) ?_
 go_frame
 refine wpO_val rfl (run_extract (i := 1) (v := .agg #[.slice A1 V.length cA, .slice B1 E.length cB]) rfl (unhide htu).symm rfl) ?_
 go_frame
 refine wpO_val rfl (run_extract (i := 2) (v := .bool q) rfl (unhide htu).symm rfl) ?_
 go_frame
 refine (unhide hP).allocT 28 #[.slice none 0 0, .slice none 0 0] rfl (by go_simp) ?_
 intro r6 y3 hQ hxa hga
 replace hP : Hid (Sp w [] w [] [(r6,28, #[.slice none 0 0, .slice none 0 0])] [] y3) := hide hQ
 clear hQ
 try go_frame
 refine wpO_want rfl ?_
 go_simp
 refine (unhide hP).setT 0 #[.slice A1 V.length cA, .slice B1 E.length cB] rfl rfl (fun hb => run_store_row (v := .agg #[.slice A1 V.length cA, .slice B1 E.length cB]) rfl (by rfl) (by rfl) (by simp [go_sem]) hb rfl (fun u hu => by simp [Value.cells] at hu; rcases hu with rfl | rfl <;> rfl)) ?_
 intro y4 hQ hkq
 replace hP : Hid (Sp w [] w [] [(r6,28, #[.slice A1 V.length cA, .slice B1 E.length cB])] [] y4) := hide hQ
 have hxs := hxa.of_new hkq (fun x hx => by rw [List.mem_singleton] at hx; rw [hx]; exact hga)
 clear hQ hkq hxa hga
 try go_frame
 replace hg := hide ((unhide hg).ext (hxs))
 replace hsV := hide ((unhide hsV).ext (hxs))
 replace hsE := hide ((unhide hsE).ext (hxs))
 clear hxs
 refine wpO_want rfl ?_
 go_simp
 refine wpO_done ?_
 try go_frame
 clear htu
 have q0 := (unhide hP).cell 0 0 (v := .slice A1 V.length cA) rfl rfl
 have hself := Ext.refl y4
 cases q
 ·skip
  try dsimp only
  repeat ((fail_if_success (with_reducible refine wp_reg (id := 4) ?_)); (first | go_values | go_skip | go_step | go_guarded | go_upon | go_in | go_back | fail))
  with_reducible refine wp_reg (id := 4) ?_
  iterate 3
   refine wpO_want rfl ?_
   go_simp
  refine wpO_out (by rfl) ?_
  go_frame
  refine wpO_out (by rfl) ?_
  go_frame
  refine wpO_out (by rfl) ?_
  go_frame
  refine wpO_out (by rfl) ?_
  go_frame
  refine wpO_out (by rfl) ?_
  go_frame
  refine wpO_out (by rfl) ?_
  go_frame
  refine wpO_out (by rfl) ?_
  go_frame
  refine wpO_out (by rfl) ?_
  go_frame
  refine wpO_out (by rfl) ?_
  go_frame
  refine wpO_want rfl ?_
  go_simp
  refine wpO_done ?_
  try go_frame
  clear q0 hself
  go_wp2_with fail
  refine Sp.leaves0 ?_
  exact ⟨_,results_tmp (t := 4) rfl _ _ _,rfl,(unhide hP).extf⟩
 ·skip
  have hmo := hide (show V.length ≤ 8 by have h := of_decide_eq_true (unhide hq').symm; omega)
  clear hq'
  by_cases h7 : (7 : Int) < (V.length : Int)
  ·skip
   obtain ⟨tn,htn9⟩ : ∃ tn : Nat,(tn : Int) = turn := ⟨turn.toNat,by have := (unhide htn').1; omega⟩
   obtain ⟨rr,hrr⟩ : ∃ r : Nat,r = tn % 8 := ⟨_,rfl⟩
   have hrem : turn.tmod 8 = (rr : Int) := by rw [← htn9,Int.tmod_eq_emod_of_nonneg (by omega),hrr]; rfl
   have hwr1 : IntKind.u64.wrap (rr : Int) = (rr : Int) := by rw [IntKind.wrap_u64]; omega
   clear hrr htn9
   by_cases hr0 : rr = 0
   ·skip
    subst hr0
    have hq8 : ((((0 : Nat) : Int)) != 0) = false := by simp
    try dsimp only
    repeat ((fail_if_success (with_reducible refine wp_reg (id := 4) ?_)); (first | go_values | go_skip | go_step | go_guarded | go_upon | go_in | go_back | fail))
    with_reducible refine wp_reg (id := 4) ?_
    iterate 13
     refine wpO_want rfl ?_
     go_simp
    refine wpO_done ?_
    try go_frame
    clear q0 hself hrem hwr1 hq8 h7
    have q0 := (unhide hP).cell 0 0 (v := .slice A1 V.length cA) rfl rfl
    have hself := Ext.refl y4
    try dsimp only
    repeat ((fail_if_success (with_reducible refine wp_reg (id := 6) ?_)); (first | go_values | go_skip | go_step | go_guarded | go_upon | go_in | go_back | fail))
    with_reducible refine wp_reg (id := 6) ?_
    iterate 5
     refine wpO_want rfl ?_
     go_simp
    clear q0 hself
    refine wpO_want rfl ?_
    go_simp
    have hca := numbers_any V.length turn y4 (by have := unhide hmo; omega) (unhide htn')
    refine hca.mono ?_
    clear hca
    rintro _ y5 ⟨to2,hnu0,A2,n2,c2,rfl,hn20,ho2,hxc⟩
    have hnu := hide hnu0
    have hn2 := hide hn20
    rw [hn20] at ho2
    have hA2 := hide (own_at (enc := encI) ho2 (fun _ => rfl))
    refine ⟨_,rfl, ?_⟩
    replace hP : Hid (Sp w [] w [] [(r6,28, #[.slice A1 V.length cA, .slice B1 E.length cB])] [] y5) := hide ((unhide hP).ext hxc)
    replace hg := hide ((unhide hg).ext (hxc))
    replace hsV := hide ((unhide hsV).ext (hxc))
    replace hsE := hide ((unhide hsE).ext (hxc))
    clear hxc hnu0 hn20 ho2
    refine wpO_want rfl ?_
    go_simp
    have hca := relabel_any g bv be V E A2 to2 n2 c2 y5 (unhide hg) (unhide hA2) (unhide hn2) (fun x hx => okK (by have := (unhide hnu).2.2 x hx; omega))
    refine hca.mono ?_
    clear hca
    rintro _ y6 (⟨hz9,_⟩ | ⟨hoU0,gh,gh1,gh2,V9,E9,hre9,rfl,hgy0,hxc,_,_,_⟩)
    ·exact absurd (wrT_ok.2 (unhide hnu).ok) hz9
    have hgh := hide hgy0
    have hoU := hide hoU0
    have hren := hide hre9
    refine ⟨_,rfl, ?_⟩
    replace hP : Hid (Sp w [] w [] [(r6,28, #[.slice A1 V.length cA, .slice B1 E.length cB])] [] y6) := hide ((unhide hP).ext hxc)
    replace hg := hide ((unhide hg).ext (hxc))
    replace hsV := hide ((unhide hsV).ext (hxc))
    replace hsE := hide ((unhide hsE).ext (hxc))
    replace hA2 := hide ((unhide hA2).ext (hxc))
    clear hxc hgy0 hoU0 hre9
    generalize htu0 : Value.tuple _ = tu
    have htu := hide htu0
    clear htu0
    refine wpO_val rfl (run_move rfl rfl) ?_
    go_frame
    refine wpO_val rfl (run_extract (i := 0) (v := .pointer (some ⟨gh,0,none⟩)) rfl (unhide htu).symm rfl) ?_
    go_frame
    refine wpO_val rfl (run_extract (i := 1) (v := .int .i64 0) rfl (unhide htu).symm rfl) ?_
    go_frame
    iterate 2
     refine wpO_want rfl ?_
     go_simp
    refine wpO_done ?_
    try go_frame
    clear htu hA2
    have hlbh := hide (ren_lab (unhide hlb) (unhide hren))
    have hvh := hide (ren_vlen (unhide hoU) (unhide hren))
    try dsimp only
    repeat ((fail_if_success (with_reducible refine wp_reg (id := 7) ?_)); (first | go_values | go_skip | go_step | go_guarded | go_upon | go_in | go_back | fail))
    with_reducible refine wp_reg (id := 7) ?_
    iterate 6
     refine wpO_want rfl ?_
     go_simp
    refine wpO_done ?_
    try go_frame
    try dsimp only
    repeat ((fail_if_success (with_reducible refine wp_reg (id := 9) ?_)); (first | go_values | go_skip | go_step | go_guarded | go_upon | go_in | go_back | fail))
    with_reducible refine wp_reg (id := 9) ?_
    refine wpO_want rfl ?_
    go_simp
    refine wpO_want rfl ?_
    go_simp
    have hca := canon_any g bv be V E y6 (unhide hg) (unhide hmo) (unhide hlb)
    refine hca.mono ?_
    clear hca
    rintro _ y7 ⟨f,fv,fe,V2,E2,Al,nl,cl,rfl,hnl0,hgf0,hcan0,ho,hxc,_,_,_⟩
    have hnl := hide hnl0
    have hfo0 : (formP V E (idsV V)).length = V.length := by rw [(formP_is V E (unhide hg).inv.idsS).perm.length_eq,idsV_len]
    have hsl := hide (own_at (enc := encI) (xs := formP V E (idsV V)) (by rw [hnl0, ← hfo0] at ho; exact ho) (fun _ => rfl))
    have hgf := hide hgf0
    have hcan := hide hcan0
    have hfo := hide hfo0
    refine ⟨_,rfl, ?_⟩
    replace hP : Hid (Sp w [] w [] [(r6,28, #[.slice A1 V.length cA, .slice B1 E.length cB])] [] y7) := hide ((unhide hP).ext hxc)
    replace hg := hide ((unhide hg).ext (hxc))
    replace hsV := hide ((unhide hsV).ext (hxc))
    replace hsE := hide ((unhide hsE).ext (hxc))
    replace hgh := hide ((unhide hgh).ext (hxc))
    clear hxc ho hgf0 hcan0 hnl0 hfo0
    generalize htu0 : Value.tuple _ = tu
    have htu := hide htu0
    clear htu0
    refine wpO_val rfl (run_move rfl rfl) ?_
    go_frame
    refine wpO_val rfl (run_extract (i := 0) (v := .pointer (some ⟨f,0,none⟩)) rfl (unhide htu).symm rfl) ?_
    go_frame
    refine wpO_val rfl (run_extract (i := 1) (v := .slice Al nl cl) rfl (unhide htu).symm rfl) ?_
    go_frame
    refine wpO_val rfl (run_extract (i := 2) (v := .int .i64 0) rfl (unhide htu).symm rfl) ?_
    go_frame
    iterate 3
     refine wpO_want rfl ?_
     go_simp
    refine wpO_done ?_
    try go_frame
    clear htu
    try dsimp only
    repeat ((fail_if_success (with_reducible refine wp_reg (id := 10) ?_)); (first | go_values | go_skip | go_step | go_guarded | go_upon | go_in | go_back | fail))
    with_reducible refine wp_reg (id := 10) ?_
    refine wpO_want rfl ?_
    go_simp
    refine wpO_want rfl ?_
    go_simp
    have hca := canon_any gh gh1 gh2 V9 E9 y7 (unhide hgh) (by rw [unhide hvh]; exact unhide hmo) (unhide hlbh)
    refine hca.mono ?_
    clear hca
    rintro _ y8 ⟨fb,fbv,fbe,V2b,E2b,Alb,nlb,clb,rfl,hnl0,hgf0,hcan0,ho,hxc,_,_,_⟩
    have hnlb := hide hnl0
    have hfo0 : (formP V9 E9 (idsV V9)).length = V9.length := by rw [(formP_is V9 E9 (unhide hgh).inv.idsS).perm.length_eq,idsV_len]
    have hslb := hide (own_at (enc := encI) (xs := formP V9 E9 (idsV V9)) (by rw [hnl0, ← hfo0] at ho; exact ho) (fun _ => rfl))
    have hgfb := hide hgf0
    have hcanb := hide hcan0
    have hfob := hide hfo0
    refine ⟨_,rfl, ?_⟩
    replace hP : Hid (Sp w [] w [] [(r6,28, #[.slice A1 V.length cA, .slice B1 E.length cB])] [] y8) := hide ((unhide hP).ext hxc)
    replace hg := hide ((unhide hg).ext (hxc))
    replace hsV := hide ((unhide hsV).ext (hxc))
    replace hsE := hide ((unhide hsE).ext (hxc))
    replace hgh := hide ((unhide hgh).ext (hxc))
    replace hsl := hide ((unhide hsl).ext (hxc))
    replace hgf := hide ((unhide hgf).ext (hxc))
    clear hxc ho hgf0 hcan0 hnl0 hfo0
    generalize htu0 : Value.tuple _ = tu
    have htu := hide htu0
    clear htu0
    refine wpO_val rfl (run_move rfl rfl) ?_
    go_frame
    refine wpO_val rfl (run_extract (i := 0) (v := .pointer (some ⟨fb,0,none⟩)) rfl (unhide htu).symm rfl) ?_
    go_frame
    refine wpO_val rfl (run_extract (i := 1) (v := .slice Alb nlb clb) rfl (unhide htu).symm rfl) ?_
    go_frame
    refine wpO_val rfl (run_extract (i := 2) (v := .int .i64 0) rfl (unhide htu).symm rfl) ?_
    go_frame
    iterate 3
     refine wpO_want rfl ?_
     go_simp
    refine wpO_done ?_
    try go_frame
    clear htu
    have hv1024 : V.length ≤ 1024 := by have := unhide hmo; omega
    have hce := can_eq (unhide hi) (unhide hoU) (unhide hren) hv1024 (unhide hcan) (unhide hcanb)
    obtain ⟨rfl,rfl⟩ := hce
    have hlbc := hide (ren_lab (unhide hlb) (unhide hcan).ren)
    have hvc := hide (can_vlen (unhide hi) hv1024 (unhide hcan))
    clear hv1024
    try dsimp only
    repeat ((fail_if_success (with_reducible refine wp_reg (id := 11) ?_)); (first | go_values | go_skip | go_step | go_guarded | go_upon | go_in | go_back | fail))
    with_reducible refine wp_reg (id := 11) ?_
    iterate 14
     refine wpO_want rfl ?_
     go_simp
    refine wpO_done ?_
    try go_frame
    try dsimp only
    repeat ((fail_if_success (with_reducible refine wp_reg (id := 13) ?_)); (first | go_values | go_skip | go_step | go_guarded | go_upon | go_in | go_back | fail))
    with_reducible refine wp_reg (id := 13) ?_
    refine wpO_want rfl ?_
    go_simp
    refine wpO_want rfl ?_
    go_simp
    have hca := canon_any f fv fe V2 E2 y8 (unhide hgf) (by rw [unhide hvc]; exact unhide hmo) (unhide hlbc)
    refine hca.mono ?_
    clear hca
    rintro _ y9 ⟨fc,fcv,fce,V2c,E2c,Alc,nlc,clc,rfl,hnl0,hgf0,hcan0,ho,hxc,_,_,_⟩
    have hnlc := hide hnl0
    have hfo0 : (formP V2 E2 (idsV V2)).length = V2.length := by rw [(formP_is V2 E2 (unhide hgf).inv.idsS).perm.length_eq,idsV_len]
    have hslc := hide (own_at (enc := encI) (xs := formP V2 E2 (idsV V2)) (by rw [hnl0, ← hfo0] at ho; exact ho) (fun _ => rfl))
    have hgfc := hide hgf0
    have hcanc := hide hcan0
    have hfoc := hide hfo0
    refine ⟨_,rfl, ?_⟩
    replace hP : Hid (Sp w [] w [] [(r6,28, #[.slice A1 V.length cA, .slice B1 E.length cB])] [] y9) := hide ((unhide hP).ext hxc)
    replace hg := hide ((unhide hg).ext (hxc))
    replace hsV := hide ((unhide hsV).ext (hxc))
    replace hsE := hide ((unhide hsE).ext (hxc))
    replace hgh := hide ((unhide hgh).ext (hxc))
    replace hsl := hide ((unhide hsl).ext (hxc))
    replace hgf := hide ((unhide hgf).ext (hxc))
    replace hslb := hide ((unhide hslb).ext (hxc))
    replace hgfb := hide ((unhide hgfb).ext (hxc))
    clear hxc ho hgf0 hcan0 hnl0 hfo0
    generalize htu0 : Value.tuple _ = tu
    have htu := hide htu0
    clear htu0
    refine wpO_val rfl (run_move rfl rfl) ?_
    go_frame
    refine wpO_val rfl (run_extract (i := 0) (v := .pointer (some ⟨fc,0,none⟩)) rfl (unhide htu).symm rfl) ?_
    go_frame
    refine wpO_val rfl (run_extract (i := 1) (v := .slice Alc nlc clc) rfl (unhide htu).symm rfl) ?_
    go_frame
    refine wpO_val rfl (run_extract (i := 2) (v := .int .i64 0) rfl (unhide htu).symm rfl) ?_
    go_frame
    iterate 3
     refine wpO_want rfl ?_
     go_simp
    refine wpO_done ?_
    try go_frame
    clear htu
    have hv1024 : V.length ≤ 1024 := by have := unhide hmo; omega
    obtain ⟨rfl,rfl⟩ := can_again (unhide hi) hv1024 (unhide hcan) (unhide hcanc)
    have hid := form_again (unhide hi) hv1024 (unhide hcan)
    rw [can_ids (unhide hi) hv1024 (unhide hcan)] at hid
    rw [can_ids (unhide hi) hv1024 (unhide hcan),hid] at hslc
    have hnc9 := hide (show nlc = V.length by rw [unhide hnlc,unhide hvc])
    clear hid hv1024
    try dsimp only
    repeat ((fail_if_success (with_reducible refine wp_reg (id := 14) ?_)); (first | go_values | go_skip | go_step | go_guarded | go_upon | go_in | go_back | fail))
    with_reducible refine wp_reg (id := 14) ?_
    iterate 9
     refine wpO_want rfl ?_
     go_simp
    refine wpO_want rfl ?_
    go_simp
    have hca := equal_self f fv fe fb fbv fbe V2c E2c y9 (unhide hgf) (unhide hgfb)
    refine hca.mono ?_
    clear hca
    rintro _ y10 ⟨rfl,hxc⟩
    refine ⟨_,rfl, ?_⟩
    replace hP : Hid (Sp w [] w [] [(r6,28, #[.slice A1 V.length cA, .slice B1 E.length cB])] [] y10) := hide ((unhide hP).ext hxc)
    replace hg := hide ((unhide hg).ext (hxc))
    replace hsV := hide ((unhide hsV).ext (hxc))
    replace hsE := hide ((unhide hsE).ext (hxc))
    replace hgh := hide ((unhide hgh).ext (hxc))
    replace hsl := hide ((unhide hsl).ext (hxc))
    replace hgf := hide ((unhide hgf).ext (hxc))
    replace hslb := hide ((unhide hslb).ext (hxc))
    replace hgfb := hide ((unhide hgfb).ext (hxc))
    replace hslc := hide ((unhide hslc).ext (hxc))
    replace hgfc := hide ((unhide hgfc).ext (hxc))
    clear hxc
    iterate 5
     refine wpO_want rfl ?_
     go_simp
    refine wpO_want rfl ?_
    go_simp
    have hca := equal_self f fv fe fc fcv fce V2c E2c y10 (unhide hgf) (unhide hgfc)
    refine hca.mono ?_
    clear hca
    rintro _ y11 ⟨rfl,hxc⟩
    refine ⟨_,rfl, ?_⟩
    replace hP : Hid (Sp w [] w [] [(r6,28, #[.slice A1 V.length cA, .slice B1 E.length cB])] [] y11) := hide ((unhide hP).ext hxc)
    replace hg := hide ((unhide hg).ext (hxc))
    replace hsV := hide ((unhide hsV).ext (hxc))
    replace hsE := hide ((unhide hsE).ext (hxc))
    replace hgh := hide ((unhide hgh).ext (hxc))
    replace hsl := hide ((unhide hsl).ext (hxc))
    replace hgf := hide ((unhide hgf).ext (hxc))
    replace hslb := hide ((unhide hslb).ext (hxc))
    replace hgfb := hide ((unhide hgfb).ext (hxc))
    replace hslc := hide ((unhide hslc).ext (hxc))
    replace hgfc := hide ((unhide hgfc).ext (hxc))
    clear hxc
    iterate 2
     refine wpO_want rfl ?_
     go_simp
    refine wpO_done ?_
    try go_frame
    go_wp2_with fail
    have hslq := hslc
    have hslw := hide (fun (W : World) (hW : Ext y11 W) => (unhide hslq).ext hW)
    clear hslc hslq
    have hg9 := hg
    have hgh9 := hgh
    have hbase := hide (unhide hP).extf
    clear hP
    generalize y11 = wb at *
    have hP := hide (Sp.new wb)
    obtain ⟨I11_8,hI11_80⟩ : ∃ I : Nat → Act → World → Prop,I = fun fi a' wr => ∃ (i : Nat),a'.tmps.size = 143 ∧ a'.tmps.getD 5 undef = .pointer (some ⟨g,0,none⟩) ∧ a'.tmps.getD 8 undef = .pointer (some ⟨gh,0,none⟩) ∧ a'.tmps.getD 17 undef = .slice Alc nlc clc ∧ a'.tmps.getD 19 undef = .int .i64 (i : Nat) ∧ a'.defers = [] ∧ i ≤ nlc ∧ Sp wb [] wb [] [] [] wr ∧ fi = nlc - i := ⟨_,rfl⟩
    have hI11_8 := hide hI11_80
    clear hI11_80
    refine wp_loop_ix I11_8 (nlc - 0) ?_ ?_
    ·rw [unhide hI11_8]; exact ⟨0,rfl,rfl,rfl,rfl,rfl,rfl,Nat.zero_le _,unhide hP,rfl⟩
    ·rintro fi ⟨tm,dfs⟩ wr hrel
     rw [unhide hI11_8] at hrel
     obtain ⟨i,hsz,e5,e8,e17,e19,hdf,hin,hPr,hfm⟩ := hrel
     obtain ⟨us,rfl⟩ : ∃ us : Nat → Value,tm = #[us 0,us 1,us 2,us 3,us 4,us 5,us 6,us 7,us 8,us 9,us 10,us 11,us 12,us 13,us 14,us 15,us 16,us 17,us 18,us 19,us 20,us 21,us 22,us 23,us 24,us 25,us 26,us 27,us 28,us 29,us 30,us 31,us 32,us 33,us 34,us 35,us 36,us 37,us 38,us 39,us 40,us 41,us 42,us 43,us 44,us 45,us 46,us 47,us 48,us 49,us 50,us 51,us 52,us 53,us 54,us 55,us 56,us 57,us 58,us 59,us 60,us 61,us 62,us 63,us 64,us 65,us 66,us 67,us 68,us 69,us 70,us 71,us 72,us 73,us 74,us 75,us 76,us 77,us 78,us 79,us 80,us 81,us 82,us 83,us 84,us 85,us 86,us 87,us 88,us 89,us 90,us 91,us 92,us 93,us 94,us 95,us 96,us 97,us 98,us 99,us 100,us 101,us 102,us 103,us 104,us 105,us 106,us 107,us 108,us 109,us 110,us 111,us 112,us 113,us 114,us 115,us 116,us 117,us 118,us 119,us 120,us 121,us 122,us 123,us 124,us 125,us 126,us 127,us 128,us 129,us 130,us 131,us 132,us 133,us 134,us 135,us 136,us 137,us 138,us 139,us 140,us 141,us 142] := ⟨fun i => tm.getD i undef,arr_fn hsz⟩
     have h5 : us 5 = .pointer (some ⟨g,0,none⟩) := e5
     have h8 : us 8 = .pointer (some ⟨gh,0,none⟩) := e8
     have h17 : us 17 = .slice Alc nlc clc := e17
     have h19 : us 19 = .int .i64 (i : Nat) := e19
     have hdf2 : dfs = [] := hdf
     subst hdf2
     clear hdf hsz e5 e8 e17 e19
     simp only [h5,h8,h17,h19]
     clear h5 h8 h17 h19
     clear hP
     have hP := hide hPr
     have hfm' := hide hfm
     clear hPr hfm
     by_cases hlt : i < nlc
     ·skip
      have hil : (i : Int) < (nlc : Int) := by omega
      have hlt' := hide hlt
      have hib : (i : Int) ≤ 8 := by have := unhide hnc9; have := unhide hmo; omega
      have hiU : i < (upto V.length).length := by rw [upto_len, ← unhide hnc9]; exact hlt
      obtain ⟨ba,oa,rfl,c0⟩ := atI (unhide hslw wr (unhide hP).extf) hiU
      rw [upto_get] at c0
      have hself := Ext.refl wr
      have hne : ((i : Int) != (i : Int)) = false := by simp
      clear hlt hiU
      try dsimp only
      repeat ((fail_if_success (with_reducible refine wp_reg (id := 17) ?_)); (first | go_values | go_skip | go_step | go_guarded | go_upon | go_in | go_back | fail))
      with_reducible refine wp_reg (id := 17) ?_
      iterate 4
       refine wpO_want rfl ?_
       go_simp
      refine wpO_done ?_
      try go_frame
      try dsimp only
      repeat ((fail_if_success (with_reducible refine wp_reg (id := 19) ?_)); (first | go_values | go_skip | go_step | go_guarded | go_upon | go_in | go_back | fail))
      with_reducible refine wp_reg (id := 19) ?_
      iterate 6
       refine wpO_want rfl ?_
       go_simp
      refine wpO_done ?_
      try go_frame
      clear c0 hself hne
      go_wp2_with fail
      refine ⟨nlc - (i + 1), ?_,by have := unhide hfm'; have := unhide hlt'; omega⟩
      rw [unhide hI11_8]
      exact ⟨i + 1,(by first | rfl | trivial),(by first | rfl | trivial),(by first | rfl | trivial),(by first | rfl | trivial),(by first | rfl | (show _ = Value.int _ _; go_num) | go_num),(by first | rfl | trivial),by have := unhide hlt'; omega,unhide hP,rfl⟩
     ·skip
      have hil : ¬ (i : Int) < (nlc : Int) := by omega
      clear hlt hin
      try dsimp only
      repeat ((fail_if_success (with_reducible refine wp_reg (id := 17) ?_)); (first | go_values | go_skip | go_step | go_guarded | go_upon | go_in | go_back | fail))
      with_reducible refine wp_reg (id := 17) ?_
      iterate 4
       refine wpO_want rfl ?_
       go_simp
      refine wpO_done ?_
      try go_frame
      clear hil
      replace hg := hide ((unhide hg).ext (unhide hP).extf)
      replace hgh := hide ((unhide hgh).ext (unhide hP).extf)
      try dsimp only
      repeat ((fail_if_success (with_reducible refine wp_reg (id := 21) ?_)); (first | go_values | go_skip | go_step | go_guarded | go_upon | go_in | go_back | fail))
      with_reducible refine wp_reg (id := 21) ?_
      refine wpO_want rfl ?_
      go_simp
      refine wpO_want rfl ?_
      go_simp
      have hca := autos_any g bv be V E wr (unhide hg) (unhide hmo) (unhide hlb)
      refine hca.mono ?_
      clear hca
      rintro _ y12 ⟨At,nt,ct,Jt,rfl,hos,hxc⟩
      have hnt := hide hos.at.2
      have hss := hide hos.at.1
      refine ⟨_,rfl, ?_⟩
      replace hP : Hid (Sp wb [] wb [] [] [] y12) := hide ((unhide hP).ext hxc)
      replace hg := hide ((unhide hg).ext (hxc))
      replace hgh := hide ((unhide hgh).ext (hxc))
      clear hxc hos
      generalize htu0 : Value.tuple _ = tu
      have htu := hide htu0
      clear htu0
      refine wpO_val rfl (run_move rfl rfl) ?_
      go_frame
      refine wpO_val rfl (run_extract (i := 0) (v := .slice At nt ct) rfl (unhide htu).symm rfl) ?_
      go_frame
      refine wpO_val rfl (run_extract (i := 1) (v := .int .i64 0) rfl (unhide htu).symm rfl) ?_
      go_frame
      iterate 2
       refine wpO_want rfl ?_
       go_simp
      refine wpO_done ?_
      try go_frame
      clear htu
      try dsimp only
      repeat ((fail_if_success (with_reducible refine wp_reg (id := 22) ?_)); (first | go_values | go_skip | go_step | go_guarded | go_upon | go_in | go_back | fail))
      with_reducible refine wp_reg (id := 22) ?_
      refine wpO_want rfl ?_
      go_simp
      refine wpO_want rfl ?_
      go_simp
      have hca := autos_any gh gh1 gh2 V9 E9 y12 (unhide hgh) (by rw [unhide hvh]; exact unhide hmo) (unhide hlbh)
      refine hca.mono ?_
      clear hca
      rintro _ y13 ⟨Atb,ntb,ctb,Jtb,rfl,hos,hxc⟩
      have hntb := hide hos.at.2
      have hssb := hide hos.at.1
      refine ⟨_,rfl, ?_⟩
      replace hP : Hid (Sp wb [] wb [] [] [] y13) := hide ((unhide hP).ext hxc)
      replace hg := hide ((unhide hg).ext (hxc))
      replace hgh := hide ((unhide hgh).ext (hxc))
      replace hss := hide ((unhide hss).ext (hxc))
      clear hxc hos
      generalize htu0 : Value.tuple _ = tu
      have htu := hide htu0
      clear htu0
      refine wpO_val rfl (run_move rfl rfl) ?_
      go_frame
      refine wpO_val rfl (run_extract (i := 0) (v := .slice Atb ntb ctb) rfl (unhide htu).symm rfl) ?_
      go_frame
      refine wpO_val rfl (run_extract (i := 1) (v := .int .i64 0) rfl (unhide htu).symm rfl) ?_
      go_frame
      iterate 2
       refine wpO_want rfl ?_
       go_simp
      refine wpO_done ?_
      try go_frame
      clear htu
      have hnn : nt = ntb := by rw [unhide hnt,unhide hntb]; exact ren_auto (unhide hi) (unhide hoU) (unhide hren)
      obtain rfl := hnn
      have hpos : 0 < nt := by rw [unhide hnt]; exact List.length_pos_of_mem auto_id
      have hpos2 : (0 : Int) < (nt : Int) := by omega
      have heq : ((nt : Int) == (nt : Int)) = true := by simp
      try dsimp only
      repeat ((fail_if_success (with_reducible refine wp_reg (id := 23) ?_)); (first | go_values | go_skip | go_step | go_guarded | go_upon | go_in | go_back | fail))
      with_reducible refine wp_reg (id := 23) ?_
      iterate 11
       refine wpO_want rfl ?_
       go_simp
      refine wpO_done ?_
      try go_frame
      clear hpos hpos2 heq
      go_wp2_with fail
      refine Sp.leaves0 ?_
      exact ⟨_,results_tmp (t := 4) rfl _ _ _,rfl,(unhide hbase).trans (unhide hP).extf⟩
   ·skip
    have hq8 : ((rr : Int) != 0) = true := by simp; omega
    try dsimp only
    repeat ((fail_if_success (with_reducible refine wp_reg (id := 4) ?_)); (first | go_values | go_skip | go_step | go_guarded | go_upon | go_in | go_back | fail))
    with_reducible refine wp_reg (id := 4) ?_
    iterate 13
     refine wpO_want rfl ?_
     go_simp
    refine wpO_done ?_
    try go_frame
    clear q0 hself hrem hwr1 hq8 h7 hr0
    go_wp2_with fail
    refine Sp.leaves0 ?_
    exact ⟨_,results_tmp (t := 4) rfl _ _ _,rfl,(unhide hP).extf⟩
  ·skip
   try dsimp only
   repeat ((fail_if_success (with_reducible refine wp_reg (id := 4) ?_)); (first | go_values | go_skip | go_step | go_guarded | go_upon | go_in | go_back | fail))
   with_reducible refine wp_reg (id := 4) ?_
   iterate 8
    refine wpO_want rfl ?_
    go_simp
   refine wpO_out (by rfl) ?_
   go_frame
   refine wpO_out (by rfl) ?_
   go_frame
   refine wpO_out (by rfl) ?_
   go_frame
   iterate 2
    refine wpO_want rfl ?_
    go_simp
   refine wpO_done ?_
   try go_frame
   clear q0 hself h7
   have q0 := (unhide hP).cell 0 0 (v := .slice A1 V.length cA) rfl rfl
   have hself := Ext.refl y4
   try dsimp only
   repeat ((fail_if_success (with_reducible refine wp_reg (id := 6) ?_)); (first | go_values | go_skip | go_step | go_guarded | go_upon | go_in | go_back | fail))
   with_reducible refine wp_reg (id := 6) ?_
   iterate 5
    refine wpO_want rfl ?_
    go_simp
   clear q0 hself
   refine wpO_want rfl ?_
   go_simp
   have hca := numbers_any V.length turn y4 (by have := unhide hmo; omega) (unhide htn')
   refine hca.mono ?_
   clear hca
   rintro _ y5 ⟨to2,hnu0,A2,n2,c2,rfl,hn20,ho2,hxc⟩
   have hnu := hide hnu0
   have hn2 := hide hn20
   rw [hn20] at ho2
   have hA2 := hide (own_at (enc := encI) ho2 (fun _ => rfl))
   refine ⟨_,rfl, ?_⟩
   replace hP : Hid (Sp w [] w [] [(r6,28, #[.slice A1 V.length cA, .slice B1 E.length cB])] [] y5) := hide ((unhide hP).ext hxc)
   replace hg := hide ((unhide hg).ext (hxc))
   replace hsV := hide ((unhide hsV).ext (hxc))
   replace hsE := hide ((unhide hsE).ext (hxc))
   clear hxc hnu0 hn20 ho2
   refine wpO_want rfl ?_
   go_simp
   have hca := relabel_any g bv be V E A2 to2 n2 c2 y5 (unhide hg) (unhide hA2) (unhide hn2) (fun x hx => okK (by have := (unhide hnu).2.2 x hx; omega))
   refine hca.mono ?_
   clear hca
   rintro _ y6 (⟨hz9,_⟩ | ⟨hoU0,gh,gh1,gh2,V9,E9,hre9,rfl,hgy0,hxc,_,_,_⟩)
   ·exact absurd (wrT_ok.2 (unhide hnu).ok) hz9
   have hgh := hide hgy0
   have hoU := hide hoU0
   have hren := hide hre9
   refine ⟨_,rfl, ?_⟩
   replace hP : Hid (Sp w [] w [] [(r6,28, #[.slice A1 V.length cA, .slice B1 E.length cB])] [] y6) := hide ((unhide hP).ext hxc)
   replace hg := hide ((unhide hg).ext (hxc))
   replace hsV := hide ((unhide hsV).ext (hxc))
   replace hsE := hide ((unhide hsE).ext (hxc))
   replace hA2 := hide ((unhide hA2).ext (hxc))
   clear hxc hgy0 hoU0 hre9
   generalize htu0 : Value.tuple _ = tu
   have htu := hide htu0
   clear htu0
   refine wpO_val rfl (run_move rfl rfl) ?_
   go_frame
   refine wpO_val rfl (run_extract (i := 0) (v := .pointer (some ⟨gh,0,none⟩)) rfl (unhide htu).symm rfl) ?_
   go_frame
   refine wpO_val rfl (run_extract (i := 1) (v := .int .i64 0) rfl (unhide htu).symm rfl) ?_
   go_frame
   iterate 2
    refine wpO_want rfl ?_
    go_simp
   refine wpO_done ?_
   try go_frame
   clear htu hA2
   have hlbh := hide (ren_lab (unhide hlb) (unhide hren))
   have hvh := hide (ren_vlen (unhide hoU) (unhide hren))
   try dsimp only
   repeat ((fail_if_success (with_reducible refine wp_reg (id := 7) ?_)); (first | go_values | go_skip | go_step | go_guarded | go_upon | go_in | go_back | fail))
   with_reducible refine wp_reg (id := 7) ?_
   iterate 6
    refine wpO_want rfl ?_
    go_simp
   refine wpO_done ?_
   try go_frame
   try dsimp only
   repeat ((fail_if_success (with_reducible refine wp_reg (id := 9) ?_)); (first | go_values | go_skip | go_step | go_guarded | go_upon | go_in | go_back | fail))
   with_reducible refine wp_reg (id := 9) ?_
   refine wpO_want rfl ?_
   go_simp
   refine wpO_want rfl ?_
   go_simp
   have hca := canon_any g bv be V E y6 (unhide hg) (unhide hmo) (unhide hlb)
   refine hca.mono ?_
   clear hca
   rintro _ y7 ⟨f,fv,fe,V2,E2,Al,nl,cl,rfl,hnl0,hgf0,hcan0,ho,hxc,_,_,_⟩
   have hnl := hide hnl0
   have hfo0 : (formP V E (idsV V)).length = V.length := by rw [(formP_is V E (unhide hg).inv.idsS).perm.length_eq,idsV_len]
   have hsl := hide (own_at (enc := encI) (xs := formP V E (idsV V)) (by rw [hnl0, ← hfo0] at ho; exact ho) (fun _ => rfl))
   have hgf := hide hgf0
   have hcan := hide hcan0
   have hfo := hide hfo0
   refine ⟨_,rfl, ?_⟩
   replace hP : Hid (Sp w [] w [] [(r6,28, #[.slice A1 V.length cA, .slice B1 E.length cB])] [] y7) := hide ((unhide hP).ext hxc)
   replace hg := hide ((unhide hg).ext (hxc))
   replace hsV := hide ((unhide hsV).ext (hxc))
   replace hsE := hide ((unhide hsE).ext (hxc))
   replace hgh := hide ((unhide hgh).ext (hxc))
   clear hxc ho hgf0 hcan0 hnl0 hfo0
   generalize htu0 : Value.tuple _ = tu
   have htu := hide htu0
   clear htu0
   refine wpO_val rfl (run_move rfl rfl) ?_
   go_frame
   refine wpO_val rfl (run_extract (i := 0) (v := .pointer (some ⟨f,0,none⟩)) rfl (unhide htu).symm rfl) ?_
   go_frame
   refine wpO_val rfl (run_extract (i := 1) (v := .slice Al nl cl) rfl (unhide htu).symm rfl) ?_
   go_frame
   refine wpO_val rfl (run_extract (i := 2) (v := .int .i64 0) rfl (unhide htu).symm rfl) ?_
   go_frame
   iterate 3
    refine wpO_want rfl ?_
    go_simp
   refine wpO_done ?_
   try go_frame
   clear htu
   try dsimp only
   repeat ((fail_if_success (with_reducible refine wp_reg (id := 10) ?_)); (first | go_values | go_skip | go_step | go_guarded | go_upon | go_in | go_back | fail))
   with_reducible refine wp_reg (id := 10) ?_
   refine wpO_want rfl ?_
   go_simp
   refine wpO_want rfl ?_
   go_simp
   have hca := canon_any gh gh1 gh2 V9 E9 y7 (unhide hgh) (by rw [unhide hvh]; exact unhide hmo) (unhide hlbh)
   refine hca.mono ?_
   clear hca
   rintro _ y8 ⟨fb,fbv,fbe,V2b,E2b,Alb,nlb,clb,rfl,hnl0,hgf0,hcan0,ho,hxc,_,_,_⟩
   have hnlb := hide hnl0
   have hfo0 : (formP V9 E9 (idsV V9)).length = V9.length := by rw [(formP_is V9 E9 (unhide hgh).inv.idsS).perm.length_eq,idsV_len]
   have hslb := hide (own_at (enc := encI) (xs := formP V9 E9 (idsV V9)) (by rw [hnl0, ← hfo0] at ho; exact ho) (fun _ => rfl))
   have hgfb := hide hgf0
   have hcanb := hide hcan0
   have hfob := hide hfo0
   refine ⟨_,rfl, ?_⟩
   replace hP : Hid (Sp w [] w [] [(r6,28, #[.slice A1 V.length cA, .slice B1 E.length cB])] [] y8) := hide ((unhide hP).ext hxc)
   replace hg := hide ((unhide hg).ext (hxc))
   replace hsV := hide ((unhide hsV).ext (hxc))
   replace hsE := hide ((unhide hsE).ext (hxc))
   replace hgh := hide ((unhide hgh).ext (hxc))
   replace hsl := hide ((unhide hsl).ext (hxc))
   replace hgf := hide ((unhide hgf).ext (hxc))
   clear hxc ho hgf0 hcan0 hnl0 hfo0
   generalize htu0 : Value.tuple _ = tu
   have htu := hide htu0
   clear htu0
   refine wpO_val rfl (run_move rfl rfl) ?_
   go_frame
   refine wpO_val rfl (run_extract (i := 0) (v := .pointer (some ⟨fb,0,none⟩)) rfl (unhide htu).symm rfl) ?_
   go_frame
   refine wpO_val rfl (run_extract (i := 1) (v := .slice Alb nlb clb) rfl (unhide htu).symm rfl) ?_
   go_frame
   refine wpO_val rfl (run_extract (i := 2) (v := .int .i64 0) rfl (unhide htu).symm rfl) ?_
   go_frame
   iterate 3
    refine wpO_want rfl ?_
    go_simp
   refine wpO_done ?_
   try go_frame
   clear htu
   have hv1024 : V.length ≤ 1024 := by have := unhide hmo; omega
   have hce := can_eq (unhide hi) (unhide hoU) (unhide hren) hv1024 (unhide hcan) (unhide hcanb)
   obtain ⟨rfl,rfl⟩ := hce
   have hlbc := hide (ren_lab (unhide hlb) (unhide hcan).ren)
   have hvc := hide (can_vlen (unhide hi) hv1024 (unhide hcan))
   clear hv1024
   try dsimp only
   repeat ((fail_if_success (with_reducible refine wp_reg (id := 11) ?_)); (first | go_values | go_skip | go_step | go_guarded | go_upon | go_in | go_back | fail))
   with_reducible refine wp_reg (id := 11) ?_
   iterate 14
    refine wpO_want rfl ?_
    go_simp
   refine wpO_done ?_
   try go_frame
   try dsimp only
   repeat ((fail_if_success (with_reducible refine wp_reg (id := 13) ?_)); (first | go_values | go_skip | go_step | go_guarded | go_upon | go_in | go_back | fail))
   with_reducible refine wp_reg (id := 13) ?_
   refine wpO_want rfl ?_
   go_simp
   refine wpO_want rfl ?_
   go_simp
   have hca := canon_any f fv fe V2 E2 y8 (unhide hgf) (by rw [unhide hvc]; exact unhide hmo) (unhide hlbc)
   refine hca.mono ?_
   clear hca
   rintro _ y9 ⟨fc,fcv,fce,V2c,E2c,Alc,nlc,clc,rfl,hnl0,hgf0,hcan0,ho,hxc,_,_,_⟩
   have hnlc := hide hnl0
   have hfo0 : (formP V2 E2 (idsV V2)).length = V2.length := by rw [(formP_is V2 E2 (unhide hgf).inv.idsS).perm.length_eq,idsV_len]
   have hslc := hide (own_at (enc := encI) (xs := formP V2 E2 (idsV V2)) (by rw [hnl0, ← hfo0] at ho; exact ho) (fun _ => rfl))
   have hgfc := hide hgf0
   have hcanc := hide hcan0
   have hfoc := hide hfo0
   refine ⟨_,rfl, ?_⟩
   replace hP : Hid (Sp w [] w [] [(r6,28, #[.slice A1 V.length cA, .slice B1 E.length cB])] [] y9) := hide ((unhide hP).ext hxc)
   replace hg := hide ((unhide hg).ext (hxc))
   replace hsV := hide ((unhide hsV).ext (hxc))
   replace hsE := hide ((unhide hsE).ext (hxc))
   replace hgh := hide ((unhide hgh).ext (hxc))
   replace hsl := hide ((unhide hsl).ext (hxc))
   replace hgf := hide ((unhide hgf).ext (hxc))
   replace hslb := hide ((unhide hslb).ext (hxc))
   replace hgfb := hide ((unhide hgfb).ext (hxc))
   clear hxc ho hgf0 hcan0 hnl0 hfo0
   generalize htu0 : Value.tuple _ = tu
   have htu := hide htu0
   clear htu0
   refine wpO_val rfl (run_move rfl rfl) ?_
   go_frame
   refine wpO_val rfl (run_extract (i := 0) (v := .pointer (some ⟨fc,0,none⟩)) rfl (unhide htu).symm rfl) ?_
   go_frame
   refine wpO_val rfl (run_extract (i := 1) (v := .slice Alc nlc clc) rfl (unhide htu).symm rfl) ?_
   go_frame
   refine wpO_val rfl (run_extract (i := 2) (v := .int .i64 0) rfl (unhide htu).symm rfl) ?_
   go_frame
   iterate 3
    refine wpO_want rfl ?_
    go_simp
   refine wpO_done ?_
   try go_frame
   clear htu
   have hv1024 : V.length ≤ 1024 := by have := unhide hmo; omega
   obtain ⟨rfl,rfl⟩ := can_again (unhide hi) hv1024 (unhide hcan) (unhide hcanc)
   have hid := form_again (unhide hi) hv1024 (unhide hcan)
   rw [can_ids (unhide hi) hv1024 (unhide hcan)] at hid
   rw [can_ids (unhide hi) hv1024 (unhide hcan),hid] at hslc
   have hnc9 := hide (show nlc = V.length by rw [unhide hnlc,unhide hvc])
   clear hid hv1024
   try dsimp only
   repeat ((fail_if_success (with_reducible refine wp_reg (id := 14) ?_)); (first | go_values | go_skip | go_step | go_guarded | go_upon | go_in | go_back | fail))
   with_reducible refine wp_reg (id := 14) ?_
   iterate 9
    refine wpO_want rfl ?_
    go_simp
   refine wpO_want rfl ?_
   go_simp
   have hca := equal_self f fv fe fb fbv fbe V2c E2c y9 (unhide hgf) (unhide hgfb)
   refine hca.mono ?_
   clear hca
   rintro _ y10 ⟨rfl,hxc⟩
   refine ⟨_,rfl, ?_⟩
   replace hP : Hid (Sp w [] w [] [(r6,28, #[.slice A1 V.length cA, .slice B1 E.length cB])] [] y10) := hide ((unhide hP).ext hxc)
   replace hg := hide ((unhide hg).ext (hxc))
   replace hsV := hide ((unhide hsV).ext (hxc))
   replace hsE := hide ((unhide hsE).ext (hxc))
   replace hgh := hide ((unhide hgh).ext (hxc))
   replace hsl := hide ((unhide hsl).ext (hxc))
   replace hgf := hide ((unhide hgf).ext (hxc))
   replace hslb := hide ((unhide hslb).ext (hxc))
   replace hgfb := hide ((unhide hgfb).ext (hxc))
   replace hslc := hide ((unhide hslc).ext (hxc))
   replace hgfc := hide ((unhide hgfc).ext (hxc))
   clear hxc
   iterate 5
    refine wpO_want rfl ?_
    go_simp
   refine wpO_want rfl ?_
   go_simp
   have hca := equal_self f fv fe fc fcv fce V2c E2c y10 (unhide hgf) (unhide hgfc)
   refine hca.mono ?_
   clear hca
   rintro _ y11 ⟨rfl,hxc⟩
   refine ⟨_,rfl, ?_⟩
   replace hP : Hid (Sp w [] w [] [(r6,28, #[.slice A1 V.length cA, .slice B1 E.length cB])] [] y11) := hide ((unhide hP).ext hxc)
   replace hg := hide ((unhide hg).ext (hxc))
   replace hsV := hide ((unhide hsV).ext (hxc))
   replace hsE := hide ((unhide hsE).ext (hxc))
   replace hgh := hide ((unhide hgh).ext (hxc))
   replace hsl := hide ((unhide hsl).ext (hxc))
   replace hgf := hide ((unhide hgf).ext (hxc))
   replace hslb := hide ((unhide hslb).ext (hxc))
   replace hgfb := hide ((unhide hgfb).ext (hxc))
   replace hslc := hide ((unhide hslc).ext (hxc))
   replace hgfc := hide ((unhide hgfc).ext (hxc))
   clear hxc
   iterate 2
    refine wpO_want rfl ?_
    go_simp
   refine wpO_done ?_
   try go_frame
   go_wp2_with fail
   have hslq := hslc
   have hslw := hide (fun (W : World) (hW : Ext y11 W) => (unhide hslq).ext hW)
   clear hslc hslq
   have hg9 := hg
   have hgh9 := hgh
   have hbase := hide (unhide hP).extf
   clear hP
   generalize y11 = wb at *
   have hP := hide (Sp.new wb)
   obtain ⟨I11_6,hI11_60⟩ : ∃ I : Nat → Act → World → Prop,I = fun fi a' wr => ∃ (i : Nat),a'.tmps.size = 143 ∧ a'.tmps.getD 5 undef = .pointer (some ⟨g,0,none⟩) ∧ a'.tmps.getD 8 undef = .pointer (some ⟨gh,0,none⟩) ∧ a'.tmps.getD 17 undef = .slice Alc nlc clc ∧ a'.tmps.getD 19 undef = .int .i64 (i : Nat) ∧ a'.defers = [] ∧ i ≤ nlc ∧ Sp wb [] wb [] [] [] wr ∧ fi = nlc - i := ⟨_,rfl⟩
   have hI11_6 := hide hI11_60
   clear hI11_60
   refine wp_loop_ix I11_6 (nlc - 0) ?_ ?_
   ·rw [unhide hI11_6]; exact ⟨0,rfl,rfl,rfl,rfl,rfl,rfl,Nat.zero_le _,unhide hP,rfl⟩
   ·rintro fi ⟨tm,dfs⟩ wr hrel
    rw [unhide hI11_6] at hrel
    obtain ⟨i,hsz,e5,e8,e17,e19,hdf,hin,hPr,hfm⟩ := hrel
    obtain ⟨us,rfl⟩ : ∃ us : Nat → Value,tm = #[us 0,us 1,us 2,us 3,us 4,us 5,us 6,us 7,us 8,us 9,us 10,us 11,us 12,us 13,us 14,us 15,us 16,us 17,us 18,us 19,us 20,us 21,us 22,us 23,us 24,us 25,us 26,us 27,us 28,us 29,us 30,us 31,us 32,us 33,us 34,us 35,us 36,us 37,us 38,us 39,us 40,us 41,us 42,us 43,us 44,us 45,us 46,us 47,us 48,us 49,us 50,us 51,us 52,us 53,us 54,us 55,us 56,us 57,us 58,us 59,us 60,us 61,us 62,us 63,us 64,us 65,us 66,us 67,us 68,us 69,us 70,us 71,us 72,us 73,us 74,us 75,us 76,us 77,us 78,us 79,us 80,us 81,us 82,us 83,us 84,us 85,us 86,us 87,us 88,us 89,us 90,us 91,us 92,us 93,us 94,us 95,us 96,us 97,us 98,us 99,us 100,us 101,us 102,us 103,us 104,us 105,us 106,us 107,us 108,us 109,us 110,us 111,us 112,us 113,us 114,us 115,us 116,us 117,us 118,us 119,us 120,us 121,us 122,us 123,us 124,us 125,us 126,us 127,us 128,us 129,us 130,us 131,us 132,us 133,us 134,us 135,us 136,us 137,us 138,us 139,us 140,us 141,us 142] := ⟨fun i => tm.getD i undef,arr_fn hsz⟩
    have h5 : us 5 = .pointer (some ⟨g,0,none⟩) := e5
    have h8 : us 8 = .pointer (some ⟨gh,0,none⟩) := e8
    have h17 : us 17 = .slice Alc nlc clc := e17
    have h19 : us 19 = .int .i64 (i : Nat) := e19
    have hdf2 : dfs = [] := hdf
    subst hdf2
    clear hdf hsz e5 e8 e17 e19
    simp only [h5,h8,h17,h19]
    clear h5 h8 h17 h19
    clear hP
    have hP := hide hPr
    have hfm' := hide hfm
    clear hPr hfm
    by_cases hlt : i < nlc
    ·skip
     have hil : (i : Int) < (nlc : Int) := by omega
     have hlt' := hide hlt
     have hib : (i : Int) ≤ 8 := by have := unhide hnc9; have := unhide hmo; omega
     have hiU : i < (upto V.length).length := by rw [upto_len, ← unhide hnc9]; exact hlt
     obtain ⟨ba,oa,rfl,c0⟩ := atI (unhide hslw wr (unhide hP).extf) hiU
     rw [upto_get] at c0
     have hself := Ext.refl wr
     have hne : ((i : Int) != (i : Int)) = false := by simp
     clear hlt hiU
     try dsimp only
     repeat ((fail_if_success (with_reducible refine wp_reg (id := 17) ?_)); (first | go_values | go_skip | go_step | go_guarded | go_upon | go_in | go_back | fail))
     with_reducible refine wp_reg (id := 17) ?_
     iterate 4
      refine wpO_want rfl ?_
      go_simp
     refine wpO_done ?_
     try go_frame
     try dsimp only
     repeat ((fail_if_success (with_reducible refine wp_reg (id := 19) ?_)); (first | go_values | go_skip | go_step | go_guarded | go_upon | go_in | go_back | fail))
     with_reducible refine wp_reg (id := 19) ?_
     iterate 6
      refine wpO_want rfl ?_
      go_simp
     refine wpO_done ?_
     try go_frame
     clear c0 hself hne
     go_wp2_with fail
     refine ⟨nlc - (i + 1), ?_,by have := unhide hfm'; have := unhide hlt'; omega⟩
     rw [unhide hI11_6]
     exact ⟨i + 1,(by first | rfl | trivial),(by first | rfl | trivial),(by first | rfl | trivial),(by first | rfl | trivial),(by first | rfl | (show _ = Value.int _ _; go_num) | go_num),(by first | rfl | trivial),by have := unhide hlt'; omega,unhide hP,rfl⟩
    ·skip
     have hil : ¬ (i : Int) < (nlc : Int) := by omega
     clear hlt hin
     try dsimp only
     repeat ((fail_if_success (with_reducible refine wp_reg (id := 17) ?_)); (first | go_values | go_skip | go_step | go_guarded | go_upon | go_in | go_back | fail))
     with_reducible refine wp_reg (id := 17) ?_
     iterate 4
      refine wpO_want rfl ?_
      go_simp
     refine wpO_done ?_
     try go_frame
     clear hil
     replace hg := hide ((unhide hg).ext (unhide hP).extf)
     replace hgh := hide ((unhide hgh).ext (unhide hP).extf)
     try dsimp only
     repeat ((fail_if_success (with_reducible refine wp_reg (id := 21) ?_)); (first | go_values | go_skip | go_step | go_guarded | go_upon | go_in | go_back | fail))
     with_reducible refine wp_reg (id := 21) ?_
     refine wpO_want rfl ?_
     go_simp
     refine wpO_want rfl ?_
     go_simp
     have hca := autos_any g bv be V E wr (unhide hg) (unhide hmo) (unhide hlb)
     refine hca.mono ?_
     clear hca
     rintro _ y12 ⟨At,nt,ct,Jt,rfl,hos,hxc⟩
     have hnt := hide hos.at.2
     have hss := hide hos.at.1
     refine ⟨_,rfl, ?_⟩
     replace hP : Hid (Sp wb [] wb [] [] [] y12) := hide ((unhide hP).ext hxc)
     replace hg := hide ((unhide hg).ext (hxc))
     replace hgh := hide ((unhide hgh).ext (hxc))
     clear hxc hos
     generalize htu0 : Value.tuple _ = tu
     have htu := hide htu0
     clear htu0
     refine wpO_val rfl (run_move rfl rfl) ?_
     go_frame
     refine wpO_val rfl (run_extract (i := 0) (v := .slice At nt ct) rfl (unhide htu).symm rfl) ?_
     go_frame
     refine wpO_val rfl (run_extract (i := 1) (v := .int .i64 0) rfl (unhide htu).symm rfl) ?_
     go_frame
     iterate 2
      refine wpO_want rfl ?_
      go_simp
     refine wpO_done ?_
     try go_frame
     clear htu
     try dsimp only
     repeat ((fail_if_success (with_reducible refine wp_reg (id := 22) ?_)); (first | go_values | go_skip | go_step | go_guarded | go_upon | go_in | go_back | fail))
     with_reducible refine wp_reg (id := 22) ?_
     refine wpO_want rfl ?_
     go_simp
     refine wpO_want rfl ?_
     go_simp
     have hca := autos_any gh gh1 gh2 V9 E9 y12 (unhide hgh) (by rw [unhide hvh]; exact unhide hmo) (unhide hlbh)
     refine hca.mono ?_
     clear hca
     rintro _ y13 ⟨Atb,ntb,ctb,Jtb,rfl,hos,hxc⟩
     have hntb := hide hos.at.2
     have hssb := hide hos.at.1
     refine ⟨_,rfl, ?_⟩
     replace hP : Hid (Sp wb [] wb [] [] [] y13) := hide ((unhide hP).ext hxc)
     replace hg := hide ((unhide hg).ext (hxc))
     replace hgh := hide ((unhide hgh).ext (hxc))
     replace hss := hide ((unhide hss).ext (hxc))
     clear hxc hos
     generalize htu0 : Value.tuple _ = tu
     have htu := hide htu0
     clear htu0
     refine wpO_val rfl (run_move rfl rfl) ?_
     go_frame
     refine wpO_val rfl (run_extract (i := 0) (v := .slice Atb ntb ctb) rfl (unhide htu).symm rfl) ?_
     go_frame
     refine wpO_val rfl (run_extract (i := 1) (v := .int .i64 0) rfl (unhide htu).symm rfl) ?_
     go_frame
     iterate 2
      refine wpO_want rfl ?_
      go_simp
     refine wpO_done ?_
     try go_frame
     clear htu
     have hnn : nt = ntb := by rw [unhide hnt,unhide hntb]; exact ren_auto (unhide hi) (unhide hoU) (unhide hren)
     obtain rfl := hnn
     have hpos : 0 < nt := by rw [unhide hnt]; exact List.length_pos_of_mem auto_id
     have hpos2 : (0 : Int) < (nt : Int) := by omega
     have heq : ((nt : Int) == (nt : Int)) = true := by simp
     try dsimp only
     repeat ((fail_if_success (with_reducible refine wp_reg (id := 23) ?_)); (first | go_values | go_skip | go_step | go_guarded | go_upon | go_in | go_back | fail))
     with_reducible refine wp_reg (id := 23) ?_
     iterate 11
      refine wpO_want rfl ?_
      go_simp
     refine wpO_done ?_
     try go_frame
     clear hpos hpos2 heq
     go_wp2_with fail
     refine Sp.leaves0 ?_
     exact ⟨_,results_tmp (t := 4) rfl _ _ _,rfl,(unhide hbase).trans (unhide hP).extf⟩
end Go.Proofs.YtbpeemhfjgcnaaaGreat
namespace Go.Proofs.YtbpeemhfjgcnaaaGreat.isomorphismInvariantRow
open Go.ChangeShapes Go.WideShapes Go.ChangeAt Go.RowKit
set_option linter.unusedVariables false
theorem own : ownKnob Tryz.prog.godebug = none := by kernel_rfl
theorem laidOut : laidOutB Tryz.prog = true := by kernel_rfl
set_option maxRecDepth 100000 in
theorem lifted (os : Os) (started : os.Started) (H : Type) (enc : TypeId × Value → H) :
  ReturnsInHanded {} Tryz.checked os 6 .any (Rows.isomorphismInvariantSpec.pre6 enc Tryz.prog Tryz.f6 Rows.isomorphismInvariantRow.domain false) (Rows.isomorphismInvariantSpec.post enc Tryz.prog Tryz.f6 false true false false) := by
 refine returnsInHanded_of_change (C := Tryz.checked) own started (by kernel_rfl) Tryz.func6
  (ChangeSpec.witness6 (enc := enc) (C := Tryz.checked) false ⟨#[], #[.slice none 0 0, .int .u64 0],[]⟩ 8 (by kernel_rfl) (by kernel_rfl) (by kernel_rfl) (by kernel_rfl)) ?_
 intro W base args ds gs before hval0 hW hcnd _
 have hval : ∀ (j : Nat) t v,Tryz.f6.params[j]? = some t → args[j]? = some v → Value.okWide Tryz.prog W .any base t v := hval0
 have hW' := hW
 obtain ⟨p,q,hA0,hV,rfl,hfz,hnd⟩ := hW
 have hA : DataW.TrodAll enc Tryz.prog W 0 (fun _ => true) true Tryz.f6.params.toList args.toList ds p := hA0
 rw [Tryz.params6] at hA hval
 obtain ⟨v0,vs0,d0,ds0,p0,q0,hargs,rfl,rfl,h0,r0⟩ := trodAll_cons hA
 obtain ⟨v1,vs1,d1,ds1,p1,q1,rfl,rfl,rfl,h1,r1⟩ := trodAll_cons r0
 obtain ⟨rfl,rfl,rfl⟩ := trodAll_nil r1
 obtain rfl : args = #[v0,v1] := by cases args; simp_all
 obtain ⟨rfl,rfl⟩ := trodVars_none hV
 obtain ⟨a0,len0,cap0,rfl⟩ := okWide_slice Tryz.underlying22 (hval 0 22 v0 rfl rfl)
 have k0 := h0
 have lt0 : ∀ x ∈ p0,x.block < W.heap.size := by obtain ⟨m,hm⟩ := k0; exact DataW.trod_lt m _ _ _ hm
 obtain ⟨fu0,hf0⟩ := h0
 obtain ⟨L0,hn0,hs0,ho0,hm0,hz0⟩ := open_editsB (by simpa [Value.cells] using hf0)
 subst hn0
 obtain ⟨a1,rfl,rfl,rfl,w1⟩ := open_int Tryz.underlying47 (hval 1 47 v1 rfl rfl) h1
 clear hA0 hval0
 refine (isomorphismInvariant_walk a0 L0 cap0 a1 W hs0 ho0 hm0 hz0 (Go.bounds_u64 w1)).mono fun e W' ⟨he,bel⟩ => ?_
 subst he
 exact ⟨_,rfl,_,_,_,[],_,[],hW',trodAll_mk1 (shut_bool Tryz.underlying4 _),(trodAll_cons_mk (Below.trod laidOut (by kernel_rfl) (of_decide_eq_true (by kernel_rfl)) k0 bel lt0) (trodAll_cons_mk (shut_int Tryz.underlying47 w1) trodAll_mk0)),rfl,bel.frame _,fun h => by cases h⟩
theorem over : Rows.isomorphismInvariantRow.holds Tryz.pinned (OpenSpec.ofChange Rows.isomorphismInvariantSpec) :=
 OpenClaim.holds_of_wide 6 Tryz.f6 rfl rfl rfl rfl rfl rfl rfl ⟨rfl,rfl,rfl,rfl,rfl⟩ rfl rfl rfl rfl rfl (by kernel_rfl) Tryz.func6 (by kernel_rfl)
  (of_decide_eq_true (by kernel_rfl)) (by unfold Func.isWrapper; first | (rw [if_pos (by decide +kernel)]; kernel_rfl) | (rw [if_neg (by decide +kernel)]; exact ⟨rfl,rfl⟩))
  (fun os started H enc _ => lifted os started H enc)
end Go.Proofs.YtbpeemhfjgcnaaaGreat.isomorphismInvariantRow
namespace Go.Proofs.YtbpeemhfjgcnaaaGreat
theorem isomorphismInvariant_holds : Rows.IsomorphismInvariantSaid := isomorphismInvariantRow.over
#print axioms isomorphismInvariant_holds
end Go.Proofs.YtbpeemhfjgcnaaaGreat
