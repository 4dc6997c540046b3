/- Parts of a proof, laid together. Each part says its own conditions. -/
import Derived.Test.YtbpeemhfjgcnaaaGreatC20
import Derived.Test.YtbpeemhfjgcnaaaGreatC6
import Derived.Test.YtbpeemhfjgcnaaaGreatC15
import Derived.Test.YtbpeemhfjgcnaaaGreatC16
namespace Go.Proofs.YtbpeemhfjgcnaaaGreat
def betE (E : List ((Int × Int) × Thing)) (u v : Int) : Option Thing := (E.find? (isE u v)).map (·.2)
def thV (V : List (Int × Thing)) (u : Int) : Thing := ((V.find? fun p => p.1 == u).map (·.2)).getD (0,0)
def pairO : Option Thing → List Int
 | none => [0]
 | some t => [1,t.1,t.2]
theorem pairO_app {o o' : Option Thing} {A B : List Int} : pairO o ++ A = pairO o' ++ B ↔ o = o' ∧ A = B := by
 cases o with
 | none => cases o' with
  | none => simp [pairO]
  | some t => simp [pairO]
 | some t => cases o' with
  | none => simp [pairO]
  | some s =>
   obtain ⟨a,b⟩ := t
   obtain ⟨c,d⟩ := s
   simp [pairO,and_assoc]
def codeT : List Thing → List Int
 | [] => []
 | t :: l => t.1 :: t.2 :: codeT l
theorem codeT_len : ∀ l : List Thing,(codeT l).length = 2 * l.length
 | [] => rfl
 | t :: l => by unfold codeT; simp only [List.length_cons,codeT_len l]; omega
theorem codeT_inj : ∀ {l m : List Thing},codeT l = codeT m → l = m
 | [],[],_ => rfl
 | [],_ :: _,h => by simp [codeT] at h
 | _ :: _,[],h => by simp [codeT] at h
 | t :: l,s :: m,h => by
  unfold codeT at h
  simp only [List.cons.injEq] at h
  rw [codeT_inj h.2.2,Prod.ext h.1 h.2.1]
def codeP (E : List ((Int × Int) × Thing)) : List Int → List Int
 | [] => []
 | u :: r => r.flatMap (fun v => pairO (betE E u v)) ++ codeP E r
def codeR (V : List (Int × Thing)) (E : List ((Int × Int) × Thing)) (p : List Int) : List Int := codeT (p.map (thV V)) ++ codeP E p
section
variable {V V' : List (Int × Thing)} {E E' : List ((Int × Int) × Thing)}
theorem flatO_app (f g : Int → Option Thing) : ∀ (r s : List Int),r.length = s.length → ∀ A B : List Int,(r.flatMap (fun v => pairO (f v)) ++ A = s.flatMap (fun v => pairO (g v)) ++ B ↔ r.map f = s.map g ∧ A = B)
 | [],[],_,A,B => by simp
 | [],_ :: _,h,_,_ => by simp at h
 | _ :: _,[],h,_,_ => by simp at h
 | u :: r,v :: s,h,A,B => by
  have ih := flatO_app f g r s (by simpa using h) A B
  rw [List.flatMap_cons,List.flatMap_cons,List.append_assoc,List.append_assoc,pairO_app,ih,List.map_cons,List.map_cons,List.cons.injEq,and_assoc]
def pairsL (E : List ((Int × Int) × Thing)) : List Int → List (List (Option Thing))
 | [] => []
 | u :: r => r.map (betE E u) :: pairsL E r
theorem codeP_inj : ∀ {p q : List Int},p.length = q.length → (codeP E p = codeP E' q ↔ pairsL E p = pairsL E' q)
 | [],[],_ => by simp [codeP,pairsL]
 | [],_ :: _,h => by simp at h
 | _ :: _,[],h => by simp at h
 | u :: r,v :: s,h => by
  have hl : r.length = s.length := by simpa using h
  unfold codeP pairsL
  rw [flatO_app (betE E u) (betE E' v) r s hl,codeP_inj hl,List.cons.injEq]
theorem codeR_inj {p q : List Int} (h : p.length = q.length) : codeR V E p = codeR V' E' q ↔ p.map (thV V) = q.map (thV V') ∧ pairsL E p = pairsL E' q := by
 unfold codeR
 constructor
 ·intro e
  obtain ⟨h1,h2⟩ := List.append_inj e (by rw [codeT_len,codeT_len,List.length_map,List.length_map,h])
  exact ⟨codeT_inj h1,(codeP_inj h).1 h2⟩
 ·rintro ⟨h1,h2⟩
  rw [h1,(codeP_inj h).2 h2]
theorem pairsL_iff : ∀ {p q : List Int},p.length = q.length → (pairsL E p = pairsL E' q ↔ ∀ i j (_ : i < j) (hj : j < p.length) (hj' : j < q.length),betE E p[i] p[j] = betE E' q[i] q[j])
 | [],[],_ => by simp [pairsL]
 | [],_ :: _,h => by simp at h
 | _ :: _,[],h => by simp at h
 | u :: r,v :: s,h => by
  have hl : r.length = s.length := by simpa using h
  unfold pairsL
  rw [List.cons.injEq,pairsL_iff hl]
  constructor
  ·rintro ⟨h1,h2⟩ i j hij hj hj'
   cases j with
   | zero => omega
   | succ j =>
    cases i with
    | zero =>
     simp only [List.getElem_cons_zero,List.getElem_cons_succ]
     have hjr : j < r.length := by simpa using hj
     have hjs : j < s.length := by simpa using hj'
     have := congrArg (fun l => l[j]?) h1
     simpa [hjr,hjs] using this
    | succ i =>
     simp only [List.getElem_cons_succ]
     exact h2 i j (by omega) (by simpa using hj) (by simpa using hj')
  ·intro h1
   refine ⟨List.ext_getElem (by simp [hl]) fun j h2 h3 => ?_,fun i j hij hj hj' => ?_⟩
   ·have := h1 0 (j + 1) (by omega) (by simpa using h2) (by simpa using h3)
    simpa using this
   ·have := h1 (i + 1) (j + 1) (by omega) (by simpa using hj) (by simpa using hj')
    simpa using this
end
structure IsForm (V : List (Int × Thing)) (E : List ((Int × Int) × Thing)) (ids p : List Int) : Prop where
 perm : p.Perm ids
 least : ∀ q : List Int,q.Perm ids → lcmp (codeR V E p) (codeR V E q) < 0 ∨ (codeR V E p = codeR V E q ∧ lcmp p q ≤ 0)
theorem IsForm.uniq {V : List (Int × Thing)} {E : List ((Int × Int) × Thing)} {ids p q : List Int} (h : IsForm V E ids p) (k : IsForm V E ids q) : p = q := by
 rcases h.least q k.perm with h1 | ⟨h1,h2⟩
 ·rcases k.least p h.perm with h3 | ⟨h3,_⟩
  ·have := lcmp_neg (codeR V E p) (codeR V E q)
   omega
  ·rw [h3,lcmp_self] at h1; omega
 ·rcases k.least p h.perm with h3 | ⟨_,h4⟩
  ·rw [h1,lcmp_self] at h3; omega
  ·exact lcmp_anti h2 h4
def formP (V : List (Int × Thing)) (E : List ((Int × Int) × Thing)) (ids : List Int) : List Int :=
 match allN ids.length ids with
 | [] => []
 | a :: l => firstP (codeR V E) a l
theorem formP_is (V : List (Int × Thing)) (E : List ((Int × Int) × Thing)) {ids : List Int} (hs : ids.Pairwise (· < ·)) : IsForm V E ids (formP V E ids) := by
 have hm := mem_allN ids.length ids rfl
 have hp := allN_sorted ids.length ids rfl hs
 unfold formP
 cases h : allN ids.length ids with
 | nil =>
  have := (hm ids).2 (List.Perm.refl _)
  rw [h] at this
  cases this
 | cons a l =>
  rw [h] at hm hp
  obtain ⟨h1,h2⟩ := firstP_spec (codeR V E) l a hp
  exact ⟨(hm _).1 h1,fun q hq => h2 q ((hm q).2 hq)⟩
def tlt (a b : Thing) : Bool := decide (a.1 < b.1) || (decide (a.1 = b.1) && decide (a.2 < b.2))
theorem tlt_iff {a b : Thing} : tlt a b = true ↔ a.1 < b.1 ∨ (a.1 = b.1 ∧ a.2 < b.2) := by unfold tlt; simp
theorem tlt_total {a b : Thing} (h1 : tlt a b = false) (h2 : tlt b a = false) : a = b := by
 have h1 := (Bool.eq_false_iff.1 h1)
 have h2 := (Bool.eq_false_iff.1 h2)
 rw [Ne,tlt_iff] at h1 h2
 exact Prod.ext (by omega) (by omega)
theorem lcmp_two (a b : Thing) (x y : List Int) : lcmp (a.1 :: a.2 :: x) (b.1 :: b.2 :: y) = if tlt a b = true then -1 else if tlt b a = true then 1 else lcmp x y := by
 rw [lcmp_cons,lcmp_cons]
 simp only [tlt_iff]
 by_cases h1 : a.1 < b.1
 ·rw [if_pos h1,if_pos (.inl h1)]
 ·by_cases h2 : b.1 < a.1
  ·rw [if_neg h1,if_pos h2,if_neg (by omega),if_pos (.inl h2)]
  ·rw [if_neg h1,if_neg h2]
   by_cases h3 : a.2 < b.2
   ·rw [if_pos h3,if_pos (.inr ⟨by omega,h3⟩)]
   ·by_cases h4 : b.2 < a.2
    ·rw [if_neg h3,if_pos h4,if_neg (by omega),if_pos (.inr ⟨by omega,h4⟩)]
    ·rw [if_neg h3,if_neg h4,if_neg (by omega),if_neg (by omega)]
theorem sorted_least : ∀ (A B : List Thing),A.Pairwise (fun a b => tlt b a = false) → A.Perm B → lcmp (codeT A) (codeT B) ≤ 0
 | [],B,_,h => by
  have : B = [] := List.nil_perm.1 h
  subst this
  show lcmp [] [] ≤ 0
  decide
 | a :: A,[],_,h => by have := h.length_eq; simp at this
 | a :: A,b :: B,hs,h => by
  obtain ⟨h1,h2⟩ := List.pairwise_cons.1 hs
  show lcmp (a.1 :: a.2 :: codeT A) (b.1 :: b.2 :: codeT B) ≤ 0
  rw [lcmp_two]
  split
  ·decide
  ·rename_i hab
   have hba : tlt b a = false := by
    rcases List.mem_cons.1 (h.mem_iff.2 (List.mem_cons_self : b ∈ b :: B)) with e | hm
    ·subst e
     rwa [Bool.not_eq_true] at hab
    ·exact h1 b hm
   rw [hba,if_neg (by simp)]
   have e := tlt_total (by rwa [Bool.not_eq_true] at hab) hba
   subst e
   exact sorted_least A B h2 h.cons_inv
theorem form_of {V : List (Int × Thing)} {E : List ((Int × Int) × Thing)} {ids p : List Int} {K : List Thing} (hK : K.Pairwise fun a b => tlt b a = false) (hKp : K.Perm (ids.map (thV V))) (hp : p.Perm ids) (hpk : p.map (thV V) = K) (hl : ∀ q : List Int,q.Perm ids → q.map (thV V) = K → lcmp (codeP E p) (codeP E q) < 0 ∨ (codeP E p = codeP E q ∧ lcmp p q ≤ 0)) : IsForm V E ids p := by
 refine ⟨hp,fun q hq => ?_⟩
 have hlen : (codeT (p.map (thV V))).length = (codeT (q.map (thV V))).length := by rw [codeT_len,codeT_len,List.length_map,List.length_map,hp.length_eq,hq.length_eq]
 have hle : lcmp (codeT (p.map (thV V))) (codeT (q.map (thV V))) ≤ 0 := by
  rw [hpk]
  exact sorted_least _ _ hK (hKp.trans (hq.symm.map _))
 unfold codeR
 rw [lcmp_app _ _ hlen]
 by_cases h0 : lcmp (codeT (p.map (thV V))) (codeT (q.map (thV V))) = 0
 ·rw [if_pos h0]
  have e := lcmp_eq h0
  rcases hl q hq ((codeT_inj e).symm.trans hpk) with h1 | ⟨h1,h2⟩
  ·exact .inl h1
  ·exact .inr ⟨by rw [e,h1],h2⟩
 ·rw [if_neg h0]
  exact .inl (by omega)
def mapsP (V : List (Int × Thing)) (E : List ((Int × Int) × Thing)) (ids : List Int) (V' : List (Int × Thing)) (E' : List ((Int × Int) × Thing)) (ids' : List Int) : List (List Int) := if ids.length = ids'.length then (allN ids'.length ids').filter (fun q => decide (codeR V' E' q = codeR V E ids)) else []
def okM (V : List (Int × Thing)) (E : List ((Int × Int) × Thing)) (ids : List Int) (V' : List (Int × Thing)) (E' : List ((Int × Int) × Thing)) (l : List Int) (u : Int) : Bool := decide (u ∉ l) && decide (thV V' u = thV V (ids.getD l.length 0)) && (List.range l.length).all fun i => decide (betE E (ids.getD i 0) (ids.getD l.length 0) = betE E' (l.getD i 0) u)
def extL (V : List (Int × Thing)) (E : List ((Int × Int) × Thing)) (ids : List Int) (V' : List (Int × Thing)) (E' : List ((Int × Int) × Thing)) (us : List Int) : Nat → List Int → List (List Int)
 | 0,l => [l]
 | f + 1,l => (us.filter (okM V E ids V' E' l)).flatMap fun u => extL V E ids V' E' us f (l ++ [u])
section
variable {V V' : List (Int × Thing)} {E E' : List ((Int × Int) × Thing)} {ids us : List Int}
structure PreM (V : List (Int × Thing)) (E : List ((Int × Int) × Thing)) (ids : List Int) (V' : List (Int × Thing)) (E' : List ((Int × Int) × Thing)) (us l : List Int) : Prop where
 nd : l.Nodup
 sub : ∀ x ∈ l,x ∈ us
 th : ∀ i,i < l.length → thV V' (l.getD i 0) = thV V (ids.getD i 0)
 bet : ∀ i j,i < j → j < l.length → betE E (ids.getD i 0) (ids.getD j 0) = betE E' (l.getD i 0) (l.getD j 0)
theorem PreM.nil : PreM V E ids V' E' us [] := ⟨List.nodup_nil,by simp,by simp,by simp⟩
theorem getD_app1 {l : List Int} {u : Int} {i : Nat} (h : i < l.length) : (l ++ [u]).getD i 0 = l.getD i 0 := by
 rw [List.getD_eq_getElem?_getD,List.getElem?_append_left h,List.getD_eq_getElem?_getD]
theorem getD_app2 {l : List Int} {u : Int} : (l ++ [u]).getD l.length 0 = u := by
 rw [List.getD_eq_getElem?_getD,List.getElem?_append_right (Nat.le_refl _)]; simp
theorem preM_snoc {l : List Int} {u : Int} : PreM V E ids V' E' us (l ++ [u]) ↔ PreM V E ids V' E' us l ∧ u ∈ us ∧ okM V E ids V' E' l u = true := by
 unfold okM
 rw [Bool.and_eq_true,Bool.and_eq_true,decide_eq_true_eq,decide_eq_true_eq,List.all_eq_true]
 constructor
 ·intro h
  have hnd := List.nodup_append.1 h.nd
  refine ⟨⟨hnd.1,fun x hx => h.sub x (by simp [hx]),fun i hi => ?_,fun i j hij hj => ?_⟩,h.sub u (by simp),⟨fun hm => hnd.2.2 u hm u (by simp) rfl, ?_⟩,fun i hi => ?_⟩
  ·have := h.th i (by rw [List.length_append]; omega)
   rwa [getD_app1 hi] at this
  ·have := h.bet i j hij (by rw [List.length_append]; omega)
   rwa [getD_app1 hj,getD_app1 (by omega)] at this
  ·have := h.th l.length (by simp)
   rwa [getD_app2] at this
  ·have hil := List.mem_range.1 hi
   have := h.bet i l.length hil (by simp)
   rw [getD_app2,getD_app1 hil] at this
   rw [decide_eq_true_eq]
   exact this
 ·rintro ⟨h,hu,⟨h1,h2⟩,h3⟩
  refine ⟨?_,fun x hx => ?_,fun i hi => ?_,fun i j hij hj => ?_⟩
  ·rw [List.nodup_append]
   exact ⟨h.nd,by simp,fun a ha b hb e => h1 (by rw [List.mem_singleton] at hb; rw [← hb, ← e]; exact ha)⟩
  ·rcases List.mem_append.1 hx with hx | hx
   ·exact h.sub x hx
   ·rw [List.mem_singleton] at hx; rw [hx]; exact hu
  ·rw [List.length_append] at hi
   simp only [List.length_cons,List.length_nil] at hi
   by_cases e : i = l.length
   ·rw [e,getD_app2]; exact h2
   ·rw [getD_app1 (by omega)]; exact h.th i (by omega)
  ·rw [List.length_append] at hj
   simp only [List.length_cons,List.length_nil] at hj
   by_cases e : j = l.length
   ·have := h3 i (List.mem_range.2 (by omega))
    rw [decide_eq_true_eq] at this
    rw [e,getD_app2,getD_app1 (by omega)]
    exact this
   ·rw [getD_app1 (by omega),getD_app1 (by omega)]; exact h.bet i j hij (by omega)
theorem mem_extL : ∀ (f : Nat) (l : List Int),PreM V E ids V' E' us l → ∀ q,q ∈ extL V E ids V' E' us f l ↔ PreM V E ids V' E' us q ∧ q.length = l.length + f ∧ q.take l.length = l
 | 0,l,hl,q => by
  unfold extL
  rw [List.mem_singleton]
  constructor
  ·intro e
   subst e
   exact ⟨hl,rfl,List.take_length⟩
  ·rintro ⟨_,h2,h3⟩
   rw [List.take_of_length_le (by omega)] at h3
   exact h3
 | f + 1,l,hl,q => by
  unfold extL
  rw [List.mem_flatMap]
  constructor
  ·rintro ⟨u,hu,hq⟩
   obtain ⟨h1,h2⟩ := List.mem_filter.1 hu
   obtain ⟨h3,h4,h5⟩ := (mem_extL f (l ++ [u]) (preM_snoc.2 ⟨hl,h1,h2⟩) q).1 hq
   rw [List.length_append] at h4 h5
   simp only [List.length_cons,List.length_nil] at h4 h5
   refine ⟨h3,by omega, ?_⟩
   have := congrArg (List.take l.length) h5
   rw [List.take_take,Nat.min_eq_left (by omega),List.take_append_of_le_length (Nat.le_refl _),List.take_length] at this
   exact this
  ·rintro ⟨h1,h2,h3⟩
   have hlq : l.length < q.length := by omega
   have hqe : q.take (l.length + 1) = l ++ [q[l.length]] := by rw [List.take_succ_eq_append_getElem hlq,h3]
   have hpre : PreM V E ids V' E' us (l ++ [q[l.length]]) := by
    rw [← hqe]
    have hg : ∀ i,i < l.length + 1 → (q.take (l.length + 1)).getD i 0 = q.getD i 0 := fun i hi => by
     rw [List.getD_eq_getElem?_getD,List.getElem?_take,if_pos hi,List.getD_eq_getElem?_getD]
    have hlt : (q.take (l.length + 1)).length = l.length + 1 := by rw [List.length_take]; omega
    exact ⟨h1.nd.sublist (List.take_sublist _ _),fun x hx => h1.sub x (List.mem_of_mem_take hx),fun i hi => by rw [hg i (by omega)]; exact h1.th i (by omega),fun i j hij hj => by rw [hg i (by omega),hg j (by omega)]; exact h1.bet i j hij (by omega)⟩
   obtain ⟨h4,h5,h6⟩ := preM_snoc.1 hpre
   refine ⟨q[l.length],List.mem_filter.2 ⟨h5,h6⟩,(mem_extL f _ hpre q).2 ⟨h1,by rw [List.length_append]; simp only [List.length_cons,List.length_nil]; omega,by rw [List.length_append]; exact hqe⟩⟩
theorem lcmp_pre : ∀ (l x y : List Int),lcmp (l ++ x) (l ++ y) = lcmp x y
 | [],_,_ => rfl
 | a :: l,x,y => by rw [List.cons_append,List.cons_append,lcmp_cons,if_neg (by omega),if_neg (by omega)]; exact lcmp_pre l x y
theorem extL_pre (f : Nat) : ∀ (l : List Int), ∀ q ∈ extL V E ids V' E' us f l, ∃ r,q = l ++ r := by
 induction f with
 | zero => intro l q hq; unfold extL at hq; rw [List.mem_singleton] at hq; exact ⟨[],by rw [hq,List.append_nil]⟩
 | succ f ih =>
  intro l q hq
  unfold extL at hq
  obtain ⟨u,_,h⟩ := List.mem_flatMap.1 hq
  obtain ⟨r,e⟩ := ih _ q h
  exact ⟨u :: r,by rw [e,List.append_assoc]; rfl⟩
theorem extL_sorted (hu : us.Pairwise (· < ·)) : ∀ (f : Nat) (l : List Int),(extL V E ids V' E' us f l).Pairwise fun x y => lcmp x y < 0
 | 0,l => by unfold extL; simp
 | f + 1,l => by
  unfold extL
  rw [List.pairwise_flatMap]
  refine ⟨fun u _ => extL_sorted hu f _, ?_⟩
  refine (hu.filter _).imp fun {a b} hab x hx y hy => ?_
  obtain ⟨r,e⟩ := extL_pre f _ x hx
  obtain ⟨s,e'⟩ := extL_pre f _ y hy
  rw [e,e',List.append_assoc,List.append_assoc,lcmp_pre,List.cons_append,List.cons_append,lcmp_cons,if_pos hab]
  decide
theorem getD_idx {l : List Int} {i : Nat} (h : i < l.length) : l.getD i 0 = l[i] := getD_at h
theorem ext_maps (hs : us.Pairwise (· < ·)) (hl : ids.length = us.length) : extL V E ids V' E' us us.length [] = mapsP V E ids V' E' us := by
 unfold mapsP
 rw [if_pos hl]
 refine lsorted_ext (extL_sorted hs _ _) ((allN_sorted us.length us rfl hs).filter _) fun q => ?_
 rw [mem_extL _ _ PreM.nil,List.mem_filter,mem_allN us.length us rfl,decide_eq_true_eq]
 have hnu : us.Nodup := hs.imp fun {a b} h e => by omega
 constructor
 ·rintro ⟨h1,h2,_⟩
  simp only [List.length_nil,Nat.zero_add] at h2
  have hp : q.Perm us := by
   refine (List.perm_ext_iff_of_nodup h1.nd hnu).2 fun x => ⟨h1.sub x,fun hx => ?_⟩
   by_cases hm : x ∈ q
   ·exact hm
   ·exfalso
    have : ∀ (l m : List Int),l.Nodup → (∀ x ∈ l,x ∈ m) → l.length ≤ m.length := by
     intro l
     induction l with
     | nil => intro m _ _; exact Nat.zero_le _
     | cons a r ih =>
      intro m hn hsb
      have ha : a ∈ m := hsb a (by simp)
      obtain ⟨hna,hnr⟩ := List.nodup_cons.1 hn
      have h1 := ih (m.erase a) hnr (fun x hx => (List.mem_erase_of_ne (fun e => hna (by rw [← e]; exact hx))).2 (hsb x (by simp [hx])))
      rw [List.length_erase_of_mem ha] at h1
      have h2 := List.length_pos_of_mem ha
      simp only [List.length_cons]
      omega
    have := this (x :: q) us (List.nodup_cons.2 ⟨hm,h1.nd⟩) (fun y hy => by
     rcases List.mem_cons.1 hy with e | hy
     ·rw [e]; exact hx
     ·exact h1.sub y hy)
    simp only [List.length_cons] at this
    omega
  refine ⟨hp,(codeR_inj (by omega)).2 ⟨List.ext_getElem (by simp; omega) fun i h3 h4 => ?_,(pairsL_iff (by omega)).2 fun i j hij hj hj' => ?_⟩⟩
  ·have h5 : i < q.length := by simpa using h3
   have h6 : i < ids.length := by simpa using h4
   have := h1.th i h5
   rw [getD_at h5,getD_at h6] at this
   simpa using this
  ·have := h1.bet i j hij hj
   rw [getD_at hj,getD_at hj',getD_at (by omega),getD_at (by omega)] at this
   exact this.symm
 ·rintro ⟨hp,hc⟩
  have hlq := hp.length_eq
  obtain ⟨h1,h2⟩ := (codeR_inj (show q.length = ids.length by omega)).1 hc
  rw [pairsL_iff (by omega)] at h2
  refine ⟨⟨hp.nodup_iff.2 hnu,fun x hx => hp.mem_iff.1 hx,fun i hi => ?_,fun i j hij hj => ?_⟩,by simp [hlq],by simp⟩
  ·have h4 : i < ids.length := by omega
   have := congrArg (fun l => l[i]?) h1
   rw [getD_at hi,getD_at h4]
   simpa [hi,h4] using this
  ·rw [getD_at hj,getD_at (by omega : j < ids.length),getD_at (by omega : i < q.length),getD_at (by omega : i < ids.length)]
   exact (h2 i j hij hj (by omega)).symm
end
end Go.Proofs.YtbpeemhfjgcnaaaGreat
namespace Go.Proofs.YtbpeemhfjgcnaaaGreat
open Go Go.RowKit
attribute [local go_sem] qUpon lUpon
theorem len_any (g bv be : Nat) (V : List (Int × Thing)) (E : List ((Int × Int) × Thing)) (w : World) (hg : GraphAt w g bv be V E) :
  Calls Tryz.prog 69 #[.pointer (some ⟨g,0,none⟩)] w fun e w' => e = .returned (.tuple #[.int .i64 V.length, .int .i64 E.length]) ∧ Ext w w' := by
 have d0 := hg.ptr0
 have d1 := hg.ptr1
 have l0 := fun (W : World) (hW : Ext w W) => (hg.vs.ext hW).len Tryz.underlying108
 have l1 := fun (W : World) (hW : Ext w W) => (hg.es.ext hW).len Tryz.underlying111
 clear hg
 go_enter Tryz.func69,Tryz.ntmps69
 go_wp2
 refine wp_region_still (P := Tryz.prog) [0,1,2,3,4,5,6,7,8,9,10,11] [] 0 #[true,true,true,true,true,true,true,true,true,true,true,true] (by kernel_rfl) (by kernel_rfl) rfl (by rfl) ?_
 iterate 12
  refine ql_want (v := ?_) rfl (by rfl) (fun W hW => ?_) ?_
  rotate_left
  ·go_simp
   first | done | rfl | (fail)
  go_frame
 refine wpQL_nil (fun w2 hx2 => ?_)
 refine wpX_done (by kernel_rfl) ?_
 try go_frame
 go_wp2
 go_ret2
 exact ⟨rfl,hx2⟩
end Go.Proofs.YtbpeemhfjgcnaaaGreat
namespace Go.Proofs.YtbpeemhfjgcnaaaGreat
open Go Go.RowKit
attribute [local go_sem] qUpon lUpon
def isX (x y : Int) (p : (Int × Int) × Thing) : Bool := p.1.1 == x && p.1.2 == y
theorem edgeC_any (a b l t x y : Int) (cb : Nat) (w : World) (h0 : w.cell? ⟨cb,0,none⟩ = some (.int .i64 x)) (h1 : w.cell? ⟨cb,1,none⟩ = some (.int .i64 y)) :
  Calls Tryz.prog 68 #[.agg #[.int .i64 a, .int .i64 b, .int .u8 l, .int .i64 t], .pointer (some ⟨cb,0,none⟩)] w fun e w' => e = .returned (.bool (isX x y ((a,b),(l,t)))) ∧ Ext w w' := by
 have c0 := cell_ext h0
 have c1 := cell_ext h1
 clear h0 h1
 go_enter Tryz.func68,Tryz.ntmps68
 go_wp2
 all_goals (go_ret; exact ⟨ret_bool (by unfold isX; simp_all),ext_self1 _ _⟩)
set_option maxHeartbeats 1000000 in
theorem index_any (A : Option Addr) (E : List ((Int × Int) × Thing)) (cE : Nat) (x y : Int) (cb : Nat) (w : World) (hE : SlAt encE 4 w A E) (hl : E.length ≤ 4096) (h0 : w.cell? ⟨cb,0,none⟩ = some (.int .i64 x)) (h1 : w.cell? ⟨cb,1,none⟩ = some (.int .i64 y)) :
  Calls Tryz.prog 67 #[.slice A E.length cE, .func (.func 68) #[] #[.pointer (some ⟨cb,0,none⟩)]] w fun e w' => e = .returned (.int .i64 (posI (isX x y) E)) ∧ Ext w w' := by
 have k0 := cell_ext h0
 have k1 := cell_ext h1
 have hE' := hide hE
 have k0' := hide k0
 have k1' := hide k1
 clear h0 h1 hE k0 k1
 go_enter Tryz.func67,Tryz.ntmps67
 go_wp2
 go_loopw [8] (fun i wr => ∃ k : Nat,k ≤ E.length ∧ i = .int .i64 k ∧ (∀ j (hj : j < k) (hj' : j < E.length),isX x y E[j] = false) ∧ Ext w wr) (fun i _ => E.length - (intOf i).toNat)
 case atStart => exact ⟨0,Nat.zero_le _,rfl,fun j hj => by omega,Ext.refl _⟩
 case round =>
  obtain ⟨k,hk,rfl,hno,hxr⟩ := hrel
  have hno' := hide hno
  clear hno
  by_cases hlt : k < E.length
  ·obtain ⟨b,off,rfl,c0,c1,c2,c3⟩ := atE ((unhide hE').ext hxr) hlt
   generalize hy : E[k] = p at c0 c1 c2 c3
   have hy' := hide hy
   clear hy
   obtain ⟨⟨a,b0⟩,⟨l,t⟩⟩ := p
   simp only at c0 c1 c2 c3
   generalize hq : isX x y ((a,b0),(l,t)) = q
   have hq' := hide hq
   clear hq
   cases q
   ·go_wp2_with (go_at_call 68; refine (edgeC_any a b0 l t x y cb _ (unhide k0' _ hxr) (unhide k1' _ hxr)).mono ?_; rw [unhide hq']; rintro e w3 ⟨rfl,hx3⟩)
    go_roundw
    case rel =>
     refine ⟨k + 1,by omega,by go_num,fun j hj hj' => ?_,hxr.trans hx3⟩
     rcases Nat.lt_or_ge j k with h | h
     ·exact unhide hno' j h hj'
     ·have : j = k := by omega
      subst this
      rw [unhide hy']
      exact unhide hq'
    case measure => simp [intOf]; omega
   ·go_wp2_with (go_at_call 68; refine (edgeC_any a b0 l t x y cb _ (unhide k0' _ hxr) (unhide k1' _ hxr)).mono ?_; rw [unhide hq']; rintro e w3 ⟨rfl,hx3⟩)
    go_ret
    exact ⟨ret_int (posI_hit hlt (by rw [unhide hy']; exact unhide hq') (fun j hj => unhide hno' j hj (by omega))).symm,hxr.trans hx3⟩
  ·go_wp2
   go_ret
   exact ⟨ret_int (posI_miss (fun j hj => unhide hno' j (by omega) hj)).symm,hxr⟩
theorem ret_cell3 {P : Program} {fn : Func} {t T u1 u2 : Nat} {tmps : Array Value} {p : Addr} {W : World} {v : Value} (h : fn.results = #[.cell t T, .tmp u1, .tmp u2]) (hp : tmps.getD t undef = .pointer (some p)) (hl : (loadVar T p).run P W = .ok v W) :
  (results fn tmps).run P W = .ok (.tuple #[v,tmps.getD u1 undef,tmps.getD u2 undef]) W := by
 simp only [Array.getD_eq_getD_getElem?] at hp
 simp [results,h,hp,asAddr,hl]
theorem load_Ed (W : World) (b : Nat) (p q r s : Value) (h : Blk W b 84 #[p,q,r,s]) : (loadVar 84 ⟨b,0,none⟩).run Tryz.prog W = .ok (.agg #[p,q,r,s]) W := by
 have h0 := h.cell 0
 have h1 := h.cell 1
 have h2 := h.cell 2
 have h3 := h.cell 3
 simp at h0 h1 h2 h3
 simp [loadVar,h0,h1,h2,h3,go_sem]
set_option maxRecDepth 100000 in
set_option maxHeartbeats 4000000 in
theorem gedge_miss (g bv be : Nat) (V : List (Int × Thing)) (E S : List ((Int × Int) × Thing)) (u v : Int) (w : World) (hg : GraphAt w g bv be V E) (hp : S.Perm E) (hS : S.Pairwise ltE) (hl : E.length ≤ 4096) (hpos : posI (isX (min u v) (max u v)) S = -1) :
  Calls Tryz.prog 37 #[.pointer (some ⟨g,0,none⟩), .int .i64 u, .int .i64 v] w fun e w' => e = .returned (.tuple #[.agg #[.int .i64 0, .int .i64 0, .int .u8 0, .int .i64 0], .int .i64 0, .bool false]) ∧ Ext w w' := by
 have hlS : S.length ≤ 4096 := by rw [hp.length_eq]; exact hl
 have hg' := hide hg
 have hpos' := hide hpos
 have hb0 := hide (Blk.new w 84 #[.int .i64 0, .int .i64 0, .int .u8 0, .int .i64 0])
 clear hg hpos
 go_enter Tryz.func37,Tryz.ntmps37
 go_wp2_with (first
  | (go_at_call 66; refine (between_any _ _ _).mono ?_; rintro e w2 ⟨rfl,hx2⟩; have hx2' := hide hx2; clear hx2)
  | (go_at_call 51; refine (edges_any g bv be V E S _ ((unhide hg').ext (((ext_self1 _ _).trans (unhide hx2')).alloc _)) hp hS hl).mono ?_; rintro e w3 ⟨v3,rfl,ho3,hx3⟩; obtain ⟨Ae,ce,rfl⟩ := own_slice ho3; have hq := (Blk.new w2 _ _).ext hx3; have c0 := hq.cell 0; have c1 := hq.cell 1; simp at c0 c1; have ho3' := hide ho3; have hx3' := hide hx3; have c0' := hide c0; have c1' := hide c1; clear ho3 hx3 hq c0 c1)
  | (go_at_call 67; refine (index_any Ae S ce (min u v) (max u v) w2.heap.size _ (own_at (unhide ho3') (fun _ => rfl)) hlS (unhide c0') (unhide c1')).mono ?_; rw [unhide hpos']; rintro e w4 ⟨rfl,hx4⟩; have hx4' := hide hx4; have hb4 := ((((unhide hb0).ext (unhide hx2')).ext (ext_self1 _ _)).ext (unhide hx3')).ext hx4; have s0 := hb4.cell 0; have s1 := hb4.cell 1; have s2 := hb4.cell 2; have s3 := hb4.cell 3; have f0 := hb4.frozen 0; have f1 := hb4.frozen 1; have f2 := hb4.frozen 2; have f3 := hb4.frozen 3; simp at s0 s1 s2 s3; have hb4' := hide hb4; clear hx4 hb4))
 have hb4 := unhide hb4'
 have hxw : Ext w w4 := (((ext_self1 _ _).trans (unhide hx2')).trans (ext_self1 _ _)).trans ((unhide hx3').trans (unhide hx4'))
 refine bodyPost_ret (ret_cell3 rfl rfl (load_Ed _ w.heap.size _ _ _ _ ((((hb4.set 0 (.int .i64 0)).set 1 (.int .i64 0)).set 2 (.int .u8 0)).set 3 (.int .i64 0)))) rfl ?_
 exact ⟨rfl,Below.setCell (Below.setCell (Below.setCell (Below.setCell hxw (by simp) _) (by simp) _) (by simp) _) (by simp) _⟩
set_option maxRecDepth 100000 in
set_option maxHeartbeats 4000000 in
theorem gedge_hit (g bv be : Nat) (V : List (Int × Thing)) (E S : List ((Int × Int) × Thing)) (u v : Int) (w : World) (hg : GraphAt w g bv be V E) (hp : S.Perm E) (hS : S.Pairwise ltE) (hl : E.length ≤ 4096) (i : Nat) (hi : i < S.length) (hpos : posI (isX (min u v) (max u v)) S = i) :
  Calls Tryz.prog 37 #[.pointer (some ⟨g,0,none⟩), .int .i64 u, .int .i64 v] w fun e w' => e = .returned (.tuple #[.agg #[.int .i64 S[i].1.1, .int .i64 S[i].1.2, .int .u8 S[i].2.1, .int .i64 S[i].2.2], .int .i64 i, .bool true]) ∧ Ext w w' := by
 have hlS : S.length ≤ 4096 := by rw [hp.length_eq]; exact hl
 have hg' := hide hg
 have hpos' := hide hpos
 have hb0 := hide (Blk.new w 84 #[.int .i64 0, .int .i64 0, .int .u8 0, .int .i64 0])
 clear hg hpos
 go_enter Tryz.func37,Tryz.ntmps37
 go_wp2_with (first
  | (go_at_call 66; refine (between_any _ _ _).mono ?_; rintro e w2 ⟨rfl,hx2⟩; have hx2' := hide hx2; clear hx2)
  | (go_at_call 51; refine (edges_any g bv be V E S _ ((unhide hg').ext (((ext_self1 _ _).trans (unhide hx2')).alloc _)) hp hS hl).mono ?_; rintro e w3 ⟨v3,rfl,ho3,hx3⟩; obtain ⟨Ae,ce,rfl⟩ := own_slice ho3; have hq := (Blk.new w2 _ _).ext hx3; have c0 := hq.cell 0; have c1 := hq.cell 1; simp at c0 c1; have ho3' := hide ho3; have hx3' := hide hx3; have c0' := hide c0; have c1' := hide c1; clear ho3 hx3 hq c0 c1)
  | (go_at_call 67; refine (index_any Ae S ce (min u v) (max u v) w2.heap.size _ (own_at (unhide ho3') (fun _ => rfl)) hlS (unhide c0') (unhide c1')).mono ?_; rw [unhide hpos']; rintro e w4 ⟨rfl,hx4⟩; have hx4' := hide hx4; have hb4 := ((((unhide hb0).ext (unhide hx2')).ext (ext_self1 _ _)).ext (unhide hx3')).ext hx4; have s0 := hb4.cell 0; have s1 := hb4.cell 1; have s2 := hb4.cell 2; have s3 := hb4.cell 3; have f0 := hb4.frozen 0; have f1 := hb4.frozen 1; have f2 := hb4.frozen 2; have f3 := hb4.frozen 3; simp at s0 s1 s2 s3; have hb4' := hide hb4; clear hx4 hb4; obtain ⟨bb,off,rfl,k0,k1,k2,k3⟩ := atE ((own_at (unhide ho3') (fun _ => rfl)).ext (unhide hx4')) hi))
 have hb4 := unhide hb4'
 have hxw : Ext w w4 := (((ext_self1 _ _).trans (unhide hx2')).trans (ext_self1 _ _)).trans ((unhide hx3').trans (unhide hx4'))
 refine bodyPost_ret (ret_cell3 rfl rfl (load_Ed _ w.heap.size _ _ _ _ ((((hb4.set 0 (.int .i64 S[i].1.1)).set 1 (.int .i64 S[i].1.2)).set 2 (.int .u8 S[i].2.1)).set 3 (.int .i64 S[i].2.2)))) rfl ?_
 exact ⟨rfl,Below.setCell (Below.setCell (Below.setCell (Below.setCell hxw (by simp) _) (by simp) _) (by simp) _) (by simp) _⟩
end Go.Proofs.YtbpeemhfjgcnaaaGreat
namespace Go.Proofs.YtbpeemhfjgcnaaaGreat
open Go Go.RowKit
theorem vertices_rel (g bv be : Nat) (V : List (Int × Thing)) (E : List ((Int × Int) × Thing)) (w : World) (hg : IsG w g bv be V E) :
  Calls Tryz.prog 41 #[.pointer (some ⟨g,0,none⟩)] w fun e w' => ∃ A c,e = .returned (.slice A V.length c) ∧ w'.ownsRow w.heap.size 81 3 (.slice A V.length c) V.length (V.flatMap encV) ∧ Ext w w' := by
 have n1 := hg.nV
 obtain ⟨V',E',h1,hV,hE,hi⟩ := hg
 refine (vertices_any g bv be V' E' V w h1 hV hi.sv (by rw [← hV.length_eq]; exact n1)).mono fun e w' ⟨v,he,ho,hx⟩ => ?_
 obtain ⟨A,c,rfl⟩ := own_slice ho
 exact ⟨A,c,he,ho,hx⟩
theorem edges_rel (g bv be : Nat) (V : List (Int × Thing)) (E : List ((Int × Int) × Thing)) (w : World) (hg : IsG w g bv be V E) :
  Calls Tryz.prog 51 #[.pointer (some ⟨g,0,none⟩)] w fun e w' => ∃ A c,e = .returned (.slice A E.length c) ∧ w'.ownsRow w.heap.size 84 4 (.slice A E.length c) E.length (E.flatMap encE) ∧ Ext w w' := by
 have n1 := hg.nE
 obtain ⟨V',E',h1,hV,hE,hi⟩ := hg
 refine (edges_any g bv be V' E' E w h1 hE hi.se (by rw [← hE.length_eq]; exact n1)).mono fun e w' ⟨v,he,ho,hx⟩ => ?_
 obtain ⟨A,c,rfl⟩ := own_slice ho
 exact ⟨A,c,he,ho,hx⟩
end Go.Proofs.YtbpeemhfjgcnaaaGreat
