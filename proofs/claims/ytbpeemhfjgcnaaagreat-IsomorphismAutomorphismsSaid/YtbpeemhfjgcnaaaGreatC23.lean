/- Parts of a proof, laid together. Each part says its own conditions. -/
import Derived.Test.YtbpeemhfjgcnaaaGreatC21
import Derived.Test.YtbpeemhfjgcnaaaGreatC16
import Derived.Test.YtbpeemhfjgcnaaaGreatC17
namespace Go.Proofs.YtbpeemhfjgcnaaaGreat
def tr (x y : List Int) (u : Int) : Int := y.getD (x.idxOf u) 0
theorem betE_comm (E : List ((Int × Int) × Thing)) (u v : Int) : betE E u v = betE E v u := by
 unfold betE
 have : isE u v = isE v u := by
  funext p
  unfold isE
  rw [Bool.or_comm]
 rw [this]
section
variable {V V' : List (Int × Thing)} {E E' : List ((Int × Int) × Thing)} {x y p q : List Int}
theorem idx_getD (hx : x.Nodup) {i : Nat} (hi : i < x.length) : x.idxOf (x.getD i 0) = i := by
 rw [getD_at hi]
 exact List.Nodup.idxOf_getElem hx i hi
theorem tr_at (hx : x.Nodup) {i : Nat} (hi : i < x.length) : tr x y (x.getD i 0) = y.getD i 0 := by
 unfold tr
 rw [idx_getD hx hi]
theorem mem_at {u : Int} (h : u ∈ x) : ∃ i,i < x.length ∧ x.getD i 0 = u := by
 obtain ⟨i,hi,e⟩ := List.mem_iff_getElem.1 h
 exact ⟨i,hi,by rw [getD_at hi]; exact e⟩
theorem tr_map (hx : x.Nodup) (hl : x.length = y.length) : x.map (tr x y) = y := by
 refine List.ext_getElem (by simp [hl]) fun i h1 h2 => ?_
 have hi : i < x.length := by simpa using h1
 have := tr_at (y := y) hx hi
 rw [getD_at hi,getD_at h2] at this
 simpa using this
theorem tr_perm (hx : x.Nodup) (hl : x.length = y.length) (hp : p.Perm x) : (p.map (tr x y)).Perm y := by
 have := hp.map (tr x y)
 rwa [tr_map hx hl] at this
theorem carry (hx : x.Nodup) (hl : x.length = y.length) (hc : codeR V E x = codeR V' E' y) (hp : p.Nodup) (hs : ∀ u ∈ p,u ∈ x) : codeR V E p = codeR V' E' (p.map (tr x y)) := by
 obtain ⟨h1,h2⟩ := (codeR_inj hl).1 hc
 rw [pairsL_iff hl] at h2
 have hth : ∀ i,i < x.length → thV V (x.getD i 0) = thV V' (y.getD i 0) := fun i hi => by
  have := congrArg (fun l => l[i]?) h1
  rw [getD_at hi,getD_at (by omega : i < y.length)]
  simpa [hi,(by omega : i < y.length)] using this
 have hbe : ∀ i j,i < x.length → j < x.length → i ≠ j → betE E (x.getD i 0) (x.getD j 0) = betE E' (y.getD i 0) (y.getD j 0) := fun i j hi hj hij => by
  rw [getD_at hi,getD_at hj,getD_at (by omega : i < y.length),getD_at (by omega : j < y.length)]
  rcases Nat.lt_or_gt_of_ne hij with h | h
  ·exact h2 i j h hj (by omega)
  ·rw [betE_comm E,betE_comm E']
   exact h2 j i h hi (by omega)
 refine (codeR_inj (by rw [List.length_map])).2 ⟨?_,(pairsL_iff (by rw [List.length_map])).2 fun i j hij hj hj' => ?_⟩
 ·rw [List.map_map]
  refine List.map_congr_left fun u hu => ?_
  obtain ⟨i,hi,e⟩ := mem_at (hs u hu)
  rw [← e,Function.comp,tr_at hx hi]
  exact hth i hi
 ·rw [List.getElem_map,List.getElem_map]
  obtain ⟨a,ha,ea⟩ := mem_at (hs p[i] (List.getElem_mem _))
  obtain ⟨b,hb,eb⟩ := mem_at (hs p[j] (List.getElem_mem _))
  rw [← ea, ← eb,tr_at hx ha,tr_at hx hb]
  refine hbe a b ha hb fun e => ?_
  subst e
  have := (List.getElem_inj hp).1 (ea.symm.trans eb)
  omega
theorem carry_perm (hx : x.Nodup) (hl : x.length = y.length) (hc : codeR V E x = codeR V' E' y) (hp : p.Perm x) : codeR V E p = codeR V' E' (p.map (tr x y)) := carry hx hl hc (hp.nodup_iff.2 hx) (fun _ hu => hp.mem_iff.1 hu)
theorem iso_form {ids ids' : List Int} (hi : ids.Pairwise (· < ·)) (hi' : ids'.Pairwise (· < ·)) : mapsP V E ids V' E' ids' ≠ [] ↔ ids.length = ids'.length ∧ codeR V E (formP V E ids) = codeR V' E' (formP V' E' ids') := by
 have hn : ids.Nodup := hi.imp fun {a b} h e => by omega
 have hn' : ids'.Nodup := hi'.imp fun {a b} h e => by omega
 have f := formP_is V E hi
 have f' := formP_is V' E' hi'
 constructor
 ·intro h
  obtain ⟨q,hq⟩ := List.exists_mem_of_ne_nil _ h
  unfold mapsP at hq
  split at hq
  ·rename_i hl
   obtain ⟨h1,h2⟩ := List.mem_filter.1 hq
   rw [decide_eq_true_eq] at h2
   have hqp := (mem_allN _ _ rfl q).1 h1
   have hqn := hqp.nodup_iff.2 hn'
   refine ⟨hl, ?_⟩
   have hlq : ids.length = q.length := by rw [hqp.length_eq]; exact hl
   have e1 := carry_perm hn hlq h2.symm f.perm
   have p1 : ((formP V E ids).map (tr ids q)).Perm ids' := (tr_perm hn hlq f.perm).trans hqp
   have e2 := carry_perm hqn hlq.symm h2 (f'.perm.trans hqp.symm)
   have p2 : ((formP V' E' ids').map (tr q ids)).Perm ids := tr_perm hqn hlq.symm (f'.perm.trans hqp.symm)
   have le1 : lcmp (codeR V' E' (formP V' E' ids')) (codeR V E (formP V E ids)) ≤ 0 := by
    rw [e1]
    rcases f'.least _ p1 with h | ⟨h,_⟩
    ·omega
    ·rw [h,lcmp_self]; decide
   have le2 : lcmp (codeR V E (formP V E ids)) (codeR V' E' (formP V' E' ids')) ≤ 0 := by
    rw [e2]
    rcases f.least _ p2 with h | ⟨h,_⟩
    ·omega
    ·rw [h,lcmp_self]; decide
   exact lcmp_anti le2 le1
  ·cases hq
 ·rintro ⟨hl,hc⟩
  have hlf : (formP V E ids).length = (formP V' E' ids').length := by rw [f.perm.length_eq,f'.perm.length_eq,hl]
  have hnf := f.perm.nodup_iff.2 hn
  have e := carry_perm hnf hlf hc f.perm.symm
  have p := (tr_perm hnf hlf f.perm.symm).trans f'.perm
  refine List.ne_nil_of_mem (a := ids.map (tr (formP V E ids) (formP V' E' ids'))) ?_
  unfold mapsP
  rw [if_pos hl]
  exact List.mem_filter.2 ⟨(mem_allN _ _ rfl _).2 p,by rw [decide_eq_true_eq]; exact e.symm⟩
theorem nodup_len_le {α : Type} [DecidableEq α] : ∀ (l m : List α),l.Nodup → (∀ x ∈ l,x ∈ m) → l.length ≤ m.length
 | [],_,_,_ => Nat.zero_le _
 | a :: r,m,hn,hs => by
  have ha : a ∈ m := hs a (by simp)
  obtain ⟨hna,hnr⟩ := List.nodup_cons.1 hn
  have h1 := nodup_len_le r (m.erase a) hnr (fun x hx => (List.mem_erase_of_ne (fun e => hna (by rw [← e]; exact hx))).2 (hs x (by simp [hx])))
  rw [List.length_erase_of_mem ha] at h1
  have h2 := List.length_pos_of_mem ha
  simp only [List.length_cons]
  omega
theorem mem_mapsP {ids ids' : List Int} : q ∈ mapsP V E ids V' E' ids' ↔ ids.length = ids'.length ∧ q.Perm ids' ∧ codeR V' E' q = codeR V E ids := by
 unfold mapsP
 split
 ·rename_i h
  rw [List.mem_filter,mem_allN _ _ rfl,decide_eq_true_eq]
  exact ⟨fun k => ⟨h,k⟩,fun k => k.2⟩
 ·rename_i h
  exact ⟨fun k => (by cases k),fun k => absurd k.1 h⟩
end
end Go.Proofs.YtbpeemhfjgcnaaaGreat
namespace Go.Proofs.YtbpeemhfjgcnaaaGreat
open Go Go.RowKit
attribute [local go_sem] qUpon lUpon
def eqBV (M1 M2 : List (Int × Thing)) : Bool := decide (M1.length = M2.length) && M1.all fun p => decide (lookM M2 p.1 = some p.2)
set_option maxRecDepth 100000 in
set_option maxHeartbeats 4000000 in
theorem meqV_any (b1 b2 : Nat) (M1 M2 : List (Int × Thing)) (w : World) (h1 : MapIs ekV evT i64ok w b1 M1) (h2 : MapIs ekV evT i64ok w b2 M2) :
  Calls Tryz.prog 55 #[.map (some b1), .map (some b2)] w fun e w' => e = .returned (.bool (eqBV M1 M2)) ∧ Ext w w' := by
 have l1 := fun (W : World) (hW : Ext w W) => (h1.ext hW).len Tryz.underlying108
 have l2 := fun (W : World) (hW : Ext w W) => (h2.ext hW).len Tryz.underlying108
 by_cases hl : M1.length = M2.length
 ·rw [← hl] at l2
  obtain ⟨w1,hrun,hit,hx1,hs1⟩ := h1.range Tryz.underlying108
  have hb1 := h1.lt
  have hb2 := h2.lt
  have h2' := hide h2
  have hit' := hide hit
  have hx1' := hide hx1
  have hl' := hide hl
  clear h1 h2 hit hs1 hl hx1
  go_enter Tryz.func55,Tryz.ntmps55
  have hself := Ext.refl w
  go_wp2_with fail
  clear hrun l1 l2 hself
  try go_frame
  generalize hr : w.heap.size = r at *
  have hr' := hide hr
  clear hr
  go_loopw [] (fun wr => ∃ done left : List (Int × Thing),M1.Perm (done ++ left) ∧ (∀ p ∈ done,lookM M2 p.1 = some p.2) ∧ IterIs ekV evT i64ok wr r b1 M1 left ∧ Ext w wr) (fun wr => wr.rangeLeft b1 r)
  case atStart => exact ⟨[],M1,List.Perm.refl _,by simp,unhide hit',unhide hx1'⟩
  case round =>
   obtain ⟨done,left,hpd,hdn,hit,hxr⟩ := hrel
   have hlt := hit.left_eq
   rcases hit.next (P := Tryz.prog) 0 with ⟨hl0,hrun⟩ | ⟨p,l1,l2,w2,hl0,hrun,hit2,hk2,hs2,hen⟩
   ·have hrun : ∀ ty,(Instr.next (.pointer (some ⟨r,0,none⟩)) false ty).run Tryz.prog wr = .ok (.tuple #[.bool false]) wr := fun _ => hrun
    subst hl0
    rw [List.append_nil] at hpd
    have hres : eqBV M1 M2 = true := by
     unfold eqBV
     rw [decide_eq_true (unhide hl'),Bool.true_and,List.all_eq_true]
     exact fun p hp => decide_eq_true (hdn p (hpd.mem_iff.1 hp))
    have hres' := hide hres
    have hxr' := hide hxr
    clear hit hlt hpd hdn hres hit' hxr
    go_wp2_with fail
    go_ret
    exact ⟨ret_bool (unhide hres').symm,unhide hxr'⟩
   ·have hrun : ∀ ty,(Instr.next (.pointer (some ⟨r,0,none⟩)) false ty).run Tryz.prog wr = .ok (.tuple #[.bool true,ekV p.1,evT p.2]) w2 := fun _ => hrun
    subst hl0
    have hpm : p ∈ M1 := hpd.mem_iff.2 (by simp)
    have hokp : i64ok p.1 := hit.map.okk p hpm
    have hx2 : Ext w w2 := hxr.of_new hk2 (by have := unhide hr'; simp; omega)
    have hm2 := (unhide h2').ext hx2
    have hlk := fun (W : World) (hW : Ext w2 W) => (hm2.ext hW).lookup2 keV Tryz.underlying108 (zeroT W) hokp
    have hne : lookM M2 p.1 ≠ some p.2 → eqBV M1 M2 = false := fun hq => by
     unfold eqBV
     rw [Bool.and_eq_false_iff]
     exact .inr (Bool.eq_false_iff.2 fun ha => hq (of_decide_eq_true (List.all_eq_true.1 ha p hpm)))
    have hgo : lookM M2 p.1 = some p.2 → ∀ q ∈ done ++ [p],lookM M2 q.1 = some q.2 := fun hq q hm => by
     rcases List.mem_append.1 hm with h | h
     ·exact hdn q h
     ·rw [List.mem_singleton.1 h]; exact hq
    have hpd2 : M1.Perm ((done ++ [p]) ++ (l1 ++ l2)) := hpd.trans (by
     rw [List.append_assoc]
     exact List.Perm.append_left _ (List.perm_middle))
    have hpd' := hide hpd2
    have hgo' := hide hgo
    have hne' := hide hne
    have hit2' := hide hit2
    have hx2' := hide hx2
    have hlt' := hide hlt
    have hself := Ext.refl w2
    clear hit hlt hpd hdn hpm hokp hm2 hne hgo hpd2 hit2 hx2 hxr hit'
    obtain ⟨a,⟨lab0,wt0⟩⟩ := p
    simp only [ekV,evT] at hrun hen hlk
    cases hq : lookM M2 a with
    | none =>
     have hnf := hide (unhide hne' (by rw [hq]; simp))
     rw [hq] at hlk
     clear hq
     simp only [Option.getD_none,Option.isSome_none] at hlk
     go_wp2_with fail
     go_ret
     exact ⟨ret_bool (unhide hnf).symm,(unhide hx2').trans (ext_self2 _ _ _)⟩
    | some q =>
     obtain ⟨lq,tq⟩ := q
     rw [hq] at hlk
     have hq' := hide hq
     clear hq
     simp only [Option.getD_some,Option.isSome_some] at hlk
     by_cases hh : lq = lab0 ∧ tq = wt0
     ·obtain ⟨rfl,rfl⟩ := hh
      go_wp2_with fail
      go_roundw
      case rel => exact ⟨_,_,unhide hpd',unhide hgo' (unhide hq'),(unhide hit2').ext (ext_self2 _ _ _),(unhide hx2').trans (ext_self2 _ _ _)⟩
      case measure =>
       rw [((unhide hit2').ext (ext_self2 _ _ _)).left_eq,unhide hlt']
       simp
     ·have hnf := hide (unhide hne' (by rw [unhide hq']; simpa using hh))
      have hh' : ¬ (lab0 = lq ∧ wt0 = tq) := fun h => hh ⟨h.1.symm,h.2.symm⟩
      have hh2 := hide hh'
      clear hh hh'
      go_wp2_with fail
      all_goals first
       | (go_ret; exact ⟨ret_bool (unhide hnf).symm,(unhide hx2').trans (ext_self2 _ _ _)⟩)
       | (exfalso; have h := unhide hh2; simp_all; done)
 ·have hres : eqBV M1 M2 = false := by unfold eqBV; rw [decide_eq_false hl,Bool.false_and]
  have hres' := hide hres
  have hb : ((M1.length : Int) != (M2.length : Int)) = true := by simp; omega
  clear hres hl h1 h2
  have hself := Ext.refl w
  go_enter Tryz.func55,Tryz.ntmps55
  go_wp2_with fail
  go_ret
  exact ⟨ret_bool (unhide hres').symm,Ext.refl _⟩
def eqBE (M1 M2 : List ((Int × Int) × Thing)) : Bool := decide (M1.length = M2.length) && M1.all fun p => decide (lookM M2 p.1 = some p.2)
set_option maxRecDepth 100000 in
set_option maxHeartbeats 4000000 in
theorem meqE_any (b1 b2 : Nat) (M1 M2 : List ((Int × Int) × Thing)) (w : World) (h1 : MapIs ekE evT okE w b1 M1) (h2 : MapIs ekE evT okE w b2 M2) :
  Calls Tryz.prog 56 #[.map (some b1), .map (some b2)] w fun e w' => e = .returned (.bool (eqBE M1 M2)) ∧ Ext w w' := by
 have l1 := fun (W : World) (hW : Ext w W) => (h1.ext hW).len Tryz.underlying111
 have l2 := fun (W : World) (hW : Ext w W) => (h2.ext hW).len Tryz.underlying111
 by_cases hl : M1.length = M2.length
 ·rw [← hl] at l2
  obtain ⟨w1,hrun,hit,hx1,hs1⟩ := h1.range Tryz.underlying111
  have hb1 := h1.lt
  have hb2 := h2.lt
  have h2' := hide h2
  have hit' := hide hit
  have hx1' := hide hx1
  have hl' := hide hl
  clear h1 h2 hit hs1 hl hx1
  go_enter Tryz.func56,Tryz.ntmps56
  have hself := Ext.refl w
  go_wp2_with fail
  clear hrun l1 l2 hself
  try go_frame
  generalize hr : w.heap.size = r at *
  have hr' := hide hr
  clear hr
  go_loopw [] (fun wr => ∃ done left : List ((Int × Int) × Thing),M1.Perm (done ++ left) ∧ (∀ p ∈ done,lookM M2 p.1 = some p.2) ∧ IterIs ekE evT okE wr r b1 M1 left ∧ Ext w wr) (fun wr => wr.rangeLeft b1 r)
  case atStart => exact ⟨[],M1,List.Perm.refl _,by simp,unhide hit',unhide hx1'⟩
  case round =>
   obtain ⟨done,left,hpd,hdn,hit,hxr⟩ := hrel
   have hlt := hit.left_eq
   rcases hit.next (P := Tryz.prog) 0 with ⟨hl0,hrun⟩ | ⟨p,l1,l2,w2,hl0,hrun,hit2,hk2,hs2,hen⟩
   ·have hrun : ∀ ty,(Instr.next (.pointer (some ⟨r,0,none⟩)) false ty).run Tryz.prog wr = .ok (.tuple #[.bool false]) wr := fun _ => hrun
    subst hl0
    rw [List.append_nil] at hpd
    have hres : eqBE M1 M2 = true := by
     unfold eqBE
     rw [decide_eq_true (unhide hl'),Bool.true_and,List.all_eq_true]
     exact fun p hp => decide_eq_true (hdn p (hpd.mem_iff.1 hp))
    have hres' := hide hres
    have hxr' := hide hxr
    clear hit hlt hpd hdn hres hit' hxr
    go_wp2_with fail
    go_ret
    exact ⟨ret_bool (unhide hres').symm,unhide hxr'⟩
   ·have hrun : ∀ ty,(Instr.next (.pointer (some ⟨r,0,none⟩)) false ty).run Tryz.prog wr = .ok (.tuple #[.bool true,ekE p.1,evT p.2]) w2 := fun _ => hrun
    subst hl0
    have hpm : p ∈ M1 := hpd.mem_iff.2 (by simp)
    have hokp : okE p.1 := hit.map.okk p hpm
    have hx2 : Ext w w2 := hxr.of_new hk2 (by have := unhide hr'; simp; omega)
    have hm2 := (unhide h2').ext hx2
    have hlk := fun (W : World) (hW : Ext w2 W) => (hm2.ext hW).lookup2 keE Tryz.underlying111 (zeroT W) hokp
    have hne : lookM M2 p.1 ≠ some p.2 → eqBE M1 M2 = false := fun hq => by
     unfold eqBE
     rw [Bool.and_eq_false_iff]
     exact .inr (Bool.eq_false_iff.2 fun ha => hq (of_decide_eq_true (List.all_eq_true.1 ha p hpm)))
    have hgo : lookM M2 p.1 = some p.2 → ∀ q ∈ done ++ [p],lookM M2 q.1 = some q.2 := fun hq q hm => by
     rcases List.mem_append.1 hm with h | h
     ·exact hdn q h
     ·rw [List.mem_singleton.1 h]; exact hq
    have hpd2 : M1.Perm ((done ++ [p]) ++ (l1 ++ l2)) := hpd.trans (by
     rw [List.append_assoc]
     exact List.Perm.append_left _ (List.perm_middle))
    have hpd' := hide hpd2
    have hgo' := hide hgo
    have hne' := hide hne
    have hit2' := hide hit2
    have hx2' := hide hx2
    have hlt' := hide hlt
    have hself := Ext.refl w2
    clear hit hlt hpd hdn hpm hokp hm2 hne hgo hpd2 hit2 hx2 hxr hit'
    obtain ⟨⟨a,b⟩,⟨lab0,wt0⟩⟩ := p
    simp only [ekE,evT] at hrun hen hlk
    cases hq : lookM M2 (a,b) with
    | none =>
     have hnf := hide (unhide hne' (by rw [hq]; simp))
     rw [hq] at hlk
     clear hq
     simp only [Option.getD_none,Option.isSome_none] at hlk
     go_wp2_with fail
     go_ret
     exact ⟨ret_bool (unhide hnf).symm,(unhide hx2').trans (ext_self3 _ _ _ _)⟩
    | some q =>
     obtain ⟨lq,tq⟩ := q
     rw [hq] at hlk
     have hq' := hide hq
     clear hq
     simp only [Option.getD_some,Option.isSome_some] at hlk
     by_cases hh : lq = lab0 ∧ tq = wt0
     ·obtain ⟨rfl,rfl⟩ := hh
      go_wp2_with fail
      go_roundw
      case rel => exact ⟨_,_,unhide hpd',unhide hgo' (unhide hq'),(unhide hit2').ext (ext_self3 _ _ _ _),(unhide hx2').trans (ext_self3 _ _ _ _)⟩
      case measure =>
       rw [((unhide hit2').ext (ext_self3 _ _ _ _)).left_eq,unhide hlt']
       simp
     ·have hnf := hide (unhide hne' (by rw [unhide hq']; simpa using hh))
      have hh' : ¬ (lab0 = lq ∧ wt0 = tq) := fun h => hh ⟨h.1.symm,h.2.symm⟩
      have hh2 := hide hh'
      clear hh hh'
      go_wp2_with fail
      all_goals first
       | (go_ret; exact ⟨ret_bool (unhide hnf).symm,(unhide hx2').trans (ext_self3 _ _ _ _)⟩)
       | (exfalso; have h := unhide hh2; simp_all; done)
 ·have hres : eqBE M1 M2 = false := by unfold eqBE; rw [decide_eq_false hl,Bool.false_and]
  have hres' := hide hres
  have hb : ((M1.length : Int) != (M2.length : Int)) = true := by simp; omega
  clear hres hl h1 h2
  have hself := Ext.refl w
  go_enter Tryz.func56,Tryz.ntmps56
  go_wp2_with fail
  go_ret
  exact ⟨ret_bool (unhide hres').symm,Ext.refl _⟩
theorem sub_perm {α : Type} [DecidableEq α] : ∀ (M1 M2 : List α),M1.Nodup → M1 ⊆ M2 → M2.length ≤ M1.length → M1.Perm M2
 | [],M2,_,_,h => by
  have : M2 = [] := List.eq_nil_of_length_eq_zero (by simpa using h)
  rw [this]
 | a :: l,M2,hn,hs,h => by
  obtain ⟨h1,h2⟩ := List.nodup_cons.1 hn
  have ha : a ∈ M2 := hs List.mem_cons_self
  have hp := List.perm_cons_erase ha
  have hl := hp.length_eq
  simp only [List.length_cons] at hl h
  refine ((sub_perm l (M2.erase a) h2 (fun x hx => ?_) (by omega)).cons a).trans hp.symm
  refine (List.mem_erase_of_ne ?_).2 (hs (List.mem_cons_of_mem _ hx))
  rintro rfl
  exact h1 hx
theorem eqB_plain {κ τ : Type} [DecidableEq κ] [DecidableEq τ] {lt : κ × τ → κ × τ → Prop} (hirr : ∀ a b,lt a b → ¬ lt b a) {M1 M2 S1 S2 : List (κ × τ)} (hn1 : (M1.map (·.1)).Nodup) (hn2 : (M2.map (·.1)).Nodup) (p1 : S1.Perm M1) (p2 : S2.Perm M2) (s1 : S1.Pairwise lt) (s2 : S2.Pairwise lt) :
  (decide (M1.length = M2.length) && M1.all fun p => decide (lookM M2 p.1 = some p.2)) = decide (S1 = S2) := by
 rw [Bool.eq_iff_iff]
 simp only [Bool.and_eq_true,decide_eq_true_eq,List.all_eq_true]
 constructor
 ·rintro ⟨hl,ha⟩
  have hsub : M1 ⊆ M2 := fun p hp => (lookM_some hn2).1 (ha p hp)
  have hnd1 : M1.Nodup := (List.pairwise_map.1 hn1).imp fun h e => h (by rw [e])
  have hp : M1.Perm M2 := sub_perm M1 M2 hnd1 hsub (by omega)
  exact ((p1.trans hp).trans p2.symm).eq_of_pairwise (fun a b _ _ h1 h2 => absurd h2 (hirr a b h1)) s1 s2
 ·rintro rfl
  have hp : M1.Perm M2 := p1.symm.trans p2
  exact ⟨hp.length_eq,fun p hm => (lookM_some hn2).2 (hp.mem_iff.1 hm)⟩
theorem IsG.eqV {w : World} {g1 v1 e1 g2 v2 e2 : Nat} {V1 V2 V1' V2' : List (Int × Thing)} {E1' E2' : List ((Int × Int) × Thing)} (h1 : GraphAt w g1 v1 e1 V1' E1') (h2 : GraphAt w g2 v2 e2 V2' E2') (p1 : V1.Perm V1') (p2 : V2.Perm V2') (s1 : V1.Pairwise ltV) (s2 : V2.Pairwise ltV) : eqBV V1' V2' = decide (V1 = V2) :=
 eqB_plain (fun a b h h' => by unfold ltV at h h'; omega) h1.vs.nodup h2.vs.nodup p1 p2 s1 s2
theorem IsG.eqE {w : World} {g1 v1 e1 g2 v2 e2 : Nat} {V1' V2' : List (Int × Thing)} {E1 E2 E1' E2' : List ((Int × Int) × Thing)} (h1 : GraphAt w g1 v1 e1 V1' E1') (h2 : GraphAt w g2 v2 e2 V2' E2') (p1 : E1.Perm E1') (p2 : E2.Perm E2') (s1 : E1.Pairwise ltE) (s2 : E2.Pairwise ltE) : eqBE E1' E2' = decide (E1 = E2) :=
 eqB_plain (fun a b h h' => by unfold ltE at h h'; omega) h1.es.nodup h2.es.nodup p1 p2 s1 s2
set_option maxRecDepth 100000 in
set_option maxHeartbeats 4000000 in
theorem equal_any (g1 v1 e1 g2 v2 e2 : Nat) (V1 V2 : List (Int × Thing)) (E1 E2 : List ((Int × Int) × Thing)) (w : World) (h1 : IsG w g1 v1 e1 V1 E1) (h2 : IsG w g2 v2 e2 V2 E2) :
  Calls Tryz.prog 24 #[.pointer (some ⟨g1,0,none⟩), .pointer (some ⟨g2,0,none⟩)] w fun e w' => e = .returned (.bool (decide (V1 = V2) && decide (E1 = E2))) ∧ Ext w w' := by
 obtain ⟨V1',E1',k1,p1,q1,i1⟩ := h1
 obtain ⟨V2',E2',k2,p2,q2,i2⟩ := h2
 have hqV := hide (IsG.eqV k1 k2 p1 p2 i1.sv i2.sv)
 have hqE := hide (IsG.eqE k1 k2 q1 q2 i1.se i2.se)
 have c0 := k1.ptr0
 have c1 := k1.ptr1
 have d0 := k2.ptr0
 have d1 := k2.ptr1
 have m1 := hide k1.vs
 have m2 := hide k2.vs
 have n1 := hide k1.es
 have n2 := hide k2.es
 clear k1 k2 p1 p2 q1 q2 i1 i2
 cases hv : decide (V1 = V2)
 ·rw [hv] at hqV
  clear hv
  go_enter Tryz.func24,Tryz.ntmps24
  go_wp2_with fail
  refine wp_region_ext (P := Tryz.prog) [0,1,2,3,4,5,6,7,8,9,10,11,12,13,14,15,16,17,18,19,20] [] 0 #[true,true,true,true,true,true,true,true,true,true,true,true,true,true,true,true,true,true,true,true,true] (by kernel_rfl) (by kernel_rfl) rfl (by rfl) ?_
  iterate 10
   refine ql_want (v := ?_) rfl (by rfl) (fun W hW => ?_) ?_
   rotate_left
   ·go_simp
    first | done | rfl | (go_at_call 55; refine (meqV_any v1 v2 V1' V2' _ ((unhide m1).ext hW) ((unhide m2).ext hW)).mono ?_; rw [unhide hqV]; rintro _ _ ⟨h1,h2⟩; refine ⟨_,h1, ?_,h2⟩; rfl)
   go_frame
  iterate 9
   refine ql_skip rfl (by rfl) ?_
   go_frame
  iterate 2
   refine ql_want (v := ?_) rfl (by rfl) (fun W hW => ?_) ?_
   rotate_left
   ·go_simp
    first | done | rfl
   go_frame
  refine wpQL_nil (fun w3 hx3 => ?_)
  refine wpX_done (by kernel_rfl) ?_
  try go_frame
  go_wp2_with fail
  go_ret
  exact ⟨rfl,hx3⟩
 ·rw [hv] at hqV
  clear hv
  go_enter Tryz.func24,Tryz.ntmps24
  go_wp2_with fail
  refine wp_region_ext (P := Tryz.prog) [0,1,2,3,4,5,6,7,8,9,10,11,12,13,14,15,16,17,18,19,20] [] 0 #[true,true,true,true,true,true,true,true,true,true,true,true,true,true,true,true,true,true,true,true,true] (by kernel_rfl) (by kernel_rfl) rfl (by rfl) ?_
  iterate 21
   refine ql_want (v := ?_) rfl (by rfl) (fun W hW => ?_) ?_
   rotate_left
   ·go_simp
    first | done | rfl | (go_at_call 55; refine (meqV_any v1 v2 V1' V2' _ ((unhide m1).ext hW) ((unhide m2).ext hW)).mono ?_; rw [unhide hqV]; rintro _ _ ⟨h1,h2⟩; refine ⟨_,h1, ?_,h2⟩; rfl) | (go_at_call 56; refine (meqE_any e1 e2 E1' E2' _ ((unhide n1).ext hW) ((unhide n2).ext hW)).mono ?_; rw [unhide hqE]; rintro _ _ ⟨h1,h2⟩; refine ⟨_,h1, ?_,h2⟩; rfl)
   go_frame
  refine wpQL_nil (fun w3 hx3 => ?_)
  refine wpX_done (by kernel_rfl) ?_
  try go_frame
  go_wp2_with fail
  go_ret
  exact ⟨rfl,hx3⟩
end Go.Proofs.YtbpeemhfjgcnaaaGreat
namespace Go.Proofs.YtbpeemhfjgcnaaaGreat
open Go Go.RowKit
theorem orderV : ∀ (l acc : List (Int × Thing)),GInv acc [] → (∀ p ∈ l,idB p.1 = true ∧ heavyB p.2.2 = false) → ((acc ++ l).map (·.1)).Nodup → ∃ S,l.foldl stV (acc,[]) = (S,[]) ∧ S.Perm (acc ++ l) ∧ GInv S [] ∧ fe erV stV l (acc,[]) = 0
 | [],acc,hi,_,_ => ⟨acc,rfl,by simp,hi,rfl⟩
 | x :: l,acc,hi,hv,hn => by
  obtain ⟨u,lab,wt⟩ := x
  obtain ⟨h1,h2⟩ := hv _ List.mem_cons_self
  have hno : hasV u acc = false := hasV_false fun p hp e => by
   rw [List.map_append,List.nodup_append] at hn
   exact hn.2.2 p.1 (List.mem_map.2 ⟨p,hp,rfl⟩) u (by simp) e
  have he : wrongR 0 u 0 wt acc [] = 0 := by
   simp only at h1 h2
   unfold wrongR
   rw [if_neg (by simp [w1B]),if_neg (by simp [w2B,h1,h2,pairsB]),if_neg (by simp [w3B,pairsB]),if_pos rfl,hno]
   rfl
  have hst : stV (acc,[]) (u,(lab,wt)) = (refV 0 u lab wt acc,[]) := by
   unfold stV nxV nxE
   simp only [he,if_true]
   rfl
  have hi2 : GInv (refV 0 u lab wt acc) [] := hi.step (lab := lab) he
  have hp2 : (refV 0 u lab wt acc).Perm (acc ++ [(u,(lab,wt))]) := by
   simp only [refV,if_true]
   rw [insF_eq]
   exact insP_perm _ _ _
  have hp3 : (refV 0 u lab wt acc ++ l).Perm (acc ++ (u,(lab,wt)) :: l) := by
   have := hp2.append_right l
   simpa using this
  obtain ⟨S,k1,k2,k3,k4⟩ := orderV l (refV 0 u lab wt acc) hi2 (fun p hp => hv p (List.mem_cons_of_mem _ hp)) ((hp3.map (·.1)).nodup_iff.2 hn)
  have her : erV (acc,[]) (u,(lab,wt)) = 0 := he
  refine ⟨S, ?_,k2.trans hp3,k3, ?_⟩
  ·rw [List.foldl_cons,hst]; exact k1
  ·simp only [fe,her,hst,if_true]; exact k4
def normE (p : (Int × Int) × Thing) : (Int × Int) × Thing := ((min p.1.1 p.1.2,max p.1.1 p.1.2),p.2)
theorem orderE (V : List (Int × Thing)) : ∀ (l acc : List ((Int × Int) × Thing)),GInv V acc → (∀ p ∈ l,hasV p.1.1 V = true ∧ hasV p.1.2 V = true ∧ p.1.1 ≠ p.1.2 ∧ heavyB p.2.2 = false) → ((acc ++ l.map normE).map (·.1)).Nodup → acc.length + l.length ≤ 1024 →
  ∃ S,l.foldl stE (V,acc) = (V,S) ∧ S.Perm (acc ++ l.map normE) ∧ GInv V S ∧ fe erE stE l (V,acc) = 0
 | [],acc,hi,_,_,_ => ⟨acc,rfl,by simp,hi,rfl⟩
 | x :: l,acc,hi,hv,hn,hl => by
  obtain ⟨⟨u,v⟩,lab,wt⟩ := x
  obtain ⟨h1,h2,h3,h4⟩ := hv _ List.mem_cons_self
  simp only at h1 h2 h3 h4
  simp only [List.length_cons] at hl
  have hno : hasE u v acc = false := hasE_false hi.lo fun p hp e => by
   rw [List.map_append,List.nodup_append] at hn
   exact hn.2.2 p.1 (List.mem_map.2 ⟨p,hp,rfl⟩) (min u v,max u v) (by simp [normE]) e
  have i1 : idB u = true := by
   rw [hasV_look,lookM_isSome] at h1
   obtain ⟨p,hp,rfl⟩ := h1
   exact hi.ids p hp
  have i2 : idB v = true := by
   rw [hasV_look,lookM_isSome] at h2
   obtain ⟨p,hp,rfl⟩ := h2
   exact hi.ids p hp
  have he : wrongR 2 u v wt V acc = 0 := by
   unfold wrongR
   rw [if_neg (by simp [w1B]),if_neg (by simp [w2B,h4,i1,i2,pairsB]),if_neg (by simp [w3B,pairsB,h3]),if_neg (by decide),if_neg (by simp [h1,h2]),if_pos rfl,hno,if_neg (by simp),if_neg (by omega)]
  have hst : stE (V,acc) ((u,v),(lab,wt)) = (V,refE 2 u v lab wt acc) := by
   unfold stE nxV nxE
   simp only [he,if_true]
   rfl
  have hi2 : GInv V (refE 2 u v lab wt acc) := hi.step (lab := lab) he
  have hp2 : (refE 2 u v lab wt acc).Perm (acc ++ [normE ((u,v),(lab,wt))]) := by
   simp only [refE,Int.reduceEq,if_false,if_true]
   rw [insF_eq]
   exact insP_perm _ _ _
  have hp3 : (refE 2 u v lab wt acc ++ l.map normE).Perm (acc ++ (((u,v),(lab,wt)) :: l).map normE) := by
   have := hp2.append_right (l.map normE)
   simpa using this
  obtain ⟨S,k1,k2,k3,k4⟩ := orderE V l (refE 2 u v lab wt acc) hi2 (fun p hp => hv p (List.mem_cons_of_mem _ hp)) ((hp3.map (·.1)).nodup_iff.2 hn) (by
   have := hp2.length_eq
   simp only [List.length_append,List.length_cons,List.length_nil] at this
   omega)
  have her : erE (V,acc) ((u,v),(lab,wt)) = 0 := he
  refine ⟨S, ?_,k2.trans hp3,k3, ?_⟩
  ·rw [List.foldl_cons,hst]; exact k1
  ·simp only [fe,her,hst,if_true]; exact k4
end Go.Proofs.YtbpeemhfjgcnaaaGreat
