/- Parts of a proof, laid together. Each part says its own conditions. -/
import Derived.Test.YtmfkkkhddigkfaaGreatDoorR24
import Derived.Test.YtmfkkkhddigkfaaGreatDoorR25
import Derived.Test.YtmfkkkhddigkfaaGreatDoorR27
import Derived.Test.YtmfkkkhddigkfaaGreatDoorR18
namespace Go.Proofs.YtmfkkkhddigkfaaGreatDoor
open Go
theorem withoutS_bit2 (N : Nat) (x : Int) (k : Nat) : (withoutS N x).testBit k = (N.testBit k && !(decide (k < 1024) && decide (x = (k : Int)))) := by
 unfold withoutS fitB
 by_cases h : 0 ≤ x ∧ x < 1024
 ·rw [if_pos (by simp [h.1,h.2]),minusS_bit,Nat.testBit_two_pow]
  congr 2
  rw [Bool.eq_iff_iff]
  simp only [Bool.and_eq_true,decide_eq_true_eq]
  omega
 ·rw [if_neg (by simp; omega)]
  have : (decide (k < 1024) && decide (x = (k : Int))) = false := by
   rw [Bool.eq_false_iff]
   simp only [ne_eq,Bool.and_eq_true,decide_eq_true_eq]
   omega
  rw [this,Bool.not_false,Bool.and_true]
theorem len_le_sub : ∀ (l m : List Int),l.Nodup → (∀ x ∈ l,x ∈ m) → l.length ≤ m.length
 | [],_,_,_ => Nat.zero_le _
 | a :: r,m,hn,hs => by
  have ha : a ∈ m := hs a (by simp)
  obtain ⟨hna,hnr⟩ := List.nodup_cons.1 hn
  have h1 := len_le_sub r (m.erase a) hnr (fun x hx => (List.mem_erase_of_ne (fun e => hna (by rw [← e]; exact hx))).2 (hs x (by simp [hx])))
  have h2 := (List.perm_cons_erase ha).length_eq
  simp only [List.length_cons] at h2 ⊢
  omega
def subS (N M : Nat) : Bool := eqS (minusS N M) 0
theorem subS_iff {N M : Nat} : subS N M = true ↔ ∀ x ∈ toL N,x ∈ toL M := by
 unfold subS
 rw [eqS_iff]
 constructor
 ·intro h x hx
  obtain ⟨h1,h2,h3⟩ := mem_toL'.1 hx
  have := h x.toNat (by omega)
  rw [minusS_bit,h3,Nat.zero_testBit] at this
  exact mem_toL'.2 ⟨h1,h2,by simpa using this⟩
 ·intro h k hk
  rw [minusS_bit,Nat.zero_testBit]
  cases hb : N.testBit k
  ·rfl
  ·have := (mem_toL'.1 (h k (mem_toL'.2 ⟨by omega,by omega,hb⟩))).2.2
   simp at this
   simp [this]
theorem mem_and {N M : Nat} {x : Int} : x ∈ toL (N &&& M) ↔ x ∈ toL N ∧ x ∈ toL M := by
 rw [mem_toL',mem_toL',mem_toL',Nat.testBit_and,Bool.and_eq_true]
 constructor
 ·rintro ⟨h1,h2,h3,h4⟩; exact ⟨⟨h1,h2,h3⟩,h1,h2,h4⟩
 ·rintro ⟨⟨h1,h2,h3⟩,_,_,h4⟩; exact ⟨h1,h2,h3,h4⟩
theorem mem_without {N : Nat} {x v : Int} : x ∈ toL (withoutS N v) ↔ x ∈ toL N ∧ x ≠ v := by
 rw [mem_toL',mem_toL',withoutS_bit2]
 constructor
 ·rintro ⟨h1,h2,h3⟩
  simp only [Bool.and_eq_true,Bool.not_eq_true',Bool.and_eq_false_iff,decide_eq_false_iff_not] at h3
  refine ⟨⟨h1,h2,h3.1⟩,fun e => ?_⟩
  rcases h3.2 with h | h <;> omega
 ·rintro ⟨⟨h1,h2,h3⟩,h4⟩
  refine ⟨h1,h2, ?_⟩
  rw [h3]
  simp
  omega
theorem sorted_ext {l m : List Int} (hl : l.Pairwise (· < ·)) (hm : m.Pairwise (· < ·)) (h : ∀ x,x ∈ l ↔ x ∈ m) : l = m :=
 ((List.perm_ext_iff_of_nodup (hl.imp fun {_ _} h => by omega) (hm.imp fun {_ _} h => by omega)).2 h).eq_of_pairwise (fun a b _ _ h h' => by omega) hl hm
theorem toL_without (N : Nat) (v : Int) : toL (withoutS N v) = (toL N).filter (fun x => decide (x ≠ v)) :=
 sorted_ext (toL_sorted _) ((toL_sorted _).filter _) fun x => by rw [mem_without,List.mem_filter,decide_eq_true_eq]
section
variable {V : List (Int × Thing)} {E : List ((Int × Int) × Thing)}
theorem hasE_symm {u v : Int} (h : hasE u v E = true) : hasE v u E = true := by
 unfold hasE at h ⊢
 rw [decide_eq_true_eq,posI_nonneg] at h ⊢
 obtain ⟨p,hp,h1⟩ := h
 refine ⟨p,hp, ?_⟩
 unfold isE at h1 ⊢
 rw [Bool.or_comm] at h1
 exact h1
theorem hasE_ne (hi : GInv V E) {u v : Int} (h : hasE u v E = true) : u ≠ v := by
 unfold hasE at h
 rw [decide_eq_true_eq,posI_nonneg] at h
 obtain ⟨p,hp,h1⟩ := h
 have h2 := hi.lo p hp
 unfold isE at h1
 simp at h1
 omega
theorem hasE_rng (hi : GInv V E) {u v : Int} (h : hasE u v E = true) : u ∈ V.map (·.1) ∧ v ∈ V.map (·.1) := by
 obtain ⟨h1,h2⟩ := has_ends hi h
 exact ⟨hasV_iff.1 h1,hasV_iff.1 h2⟩
theorem ids_rng (hi : GInv V E) {x : Int} (h : x ∈ V.map (·.1)) : 0 ≤ x ∧ x < 1024 := by
 obtain ⟨p,hp,rfl⟩ := List.mem_map.1 h
 have := hi.ids p hp
 simpa [idB] using this
theorem mem_near (hi : GInv V E) {v x : Int} : x ∈ toL (nearS v E) ↔ hasE v x E = true := by
 rw [← rnear_eq hi,mem_toL',fromS_bit,Bool.and_eq_true,decide_eq_true_eq,decide_eq_true_eq]
 unfold rnear
 constructor
 ·rintro ⟨h1,h2,h3,h4⟩
  rw [show ((x.toNat : Nat) : Int) = x by omega] at h4
  obtain ⟨p,hp,rfl⟩ := List.mem_map.1 h4
  exact hasE_symm (List.mem_filter.1 hp).2
 ·intro h
  have hm := (hasE_rng hi h).2
  have hr := ids_rng hi hm
  refine ⟨hr.1,hr.2,by omega, ?_⟩
  rw [show ((x.toNat : Nat) : Int) = x by omega]
  obtain ⟨p,hp,rfl⟩ := List.mem_map.1 hm
  exact List.mem_map.2 ⟨p,List.mem_filter.2 ⟨hp,hasE_symm h⟩,rfl⟩
theorem mem_vS (hi : GInv V E) {x : Int} : x ∈ toL (vS V) ↔ x ∈ V.map (·.1) := by
 rw [vS_eq,mem_toL',fromS_bit,Bool.and_eq_true,decide_eq_true_eq,decide_eq_true_eq]
 constructor
 ·rintro ⟨h1,h2,h3,h4⟩
  rwa [show ((x.toNat : Nat) : Int) = x by omega] at h4
 ·intro h
  have hr := ids_rng hi h
  refine ⟨hr.1,hr.2,by omega, ?_⟩
  rwa [show ((x.toNat : Nat) : Int) = x by omega]
theorem toL_vS (hi : GInv V E) : toL (vS V) = V.map (·.1) := sorted_ext (toL_sorted _) (sv_map.1 hi.sv) fun _ => mem_vS hi
def cliqueS (E : List ((Int × Int) × Thing)) (r : Nat) : Bool := (toL r).all fun v => subS (withoutS r v) (nearS v E)
def simpleS (E : List ((Int × Int) × Thing)) (id : Int) (left : Nat) : Bool := cliqueS E (nearS id E &&& left)
def Clq (E : List ((Int × Int) × Thing)) (l : List Int) : Prop := ∀ x ∈ l, ∀ y ∈ l,x ≠ y → hasE x y E = true
def Smp (E : List ((Int × Int) × Thing)) (v : Int) (l : List Int) : Prop := ∀ x ∈ l, ∀ y ∈ l,hasE v x E = true → hasE v y E = true → x ≠ y → hasE x y E = true
theorem cliqueS_iff (hi : GInv V E) {r : Nat} : cliqueS E r = true ↔ Clq E (toL r) := by
 unfold cliqueS
 rw [List.all_eq_true]
 constructor
 ·intro h x hx y hy hne
  exact (mem_near hi).1 (subS_iff.1 (h x hx) y (mem_without.2 ⟨hy,fun e => hne e.symm⟩))
 ·intro h v hv
  refine subS_iff.2 fun y hy => ?_
  obtain ⟨h1,h2⟩ := mem_without.1 hy
  exact (mem_near hi).2 (h v hv y h1 (fun e => h2 e.symm))
theorem simpleS_iff (hi : GInv V E) {v : Int} {left : Nat} : simpleS E v left = true ↔ Smp E v (toL left) := by
 unfold simpleS
 rw [cliqueS_iff hi]
 constructor
 ·intro h x hx y hy h1 h2 hne
  exact h x (mem_and.2 ⟨(mem_near hi).2 h1,hx⟩) y (mem_and.2 ⟨(mem_near hi).2 h2,hy⟩) hne
 ·intro h x hx y hy hne
  obtain ⟨h1,h2⟩ := mem_and.1 hx
  obtain ⟨h3,h4⟩ := mem_and.1 hy
  exact h x h2 y h4 ((mem_near hi).1 h1) ((mem_near hi).1 h3) hne
def ClqR (V : List (Int × Thing)) (E : List ((Int × Int) × Thing)) (l : List Int) : Prop := ∀ i (hi : i < l.length),hasV l[i] V = true ∧ ∀ k (hk : k < i),hasE l[i] (l[k]'(Nat.lt_trans hk hi)) E = true
theorem clqR_iff (_hi : GInv V E) {l : List Int} (hn : l.Nodup) (hm : ∀ x ∈ l,x ∈ V.map (·.1)) : ClqR V E l ↔ Clq E l := by
 constructor
 ·intro h x hx y hy hne
  obtain ⟨i,hi',rfl⟩ := List.getElem_of_mem hx
  obtain ⟨k,hk,rfl⟩ := List.getElem_of_mem hy
  rcases Nat.lt_trichotomy i k with h1 | h1 | h1
  ·exact hasE_symm ((h k hk).2 i h1)
  ·subst h1; exact absurd rfl hne
  ·exact (h i hi').2 k h1
 ·intro h i hi'
  refine ⟨hasV_iff.2 (hm _ (List.getElem_mem hi')),fun k hk => h _ (List.getElem_mem _) _ (List.getElem_mem _) fun e => ?_⟩
  have := (List.getElem_inj hn).1 e
  omega
theorem clqR_any (hi : GInv V E) {l : List Int} : ClqR V E l ↔ l.Nodup ∧ (∀ x ∈ l,x ∈ V.map (·.1)) ∧ Clq E l := by
 constructor
 ·intro h
  have hn : l.Nodup := by
   rw [List.nodup_iff_pairwise_ne,List.pairwise_iff_getElem]
   intro i j hi' hj hij e
   exact hasE_ne hi ((h j hj).2 i hij) e.symm
  have hm : ∀ x ∈ l,x ∈ V.map (·.1) := fun x hx => by
   obtain ⟨i,hi',rfl⟩ := List.getElem_of_mem hx
   exact hasV_iff.1 (h i hi').1
  exact ⟨hn,hm,(clqR_iff hi hn hm).1 h⟩
 ·rintro ⟨hn,hm,h⟩
  exact (clqR_iff hi hn hm).2 h
def nbrR (E : List ((Int × Int) × Thing)) (v : Int) (l : List Int) : List Int := l.filter fun x => decide (x ≠ v) && hasE v x E
theorem mem_nbr {v x : Int} {l : List Int} : x ∈ nbrR E v l ↔ x ∈ l ∧ x ≠ v ∧ hasE v x E = true := by
 unfold nbrR
 rw [List.mem_filter,Bool.and_eq_true,decide_eq_true_eq]
theorem smp_nbr (hi : GInv V E) {v : Int} {l : List Int} (hn : l.Nodup) (hm : ∀ x ∈ l,x ∈ V.map (·.1)) : ClqR V E (nbrR E v l) ↔ Smp E v l := by
 have h0 := clqR_iff hi (l := nbrR E v l) (hn.filter _) (fun x hx => hm x (mem_nbr.1 hx).1)
 rw [h0]
 constructor
 ·intro h x hx y hy h1 h2 hne
  exact h x (mem_nbr.2 ⟨hx,(hasE_ne hi h1).symm,h1⟩) y (mem_nbr.2 ⟨hy,(hasE_ne hi h2).symm,h2⟩) hne
 ·intro h x hx y hy hne
  obtain ⟨h1,_,h2⟩ := mem_nbr.1 hx
  obtain ⟨h3,_,h4⟩ := mem_nbr.1 hy
  exact h x h1 y h3 h2 h4 hne
def outR (l : List Int) (v : Int) : List Int := l.filter fun x => decide (x ≠ v)
theorem mem_out {l : List Int} {v x : Int} : x ∈ outR l v ↔ x ∈ l ∧ x ≠ v := by unfold outR; rw [List.mem_filter,decide_eq_true_eq]
theorem out_lt {l : List Int} {v : Int} (h : v ∈ l) : (outR l v).length < l.length := by
 unfold outR
 refine Nat.lt_of_le_of_ne (List.length_filter_le _ _) fun e => ?_
 have := (List.length_filter_eq_length_iff.1 e) v h
 simp at this
theorem smp_out (hi : GInv V E) {v : Int} {l : List Int} : Smp E v (outR l v) ↔ Smp E v l := by
 constructor
 ·intro h x hx y hy h1 h2 hne
  exact h x (mem_out.2 ⟨hx,(hasE_ne hi h1).symm⟩) y (mem_out.2 ⟨hy,(hasE_ne hi h2).symm⟩) h1 h2 hne
 ·intro h x hx y hy
  exact h x (mem_out.1 hx).1 y (mem_out.1 hy).1
def Peo (E : List ((Int × Int) × Thing)) : List Int → Prop
 | [] => True
 | v :: l => Smp E v l ∧ Peo E l
theorem Smp.sub {v : Int} {l m : List Int} (h : Smp E v m) (hs : ∀ x ∈ l,x ∈ m) : Smp E v l := fun x hx y hy => h x (hs x hx) y (hs y hy)
theorem Peo.sub : ∀ {l m : List Int},l.Sublist m → Peo E m → Peo E l
 | _,_, .slnil,h => h
 | _,_, .cons _ hs,h => Peo.sub hs h.2
 | _,_, .cons_cons _ hs,h => ⟨h.1.sub hs.subset,Peo.sub hs h.2⟩
def Cho (E : List ((Int × Int) × Thing)) (l : List Int) : Prop := ∃ o,o.Perm l ∧ Peo E o
theorem Cho.out {l : List Int} (h : Cho E l) (v : Int) : Cho E (outR l v) := by
 obtain ⟨o,hp,ho⟩ := h
 exact ⟨outR o v,hp.filter _,Peo.sub (List.filter_sublist) ho⟩
theorem perm_out1 {l : List Int} (hn : l.Nodup) {v : Int} (h : v ∈ l) : (v :: outR l v).Perm l := by
 refine (List.perm_ext_iff_of_nodup (List.nodup_cons.2 ⟨fun h => (mem_out.1 h).2 rfl,hn.filter _⟩) hn).2 fun x => ?_
 rw [List.mem_cons,mem_out]
 constructor
 ·rintro (rfl | h1)
  ·exact h
  ·exact h1.1
 ·intro h1
  by_cases e : x = v
  ·exact .inl e
  ·exact .inr ⟨h1,e⟩
theorem Cho.back {l : List Int} (hn : l.Nodup) {v : Int} (hv : v ∈ l) (hs : Smp E v l) (h : Cho E (outR l v)) : Cho E l := by
 obtain ⟨o,hp,ho⟩ := h
 exact ⟨v :: o,(hp.cons v).trans (perm_out1 hn hv),hs.sub (fun x hx => (mem_out.1 (hp.mem_iff.1 hx)).1),ho⟩
theorem Cho.first (hi : GInv V E) {l : List Int} (h : Cho E l) (hne : l ≠ []) : ∃ v ∈ l,Smp E v l := by
 obtain ⟨o,hp,ho⟩ := h
 cases o with
 | nil => exact absurd hp.symm.eq_nil hne
 | cons v o =>
  refine ⟨v,hp.mem_iff.1 (by simp),(smp_out hi).1 (ho.1.sub fun x hx => ?_)⟩
  obtain ⟨h1,h2⟩ := mem_out.1 hx
  rcases List.mem_cons.1 (hp.mem_iff.2 h1) with h3 | h3
  ·exact absurd h3 h2
  ·exact h3
end
open Classical in
noncomputable def ordR (V : List (Int × Thing)) (E : List ((Int × Int) × Thing)) : Nat → List Int → Option (List Int)
 | 0,_ => none
 | f + 1,l => if l = [] then some [] else l.findSome? fun x => if ClqR V E (nbrR E x (outR l x)) then (ordR V E f (outR l x)).map (x :: ·) else none
section
open Classical
variable {V : List (Int × Thing)} {E : List ((Int × Int) × Thing)}
theorem ordR_sound (hi : GInv V E) : ∀ (f : Nat) (l o : List Int),l.Nodup → (∀ x ∈ l,x ∈ V.map (·.1)) → ordR V E f l = some o → o.Perm l ∧ Peo E o
 | 0,l,o,_,_,h => by cases h
 | f + 1,l,o,hn,hm,h => by
  rw [ordR] at h
  split at h
  ·rename_i hl
   cases h
   subst hl
   exact ⟨.nil,trivial⟩
  ·obtain ⟨l1,x,l2,rfl,hx,_⟩ := List.findSome?_eq_some_iff.1 h
   have hxl : x ∈ l1 ++ x :: l2 := by simp
   generalize l1 ++ x :: l2 = l at *
   split at hx
   ·rename_i hc
    obtain ⟨o',ho',rfl⟩ := Option.map_eq_some_iff.1 hx
    have hn2 : (outR l x).Nodup := hn.filter _
    have hm2 : ∀ y ∈ outR l x,y ∈ V.map (·.1) := fun y hy => hm y (mem_out.1 hy).1
    obtain ⟨h1,h2⟩ := ordR_sound hi f _ _ hn2 hm2 ho'
    refine ⟨(h1.cons x).trans (perm_out1 hn hxl), ?_,h2⟩
    have := (smp_nbr hi hn2 hm2).1 hc
    exact this.sub fun y hy => h1.mem_iff.1 hy
   ·cases hx
theorem ordR_some (hi : GInv V E) : ∀ (f : Nat) (l : List Int),l.Nodup → (∀ x ∈ l,x ∈ V.map (·.1)) → l.length < f → Cho E l → (ordR V E f l).isSome = true
 | 0,l,_,_,h,_ => by omega
 | f + 1,l,hn,hm,hf,hc => by
  rw [ordR]
  split
  ·rfl
  ·rename_i hl
   obtain ⟨v,hv,hs⟩ := Cho.first hi hc hl
   rw [List.findSome?_isSome_iff]
   have hn2 : (outR l v).Nodup := hn.filter _
   have hm2 : ∀ y ∈ outR l v,y ∈ V.map (·.1) := fun y hy => hm y (mem_out.1 hy).1
   refine ⟨v,hv, ?_⟩
   rw [if_pos ((smp_nbr hi hn2 hm2).2 ((smp_out hi).2 hs))]
   have := ordR_some hi f _ hn2 hm2 (by have := out_lt hv; omega) (hc.out v)
   simpa using this
theorem ordR_iff (hi : GInv V E) {f : Nat} {l : List Int} (hn : l.Nodup) (hm : ∀ x ∈ l,x ∈ V.map (·.1)) (hf : l.length < f) : (ordR V E f l).isSome = true ↔ Cho E l := by
 refine ⟨fun h => ?_,ordR_some hi f l hn hm hf⟩
 obtain ⟨o,ho⟩ := Option.isSome_iff_exists.1 h
 exact ⟨o,ordR_sound hi f l o hn hm ho⟩
end
def poS (E : List ((Int × Int) × Thing)) : Nat → Nat → Option (List Int)
 | 0,_ => none
 | f + 1,N => if anyB N = true then ((toL N).find? fun v => simpleS E v N).bind fun v => (poS E f (withoutS N v)).map (v :: ·) else some []
theorem anyB_iff {N : Nat} : anyB N = true ↔ toL N ≠ [] := by
 unfold anyB
 cases toL N <;> simp
theorem findSome_find {l : List Int} {p : Int → Bool} {g : Int → Option (List Int)} (h : ∀ x ∈ l,p x = true → (g x).isSome = true) :
  (l.findSome? fun x => if p x = true then g x else none) = (l.find? p).bind g := by
 induction l with
 | nil => rfl
 | cons a r ih =>
  rw [List.findSome?_cons,List.find?_cons]
  by_cases hp : p a = true
  ·rw [if_pos hp,hp]
   obtain ⟨o,ho⟩ := Option.isSome_iff_exists.1 (h a (by simp) hp)
   simp only [ho]
   rw [Option.bind_some,ho]
  ·rw [if_neg hp]
   have : p a = false := by simpa using hp
   rw [this]
   simp only
   exact ih fun x hx => h x (by simp [hx])
open Classical in
theorem poS_ordR {V : List (Int × Thing)} {E : List ((Int × Int) × Thing)} (hi : GInv V E) (f : Nat) : ∀ (N : Nat),(∀ x ∈ toL N,x ∈ V.map (·.1)) → (toL N).length < f → poS E f N = ordR V E f (toL N) := by
 induction f with
 | zero => intro N _ h; exact absurd h (Nat.not_lt_zero _)
 | succ f ih =>
  intro N hm hf
  have hn := toL_nodup N
  have hout := toL_without N
  have hsim := fun x => simpleS_iff (E := E) hi (v := x) (left := N)
  have hany := anyB_iff (N := N)
  rw [poS,ordR]
  generalize toL N = l at *
  by_cases hl : l = []
  ·rw [if_neg (fun h => hany.1 h hl),if_pos hl]
  ·rw [if_pos (hany.2 hl),if_neg hl]
   have hcl : ∀ x,(ClqR V E (nbrR E x (outR l x))) ↔ simpleS E x N = true := fun x => by
    have h0 := smp_nbr hi (v := x) (l := outR l x) (hn.filter _) (fun y hy => hm y (mem_out.1 hy).1)
    exact (h0.trans (smp_out hi)).trans (hsim x).symm
   have hgo : ∀ x ∈ l,poS E f (withoutS N x) = ordR V E f (outR l x) := fun x hx => by
    have e : toL (withoutS N x) = outR l x := hout x
    have h1 := out_lt hx
    have h2 := ih (withoutS N x)
    rw [e] at h2
    exact h2 (fun y hy => hm y (mem_out.1 hy).1) (by omega)
   have hsm : ∀ x ∈ l,(ordR V E f (outR l x)).isSome = true ↔ Cho E (outR l x) := fun x hx => by
    have h1 := out_lt hx
    exact ordR_iff hi (hn.filter _) (fun y hy => hm y (mem_out.1 hy).1) (by omega)
   by_cases hc : Cho E l
   ·have h1 : l.findSome? (fun x => if ClqR V E (nbrR E x (outR l x)) then (ordR V E f (outR l x)).map (x :: ·) else none)
      = l.findSome? (fun x => if simpleS E x N = true then (ordR V E f (outR l x)).map (x :: ·) else none) := by
     refine congrArg (fun q => l.findSome? q) (funext fun x => ?_)
     by_cases h : simpleS E x N = true
     ·rw [if_pos h,if_pos ((hcl x).2 h)]
     ·rw [if_neg h,if_neg (fun h2 => h ((hcl x).1 h2))]
    rw [h1,findSome_find (p := fun x => simpleS E x N) (g := fun x => (ordR V E f (outR l x)).map (x :: ·)) (fun x hx _ => by
     have := (hsm x hx).2 (hc.out x)
     simpa using this)]
    cases h : l.find? (fun v => simpleS E v N) with
    | none => rfl
    | some v =>
     rw [Option.bind_some,Option.bind_some,hgo v (List.mem_of_find?_eq_some h)]
   ·have h2 : ordR V E (f + 1) l = none := by
     have := mt (ordR_iff hi hn hm hf).1 hc
     simpa using this
    rw [ordR,if_neg hl] at h2
    rw [h2]
    cases h : l.find? (fun v => simpleS E v N) with
    | none => rfl
    | some v =>
     rw [Option.bind_some]
     have hv := List.mem_of_find?_eq_some h
     have hs := List.find?_some h
     rw [hgo v hv]
     have h3 : ordR V E f (outR l v) = none := by
      have := mt (hsm v hv).1 (fun h4 => hc (Cho.back hn hv ((hsim v).1 hs) h4))
      simpa using this
     rw [h3]
     rfl
end Go.Proofs.YtmfkkkhddigkfaaGreatDoor
namespace Go.Proofs.YtmfkkkhddigkfaaGreatDoor
open Go
section
variable {V : List (Int × Thing)} {E : List ((Int × Int) × Thing)}
theorem poS_sound (hi : GInv V E) {f N : Nat} {o : List Int} (hm : ∀ x ∈ toL N,x ∈ V.map (·.1)) (hf : (toL N).length < f) (h : poS E f N = some o) : o.Perm (toL N) ∧ Peo E o := by
 rw [poS_ordR hi f N hm hf] at h
 exact ordR_sound hi f _ _ (toL_nodup N) hm h
end
end Go.Proofs.YtmfkkkhddigkfaaGreatDoor
namespace Go.Proofs.YtmfkkkhddigkfaaGreatDoor
open Go Go.RowKit
attribute [local go_sem] qUpon lUpon
def belS (n : Int) : Nat := 2 ^ (min n.toNat 1024) - 1
theorem wdN_mod (N k i : Nat) : wdN (N % 2 ^ (64 * k)) i = if i < k then wdN N i else 0 := by
 apply Nat.eq_of_testBit_eq
 intro j
 rw [wdN_bit,Nat.testBit_mod_two_pow]
 by_cases h : i < k
 ·rw [if_pos h,wdN_bit,Bool.eq_iff_iff]
  simp only [Bool.and_eq_true,decide_eq_true_eq]
  constructor
  ·rintro ⟨a,_,b⟩; exact ⟨a,b⟩
  ·rintro ⟨a,b⟩; exact ⟨a,by omega,b⟩
 ·rw [if_neg h,Nat.zero_testBit,Bool.eq_iff_iff]
  simp only [Bool.and_eq_true,decide_eq_true_eq,Bool.false_eq_true,iff_false]
  omega
theorem setC_next (N k : Nat) : (setC (N % 2 ^ (64 * k))).setIfInBounds k (.int .u64 (wd N k)) = setC (N % 2 ^ (64 * (k + 1))) := by
 apply Array.ext_getElem?
 intro i
 by_cases hi : i < 16
 ·rw [setC_get _ hi]
  by_cases he : k = i
  ·subst he
   rw [Array.getElem?_setIfInBounds_self_of_lt (by rw [setC_size]; omega)]
   unfold wd
   rw [wdN_mod,if_pos (by omega)]
  ·rw [Array.getElem?_setIfInBounds_ne he,setC_get _ hi]
   unfold wd
   rw [wdN_mod,wdN_mod]
   by_cases h1 : i < k
   ·rw [if_pos h1,if_pos (by omega)]
   ·rw [if_neg h1,if_neg (by omega)]
 ·have h1 : ∀ a : Array Value,a.size = 16 → a[i]? = none := fun a h => Array.getElem?_eq_none (by omega)
  rw [h1 _ (by simp [setC_size]),h1 _ (setC_size _)]
theorem bel_lt {m K : Nat} (h : m ≤ K) : 2 ^ m - 1 < 2 ^ K := by
 have : 2 ^ m ≤ 2 ^ K := Nat.pow_le_pow_right (by decide) h
 have hp : 0 < 2 ^ m := Nat.pow_pos (by decide)
 omega
theorem bel_word (m k c : Nat) (hc : c = min (m - 64 * k) 64) : IntKind.u64.wrap (IntKind.u64.wrap (2 ^ c) - 1) = wd (2 ^ m - 1) k := by
 have h1 : wd (2 ^ m - 1) k = ((2 ^ c - 1 : Nat) : Int) := by unfold wd; rw [wdN_below,hc]
 have hp : 0 < 2 ^ c := Nat.pow_pos (by decide)
 have hle : 2 ^ c ≤ 2 ^ 64 := Nat.pow_le_pow_right (by decide) (by omega)
 have e : ((2 : Int) ^ c) = ((2 ^ c : Nat) : Int) := by simp
 rw [h1,IntKind.wrap_u64,IntKind.wrap_u64,e]
 generalize 2 ^ c = p at *
 omega
set_option maxRecDepth 100000 in
set_option maxHeartbeats 4000000 in
theorem below_any (n : Int) (w : World) :
  Calls Tryz.prog 52 #[.int .i64 n] w fun e w' => e = .returned (.agg (setC (belS n))) ∧ Ext w w' := by
 obtain ⟨m,hm⟩ : ∃ m : Nat,m = min n.toNat 1024 := ⟨_,rfl⟩
 have hm1 : max 0 (min n 1024) = (m : Int) := by omega
 have hm2 : m ≤ 1024 := by omega
 have hbe : belS n = 2 ^ m - 1 := by rw [belS, ← hm]
 have hbe' := hide hbe
 have hB0 := hide (Blk.new w 51 (setC 0))
 clear hbe hm
 go_enter Tryz.func52,Tryz.ntmps52
 go_wp2_with fail
 have hx1 := hide ((ext_self1 w (.cells (setC 0) 51)).trans (ext_self1 _ (.cells (setC 0) 51)))
 have hB2 := hide ((unhide hB0).ext (ext_self1 (w.alloc (.cells (setC 0) 51)) (.cells (setC 0) 51)))
 have hB4 := hide (Blk.new (w.alloc (.cells (setC 0) 51)) 51 (setC 0))
 have hs : (w.alloc (.cells (setC 0) 51)).heap.size = w.heap.size + 1 := World.size_alloc _ _
 rw [hs] at hB4
 clear hs hB0
 have hz : setC 0 = #[.int .u64 0, .int .u64 0, .int .u64 0, .int .u64 0, .int .u64 0, .int .u64 0, .int .u64 0, .int .u64 0, .int .u64 0, .int .u64 0, .int .u64 0, .int .u64 0, .int .u64 0, .int .u64 0, .int .u64 0, .int .u64 0] := rfl
 rw [hz] at hx1 hB2 hB4
 generalize (w.alloc (.cells #[.int .u64 0, .int .u64 0, .int .u64 0, .int .u64 0, .int .u64 0, .int .u64 0, .int .u64 0, .int .u64 0, .int .u64 0, .int .u64 0, .int .u64 0, .int .u64 0, .int .u64 0, .int .u64 0, .int .u64 0, .int .u64 0] 51)).alloc (.cells #[.int .u64 0, .int .u64 0, .int .u64 0, .int .u64 0, .int .u64 0, .int .u64 0, .int .u64 0, .int .u64 0, .int .u64 0, .int .u64 0, .int .u64 0, .int .u64 0, .int .u64 0, .int .u64 0, .int .u64 0, .int .u64 0] 51) = W1 at *
 rw [← hz] at hB4 hB2
 clear hz
 generalize hb4e : w.heap.size + 1 = b4 at *
 generalize hb2e : w.heap.size = b2 at *
 obtain ⟨N,hN⟩ : ∃ N,N = 2 ^ m - 1 := ⟨_,rfl⟩
 have hN' := hide hN
 have hlt2 := hide (bel_lt (K := 64 * 16) hm2)
 rw [← hN] at hlt2
 clear hN
 go_loopw [8] (fun i wr => ∃ k : Nat,k ≤ 16 ∧ i = .int .i64 k ∧ Blk wr b4 51 (setC (N % 2 ^ (64 * k))) ∧ Blk wr b2 51 (setC 0) ∧ Ext w wr) (fun i _ => 16 - (intOf i).toNat)
 case atStart => exact ⟨0,Nat.zero_le _,rfl,by rw [Nat.mul_zero,Nat.pow_zero,Nat.mod_one]; exact unhide hB4,unhide hB2,unhide hx1⟩
 case round =>
  obtain ⟨k,hk,rfl,hB,hA,hx⟩ := hrel
  have hB' := hide hB
  have hA' := hide hA
  have hx' := hide hx
  clear hB4 hB2 hx1
  by_cases hlt : k < 16
  ·obtain ⟨c,hc⟩ : ∃ c : Nat,c = min (m - 64 * k) 64 := ⟨_,rfl⟩
   have w1 : IntKind.i64.wrap (64 * (k : Int)) = 64 * (k : Int) := IntWalk.i64_in _ (by omega)
   have w2 : IntKind.i64.wrap ((m : Int) - 64 * (k : Int)) = (m : Int) - 64 * (k : Int) := IntWalk.i64_in _ (by omega)
   have w3 : max 0 (min ((m : Int) - 64 * (k : Int)) 64) = (c : Int) := by omega
   have w4 := bel_word m k c hc
   rw [← unhide hN'] at w4
   have c0 := hB.cell k
   have f0 := hB.frozen k
   rw [setC_get _ hlt] at c0
   clear hB hA hx hc
   go_wp2_with fail
   go_roundw
   case rel => exact ⟨k + 1,by omega,by go_num,by have h := (unhide hB').set k (.int .u64 (wd N k)); rw [setC_next] at h; exact h,(unhide hA').keep (Keep.setCell _ _ _ _) (by simp; omega),(unhide hx').of_new (Keep.setCell _ _ _ _) (by simp; omega)⟩
   case measure => simp [intOf]; omega
  ·have hke : k = 16 := by omega
   subst hke
   rw [Nat.mod_eq_of_lt (unhide hlt2)] at hB hB'
   rw [← unhide hN'] at hbe'
   have hself := Ext.refl wr
   clear hx hlt2 hN'
   have e0 := hB.cells 0 (v := .int .u64 (wd N 0)) rfl
   have e1 := hB.cells 1 (v := .int .u64 (wd N 1)) rfl
   have e2 := hB.cells 2 (v := .int .u64 (wd N 2)) rfl
   have e3 := hB.cells 3 (v := .int .u64 (wd N 3)) rfl
   have e4 := hB.cells 4 (v := .int .u64 (wd N 4)) rfl
   have e5 := hB.cells 5 (v := .int .u64 (wd N 5)) rfl
   have e6 := hB.cells 6 (v := .int .u64 (wd N 6)) rfl
   have e7 := hB.cells 7 (v := .int .u64 (wd N 7)) rfl
   have e8 := hB.cells 8 (v := .int .u64 (wd N 8)) rfl
   have e9 := hB.cells 9 (v := .int .u64 (wd N 9)) rfl
   have e10 := hB.cells 10 (v := .int .u64 (wd N 10)) rfl
   have e11 := hB.cells 11 (v := .int .u64 (wd N 11)) rfl
   have e12 := hB.cells 12 (v := .int .u64 (wd N 12)) rfl
   have e13 := hB.cells 13 (v := .int .u64 (wd N 13)) rfl
   have e14 := hB.cells 14 (v := .int .u64 (wd N 14)) rfl
   have e15 := hB.cells 15 (v := .int .u64 (wd N 15)) rfl
   have g0 := hA.frozen 0
   have g1 := hA.frozen 1
   have g2 := hA.frozen 2
   have g3 := hA.frozen 3
   have g4 := hA.frozen 4
   have g5 := hA.frozen 5
   have g6 := hA.frozen 6
   have g7 := hA.frozen 7
   have g8 := hA.frozen 8
   have g9 := hA.frozen 9
   have g10 := hA.frozen 10
   have g11 := hA.frozen 11
   have g12 := hA.frozen 12
   have g13 := hA.frozen 13
   have g14 := hA.frozen 14
   have g15 := hA.frozen 15
   have z0 := hA.cells 0 (v := .int .u64 (wd 0 0)) rfl
   have z1 := hA.cells 1 (v := .int .u64 (wd 0 1)) rfl
   have z2 := hA.cells 2 (v := .int .u64 (wd 0 2)) rfl
   have z3 := hA.cells 3 (v := .int .u64 (wd 0 3)) rfl
   have z4 := hA.cells 4 (v := .int .u64 (wd 0 4)) rfl
   have z5 := hA.cells 5 (v := .int .u64 (wd 0 5)) rfl
   have z6 := hA.cells 6 (v := .int .u64 (wd 0 6)) rfl
   have z7 := hA.cells 7 (v := .int .u64 (wd 0 7)) rfl
   have z8 := hA.cells 8 (v := .int .u64 (wd 0 8)) rfl
   have z9 := hA.cells 9 (v := .int .u64 (wd 0 9)) rfl
   have z10 := hA.cells 10 (v := .int .u64 (wd 0 10)) rfl
   have z11 := hA.cells 11 (v := .int .u64 (wd 0 11)) rfl
   have z12 := hA.cells 12 (v := .int .u64 (wd 0 12)) rfl
   have z13 := hA.cells 13 (v := .int .u64 (wd 0 13)) rfl
   have z14 := hA.cells 14 (v := .int .u64 (wd 0 14)) rfl
   have z15 := hA.cells 15 (v := .int .u64 (wd 0 15)) rfl
   clear hB hA
   go_wp2_with fail
   rw [unhide hbe']
   refine bodyPost_ret (ret_cell1 rfl rfl (load_Set _ b2 N (Blk.set16 N (unhide hA')))) rfl ?_
   exact ⟨rfl,(unhide hx').of_new (Keep.set16 wr b2 N) (by simp; omega)⟩
end Go.Proofs.YtmfkkkhddigkfaaGreatDoor
