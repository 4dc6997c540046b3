/- Parts of a proof, laid together. Each part says its own conditions. -/
import Derived.Test.YtmokciekndllpaaGreatDoorC25
import Derived.Test.YtmokciekndllpaaGreatDoorC26
namespace Go.Proofs.YtmokciekndllpaaGreatDoor
open Go
theorem mem_fromS {L : List Int} {x : Int} : x ∈ toL (fromS L) ↔ x ∈ L ∧ 0 ≤ x ∧ x < 1024 := by
 rw [mem_toL',fromS_bit]
 simp only [Bool.and_eq_true,decide_eq_true_eq]
 constructor
 ·rintro ⟨h1,h2,h3,h4⟩
  rw [show ((x.toNat : Nat) : Int) = x by omega] at h4
  exact ⟨h4,h1,h2⟩
 ·rintro ⟨h1,h2,h3⟩
  refine ⟨h2,h3,by omega, ?_⟩
  rwa [show ((x.toNat : Nat) : Int) = x by omega]
theorem toL_rng {N : Nat} {x : Int} (h : x ∈ toL N) : 0 ≤ x ∧ x < 1024 := by
 rw [mem_toL'] at h
 exact ⟨h.1,h.2.1⟩
theorem mem_fold (f : Int → Nat) (x : Int) : ∀ (l : List Int) (a : Nat),x ∈ toL (l.foldl (fun a id => a ||| f id) a) ↔ x ∈ toL a ∨ ∃ id ∈ l,x ∈ toL (f id)
 | [],a => by simp
 | y :: l,a => by
  rw [List.foldl_cons,mem_fold f x l,mem_or,or_assoc]
  simp
theorem minV_mem {N : Nat} (h : anyB N = true) : minV N ∈ toL N := by
 have h1 := anyB_iff.1 h
 unfold minV
 cases hl : toL N with
 | nil => exact absurd hl h1
 | cons a r => simp
theorem same_bits {N M : Nat} (h : ∀ x,x ∈ toL N ↔ x ∈ toL M) : ∀ k,k < 1024 → N.testBit k = M.testBit k := fun k hk => by
 have h1 := h (k : Int)
 rw [mem_toL',mem_toL',Int.toNat_natCast] at h1
 rw [Bool.eq_iff_iff]
 constructor
 ·intro h2; exact (h1.1 ⟨by omega,by omega,h2⟩).2.2
 ·intro h2; exact (h1.2 ⟨by omega,by omega,h2⟩).2.2
def AdE (E : List ((Int × Int) × Thing)) (u v : Int) : Prop := hasE u v E = true
section
variable {V : List (Int × Thing)} {E : List ((Int × Int) × Thing)}
theorem AdE.symm : ∀ u v,AdE E u v → AdE E v u := fun _ _ h => hasE_symm h
def besS (E : List ((Int × Int) × Thing)) (N : Nat) : Nat := minusS ((toL N).foldl (fun a id => a ||| nearS id E) 0) N
theorem mem_bes (hi : GInv V E) {N : Nat} {x : Int} : x ∈ toL (besS E N) ↔ x ∉ toL N ∧ ∃ y ∈ toL N,AdE E y x := by
 unfold besS
 rw [mem_minus,mem_fold,and_comm]
 have h0 : ¬ x ∈ toL 0 := by rw [mem_toL',Nat.zero_testBit]; simp
 simp only [h0,false_or,mem_near hi]
 rfl
def growS (E : List ((Int × Int) × Thing)) : Nat → Nat → Nat → Nat
 | 0,part,_ => part
 | f + 1,part,rest => if anyB (besS E part &&& rest) = true then growS E f (part ||| (besS E part &&& rest)) rest else part
theorem flt_lt {l : List Int} {p q : Int → Bool} (h : ∀ x,q x = true → p x = true) {y : Int} (hy : y ∈ l) (h1 : p y = true) (h2 : q y = false) : (l.filter q).length < (l.filter p).length := by
 induction l with
 | nil => cases hy
 | cons a l ih =>
  have hle : (l.filter q).length ≤ (l.filter p).length := by
   clear ih hy
   induction l with
   | nil => simp
   | cons b l ih =>
    rw [List.filter_cons,List.filter_cons]
    by_cases hb : q b = true
    ·rw [if_pos hb,if_pos (h b hb)]; simpa using ih
    ·rw [if_neg hb]
     split
     ·simp only [List.length_cons]; omega
     ·exact ih
  rw [List.filter_cons,List.filter_cons]
  rcases List.mem_cons.1 hy with rfl | hy
  ·rw [if_neg (by simp [h2]),if_pos h1]
   simp only [List.length_cons]; omega
  ·have ih := ih hy
   by_cases hb : q a = true
   ·rw [if_pos hb,if_pos (h a hb)]; simpa using ih
   ·rw [if_neg hb]
    split
    ·simp only [List.length_cons]; omega
    ·exact ih
theorem mem_grow (hi : GInv V E) {x : Int} : ∀ (f part rest : Nat),((toL rest).filter fun y => decide (y ∉ toL part)).length < f → (x ∈ toL (growS E f part rest) ↔ x ∈ toL part ∨ x ∈ toL rest ∧ ∃ y ∈ toL part,Rch (AdE E) (fun z => z ∈ toL rest) y x) := by
 intro f
 induction f with
 | zero => intro part rest h; exact absurd h (Nat.not_lt_zero _)
 | succ f ih =>
  intro part rest h
  rw [growS]
  have hmb : ∀ y,y ∈ toL (besS E part &&& rest) ↔ (y ∉ toL part ∧ ∃ z ∈ toL part,AdE E z y) ∧ y ∈ toL rest := fun y => by rw [mem_and,mem_bes hi]
  split
  ·rename_i hany
   have hm0 := minV_mem hany
   generalize minV (besS E part &&& rest) = y0 at hm0
   obtain ⟨⟨h1,_⟩,h2⟩ := (hmb y0).1 hm0
   rw [ih]
   ·rw [mem_or,hmb]
    constructor
    ·rintro ((h3 | ⟨⟨_,z,h4,h5⟩,h6⟩) | ⟨h3,y,h4,h5⟩)
     ·exact .inl h3
     ·exact .inr ⟨h6,z,h4, .edge h5⟩
     ·rcases mem_or.1 h4 with h4 | h4
      ·exact .inr ⟨h3,y,h4,h5⟩
      ·obtain ⟨⟨_,z,h6,h7⟩,h8⟩ := (hmb y).1 h4
       exact .inr ⟨h3,z,h6, .step h7 h8 h5⟩
    ·rintro (h3 | ⟨h3,y,h4,h5⟩)
     ·exact .inl (.inl h3)
     ·exact .inr ⟨h3,y,mem_or.2 (.inl h4),h5⟩
   ·refine Nat.lt_of_lt_of_le (flt_lt (fun z hz => ?_) h2 (by simpa using h1) ?_) (Nat.le_of_lt_succ h)
    ·simp only [decide_eq_true_eq] at hz ⊢
     exact fun h => hz (mem_or.2 (.inl h))
    ·simp only [decide_eq_false_iff_not,Classical.not_not]
     exact mem_or.2 (.inr hm0)
  ·rename_i hany
   have hno : ∀ y,y ∉ toL (besS E part &&& rest) := fun y hy => by
    have : toL (besS E part &&& rest) = [] := by
     by_cases hn : toL (besS E part &&& rest) = []
     ·exact hn
     ·exact absurd (anyB_iff.2 hn) hany
    rw [this] at hy; cases hy
   have hcl : ∀ u v,u ∈ toL part → v ∈ toL rest → AdE E u v → v ∈ toL part := fun u v hu hv ha => by
    by_cases h3 : v ∈ toL part
    ·exact h3
    ·exact absurd ((hmb v).2 ⟨⟨h3,u,hu,ha⟩,hv⟩) (hno v)
   constructor
   ·exact .inl
   ·rintro (h3 | ⟨h3,y,h4,h5⟩)
    ·exact h3
    ·clear h hmb hno hany ih
     induction h5 with
     | edge h => exact hcl _ _ h4 h3 h
     | step h hs _ ih => exact ih h3 (hcl _ _ h4 hs h)
def compS (E : List ((Int × Int) × Thing)) : Nat → Nat → List Nat
 | 0,_ => []
 | f + 1,rest => if anyB rest = true then growS E 1100 (fromS [minV rest]) rest :: compS E f (minusS rest (growS E 1100 (fromS [minV rest]) rest)) else []
theorem toL_len (N : Nat) : (toL N).length ≤ 1024 := toK_le N 1024
theorem mem_part (hi : GInv V E) {rest : Nat} (h : anyB rest = true) {x : Int} : x ∈ toL (growS E 1100 (fromS [minV rest]) rest) ↔ Cn (AdE E) (fun z => z ∈ toL rest) (minV rest) x := by
 have hm := minV_mem h
 have hr := toL_rng hm
 generalize minV rest = c at *
 rw [mem_grow hi _ _ _ (Nat.lt_of_le_of_lt (List.length_filter_le _ _) (by have := toL_len rest; omega))]
 have h1 : ∀ y,y ∈ toL (fromS [c]) ↔ y = c := fun y => by
  rw [mem_fromS,List.mem_singleton]
  exact ⟨fun h => h.1,fun h => ⟨h,by rw [h]; exact hr⟩⟩
 simp only [h1]
 constructor
 ·rintro (rfl | ⟨h2,y,rfl,h3⟩)
  ·exact .rf hm
  ·exact ⟨hm,h2, .inr h3⟩
 ·rintro ⟨_,h2,rfl | h3⟩
  ·exact .inl rfl
  ·exact .inr ⟨h2,c,rfl,h3⟩
structure CompsOf (A : Int → Int → Prop) (X : Int → Prop) (C : List Nat) : Prop where
 all : ∀ p ∈ C, ∃ c,X c ∧ ∀ x,x ∈ toL p ↔ Cn A X c x
 has : ∀ c,X c → ∃ p ∈ C, ∀ x,x ∈ toL p ↔ Cn A X c x
 dis : C.Pairwise fun p q => ∀ x,x ∈ toL p → x ∉ toL q
theorem comps_sub (hi : GInv V E) (X : Int → Prop) : ∀ (f rest : Nat),(toL rest).length < f → (∀ x ∈ toL rest,X x) → (∀ x ∈ toL rest, ∀ y,X y → AdE E x y → y ∈ toL rest) →
  (∀ p ∈ compS E f rest, ∃ c,c ∈ toL rest ∧ ∀ x,x ∈ toL p ↔ Cn (AdE E) X c x) ∧ (∀ c ∈ toL rest, ∃ p ∈ compS E f rest, ∀ x,x ∈ toL p ↔ Cn (AdE E) X c x) ∧ (compS E f rest).Pairwise (fun p q => ∀ x,x ∈ toL p → x ∉ toL q) := by
 intro f
 induction f with
 | zero => intro rest h; exact absurd h (Nat.not_lt_zero _)
 | succ f ih =>
  intro rest h hX hcl
  rw [compS]
  split
  ·rename_i hany
   have hm := minV_mem hany
   have hp : ∀ x,x ∈ toL (growS E 1100 (fromS [minV rest]) rest) ↔ Cn (AdE E) X (minV rest) x := fun x => by
    rw [mem_part hi hany]
    constructor
    ·exact fun h => h.mono hX
    ·intro h1
     refine Cn.ind (P := fun y => Cn (AdE E) (fun z => z ∈ toL rest) (minV rest) y) h1 (.rf hm) fun a b h2 _ hb hab => ?_
     exact h2.on (hcl a h2.2.1 b hb hab) hab
   generalize minV rest = c0 at *
   generalize growS E 1100 (fromS [c0]) rest = p0 at *
   have hmr : ∀ x,x ∈ toL (minusS rest p0) ↔ x ∈ toL rest ∧ ¬ Cn (AdE E) X c0 x := fun x => by rw [mem_minus,hp]
   have hlt : (toL (minusS rest p0)).length < f := by
    have h1 : (toL (minusS rest p0)).length < (toL rest).length := by
     have h2 := len_le_sub (c0 :: toL (minusS rest p0)) (toL rest) (List.nodup_cons.2 ⟨fun h => ((hmr c0).1 h).2 (.rf (hX c0 hm)),toL_nodup _⟩) (fun x hx => by
      rcases List.mem_cons.1 hx with rfl | hx
      ·exact hm
      ·exact ((hmr x).1 hx).1)
     simp only [List.length_cons] at h2
     omega
    omega
   obtain ⟨h1,h2,h3⟩ := ih (minusS rest p0) hlt (fun x hx => hX x ((hmr x).1 hx).1) (fun x hx y hy hxy => by
    obtain ⟨h4,h5⟩ := (hmr x).1 hx
    exact (hmr y).2 ⟨hcl x h4 y hy hxy,fun h6 => h5 (h6.on (hX x h4) (AdE.symm _ _ hxy))⟩)
   refine ⟨fun p hp' => ?_,fun c hc => ?_, ?_⟩
   ·rcases List.mem_cons.1 hp' with rfl | hp'
    ·exact ⟨c0,hm,hp⟩
    ·obtain ⟨c,h4,h5⟩ := h1 p hp'
     exact ⟨c,((hmr c).1 h4).1,h5⟩
   ·by_cases h4 : Cn (AdE E) X c0 c
    ·refine ⟨p0,by simp,fun x => ?_⟩
     rw [hp]
     exact ⟨fun h5 => (h4.sy AdE.symm).tr h5,fun h5 => h4.tr h5⟩
    ·obtain ⟨p,h5,h6⟩ := h2 c ((hmr c).2 ⟨hc,h4⟩)
     exact ⟨p,by simp [h5],h6⟩
   ·refine List.pairwise_cons.2 ⟨fun q hq x hx hxq => ?_,h3⟩
    obtain ⟨c,h4,h5⟩ := h1 q hq
    obtain ⟨_,h6⟩ := (hmr c).1 h4
    exact h6 (((hp x).1 hx).tr (((h5 x).1 hxq).sy AdE.symm))
  ·rename_i hany
   have hno : toL rest = [] := by
    by_cases hn : toL rest = []
    ·exact hn
    ·exact absurd (anyB_iff.2 hn) hany
   refine ⟨(fun p hp => by cases hp),fun c hc => ?_, .nil⟩
   rw [hno] at hc; cases hc
theorem comps_of (hi : GInv V E) (rest : Nat) : CompsOf (AdE E) (fun x => x ∈ toL rest) (compS E 1100 rest) := by
 obtain ⟨h1,h2,h3⟩ := comps_sub hi (fun x => x ∈ toL rest) 1100 rest (by have := toL_len rest; omega) (fun _ h => h) (fun _ _ _ h _ => h)
 exact ⟨h1,h2,h3⟩
def partS (V : List (Int × Thing)) (E : List ((Int × Int) × Thing)) (s : Nat) : List Nat := compS E 1100 (minusS (vS V) s)
def fullS (V : List (Int × Thing)) (E : List ((Int × Int) × Thing)) (s : Nat) : List Nat := (partS V E s).filter fun p => subS (s &&& vS V) (besS E p)
def isepS (V : List (Int × Thing)) (E : List ((Int × Int) × Thing)) (s : Nat) : Bool := subS s (vS V) && decide (1 < (fullS V E s).length)
def crossS (V : List (Int × Thing)) (E : List ((Int × Int) × Thing)) (s t : Nat) : Bool := decide (1 < ((partS V E s).filter fun p => anyB (p &&& t)).length)
def VtE (V : List (Int × Thing)) (x : Int) : Prop := x ∈ toL (vS V)
theorem part_of (hi : GInv V E) (s : Nat) : CompsOf (AdE E) (fun x => VtE V x ∧ ¬ x ∈ toL s) (partS V E s) := by
 have h := comps_of hi (minusS (vS V) s)
 have e : (fun x => x ∈ toL (minusS (vS V) s)) = fun x => VtE V x ∧ ¬ x ∈ toL s := funext fun x => propext mem_minus
 rw [e] at h
 exact h
theorem two_of {A : Int → Int → Prop} {X : Int → Prop} {C : List Nat} (h : CompsOf A X C) (f : Nat → Bool) (P : Int → Prop) (hP : ∀ p ∈ C, ∀ c,X c → (∀ x,x ∈ toL p ↔ Cn A X c x) → (f p = true ↔ P c)) :
  1 < (C.filter f).length ↔ ∃ a b,X a ∧ X b ∧ P a ∧ P b ∧ ¬ Cn A X a b := by
 constructor
 ·intro hl
  have hpw := h.dis.sublist (List.filter_sublist (p := f))
  have hm : ∀ p ∈ C.filter f,p ∈ C ∧ f p = true := fun p hp => List.mem_filter.1 hp
  generalize C.filter f = D at *
  rcases D with _ | ⟨p,_ | ⟨q,D⟩⟩
  ·simp at hl
  ·simp at hl
  ·obtain ⟨hp1,hp2⟩ := hm p (by simp)
   obtain ⟨hq1,hq2⟩ := hm q (by simp)
   obtain ⟨a,ha,hax⟩ := h.all p hp1
   obtain ⟨b,hb,hbx⟩ := h.all q hq1
   refine ⟨a,b,ha,hb,(hP p hp1 a ha hax).1 hp2,(hP q hq1 b hb hbx).1 hq2,fun hab => ?_⟩
   exact (List.pairwise_cons.1 hpw).1 q (by simp) b ((hax b).2 hab) ((hbx b).2 (.rf hb))
 ·rintro ⟨a,b,ha,hb,hPa,hPb,hab⟩
  obtain ⟨p,hp,hpx⟩ := h.has a ha
  obtain ⟨q,hq,hqx⟩ := h.has b hb
  have hpf : p ∈ C.filter f := List.mem_filter.2 ⟨hp,(hP p hp a ha hpx).2 hPa⟩
  have hqf : q ∈ C.filter f := List.mem_filter.2 ⟨hq,(hP q hq b hb hqx).2 hPb⟩
  have hne : p ≠ q := fun e => by
   subst e
   exact hab (((hpx b).1 ((hqx b).2 (.rf hb))))
  generalize C.filter f = D at *
  rcases D with _ | ⟨p',_ | ⟨q',D⟩⟩
  ·cases hpf
  ·rw [List.mem_singleton] at hpf hqf
   exact absurd (hpf.trans hqf.symm) hne
  ·simp
theorem full_iff (hi : GInv V E) {s p : Nat} {c : Int} (hc : VtE V c ∧ ¬ c ∈ toL s) (hx : ∀ x,x ∈ toL p ↔ Cn (AdE E) (fun x => VtE V x ∧ ¬ x ∈ toL s) c x) (hs : ∀ x ∈ toL s,VtE V x) : subS (s &&& vS V) (besS E p) = true ↔ Ful (AdE E) (VtE V) (fun x => x ∈ toL s) c := by
 rw [subS_iff]
 constructor
 ·intro h
  refine ⟨hc.1,hc.2,fun x hxs => ?_⟩
  obtain ⟨_,y,h1,h2⟩ := (mem_bes hi).1 (h x (mem_and.2 ⟨hxs,hs x hxs⟩))
  exact ⟨y,(hx y).1 h1,h2⟩
 ·rintro ⟨_,_,h⟩ x hxs
  have hxs := (mem_and.1 hxs).1
  obtain ⟨y,h1,h2⟩ := h x hxs
  exact (mem_bes hi).2 ⟨fun h3 => ((hx x).1 h3).2.1.2 hxs,y,(hx y).2 h1,h2⟩
theorem isep_iff (hi : GInv V E) {s : Nat} : isepS V E s = true ↔ Sepr (AdE E) (VtE V) (fun x => x ∈ toL s) := by
 unfold isepS fullS
 rw [Bool.and_eq_true,subS_iff,decide_eq_true_eq]
 refine and_congr_right fun hs => ?_
 rw [two_of (part_of hi s) _ (fun c => Ful (AdE E) (VtE V) (fun x => x ∈ toL s) c) (fun p hp c hc hx => full_iff hi hc hx hs)]
 constructor
 ·rintro ⟨a,b,_,_,h1,h2,h3⟩; exact ⟨a,b,h1,h2,h3⟩
 ·rintro ⟨a,b,h1,h2,h3⟩; exact ⟨a,b,⟨h1.1,h1.2.1⟩,⟨h2.1,h2.2.1⟩,h1,h2,h3⟩
theorem bes_iff (hi : GInv V E) {X : Int → Prop} {p : Nat} {c : Int} (hx : ∀ x,x ∈ toL p ↔ Cn (AdE E) X c x) (x : Int) : x ∈ toL (besS E p) ↔ Bes (AdE E) (VtE V) X c x := by
 rw [mem_bes hi,hx]
 constructor
 ·rintro ⟨h1,y,h2,h3⟩
  exact ⟨(mem_vS hi).2 (hasE_rng hi h3).2,h1,y,(hx y).1 h2,h3⟩
 ·rintro ⟨_,h1,y,h2,h3⟩
  exact ⟨h1,y,(hx y).2 h2,h3⟩
end
end Go.Proofs.YtmokciekndllpaaGreatDoor
namespace Go.Proofs.YtmokciekndllpaaGreatDoor
open Go
def hvS (c : Int → Nat) (l : List Int) (b : Int) : Int := l.foldl (fun b x => if c b < c x then x else b) b
theorem hvS_spec (c : Int → Nat) : ∀ (l : List Int) (b : Int),(hvS c l b = b ∨ hvS c l b ∈ l) ∧ c b ≤ c (hvS c l b) ∧ ∀ x ∈ l,c x ≤ c (hvS c l b)
 | [],b => ⟨.inl rfl,Nat.le_refl _,by simp⟩
 | y :: l,b => by
  unfold hvS
  rw [List.foldl_cons]
  by_cases h : c b < c y
  ·rw [if_pos h]
   obtain ⟨h1,h2,h3⟩ := hvS_spec c l y
   refine ⟨.inr ?_,Nat.le_trans (Nat.le_of_lt h) h2,fun x hx => ?_⟩
   ·rcases h1 with h1 | h1
    ·rw [show List.foldl _ y l = hvS c l y from rfl,h1]; simp
    ·exact List.mem_cons_of_mem _ h1
   ·rcases List.mem_cons.1 hx with rfl | hx
    ·exact h2
    ·exact h3 x hx
  ·rw [if_neg h]
   obtain ⟨h1,h2,h3⟩ := hvS_spec c l b
   refine ⟨h1.imp id (List.mem_cons_of_mem _),h2,fun x hx => ?_⟩
   rcases List.mem_cons.1 hx with rfl | hx
   ·exact Nat.le_trans (Nat.not_lt.1 h) h2
   ·exact h3 x hx
def lowS (N : Nat) (c : Int → Nat) (y : Int) : Nat := fromS ((toL N).filter fun x => decide (c x < c y))
def reaS (E : List ((Int × Int) × Thing)) (N : Nat) (c : Int → Nat) (z : Int) : Nat := fromS ((toL N).filter fun y => (toL (growS E 1100 (fromS [z]) (lowS N c y))).any fun a => hasE a y E)
section
variable {V : List (Int × Thing)} {E : List ((Int × Int) × Thing)}
theorem mem_low {N : Nat} {c : Int → Nat} {x y : Int} : x ∈ toL (lowS N c y) ↔ x ∈ toL N ∧ c x < c y := by
 unfold lowS
 rw [mem_fromS,List.mem_filter,decide_eq_true_eq]
 exact ⟨fun h => h.1,fun h => ⟨h,toL_rng h.1⟩⟩
theorem mem_rea (hi : GInv V E) {N : Nat} {c : Int → Nat} {z y : Int} (hz : 0 ≤ z ∧ z < 1024) : y ∈ toL (reaS E N c z) ↔ y ∈ toL N ∧ Rch (AdE E) (fun x => x ∈ toL N ∧ c x < c y) z y := by
 unfold reaS
 rw [mem_fromS,List.mem_filter,List.any_eq_true]
 have h1 : ∀ y,y ∈ toL (fromS [z]) ↔ y = z := fun y => by
  rw [mem_fromS,List.mem_singleton]
  exact ⟨fun h => h.1,fun h => ⟨h,by rw [h]; exact hz⟩⟩
 have h2 : ∀ a,a ∈ toL (growS E 1100 (fromS [z]) (lowS N c y)) ↔ a = z ∨ (a ∈ toL N ∧ c a < c y) ∧ Rch (AdE E) (fun x => x ∈ toL N ∧ c x < c y) z a := fun a => by
  rw [mem_grow hi _ _ _ (Nat.lt_of_le_of_lt (List.length_filter_le _ _) (by have := toL_len (lowS N c y); omega))]
  simp only [h1,mem_low,exists_eq_left]
 constructor
 ·rintro ⟨⟨h3,a,h4,h5⟩,_⟩
  refine ⟨h3, ?_⟩
  rcases (h2 a).1 h4 with rfl | ⟨h6,h7⟩
  ·exact .edge h5
  ·exact h7.trans h6 (.edge h5)
 ·rintro ⟨h3,h4⟩
  refine ⟨⟨h3, ?_⟩,toL_rng h3⟩
  have hlast : ∀ {S : Int → Prop} {u v : Int},Rch (AdE E) S u v → AdE E u v ∨ ∃ a,S a ∧ Rch (AdE E) S u a ∧ AdE E a v := by
   intro S u v h
   induction h with
   | edge h => exact .inl h
   | step h hs _ ih =>
    rcases ih with ih | ⟨a,h5,h6,h7⟩
    ·exact .inr ⟨_,hs, .edge h,ih⟩
    ·exact .inr ⟨a,h5, .step h hs h6,h7⟩
  rcases hlast h4 with h5 | ⟨a,h5,h6,h7⟩
  ·exact ⟨z,(h2 z).2 (.inl rfl),h5⟩
  ·exact ⟨a,(h2 a).2 (.inr ⟨h5,h6⟩),h7⟩
def runS (E : List ((Int × Int) × Thing)) : Nat → Nat → (Int → Nat) → List (Int × Nat)
 | 0,_,_ => []
 | f + 1,N,c => if anyB N = true then (hvS c (toL N) (minV N),reaS E (withoutS N (hvS c (toL N) (minV N))) c (hvS c (toL N) (minV N))) :: runS E f (withoutS N (hvS c (toL N) (minV N))) (fun y => if decide (y ∈ toL (reaS E (withoutS N (hvS c (toL N) (minV N))) c (hvS c (toL N) (minV N)))) = true then c y + 1 else c y) else []
def runQ (l : List (Int × Nat)) : List (Int × (Int → Bool)) := l.map fun p => (p.1,fun y => decide (y ∈ toL p.2))
theorem runQ_ids (l : List (Int × Nat)) : (runQ l).map (·.1) = l.map (·.1) := by unfold runQ; rw [List.map_map]; rfl
theorem hv_mem (c : Int → Nat) {N : Nat} (h : anyB N = true) : hvS c (toL N) (minV N) ∈ toL N := by
 rcases (hvS_spec c (toL N) (minV N)).1 with h1 | h1
 ·rw [h1]; exact minV_mem h
 ·exact h1
theorem runQ_cons (z : Int) (r : Nat) (l : List (Int × Nat)) : runQ ((z,r) :: l) = (z,fun y => decide (y ∈ toL r)) :: runQ l := rfl
theorem run_ids : ∀ (f N : Nat) (c : Int → Nat),(toL N).length < f → ((runS E f N c).map (·.1)).Perm (toL N) := by
 intro f
 induction f with
 | zero => intro N c h; exact absurd h (Nat.not_lt_zero _)
 | succ f ih =>
  intro N c h
  rw [runS]
  split
  ·rename_i hany
   have hm := hv_mem c hany
   have hn := toL_nodup N
   have hout := toL_without N (hvS c (toL N) (minV N))
   have hlt : (toL (withoutS N (hvS c (toL N) (minV N)))).length < f := by
    rw [hout]
    have := out_lt hm
    unfold outR at this
    omega
   generalize hvS c (toL N) (minV N) = z at *
   rw [List.map_cons]
   have h1 := ih (withoutS N z) (fun y => if decide (y ∈ toL (reaS E (withoutS N z) c z)) = true then c y + 1 else c y) hlt
   refine (h1.cons z).trans ?_
   rw [hout]
   exact perm_out1 hn hm
  ·rename_i hany
   have : toL N = [] := by
    by_cases hn : toL N = []
    ·exact hn
    ·exact absurd (anyB_iff.2 hn) hany
   rw [this]
   exact .nil
theorem run_step (hi : GInv V E) {N : Nat} {c : Int → Nat} {z : Int} {l : List (Int × (Int → Bool))} (hz : z ∈ toL N) (hw : ∀ x ∈ toL N,c x ≤ c z) (hmem : ∀ x,x ∈ l.map (·.1) ↔ x ∈ toL (withoutS N z))
  (hl : MRun (AdE E) (fun y => if decide (y ∈ toL (reaS E (withoutS N z) c z)) = true then c y + 1 else c y) l) : MRun (AdE E) c ((z,fun y => decide (y ∈ toL (reaS E (withoutS N z) c z))) :: l) := by
 refine ⟨fun p hp' => hw p.1 ?_,fun p hp' => ?_,hl⟩
 ·exact (mem_without.1 ((hmem p.1).1 (List.mem_map.2 ⟨p,hp',rfl⟩))).1
 ·rw [decide_eq_true_eq,mem_rea hi (toL_rng hz)]
  have h1 := (hmem p.1).1 (List.mem_map.2 ⟨p,hp',rfl⟩)
  have e : (fun x => x ∈ l.map (·.1) ∧ c x < c p.1) = fun x => x ∈ toL (withoutS N z) ∧ c x < c p.1 := funext fun x => propext (by rw [hmem x])
  rw [e]
  exact ⟨fun h => h.2,fun h => ⟨h1,h⟩⟩
theorem out_len {N : Nat} {z : Int} (hz : z ∈ toL N) {f : Nat} (h : (toL N).length < f + 1) : (toL (withoutS N z)).length < f := by
 have h1 := out_lt hz
 rw [← show toL (withoutS N z) = outR (toL N) z from toL_without N z] at h1
 omega
theorem run_is (hi : GInv V E) (f : Nat) : ∀ (N : Nat) (c : Int → Nat) (l : List (Int × Nat)),(toL N).length < f → l = runS E f N c → MRun (AdE E) c (runQ l) := by
 induction f with
 | zero => intro N c l h; exact absurd h (Nat.not_lt_zero _)
 | succ f ih =>
  intro N c l h hl
  rw [runS] at hl
  by_cases hany : anyB N = true
  ·have hlt := out_len (hv_mem c hany) h
   obtain ⟨l2,hl2⟩ : ∃ l2,l2 = runS E f (withoutS N (hvS c (toL N) (minV N))) (fun y => if decide (y ∈ toL (reaS E (withoutS N (hvS c (toL N) (minV N))) c (hvS c (toL N) (minV N)))) = true then c y + 1 else c y) := ⟨_,rfl⟩
   have hp := run_ids (E := E) f _ (fun y => if decide (y ∈ toL (reaS E (withoutS N (hvS c (toL N) (minV N))) c (hvS c (toL N) (minV N)))) = true then c y + 1 else c y) hlt
   have hih := ih _ _ l2 hlt hl2
   rw [if_pos hany] at hl
   rw [← hl2] at hp hl
   rw [← runQ_ids] at hp
   rw [hl,runQ_cons]
   exact run_step hi (hv_mem c hany) (hvS_spec c (toL N) (minV N)).2.2 (fun x => hp.mem_iff) hih
  ·rw [if_neg hany] at hl
   rw [hl]
   exact trivial
theorem adE_adj0 (hi : GInv V E) {u v : Int} : AdE E u v ↔ Adj0 E u v := by
 unfold AdE Adj0
 rw [hasE_iff hi.lo,List.mem_map]
theorem rch_of_adj : ∀ {L : List Int} {k : Nat},k ≤ L.length → ∀ {u v : Int},Adj E L k u v → Rch (Adj0 E) (fun x => x ∈ L.take k) u v
 | L,0,_,u,v,h => .edge h
 | L,k + 1,hk,u,v,h => by
  have hk' : k < L.length := hk
  have hmono : ∀ x,x ∈ L.take k → x ∈ L.take (k + 1) := fun x hx => by
   rw [List.take_succ_eq_append_getElem hk']; exact List.mem_append_left _ hx
  rcases h with h | ⟨_,_,_,h1,h2⟩
  ·exact (rch_of_adj (by omega) h).mono hmono
  ·have hg : L[k]?.getD 0 = L[k] := by simp [hk']
   rw [hg] at h1 h2
   have h3 := (rch_of_adj (by omega) h1).mono hmono
   have h4 := (rch_of_adj (by omega) h2).mono hmono
   have hsy : ∀ u v,Adj0 E u v → Adj0 E v u := fun u v h => Adj.symm (L := L) (k := 0) h
   exact (h3.flip hsy).trans (show L[k] ∈ L.take (k + 1) from by rw [List.take_succ_eq_append_getElem hk']; exact List.mem_append_right _ (List.mem_singleton.2 rfl)) h4
theorem adj_of_rchZ {L : List Int} (hn : L.Nodup) : ∀ (k : Nat),k ≤ L.length → ∀ u v,u ∈ L.drop k → v ∈ L.drop k → u ≠ v → Rch (Adj0 E) (fun x => x ∈ L.take k) u v → Adj E L k u v
 | 0,_,u,v,_,_,_,h => by
  cases h with
  | edge h => exact h
  | step _ hs _ => simp at hs
 | k + 1,hk,u,v,hu,hv,hne,h => by
  have hk' : k < L.length := hk
  have hu2 := (mem_drop_iff hn hk').1 hu
  have hv2 := (mem_drop_iff hn hk').1 hv
  have hc : L[k] ∈ L.drop k := by rw [drop_get hk']; exact List.mem_cons_self
  have h1 : Rch (Adj0 E) (fun x => x ∈ L.take k ∨ x = L[k]) u v := h.lift (fun _ _ h => .edge h) fun x hx => by
   rw [List.take_succ_eq_append_getElem hk',List.mem_append] at hx
   simpa using hx
  rcases h1.split with h1 | ⟨h1,h2⟩
  ·exact .inl (adj_of_rchZ hn k (by omega) u v hu2.1 hv2.1 hne h1)
  ·refine .inr ⟨hne,hu,hv, ?_, ?_⟩
   ·have h3 := (adj_of_rchZ hn k (by omega) u L[k] hu2.1 hc hu2.2 h1).symm
    simpa [hk'] using h3
   ·have h3 := adj_of_rchZ hn k (by omega) L[k] v hc hv2.1 (Ne.symm hv2.2) h2
    simpa [hk'] using h3
theorem run_drop {A : Int → Int → Prop} : ∀ {l0 l : List (Int × (Int → Bool))} {w : Int → Nat},MRun A w (l0 ++ l) → ∃ w',MRun A w' l
 | [],_,w,h => ⟨w,h⟩
 | _ :: _,_,_,h => run_drop h.2.2
theorem run_adj (hi : GInv V E) {w : Int → Nat} {l0 l1 l2 : List (Int × (Int → Bool))} {z v : Int} {q qv : Int → Bool} (h : MRun (AdE E) w (l0 ++ (z,q) :: (l1 ++ (v,qv) :: l2))) {L : List Int} (hL : L = ((l0 ++ (z,q) :: (l1 ++ (v,qv) :: l2)).map (·.1)).reverse) (hn : L.Nodup) : q v = true ↔ Adj E L L.length z v := by
 obtain ⟨w',h⟩ := run_drop h
 rw [reach_iff AdE.symm h]
 have hL2 : L = (l2.map (·.1)).reverse ++ v :: ((l1.map (·.1)).reverse ++ z :: (l0.map (·.1)).reverse) := by
  rw [hL]
  simp
 have hk : (l2.map (·.1)).reverse.length < L.length := by rw [hL2]; simp
 have hgk : L[(l2.map (·.1)).reverse.length] = v := by
  simp only [hL2]
  rw [List.getElem_append_right (Nat.le_refl _)]
  simp
 have htk : L.take (l2.map (·.1)).reverse.length = (l2.map (·.1)).reverse := by rw [hL2,List.take_left']; rfl
 have hdk : L.drop (l2.map (·.1)).reverse.length = v :: ((l1.map (·.1)).reverse ++ z :: (l0.map (·.1)).reverse) := by rw [hL2,List.drop_left']; rfl
 generalize (l2.map (·.1)).reverse.length = k at *
 have hvd : v ∈ L.drop k := by rw [hdk]; simp
 have hzd : z ∈ L.drop k := by rw [hdk]; simp
 have hzv : z ≠ v := fun e => by
  have := (List.drop_sublist k L).nodup hn
  rw [hdk] at this
  exact (List.nodup_cons.1 this).1 (by simp [e])
 have hRR : Rch (AdE E) (fun x => x ∈ l2.map (·.1)) z v ↔ Rch (Adj0 E) (fun x => x ∈ L.take k) z v := by
  rw [htk]
  constructor
  ·exact fun h => h.lift (fun _ _ h => .edge ((adE_adj0 hi).1 h)) (fun x hx => by simpa using hx)
  ·exact fun h => h.lift (fun _ _ h => .edge ((adE_adj0 hi).2 h)) (fun x hx => by simpa using hx)
 rw [hRR]
 constructor
 ·intro h
  exact (adj_of_rchZ hn k (by omega) z v hzd hvd hzv h).mono (by omega)
 ·intro h
  have h1 : Adj E L L.length L[k] z := by rw [hgk]; exact h.symm
  have h2 := h1.back hn (by omega) hk
  rw [hgk] at h2
  exact rch_of_adj (by omega) h2.symm
def msRun (V : List (Int × Thing)) (E : List ((Int × Int) × Thing)) : List (Int × Nat) := runS E 1100 (vS V) (fun _ => 0)
def msOrd (V : List (Int × Thing)) (E : List ((Int × Int) × Thing)) : List Int := ((msRun V E).map (·.1)).reverse
theorem ms_perm (hi : GInv V E) : (msOrd V E).Perm (V.map (·.1)) := by
 unfold msOrd msRun
 have h := run_ids (E := E) 1100 (vS V) (fun _ => 0) (by have := toL_len (vS V); omega)
 rw [toL_vS hi] at h
 exact (List.reverse_perm _).trans h
theorem ms_ord (hi : GInv V E) : Ord V (msOrd V E) := ⟨(ms_perm hi).nodup_iff.2 (sv_nodup hi.sv),fun _ => (ms_perm hi).mem_iff⟩
theorem ms_run (hi : GInv V E) (l : List (Int × Nat)) (hl : l = msRun V E) : MRun (AdE E) (fun _ => 0) (runQ l) := by
 have hlt : (toL (vS V)).length < 1100 := by have := toL_len (vS V); omega
 unfold msRun at hl
 exact run_is hi 1100 (vS V) (fun _ => 0) l hlt hl
attribute [local irreducible] msRun in
end
end Go.Proofs.YtmokciekndllpaaGreatDoor
