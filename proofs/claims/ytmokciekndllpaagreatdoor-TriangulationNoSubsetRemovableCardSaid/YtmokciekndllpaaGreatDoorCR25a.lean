/- Every input makes the law TriangulationNoSubsetRemovable answer true, and each argument reads behind the call as it read before: the given card, tied to the program's text. No condition. -/
import Derived.Test.YtmokciekndllpaaGreatDoorC5
import Derived.Test.YtmokciekndllpaaGreatDoorRows
import Derived.Deep.Slices
import Derived.Deep.Fields
import Derived.ChangeSame
import Derived.OpenShut
import Derived.Test.YtmokciekndllpaaGreatDoorC13
import Derived.Test.YtmokciekndllpaaGreatDoorC25
import Derived.Test.YtmokciekndllpaaGreatDoorC20
import Derived.Test.YtmokciekndllpaaGreatDoorC24
import Derived.Test.YtmokciekndllpaaGreatDoorC26
import Derived.Test.YtmokciekndllpaaGreatDoorC27
import Derived.Test.YtmokciekndllpaaGreatDoorC39
import Derived.Test.YtmokciekndllpaaGreatDoorC40
import Derived.LaidMore
import Derived.Stop.Joined
import Derived.MakeChecks
import Derived.Test.YtmokciekndllpaaGreatDoorCards
import Derived.Test.YtmokciekndllpaaGreatDoorTie
import Derived.WalkKit
import Derived.ProofKit
import Derived.ShutString
import Derived.ChangeOld
import Derived.Below
import Derived.SevenTiedAt
namespace Go.Proofs.YtmokciekndllpaaGreatDoor
open Go Go.RowKit Go.ChangeShapes Go.WideShapes Go.Deep
section
variable {H : Type} {enc : TypeId × Value → H} {P : Program} {w : World} {base : Nat} {spare : Nat → Bool} {held : Bool}
theorem open_slice_fields {t e : TypeId} {fs : Array Field} {fuel : Nat} {cs : List Value} {x : DataW H × List MemPlace} (ht : P.underlying t = some (.slice e)) (he : P.underlying e = some (.struct fs))
  (hone : oneCellFields P fs = true) (hC : P.cellsOf e = fs.size) (h : DataW.trod enc P w base spare held fuel t cs = some x) :
  cs = [.slice none 0 0] ∨
  ∃ (a : Addr) (len cap n : Nat),cs = [.slice (some a) len cap] ∧ len ≤ cap ∧ cap ≤ maxLen ∧
   ∀ i,i < len → ∀ (j : Nat) (f : Field),fs[j]? = some f → ∃ (v : Value) (y : DataW H × List MemPlace),w.cell? (a.add (i * fs.size + j)) = some v ∧ DataW.trod enc P w base spare held n f.type [v] = some y := by
 rcases open_slice ht h with h0 | ⟨a,len,cap,m,n,D,Pl,hcs,hb,hl,hm,hmm,hx,hi⟩
 ·exact .inl h0.1
 ·cases n with
  | zero =>
   refine .inr ⟨a,len,cap,0,hcs,hl,hm,fun i hil => ?_⟩
   have hle : len ≤ m := by rw [hmm]; split <;> omega
   obtain ⟨cs',hc,ht'⟩ := hi i (by omega)
   cases ht'
  | succ n =>
   refine .inr ⟨a,len,cap,n,hcs,hl,hm,fun i hil j f hj => ?_⟩
   have hle : len ≤ m := by rw [hmm]; split <;> omega
   obtain ⟨cs',hc,ht'⟩ := hi i (by omega)
   rw [hC] at hc
   obtain ⟨ys,n',hn',hy,hlen,hyl,hf⟩ := DataW.trod_struct he ht'
   obtain rfl : n' = n := by omega
   obtain ⟨_,hcl,hat⟩ := World.cells?_some hc
   obtain ⟨ho,hk⟩ := hone_of hone j f hj
   have hjl : j < fs.size := (Array.getElem?_eq_some_iff.1 hj).1
   have hcell := hat j hjl
   have hv : cs'[j]? = some (cs'[j]'(by omega)) := List.getElem?_eq_getElem (by omega)
   have h1 := hf j f hj
   rw [ho,hk] at h1
   have hone' : (cs'.drop j).take 1 = [cs'[j]'(by omega)] := by
    rw [List.drop_eq_getElem_cons (by omega)]
    rfl
   rw [hone'] at h1
   have hys : ys[j]? = some (ys[j]'(by omega)) := List.getElem?_eq_getElem (by omega)
   refine ⟨_,_, ?_,h1.trans hys⟩
   rw [← Go.Deep.add_add,hcell,hv]
end
theorem slAt_of {α : Type} [Inhabited α] {enc : α → List Value} {k : Nat} {w : World} {a : Addr} {len : Nat} {p : α → Prop} (h0 : ∀ x, ∃ u : Value,(enc x)[0]? = some u)
  (h : ∀ i,i < len → ∃ x : α,(∀ j u,(enc x)[j]? = some u → w.cell? (a.add (i * k + j)) = some u) ∧ p x) : ∃ L : List α,L.length = len ∧ SlAt enc k w (some a) L ∧ ∀ x ∈ L,p x := by
 obtain ⟨f,hf⟩ := choose_lt h
 refine ⟨(List.range len).map f,by simp,fun hne => ?_,fun x hx => ?_⟩
 ·have hpos : 0 < len := by
   rcases Nat.eq_zero_or_pos len with h | h
   ·subst h; simp at hne
   ·exact h
  obtain ⟨u,hu⟩ := h0 (f 0)
  have hc := (hf 0 hpos).1 0 u hu
  obtain ⟨b,off,spot⟩ := a
  have hspot : spot = none := by simpa [Addr.add] using World.cell?_spot hc
  subst hspot
  have hlt := World.block_lt_of_cell? w _ hc
  refine ⟨b,off,rfl,by simpa [Addr.add] using hlt,fun i x hx j u hu => ?_⟩
  rw [List.getElem?_map] at hx
  obtain ⟨i',hi',rfl⟩ := Option.map_eq_some_iff.1 hx
  obtain ⟨hil,rfl⟩ := List.getElem?_eq_some_iff.1 hi'
  simp only [List.getElem_range] at hu
  have := (hf i (by simpa using hil)).1 j u hu
  unfold Addr.add at this
  split at this
  ·rename_i hz
   rw [show off + i * k + j = off by omega]
   exact this
  ·rw [show off + i * k + j = off + (i * k + j) by omega]
   exact this
 ·obtain ⟨i,hi,rfl⟩ := List.mem_map.1 hx
  exact (hf i (List.mem_range.1 hi)).2
def okD (d : Ed) : Prop := i64ok d.1 ∧ i64ok d.2.1 ∧ i64ok d.2.2.1 ∧ i64ok d.2.2.2.2
theorem i64_of_wf {n : Int} (h : (Lit.int .i64 n).wf = true) : i64ok n := by
 have := Go.bounds_i64 h
 unfold i64ok
 omega
section
variable {H : Type} {enc : TypeId × Value → H} {w : World} {base : Nat} {spare : Nat → Bool} {held : Bool} {fuel : Nat} {x : DataW H × List MemPlace} {a : Option Addr} {len cap : Nat}
theorem open_edits (h : DataW.trod enc Tryz.prog w base spare held fuel 22 [.slice a len cap] = some x) : ∃ L : List Ed,L.length = len ∧ SlAt encD 5 w a L ∧ (∀ d ∈ L,okD d) ∧ len ≤ 9223372036854775807 ∧ len ≤ cap := by
 rcases open_slice_fields Tryz.underlying22 Tryz.underlying63 (by kernel_rfl) (by kernel_rfl) h with h0 | ⟨a',len',cap',n,hcs,hl,hm,hf⟩
 ·simp at h0
  obtain ⟨rfl,rfl,rfl⟩ := h0
  exact ⟨[],rfl,SlAt.nil,by simp,by omega,by omega⟩
 ·simp at hcs
  obtain ⟨rfl,rfl,rfl⟩ := hcs
  obtain ⟨L,h1,h2,h3⟩ := slAt_of (α := Ed) (enc := encD) (k := 5) (w := w) (a := a') (len := len) (p := okD) (fun x => ⟨_,rfl⟩) (fun i hi => by
   obtain ⟨v0,y0,c0,r0⟩ := hf i hi 0 _ rfl
   obtain ⟨v1,y1,c1,r1⟩ := hf i hi 1 _ rfl
   obtain ⟨v2,y2,c2,r2⟩ := hf i hi 2 _ rfl
   obtain ⟨v3,y3,c3,r3⟩ := hf i hi 3 _ rfl
   obtain ⟨v4,y4,c4,r4⟩ := hf i hi 4 _ rfl
   obtain ⟨n0,e0,_,w0⟩ := DataW.trod_int Tryz.underlying3 r0
   obtain ⟨n1,e1,_,w1⟩ := DataW.trod_int Tryz.underlying3 r1
   obtain ⟨n2,e2,_,w2⟩ := DataW.trod_int Tryz.underlying3 r2
   obtain ⟨n3,e3,_,w3⟩ := DataW.trod_int Tryz.underlying5 r3
   obtain ⟨n4,e4,_,w4⟩ := DataW.trod_int Tryz.underlying3 r4
   simp at e0 e1 e2 e3 e4
   subst e0 e1 e2 e3 e4
   refine ⟨(n0,n1,n2,n3,n4),fun j u hu => ?_,i64_of_wf w0,i64_of_wf w1,i64_of_wf w2,i64_of_wf w4⟩
   match j,hu with
   | 0,hu => simp [encD] at hu; subst hu; exact c0
   | 1,hu => simp [encD] at hu; subst hu; exact c1
   | 2,hu => simp [encD] at hu; subst hu; exact c2
   | 3,hu => simp [encD] at hu; subst hu; exact c3
   | 4,hu => simp [encD] at hu; subst hu; exact c4)
  exact ⟨L,h1,h2,h3,by unfold maxLen at hm; omega,hl⟩
end
end Go.Proofs.YtmokciekndllpaaGreatDoor
namespace Go.Proofs.YtmokciekndllpaaGreatDoor
open Go Go.RowKit
theorem wrongR_ok {op u v wt : Int} {V : List (Int × Thing)} {E : List ((Int × Int) × Thing)} (hop : op = 0 ∨ op = 1 ∨ op = 2 ∨ op = 3 ∨ op = 4 ∨ op = 5 ∨ op = 6 ∨ op = 7) (h2 : w2B op u v wt = false) (h3 : w3B op u v = false)
  (k0 : op = 0 → hasV u V = false) (k1 : op ≠ 0 → hasV u V = true) (k2 : op = 2 → hasV v V = true ∧ hasE u v E = false ∧ E.length < 1024) (k3 : op = 3 ∨ op = 6 ∨ op = 7 → hasE u v E = true) : wrongR op u v wt V E = 0 := by
 unfold wrongR
 have h1 : w1B op = false := by unfold w1B; simp; omega
 rw [h1,h2,h3,if_neg (by simp),if_neg (by simp),if_neg (by simp)]
 generalize hasV u V = iu at *
 generalize hasV v V = iv at *
 generalize hasE u v E = ie at *
 generalize E.length = n at *
 rcases hop with rfl | rfl | rfl | rfl | rfl | rfl | rfl | rfl <;> simp [pairsB] at k0 k1 k2 k3 ⊢ <;> simp_all
theorem refV_same {op u lab wt : Int} {V : List (Int × Thing)} (h0 : op ≠ 0) (h1 : op ≠ 1) (h4 : op ≠ 4) (h5 : op ≠ 5) : refV op u lab wt V = V := by
 unfold refV
 rw [if_neg h0]
 split
 ·rfl
 ·rw [flat_map (g := id) (fun x _ => by simp [fV,h1,h4,h5])]
  simp
section
variable {u v lab wt : Int} {E : List ((Int × Int) × Thing)} (hlo : ∀ e ∈ E,e.1.1 < e.1.2) (hn : (E.map (·.1)).Nodup)
include hlo hn
theorem refE_3 : refE 3 u v lab wt E = E.filter fun q => decide (q.1 ≠ (min u v,max u v)) := by
 simp only [refE,Int.reduceEq,if_false]
 rw [flat_zip (g := fun x => if (decide (x.1 ≠ (min u v,max u v))) = true then [x] else []) (fun x i hx => by
  have hp := pos_iff (u := u) (v := v) hlo hn hx
  rw [show posD 3 u v E = posI (isE u v) E from by simp [posD,pairsB]]
  by_cases hh : x.1 = (min u v,max u v)
  ·simp [fE,hp.2 hh,hh]
  ·have : ¬ ((i : Int) = posI (isE u v) E) := fun e => hh (hp.1 e)
   simp [fE,hh,this]),flat_filter (fun x _ => rfl)]
end
end Go.Proofs.YtmokciekndllpaaGreatDoor
namespace Go.Proofs.YtmokciekndllpaaGreatDoor
open Go
section
variable {V : List (Int × Thing)} {E : List ((Int × Int) × Thing)}
theorem hasE_ne (hi : GInv V E) {u v : Int} (h : hasE u v E = true) : u ≠ v := by
 unfold hasE at h
 rw [decide_eq_true_eq,posI_nonneg] at h
 obtain ⟨p,hp,h1⟩ := h
 have h2 := hi.lo p hp
 unfold isE at h1
 simp at h1
 omega
def Clq (E : List ((Int × Int) × Thing)) (l : List Int) : Prop := ∀ x ∈ l, ∀ y ∈ l,x ≠ y → hasE x y E = true
def Smp (E : List ((Int × Int) × Thing)) (v : Int) (l : List Int) : Prop := ∀ x ∈ l, ∀ y ∈ l,hasE v x E = true → hasE v y E = true → x ≠ y → hasE x y E = true
theorem cliqueS_iff (hi : GInv V E) {r : Nat} : cliqueS E r = true ↔ Clq E (toL r) := by
 unfold cliqueS
 rw [List.all_eq_true]
 constructor
 ·intro h x hx y hy hne
  exact (mem_near hi).1 (subS_iff.1 (h x hx) y (mem_without.2 ⟨hy,fun e => hne e.symm⟩))
 ·intro h v hv
  refine subS_iff.2 fun y hy => ?_
  obtain ⟨h1,h2⟩ := mem_without.1 hy
  exact (mem_near hi).2 (h v hv y h1 (fun e => h2 e.symm))
theorem simpleS_iff (hi : GInv V E) {v : Int} {left : Nat} : simpleS E v left = true ↔ Smp E v (toL left) := by
 unfold simpleS
 rw [cliqueS_iff hi]
 constructor
 ·intro h x hx y hy h1 h2 hne
  exact h x (mem_and.2 ⟨(mem_near hi).2 h1,hx⟩) y (mem_and.2 ⟨(mem_near hi).2 h2,hy⟩) hne
 ·intro h x hx y hy hne
  obtain ⟨h1,h2⟩ := mem_and.1 hx
  obtain ⟨h3,h4⟩ := mem_and.1 hy
  exact h x h2 y h4 ((mem_near hi).1 h1) ((mem_near hi).1 h3) hne
def ClqR (V : List (Int × Thing)) (E : List ((Int × Int) × Thing)) (l : List Int) : Prop := ∀ i (hi : i < l.length),hasV l[i] V = true ∧ ∀ k (hk : k < i),hasE l[i] (l[k]'(Nat.lt_trans hk hi)) E = true
theorem clqR_iff (_hi : GInv V E) {l : List Int} (hn : l.Nodup) (hm : ∀ x ∈ l,x ∈ V.map (·.1)) : ClqR V E l ↔ Clq E l := by
 constructor
 ·intro h x hx y hy hne
  obtain ⟨i,hi',rfl⟩ := List.getElem_of_mem hx
  obtain ⟨k,hk,rfl⟩ := List.getElem_of_mem hy
  rcases Nat.lt_trichotomy i k with h1 | h1 | h1
  ·exact hasE_symm ((h k hk).2 i h1)
  ·subst h1; exact absurd rfl hne
  ·exact (h i hi').2 k h1
 ·intro h i hi'
  refine ⟨hasV_iff.2 (hm _ (List.getElem_mem hi')),fun k hk => h _ (List.getElem_mem _) _ (List.getElem_mem _) fun e => ?_⟩
  have := (List.getElem_inj hn).1 e
  omega
def nbrR (E : List ((Int × Int) × Thing)) (v : Int) (l : List Int) : List Int := l.filter fun x => decide (x ≠ v) && hasE v x E
theorem mem_nbr {v x : Int} {l : List Int} : x ∈ nbrR E v l ↔ x ∈ l ∧ x ≠ v ∧ hasE v x E = true := by
 unfold nbrR
 rw [List.mem_filter,Bool.and_eq_true,decide_eq_true_eq]
theorem smp_nbr (hi : GInv V E) {v : Int} {l : List Int} (hn : l.Nodup) (hm : ∀ x ∈ l,x ∈ V.map (·.1)) : ClqR V E (nbrR E v l) ↔ Smp E v l := by
 have h0 := clqR_iff hi (l := nbrR E v l) (hn.filter _) (fun x hx => hm x (mem_nbr.1 hx).1)
 rw [h0]
 constructor
 ·intro h x hx y hy h1 h2 hne
  exact h x (mem_nbr.2 ⟨hx,(hasE_ne hi h1).symm,h1⟩) y (mem_nbr.2 ⟨hy,(hasE_ne hi h2).symm,h2⟩) hne
 ·intro h x hx y hy hne
  obtain ⟨h1,_,h2⟩ := mem_nbr.1 hx
  obtain ⟨h3,_,h4⟩ := mem_nbr.1 hy
  exact h x h1 y h3 h2 h4 hne
theorem smp_out (hi : GInv V E) {v : Int} {l : List Int} : Smp E v (outR l v) ↔ Smp E v l := by
 constructor
 ·intro h x hx y hy h1 h2 hne
  exact h x (mem_out.2 ⟨hx,(hasE_ne hi h1).symm⟩) y (mem_out.2 ⟨hy,(hasE_ne hi h2).symm⟩) h1 h2 hne
 ·intro h x hx y hy
  exact h x (mem_out.1 hx).1 y (mem_out.1 hy).1
def Peo (E : List ((Int × Int) × Thing)) : List Int → Prop
 | [] => True
 | v :: l => Smp E v l ∧ Peo E l
theorem Smp.sub {v : Int} {l m : List Int} (h : Smp E v m) (hs : ∀ x ∈ l,x ∈ m) : Smp E v l := fun x hx y hy => h x (hs x hx) y (hs y hy)
theorem Peo.sub : ∀ {l m : List Int},l.Sublist m → Peo E m → Peo E l
 | _,_, .slnil,h => h
 | _,_, .cons _ hs,h => Peo.sub hs h.2
 | _,_, .cons_cons _ hs,h => ⟨h.1.sub hs.subset,Peo.sub hs h.2⟩
def Cho (E : List ((Int × Int) × Thing)) (l : List Int) : Prop := ∃ o,o.Perm l ∧ Peo E o
theorem Cho.out {l : List Int} (h : Cho E l) (v : Int) : Cho E (outR l v) := by
 obtain ⟨o,hp,ho⟩ := h
 exact ⟨outR o v,hp.filter _,Peo.sub (List.filter_sublist) ho⟩
theorem Cho.back {l : List Int} (hn : l.Nodup) {v : Int} (hv : v ∈ l) (hs : Smp E v l) (h : Cho E (outR l v)) : Cho E l := by
 obtain ⟨o,hp,ho⟩ := h
 exact ⟨v :: o,(hp.cons v).trans (perm_out1 hn hv),hs.sub (fun x hx => (mem_out.1 (hp.mem_iff.1 hx)).1),ho⟩
theorem Cho.first (hi : GInv V E) {l : List Int} (h : Cho E l) (hne : l ≠ []) : ∃ v ∈ l,Smp E v l := by
 obtain ⟨o,hp,ho⟩ := h
 cases o with
 | nil => exact absurd hp.symm.eq_nil hne
 | cons v o =>
  refine ⟨v,hp.mem_iff.1 (by simp),(smp_out hi).1 (ho.1.sub fun x hx => ?_)⟩
  obtain ⟨h1,h2⟩ := mem_out.1 hx
  rcases List.mem_cons.1 (hp.mem_iff.2 h1) with h3 | h3
  ·exact absurd h3 h2
  ·exact h3
end
open Classical in
noncomputable def ordR (V : List (Int × Thing)) (E : List ((Int × Int) × Thing)) : Nat → List Int → Option (List Int)
 | 0,_ => none
 | f + 1,l => if l = [] then some [] else l.findSome? fun x => if ClqR V E (nbrR E x (outR l x)) then (ordR V E f (outR l x)).map (x :: ·) else none
section
open Classical
variable {V : List (Int × Thing)} {E : List ((Int × Int) × Thing)}
theorem ordR_sound (hi : GInv V E) : ∀ (f : Nat) (l o : List Int),l.Nodup → (∀ x ∈ l,x ∈ V.map (·.1)) → ordR V E f l = some o → o.Perm l ∧ Peo E o
 | 0,l,o,_,_,h => by cases h
 | f + 1,l,o,hn,hm,h => by
  rw [ordR] at h
  split at h
  ·rename_i hl
   cases h
   subst hl
   exact ⟨.nil,trivial⟩
  ·obtain ⟨l1,x,l2,rfl,hx,_⟩ := List.findSome?_eq_some_iff.1 h
   have hxl : x ∈ l1 ++ x :: l2 := by simp
   generalize l1 ++ x :: l2 = l at *
   split at hx
   ·rename_i hc
    obtain ⟨o',ho',rfl⟩ := Option.map_eq_some_iff.1 hx
    have hn2 : (outR l x).Nodup := hn.filter _
    have hm2 : ∀ y ∈ outR l x,y ∈ V.map (·.1) := fun y hy => hm y (mem_out.1 hy).1
    obtain ⟨h1,h2⟩ := ordR_sound hi f _ _ hn2 hm2 ho'
    refine ⟨(h1.cons x).trans (perm_out1 hn hxl), ?_,h2⟩
    have := (smp_nbr hi hn2 hm2).1 hc
    exact this.sub fun y hy => h1.mem_iff.1 hy
   ·cases hx
theorem ordR_some (hi : GInv V E) : ∀ (f : Nat) (l : List Int),l.Nodup → (∀ x ∈ l,x ∈ V.map (·.1)) → l.length < f → Cho E l → (ordR V E f l).isSome = true
 | 0,l,_,_,h,_ => by omega
 | f + 1,l,hn,hm,hf,hc => by
  rw [ordR]
  split
  ·rfl
  ·rename_i hl
   obtain ⟨v,hv,hs⟩ := Cho.first hi hc hl
   rw [List.findSome?_isSome_iff]
   have hn2 : (outR l v).Nodup := hn.filter _
   have hm2 : ∀ y ∈ outR l v,y ∈ V.map (·.1) := fun y hy => hm y (mem_out.1 hy).1
   refine ⟨v,hv, ?_⟩
   rw [if_pos ((smp_nbr hi hn2 hm2).2 ((smp_out hi).2 hs))]
   have := ordR_some hi f _ hn2 hm2 (by have := out_lt hv; omega) (hc.out v)
   simpa using this
theorem ordR_iff (hi : GInv V E) {f : Nat} {l : List Int} (hn : l.Nodup) (hm : ∀ x ∈ l,x ∈ V.map (·.1)) (hf : l.length < f) : (ordR V E f l).isSome = true ↔ Cho E l := by
 refine ⟨fun h => ?_,ordR_some hi f l hn hm hf⟩
 obtain ⟨o,ho⟩ := Option.isSome_iff_exists.1 h
 exact ⟨o,ordR_sound hi f l o hn hm ho⟩
end
theorem findSome_find {l : List Int} {p : Int → Bool} {g : Int → Option (List Int)} (h : ∀ x ∈ l,p x = true → (g x).isSome = true) :
  (l.findSome? fun x => if p x = true then g x else none) = (l.find? p).bind g := by
 induction l with
 | nil => rfl
 | cons a r ih =>
  rw [List.findSome?_cons,List.find?_cons]
  by_cases hp : p a = true
  ·rw [if_pos hp,hp]
   obtain ⟨o,ho⟩ := Option.isSome_iff_exists.1 (h a (by simp) hp)
   simp only [ho]
   rw [Option.bind_some,ho]
  ·rw [if_neg hp]
   have : p a = false := by simpa using hp
   rw [this]
   simp only
   exact ih fun x hx => h x (by simp [hx])
open Classical in
theorem poS_ordR {V : List (Int × Thing)} {E : List ((Int × Int) × Thing)} (hi : GInv V E) (f : Nat) : ∀ (N : Nat),(∀ x ∈ toL N,x ∈ V.map (·.1)) → (toL N).length < f → poS E f N = ordR V E f (toL N) := by
 induction f with
 | zero => intro N _ h; exact absurd h (Nat.not_lt_zero _)
 | succ f ih =>
  intro N hm hf
  have hn := toL_nodup N
  have hout := toL_without N
  have hsim := fun x => simpleS_iff (E := E) hi (v := x) (left := N)
  have hany := anyB_iff (N := N)
  rw [poS,ordR]
  generalize toL N = l at *
  by_cases hl : l = []
  ·rw [if_neg (fun h => hany.1 h hl),if_pos hl]
  ·rw [if_pos (hany.2 hl),if_neg hl]
   have hcl : ∀ x,(ClqR V E (nbrR E x (outR l x))) ↔ simpleS E x N = true := fun x => by
    have h0 := smp_nbr hi (v := x) (l := outR l x) (hn.filter _) (fun y hy => hm y (mem_out.1 hy).1)
    exact (h0.trans (smp_out hi)).trans (hsim x).symm
   have hgo : ∀ x ∈ l,poS E f (withoutS N x) = ordR V E f (outR l x) := fun x hx => by
    have e : toL (withoutS N x) = outR l x := hout x
    have h1 := out_lt hx
    have h2 := ih (withoutS N x)
    rw [e] at h2
    exact h2 (fun y hy => hm y (mem_out.1 hy).1) (by omega)
   have hsm : ∀ x ∈ l,(ordR V E f (outR l x)).isSome = true ↔ Cho E (outR l x) := fun x hx => by
    have h1 := out_lt hx
    exact ordR_iff hi (hn.filter _) (fun y hy => hm y (mem_out.1 hy).1) (by omega)
   by_cases hc : Cho E l
   ·have h1 : l.findSome? (fun x => if ClqR V E (nbrR E x (outR l x)) then (ordR V E f (outR l x)).map (x :: ·) else none)
      = l.findSome? (fun x => if simpleS E x N = true then (ordR V E f (outR l x)).map (x :: ·) else none) := by
     refine congrArg (fun q => l.findSome? q) (funext fun x => ?_)
     by_cases h : simpleS E x N = true
     ·rw [if_pos h,if_pos ((hcl x).2 h)]
     ·rw [if_neg h,if_neg (fun h2 => h ((hcl x).1 h2))]
    rw [h1,findSome_find (p := fun x => simpleS E x N) (g := fun x => (ordR V E f (outR l x)).map (x :: ·)) (fun x hx _ => by
     have := (hsm x hx).2 (hc.out x)
     simpa using this)]
    cases h : l.find? (fun v => simpleS E v N) with
    | none => rfl
    | some v =>
     rw [Option.bind_some,Option.bind_some,hgo v (List.mem_of_find?_eq_some h)]
   ·have h2 : ordR V E (f + 1) l = none := by
     have := mt (ordR_iff hi hn hm hf).1 hc
     simpa using this
    rw [ordR,if_neg hl] at h2
    rw [h2]
    cases h : l.find? (fun v => simpleS E v N) with
    | none => rfl
    | some v =>
     rw [Option.bind_some]
     have hv := List.mem_of_find?_eq_some h
     have hs := List.find?_some h
     rw [hgo v hv]
     have h3 : ordR V E f (outR l v) = none := by
      have := mt (hsm v hv).1 (fun h4 => hc (Cho.back hn hv ((hsim v).1 hs) h4))
      simpa using this
     rw [h3]
     rfl
end Go.Proofs.YtmokciekndllpaaGreatDoor
namespace Go.Proofs.YtmokciekndllpaaGreatDoor
section
variable {A B : Int → Int → Prop} {S T : Int → Prop}
end
section
variable {A : Int → Int → Prop}
theorem higher_clique (hA : ∀ u v,A u v → A v u) : ∀ {l0 : List (Int × (Int → Bool))} {u : Int} {q : Int → Bool} {l1 : List (Int × (Int → Bool))} {w : Int → Nat},MRun A w (l0 ++ (u,q) :: l1) →
  ∀ {v : Int},v ∈ l1.map (·.1) → q v = true → ∀ p ∈ l0,p.2 v = true → p.2 u = true
 | [],_,_,_,_,_,_,_,_,p,hp,_ => by cases hp
 | (y,qy) :: l0,u,q,l1,w,h,v,hv,hq,p,hp,hpv => by
  rcases List.mem_cons.1 hp with rfl | hp
  ·obtain ⟨pv,hpv',rfl⟩ := List.mem_map.1 hv
   obtain ⟨a,b,rfl⟩ := List.append_of_mem hpv'
   obtain ⟨v,qv⟩ := pv
   have h1 : MRun A w ((y,qy) :: ((l0 ++ (u,q) :: a) ++ (v,qv) :: b)) := by simpa using h
   have e1 := (reach_iff hA h1).1 hpv
   have h2 : ∃ w',MRun A w' ((u,q) :: (a ++ (v,qv) :: b)) := by
    have h3 := h.2.2
    generalize (fun y => if qy y = true then w y + 1 else w y) = w2 at h3
    clear h1 h e1 hpv hv hpv' hp
    induction l0 generalizing w2 with
    | nil => exact ⟨_,h3⟩
    | cons a l0 ih => exact ih _ h3.2.2
   obtain ⟨w',h2⟩ := h2
   have e2 := (reach_iff hA h2).1 hq
   have h4 : MRun A w ((y,qy) :: (l0 ++ (u,q) :: (a ++ (v,qv) :: b))) := by simpa using h
   refine (reach_iff hA h4).2 ((e1.mono fun x hx => ?_).trans ?_ ((e2.flip hA).mono fun x hx => ?_))
   ·rw [List.map_append,List.map_cons]; simp [hx]
   ·rw [List.map_append,List.map_cons]; simp
   ·rw [List.map_append,List.map_cons]; simp [hx]
  ·exact higher_clique hA h.2.2 hv hq p hp hpv
end
def PeoH (H : Int → Int → Prop) : List Int → Prop
 | [] => True
 | v :: l => (∀ x ∈ l, ∀ y ∈ l,H v x → H v y → x ≠ y → H x y) ∧ PeoH H l
def RWk (H : Int → Int → Prop) : List Int → Prop
 | [] => True
 | [_] => True
 | x :: y :: l => (x = y ∨ H x y) ∧ RWk H (y :: l)
section
variable {H : Int → Int → Prop}
theorem RWk.out {a : Int} {P : Int → Prop} (hH : ∀ u v,H u v → H v u) (hs : ∀ x y,P x → P y → H a x → H a y → x ≠ y → H x y) : ∀ (l : List Int),(∀ x ∈ l,x ≠ a → P x) → RWk H l → ∀ x,x ≠ a → P x → (l.head? = some x ∨ (l.head? = some a ∧ H x a)) → RWk H (x :: (l.filter fun y => decide (y ≠ a)))
 | [],_,_,x,_,_,h => by simp [RWk]
 | [b],_,_,x,hx,_,h => by
  by_cases e : b = a
  ·simp [e,RWk]
  ·rw [List.filter_cons_of_pos (by simpa using e)]
   simp only [List.head?_cons,Option.some.injEq] at h
   rcases h with h | ⟨h,_⟩
   ·exact ⟨.inl h.symm,by simp [RWk]⟩
   ·exact absurd h e
 | b :: c :: l,h0,hw,x,hx,hpx,h => by
  have ih := RWk.out hH hs (c :: l) (fun x hx => h0 x (List.mem_cons_of_mem _ hx)) hw.2
  have hpc := h0 c (by simp)
  simp only [List.head?_cons,Option.some.injEq] at h ih
  by_cases e : b = a
  ·rw [List.filter_cons_of_neg (by simpa using e)]
   subst e
   have hxb : H x b := by
    rcases h with h | h
    ·exact absurd h.symm hx
    ·exact h.2
   by_cases e2 : c = b
   ·exact ih x hx hpx (.inr ⟨e2,hxb⟩)
   ·have hbc : H b c := by
     rcases hw.1 with h1 | h1
     ·exact absurd h1.symm e2
     ·exact h1
    have h5 := ih c e2 (hpc e2) (.inl rfl)
    rw [List.filter_cons_of_pos (by simpa using e2)] at h5 ⊢
    refine ⟨?_,h5.2⟩
    by_cases e3 : x = c
    ·exact .inl e3
    ·exact .inr (hs x c hpx (hpc e2) (hH _ _ hxb) hbc e3)
  ·rw [List.filter_cons_of_pos (by simpa using e)]
   have hxb : b = x := by
    rcases h with h | h
    ·exact h
    ·exact absurd h.1 e
   subst hxb
   refine ⟨.inl rfl, ?_⟩
   by_cases e2 : c = a
   ·refine ih b e hpx (.inr ⟨e2, ?_⟩)
    rcases hw.1 with h1 | h1
    ·exact absurd (h1.trans e2) e
    ·rw [← e2]; exact h1
   ·have h5 := ih c e2 (hpc e2) (.inl rfl)
    rw [List.filter_cons_of_pos (by simpa using e2)] at h5 ⊢
    exact ⟨hw.1,h5.2⟩
theorem RWk.leaves : ∀ (l : List Int) (u v : Int),u ≠ v → RWk H (u :: (l ++ [v])) → ∃ x ∈ l ++ [v],H u x
 | [],u,v,hne,h => by
  rcases h.1 with h | h
  ·exact absurd h hne
  ·exact ⟨v,by simp,h⟩
 | a :: l,u,v,hne,h => by
  rcases h.1 with h1 | h1
  ·subst h1
   obtain ⟨x,hx,h2⟩ := RWk.leaves l u v hne h.2
   exact ⟨x,List.mem_cons_of_mem _ hx,h2⟩
  ·exact ⟨a,by simp,h1⟩
theorem RWk.comes : ∀ (l : List Int) (u v : Int),u ≠ v → RWk H (u :: (l ++ [v])) → ∃ x ∈ u :: l,H x v
 | [],u,v,hne,h => by
  rcases h.1 with h | h
  ·exact absurd h hne
  ·exact ⟨u,by simp,h⟩
 | a :: l,u,v,hne,h => by
  by_cases e : a = v
  ·subst e
   rcases h.1 with h1 | h1
   ·exact absurd h1 hne
   ·exact ⟨u,by simp,h1⟩
  ·obtain ⟨x,hx,h2⟩ := RWk.comes l a v e h.2
   exact ⟨x,List.mem_cons_of_mem _ hx,h2⟩
theorem peo_walk (hH : ∀ u v,H u v → H v u) (hne : ∀ u, ¬ H u u) : ∀ (o : List Int),PeoH H o → ∀ (xs : List Int) (u v : Int) (Y : Int → Prop),u ≠ v → ¬ H u v → RWk H (u :: (xs ++ [v])) → (∀ x ∈ u :: (xs ++ [v]),x ∈ o) → (∀ y,Y y → y ∈ o ∧ H u y ∧ H v y) → (∀ x ∈ xs, ¬ Y x) →
  ∃ x ∈ xs, ∀ y,Y y → H x y
 | [],_,xs,u,v,Y,huv,hn,hw,ho,hY,hx => by have := ho u (by simp); cases this
 | a :: o,⟨hs,hp⟩,xs,u,v,Y,huv,hn,hw,ho,hY,hx => by
  have hin : ∀ {x},x ∈ a :: o → x ≠ a → x ∈ o := fun {x} h h1 => by
   rcases List.mem_cons.1 h with h | h
   ·exact absurd h h1
   ·exact h
  have hYo : ∀ {b y},Y y → H a b ∨ True → y ≠ a → y ∈ o := fun {b y} h _ h2 => hin (hY y h).1 h2
  by_cases eu : u = a
  ·subst eu
   obtain ⟨x,hx1,hx2⟩ := RWk.leaves xs u v huv hw
   have hxs : x ∈ xs := by
    rcases List.mem_append.1 hx1 with h | h
    ·exact h
    ·rw [List.mem_singleton] at h; subst h; exact absurd hx2 hn
   refine ⟨x,hxs,fun y hy => ?_⟩
   have hy1 := hY y hy
   refine hs x (hin (ho x (by simp [hxs])) fun e => hne u (by rw [e] at hx2; exact hx2)) y (hin hy1.1 fun e => hne u (by have := hy1.2.1; rw [e] at this; exact this)) hx2 hy1.2.1 fun e => hx x hxs (e ▸ hy)
  ·by_cases ev : v = a
   ·subst ev
    obtain ⟨x,hx1,hx2⟩ := RWk.comes xs u v huv hw
    have hxs : x ∈ xs := by
     rcases List.mem_cons.1 hx1 with h | h
     ·subst h; exact absurd hx2 hn
     ·exact h
    have hx3 := hH _ _ hx2
    refine ⟨x,hxs,fun y hy => ?_⟩
    have hy1 := hY y hy
    refine hs x (hin (ho x (by simp [hxs])) fun e => hne v (by rw [e] at hx3; exact hx3)) y (hin hy1.1 fun e => hne v (by have := hy1.2.2; rw [e] at this; exact this)) hx3 hy1.2.2 fun e => hx x hxs (e ▸ hy)
   ·have hu : u ∈ o := hin (ho u (by simp)) eu
    have hv : v ∈ o := hin (ho v (by simp)) ev
    by_cases ya : Y a
    ·exact absurd (hs u hu v hv (hH _ _ (hY a ya).2.1) (hH _ _ (hY a ya).2.2) huv) hn
    ·have hw2 := RWk.out (P := fun x => x ∈ o) hH (fun x y hx hy h1 h2 h3 => hs x hx y hy h1 h2 h3) (u :: (xs ++ [v])) (fun x hx h => hin (ho x hx) h) hw u eu hu (.inl rfl)
     rw [List.filter_cons_of_pos (by simpa using eu),List.filter_append,List.filter_cons_of_pos (by simpa using ev),List.filter_nil] at hw2
     obtain ⟨x,h1,h2⟩ := peo_walk hH hne o hp (xs.filter fun y => decide (y ≠ a)) u v Y huv hn hw2.2 (fun x hx => by
      simp only [List.mem_cons,List.mem_append,List.mem_filter,List.not_mem_nil,or_false,decide_eq_true_eq] at hx
      rcases hx with rfl | ⟨hx,h⟩ | rfl
      ·exact hu
      ·exact hin (ho x (by simp [hx])) h
      ·exact hv) (fun y hy => ⟨hYo (b := a) hy (.inr trivial) fun e => ya (e ▸ hy),(hY y hy).2⟩) (fun x hx' => hx x (List.mem_filter.1 hx').1)
     exact ⟨x,(List.mem_filter.1 h1).1,h2⟩
theorem rch_walk {A : Int → Int → Prop} {S : Int → Prop} {u v : Int} (h : Rch A S u v) (hA : ∀ u v,A u v → H u v) : ∃ xs : List Int,RWk H (u :: (xs ++ [v])) ∧ ∀ x ∈ xs,S x := by
 induction h with
 | edge h => exact ⟨[],⟨.inr (hA _ _ h),by simp [RWk]⟩,by simp⟩
 | @step u s v h hs _ ih =>
  obtain ⟨xs,h1,h2⟩ := ih
  refine ⟨s :: xs,⟨.inr (hA _ _ h),h1⟩,fun x hx => ?_⟩
  rcases List.mem_cons.1 hx with rfl | hx
  ·exact hs
  ·exact h2 x hx
theorem mcs_min {A : Int → Int → Prop} (hA : ∀ u v,A u v → A v u) (hH : ∀ u v,H u v → H v u) (hne : ∀ u, ¬ H u u) (hAH : ∀ u v,A u v → H u v) {o : List Int} (hp : PeoH H o) :
  ∀ (l l0 : List (Int × (Int → Bool))) (w0 w : Int → Nat),MRun A w0 (l0 ++ l) → MRun A w l → ((l0 ++ l).map (·.1)).Nodup → (∀ p ∈ l0 ++ l,p.1 ∈ o) →
   (∀ y ∈ l.map (·.1),w y = (l0.filter fun p => p.2 y).length) →
   (∀ p ∈ l0, ∀ y ∈ l.map (·.1),H p.1 y → p.2 y = true) →
   (∀ a u q b,l = a ++ (u,q) :: b → ∀ y ∈ b.map (·.1),H u y → q y = true) →
   (∀ p ∈ l0, ∀ y ∈ l.map (·.1),p.2 y = true → H p.1 y) →
   ∀ a u q b,l = a ++ (u,q) :: b → ∀ y ∈ b.map (·.1),q y = true → H u y
 | [],_,_,_,_,_,_,_,_,_,_,_,a,u,q,b,he => by cases a <;> cases he
 | (z,qz) :: l,l0,w0,w,hr0,⟨hr1,hr2,hr3⟩,hnd,ho,hw,hb0,hb1,hin,a,u,q,b,he => by
  have head : ∀ y ∈ l.map (·.1),qz y = true → H z y := by
   intro v hv hq
   by_cases hH' : H z v
   ·exact hH'
   ·exfalso
    obtain ⟨pv,hpv,rfl⟩ := List.mem_map.1 hv
    have hrch := (hr2 pv hpv).1 hq
    generalize pv.1 = v at *
    obtain ⟨xs,hx1,hx2⟩ := rch_walk hrch hAH
    have hzv : z ≠ v := fun e => by
     subst e
     rw [List.map_append,List.map_cons] at hnd
     have := (List.nodup_append.1 hnd).2.1
     exact (List.nodup_cons.1 this).1 hv
    have hY : ∀ y,(∃ p ∈ l0,p.1 = y ∧ p.2 v = true) → y ∈ o ∧ H z y ∧ H v y := by
     rintro y ⟨p,hp',rfl,hpv⟩
     have hpz := higher_clique hA hr0 hv hq p hp' hpv
     exact ⟨ho p (by simp [hp']),hH _ _ (hin p hp' z (by simp) hpz),hH _ _ (hin p hp' v (by simp; exact .inr (by simpa using hv)) hpv)⟩
    have hdis : ∀ x ∈ l.map (·.1), ¬ ∃ p ∈ l0,p.1 = x ∧ p.2 v = true := by
     rintro x hx ⟨p,hp',rfl,_⟩
     rw [List.map_append] at hnd
     exact (List.nodup_append.1 hnd).2.2 p.1 (List.mem_map_of_mem (f := (·.1)) hp') p.1 (by simp; exact .inr (by simpa using hx)) rfl
    obtain ⟨x,hx,hxY⟩ := peo_walk hH hne o hp xs z v _ hzv hH' hx1 (fun x hx => by
     simp only [List.mem_cons,List.mem_append,List.not_mem_nil,or_false] at hx
     have hlo : ∀ x ∈ l.map (·.1),x ∈ o := fun x hx => by
      obtain ⟨p,hp',rfl⟩ := List.mem_map.1 hx
      exact ho p (by simp [hp'])
     rcases hx with rfl | hx | rfl
     ·exact ho (x,qz) (by simp)
     ·exact hlo x (hx2 x hx).1
     ·exact hlo x hv) hY (fun x hx => hdis x (hx2 x hx).1)
    have h1 := (hx2 x hx).2
    rw [hw x (by simp; exact .inr (by simpa using (hx2 x hx).1)),hw v (by simp; exact .inr (by simpa using hv))] at h1
    refine absurd h1 (Nat.not_lt.2 ?_)
    have hsub : ∀ p ∈ l0,p.2 v = true → p.2 x = true := fun p hp' hpv => hb0 p hp' x (by simp; exact .inr (by simpa using (hx2 x hx).1)) (hH _ _ (hxY p.1 ⟨p,hp',rfl,hpv⟩))
    clear hw hb0 hin hnd hr0 ho h1 hY hdis hxY
    induction l0 with
    | nil => simp
    | cons p l0 ih =>
     have ih := ih (fun p hp' => hsub p (by simp [hp']))
     by_cases hpv : p.2 v = true
     ·rw [List.filter_cons_of_pos (by simpa using hpv),List.filter_cons_of_pos (by simpa using hsub p (by simp) hpv)]
      simp only [List.length_cons]
      omega
     ·rw [List.filter_cons_of_neg (by simpa using hpv),List.filter_cons]
      split
      ·simp only [List.length_cons]; omega
      ·exact ih
  rcases a with _ | ⟨pa,a⟩
  ·simp only [List.nil_append,List.cons.injEq,Prod.mk.injEq] at he
   obtain ⟨⟨rfl,rfl⟩,rfl⟩ := he
   exact head
  ·simp only [List.cons_append,List.cons.injEq] at he
   obtain ⟨rfl,rfl⟩ := he
   refine mcs_min hA hH hne hAH hp (a ++ (u,q) :: b) (l0 ++ [(z,qz)]) w0 _ (by simpa using hr0) hr3 (by simpa using hnd) (fun p hp' => ho p (by simpa [or_assoc] using hp')) ?_ ?_ ?_ ?_ a u q b rfl
   ·intro y hy
    have h1 := hw y (by simp; exact .inr (by simpa using hy))
    rw [List.filter_append,List.length_append, ← h1]
    by_cases hq : qz y = true
    ·rw [if_pos hq,List.filter_cons_of_pos (by simpa using hq)]; rfl
    ·rw [if_neg hq,List.filter_cons_of_neg (by simpa using hq)]; rfl
   ·intro p hp' y hy
    rcases List.mem_append.1 hp' with h | h
    ·exact hb0 p h y (by simp; exact .inr (by simpa using hy))
    ·rw [List.mem_singleton] at h
     subst h
     exact hb1 [] z qz _ rfl y hy
   ·intro a' u' q' b' he'
    exact hb1 ((z,qz) :: a') u' q' b' (by rw [he']; rfl)
   ·intro p hp' y hy
    rcases List.mem_append.1 hp' with h | h
    ·exact hin p h y (by simp; exact .inr (by simpa using hy))
    ·rw [List.mem_singleton] at h
     subst h
     exact head y hy
end
end Go.Proofs.YtmokciekndllpaaGreatDoor
namespace Go.Proofs.YtmokciekndllpaaGreatDoor
open Go
section
variable {V : List (Int × Thing)} {E : List ((Int × Int) × Thing)}
theorem AdE.ne (hi : GInv V E) : ∀ u, ¬ AdE E u u := fun _ h => hasE_ne hi h rfl
end
end Go.Proofs.YtmokciekndllpaaGreatDoor
namespace Go.Proofs.YtmokciekndllpaaGreatDoor
open Go
section
variable {V : List (Int × Thing)} {E : List ((Int × Int) × Thing)}
theorem peoH_iff : ∀ {l : List Int},Peo E l ↔ PeoH (AdE E) l
 | [] => Iff.rfl
 | _ :: _ => and_congr Iff.rfl peoH_iff
theorem adj_peo {L : List Int} (hn : L.Nodup) : ∀ k,k ≤ L.length → PeoH (Adj E L L.length) (L.drop k) := by
 intro k hk
 obtain ⟨m,hm'⟩ : ∃ m,k + m = L.length := ⟨L.length - k,by omega⟩
 induction m generalizing k with
 | zero =>
  rw [List.drop_eq_nil_of_le (by omega)]
  trivial
 | succ m ih =>
  have hk' : k < L.length := by omega
  rw [drop_get hk']
  refine ⟨fun x hx y hy h1 h2 h3 => ?_,ih (k + 1) (by omega) (by omega)⟩
  have h4 := h1.back hn (by omega) hk'
  have h5 := h2.back hn (by omega) hk'
  have h6 : Adj E L (k + 1) x y := .inr ⟨h3,hx,hy,by simpa [hk'] using h4,by simpa [hk'] using h5⟩
  exact h6.mono (by omega)
attribute [local irreducible] msRun in
theorem ms_min (hi : GInv V E) {H : Int → Int → Prop} (hH : ∀ u v,H u v → H v u) (hne : ∀ u, ¬ H u u) (hAH : ∀ u v,AdE E u v → H u v) (hHF : ∀ u v,H u v → Adj E (msOrd V E) (msOrd V E).length u v) {o : List Int} (ho : ∀ x,x ∈ V.map (·.1) → x ∈ o) (hp : PeoH H o) {u v : Int} (h : Adj E (msOrd V E) (msOrd V E).length u v) : H u v := by
 obtain ⟨l0,hl0⟩ : ∃ l,l = msRun V E := ⟨_,rfl⟩
 have hr := ms_run hi l0 hl0
 have hL : msOrd V E = ((runQ l0).map (·.1)).reverse := by rw [runQ_ids,hl0]; rfl
 have hord := ms_ord hi
 generalize msOrd V E = L at *
 generalize runQ l0 = l at *
 have hnd : (l.map (·.1)).Nodup := by
  have := hord.nodup
  rw [hL] at this
  exact (List.reverse_perm _).nodup_iff.1 this
 have hml : ∀ x,x ∈ l.map (·.1) ↔ x ∈ V.map (·.1) := fun x => by rw [← hord.mem,hL,List.mem_reverse]
 have key := mcs_min AdE.symm hH hne hAH hp l [] (fun _ => 0) (fun _ => 0) (by simpa using hr) hr (by simpa using hnd) (fun p hp' => ho _ ((hml _).1 (List.mem_map.2 ⟨p,by simpa using hp',rfl⟩))) (fun y hy => rfl) (fun p hp' => by cases hp') (fun a x q b he y hy hxy => ?_) (fun p hp' => by cases hp')
 ·-- both ends are numbered: one of them first
  obtain ⟨hu,hv⟩ := Adj.mem hi hord h
  have hne2 := Adj.ne hi h
  have main : ∀ u v,(∃ a q b,l = a ++ (u,q) :: b ∧ v ∈ b.map (·.1)) → Adj E L L.length u v → H u v := by
   rintro u v ⟨a,q,b,rfl,hvb⟩ h
   obtain ⟨pv,hpv,rfl⟩ := List.mem_map.1 hvb
   obtain ⟨b1,b2,rfl⟩ := List.append_of_mem hpv
   obtain ⟨v,qv⟩ := pv
   exact key a u q _ rfl v hvb ((run_adj hi hr hL hord.nodup).2 h)
  obtain ⟨pu,hpu,rfl⟩ := List.mem_map.1 ((hml u).2 ((hord.mem u).1 hu))
  obtain ⟨a,b,he⟩ := List.append_of_mem hpu
  obtain ⟨u,qu⟩ := pu
  have hvl := (hml v).2 ((hord.mem v).1 hv)
  rw [he,List.map_append,List.map_cons,List.mem_append,List.mem_cons] at hvl
  rcases hvl with hvl | rfl | hvl
  ·refine hH _ _ (main v u ?_ h.symm)
   obtain ⟨pv,hpv,rfl⟩ := List.mem_map.1 hvl
   obtain ⟨a1,a2,rfl⟩ := List.append_of_mem hpv
   obtain ⟨v,qv⟩ := pv
   exact ⟨a1,qv,a2 ++ (u,qu) :: b,by rw [he]; simp,by simp⟩
  ·exact absurd rfl hne2
  ·exact main u v ⟨a,qu,b,he,hvl⟩ h
 ·subst he
  obtain ⟨pv,hpv,rfl⟩ := List.mem_map.1 hy
  obtain ⟨b1,b2,rfl⟩ := List.append_of_mem hpv
  obtain ⟨y,qy⟩ := pv
  exact (run_adj hi hr hL hord.nodup).2 (hHF _ _ hxy)
end
end Go.Proofs.YtmokciekndllpaaGreatDoor
namespace Go.Proofs.YtmokciekndllpaaGreatDoor
open Go Go.RowKit Go.Shelf
section
variable {V : List (Int × Thing)} {E : List ((Int × Int) × Thing)}
theorem peoS_iff (hi : GInv V E) : (peoS V E).isSome = true ↔ Cho E (V.map (·.1)) := by
 unfold peoS
 have h1 : ∀ x ∈ toL (vS V),x ∈ V.map (·.1) := fun x hx => (mem_vS hi).1 hx
 have h2 : (toL (vS V)).length < 1025 := by have := toL_len (vS V); omega
 rw [poS_ordR hi _ _ h1 h2,ordR_iff hi (toL_nodup _) h1 h2,toL_vS hi]
theorem mem_msFill (hi : GInv V E) {o : List Int} {m : Nat} (ho : o = msOrd V E) (hm : m = o.length) {p : Int × Int} : p ∈ msFill V E ↔ p.1 < p.2 ∧ Adj E o m p.1 p.2 ∧ ¬ Adj0 E p.1 p.2 := by
 obtain ⟨l,hl⟩ : ∃ l,l = msRun V E := ⟨_,rfl⟩
 unfold msFill
 rw [← hl,(fillS_perm (fillL E l)).mem_iff,hm,ho]
 exact mem_fillL hi l hl
theorem adj0_has (hi : GInv V E) {u v : Int} : hasE u v E = true ↔ Adj0 E u v := by
 rw [hasE_iff hi.lo,List.mem_map]
 exact ⟨fun ⟨e,h1,h2⟩ => ⟨e,h1,h2⟩,fun ⟨e,h1,h2⟩ => ⟨e,h1,h2⟩⟩
theorem adj_minmax {L : List Int} {k : Nat} {u v : Int} : Adj E L k (min u v) (max u v) ↔ Adj E L k u v := by
 rcases Int.le_total u v with h | h
 ·rw [Int.min_eq_left h,Int.max_eq_right h]
 ·rw [Int.min_eq_right h,Int.max_eq_left h]
  exact ⟨Adj.symm,Adj.symm⟩
theorem adj0_minmax {u v : Int} : Adj0 E (min u v) (max u v) ↔ Adj0 E u v := adj_minmax (L := []) (k := 0)
theorem adj_of0 {L : List Int} {m : Nat} {u v : Int} (h : Adj0 E u v) : Adj E L m u v := Adj.mono (k := 0) h (Nat.zero_le _)
theorem fill_adj (hi : GInv V E) {o : List Int} {m : Nat} (ho : o = msOrd V E) (hm : m = o.length) {u v : Int} : (hasE u v E = true ∨ (min u v,max u v) ∈ msFill V E) ↔ Adj E o m u v := by
 rw [adj0_has hi,mem_msFill hi ho hm]
 dsimp only
 rw [adj_minmax]
 clear ho hm
 constructor
 ·rintro (h | ⟨_,h,_⟩)
  ·exact adj_of0 h
  ·exact h
 ·intro h
  by_cases h0 : Adj0 E u v
  ·exact .inl h0
  ·have hne := h.ne hi
   exact .inr ⟨by omega,h,fun h9 => h0 (adj0_minmax.1 h9)⟩
theorem ms_minO (hi : GInv V E) {o : List Int} {m : Nat} (ho : o = msOrd V E) (hm : m = o.length) {H : Int → Int → Prop} (hH : ∀ u v,H u v → H v u) (hne : ∀ u, ¬ H u u) (hAH : ∀ u v,AdE E u v → H u v) (hHF : ∀ u v,H u v → Adj E o m u v) {o' : List Int} (ho' : ∀ x,x ∈ V.map (·.1) → x ∈ o') (hp : PeoH H o') {u v : Int} (h : Adj E o m u v) : H u v := by
 have k := ms_min hi (H := H) hH hne hAH
 rw [← ho, ← hm] at k
 exact k hHF ho' hp h
theorem adj_peoO {o : List Int} {m : Nat} (hn : o.Nodup) (hm : m = o.length) : PeoH (Adj E o m) o := by
 have h := adj_peo (E := E) hn 0 (Nat.zero_le _)
 rw [List.drop_zero] at h
 rw [hm]
 exact h
theorem cut_chordal (hi : GInv V E) {o : List Int} {m : Nat} (ho : o = msOrd V E) (hm : m = o.length) {E' : List ((Int × Int) × Thing)} (hi' : GInv V E') {R : List (Int × Int)} (hR : ∀ p ∈ R,p ∈ msFill V E) (hE : ∀ u v,hasE u v E' = true ↔ Adj E o m u v ∧ (min u v,max u v) ∉ R) : (peoS V E').isSome = true ↔ R = [] := by
 rw [peoS_iff hi']
 have hord : Ord V o := by rw [ho]; exact ms_ord hi
 have hmem := fun p => mem_msFill hi ho hm (p := p)
 have hmin := fun (H : Int → Int → Prop) h1 h2 h3 h4 o' h5 h6 u v h7 => ms_minO hi ho hm (H := H) h1 h2 h3 h4 (o' := o') h5 h6 (u := u) (v := v) h7
 have hpe := adj_peoO (E := E) hord.nodup hm
 clear ho hm
 constructor
 ·rintro ⟨o',hp,ho'⟩
  rw [peoH_iff] at ho'
  rcases R with _ | ⟨p,R⟩
  ·rfl
  ·exfalso
   obtain ⟨h1,h2,h3⟩ := (hmem p).1 (hR p (by simp))
   have h4 := hmin (AdE E') AdE.symm (AdE.ne hi') (fun u v h => by
    have h5 : Adj0 E u v := (adj0_has hi).1 h
    refine (hE u v).2 ⟨adj_of0 h5,fun hm => ?_⟩
    obtain ⟨_,_,h6⟩ := (hmem _).1 (hR _ hm)
    exact h6 (adj0_minmax.2 h5)) (fun u v h => ((hE u v).1 h).1) o' (fun x hx => hp.mem_iff.2 hx) ho' _ _ h2
   have h5 := ((hE _ _).1 h4).2
   rw [Int.min_eq_left (by omega),Int.max_eq_right (by omega)] at h5
   exact h5 (by simp)
 ·rintro rfl
  refine ⟨o,(List.perm_ext_iff_of_nodup hord.nodup (sv_nodup hi.sv)).2 hord.mem, ?_⟩
  rw [peoH_iff]
  have e : AdE E' = Adj E o m := funext fun u => funext fun v => propext (by
   unfold AdE
   rw [hE]
   simp)
  rw [e]
  exact hpe
end
end Go.Proofs.YtmokciekndllpaaGreatDoor
namespace Go.Proofs.YtmokciekndllpaaGreatDoor
open Go Go.RowKit Go.Shelf
section
variable {V : List (Int × Thing)} {E : List ((Int × Int) × Thing)}
theorem out_edge (hi : GInv V E) {e : (Int × Int) × Thing} (he : e ∈ E) : wrongR 3 e.1.1 e.1.2 0 V E = 0 ∧ nxV 3 e.1.1 e.1.2 0 0 V E = V ∧ ∀ f ∈ nxE 3 e.1.1 e.1.2 0 0 V E,f ∈ E := by
 have hlt := hi.lo e he
 obtain ⟨⟨t1,h1⟩,t2,h2⟩ := hi.ends e he
 have hw : wrongR 3 e.1.1 e.1.2 0 V E = 0 := by
  refine wrongR_ok (by omega) ?_ ?_ (by omega) (fun _ => hasV_iff.2 (List.mem_map.2 ⟨_,h1,rfl⟩)) (by omega) (fun _ => (hasE_iff hi.lo).2 (List.mem_map.2 ⟨e,he, ?_⟩))
  ·have a := hi.ids _ h1
   have b := hi.ids _ h2
   simp [w2B,idB,heavyB] at a b ⊢
   omega
  ·simp [w3B,pairsB]; try omega
  ·rw [Prod.ext_iff]
   exact ⟨by simp only; omega,by simp only; omega⟩
 refine ⟨hw, ?_, ?_⟩
 ·unfold nxV
  rw [if_pos hw,refV_same (by omega) (by omega) (by omega) (by omega)]
 ·unfold nxE
  rw [if_pos hw,refE_3 hi.lo (se_nodup hi.se)]
  intro f hf
  exact (List.mem_filter.1 hf).1
def cutE (p : Int × Int) (E : List ((Int × Int) × Thing)) : List ((Int × Int) × Thing) := E.filter fun q => decide (q.1 ≠ p)
theorem cut_ok (hi : GInv V E) {p : Int × Int} (hp : p ∈ E.map (·.1)) : wrongR 3 p.1 p.2 0 V E = 0 ∧ nxV 3 p.1 p.2 0 0 V E = V ∧ nxE 3 p.1 p.2 0 0 V E = cutE p E := by
 obtain ⟨e,he,rfl⟩ := List.mem_map.1 hp
 obtain ⟨h1,h2,_⟩ := out_edge hi he
 refine ⟨h1,h2, ?_⟩
 have := hi.lo e he
 unfold nxE
 rw [if_pos h1,refE_3 hi.lo (se_nodup hi.se)]
 unfold cutE
 rw [Int.min_eq_left (by omega),Int.max_eq_right (by omega)]
theorem cut_inv (hi : GInv V E) (p : Int × Int) : GInv V (cutE p E) :=
 ⟨hi.sv,hi.se.filter _,fun e he => hi.lo e (List.mem_filter.1 he).1,fun e he => hi.ends e (List.mem_filter.1 he).1,hi.ids,hi.wv,fun e he => hi.we e (List.mem_filter.1 he).1,Nat.le_trans (List.length_filter_le _ _) hi.ne⟩
theorem cut_has (hi : GInv V E) {p : Int × Int} {u v : Int} : hasE u v (cutE p E) = true ↔ hasE u v E = true ∧ (min u v,max u v) ≠ p := by
 rw [hasE_iff (cut_inv hi p).lo,hasE_iff hi.lo]
 simp only [cutE,List.mem_map,List.mem_filter,decide_eq_true_eq]
 constructor
 ·rintro ⟨e,⟨h1,h2⟩,h3⟩
  exact ⟨⟨e,h1,h3⟩,by rw [← h3]; exact h2⟩
 ·rintro ⟨⟨e,h1,h3⟩,h2⟩
  exact ⟨e,⟨h1,by rw [h3]; exact h2⟩,h3⟩
def cutL (R : List (Int × Int)) (E : List ((Int × Int) × Thing)) : List ((Int × Int) × Thing) := R.foldl (fun E p => cutE p E) E
theorem cutL_snoc (R : List (Int × Int)) (p : Int × Int) (E : List ((Int × Int) × Thing)) : cutL (R ++ [p]) E = cutE p (cutL R E) := by
 unfold cutL
 rw [List.foldl_append]
 rfl
theorem cutL_at : ∀ (R : List (Int × Int)) (E : List ((Int × Int) × Thing)),GInv V E → GInv V (cutL R E) ∧ ∀ u v,hasE u v (cutL R E) = true ↔ hasE u v E = true ∧ (min u v,max u v) ∉ R
 | [],_,h => ⟨h,fun u v => by simp [cutL]⟩
 | p :: R,E,h => by
  obtain ⟨h1,h2⟩ := cutL_at R (cutE p E) (cut_inv h p)
  refine ⟨h1,fun u v => ?_⟩
  show hasE u v (cutL R (cutE p E)) = true ↔ _
  rw [h2,cut_has h,List.mem_cons,not_or,and_assoc]
def flE (V : List (Int × Thing)) (E : List ((Int × Int) × Thing)) : List ((Int × Int) × Thing) := (fillG V E (msFill V E)).2
theorem fl_at (hi : GInv V E) (hV : V.length ≤ 9) : (fillG V E (msFill V E)).1 = V ∧ GInv V (flE V E) ∧ ∀ u v,hasE u v (flE V E) = true ↔ hasE u v E = true ∨ (min u v,max u v) ∈ msFill V E := by
 have h0 := fillG_inv hi (msFill V E)
 have h := fillG_at hi (msFill_ok hi hV)
 unfold flE
 obtain ⟨l,hl⟩ : ∃ l,l = msFill V E := ⟨_,rfl⟩
 rw [← hl] at h h0 ⊢
 obtain ⟨h1,h2,_⟩ := h l.length (Nat.le_refl _)
 rw [List.take_length] at h1 h2
 rw [h1] at h0
 exact ⟨h1,h0,h2⟩
theorem fl_has (hi : GInv V E) (hV : V.length ≤ 9) {o : List Int} {m : Nat} (ho : o = msOrd V E) (hm : m = o.length) {u v : Int} : hasE u v (flE V E) = true ↔ Adj E o m u v := ((fl_at hi hV).2.2 u v).trans (fill_adj hi ho hm)
theorem fill_has (hi : GInv V E) (hV : V.length ≤ 9) {p : Int × Int} (hp : p ∈ msFill V E) : p.1 < p.2 ∧ p ∈ (flE V E).map (·.1) := by
 obtain ⟨_,h1,h2⟩ := fl_at hi hV
 have h3 := ((mem_msFill hi rfl rfl).1 hp).1
 have h4 : (min p.1 p.2,max p.1 p.2) = p := by rw [Int.min_eq_left (by omega),Int.max_eq_right (by omega)]
 refine ⟨h3, ?_⟩
 have h5 := (hasE_iff h1.lo).1 ((h2 p.1 p.2).2 (.inr (by rw [h4]; exact hp)))
 rw [h4] at h5
 exact h5
theorem flE_cut (hi : GInv V E) (hV : V.length ≤ 9) {R : List (Int × Int)} (hR : ∀ p ∈ R,p ∈ msFill V E) : (peoS V (cutL R (flE V E))).isSome = true ↔ R = [] := by
 obtain ⟨h1,h2⟩ := cutL_at R (flE V E) (fl_at hi hV).2.1
 obtain ⟨o,ho⟩ : ∃ o,o = msOrd V E := ⟨_,rfl⟩
 obtain ⟨m,hm⟩ : ∃ m,m = o.length := ⟨_,rfl⟩
 exact cut_chordal hi ho hm h1 hR fun u v => (h2 u v).trans (and_congr_left fun _ => fl_has hi hV ho hm)
def selL (b : Nat → Bool) (a : List (Int × Int)) (i : Nat) : List (Int × Int) := ((List.range i).filter b).map fun j => a.getD j (0,0)
theorem selL_yes {b : Nat → Bool} {a : List (Int × Int)} {i : Nat} (h : b i = true) (hi : i < a.length) : selL b a (i + 1) = selL b a i ++ [a[i]] := by
 unfold selL
 rw [List.range_succ,List.filter_append,List.map_append,List.filter_cons,if_pos h]
 simp [List.getElem?_eq_getElem hi]
theorem selL_no {b : Nat → Bool} {a : List (Int × Int)} {i : Nat} (h : b i = false) : selL b a (i + 1) = selL b a i := by
 unfold selL
 rw [List.range_succ,List.filter_append,List.map_append,List.filter_cons,if_neg (by simp [h])]
 simp
theorem selL_get {b : Nat → Bool} {a : List (Int × Int)} {i : Nat} (hi : i ≤ a.length) {p : Int × Int} (hp : p ∈ selL b a i) : ∃ j, ∃ h : j < a.length,j < i ∧ a[j] = p := by
 obtain ⟨j,h1,rfl⟩ := List.mem_map.1 hp
 have h2 := List.mem_range.1 (List.mem_filter.1 h1).1
 exact ⟨j,by omega,h2,by simp [List.getElem?_eq_getElem (show j < a.length by omega)]⟩
theorem selL_len (b : Nat → Bool) (a : List (Int × Int)) (i : Nat) : (selL b a i).length ≤ i := by
 unfold selL
 rw [List.length_map]
 exact Nat.le_trans (List.length_filter_le _ _) (by rw [List.length_range]; exact Nat.le_refl _)
theorem selL_sub {b : Nat → Bool} {a : List (Int × Int)} {i : Nat} (hi : i ≤ a.length) : ∀ p ∈ selL b a i,p ∈ a := fun p hp => by
 obtain ⟨j,h,_,rfl⟩ := selL_get hi hp
 exact List.getElem_mem h
theorem selL_new {b : Nat → Bool} {a : List (Int × Int)} (hn : a.Nodup) {i : Nat} (hi : i < a.length) : a[i] ∉ selL b a i := fun hp => by
 obtain ⟨j,h,hlt,he⟩ := selL_get (Nat.le_of_lt hi) hp
 have := (List.getElem_inj hn).1 he
 omega
theorem msFill_nodup (hi : GInv V E) (_hV : V.length ≤ 9) : (msFill V E).Nodup := by
 have h := fillL_nodup hi _ (rfl : msRun V E = msRun V E)
 unfold msFill
 exact (fillS_perm _).nodup_iff.2 h
theorem sel_there (hi : GInv V E) (hV : V.length ≤ 9) {a : List (Int × Int)} (ha : a = msFill V E) {b : Nat → Bool} {i : Nat} (hil : i < a.length) : a[i] ∈ (cutL (selL b a i) (flE V E)).map (·.1) := by
 have hn : a.Nodup := by rw [ha]; exact msFill_nodup hi hV
 have hm : a[i] ∈ msFill V E := by rw [← ha]; exact List.getElem_mem hil
 have h0 := selL_new (b := b) hn hil
 obtain ⟨h1,h2⟩ := cutL_at (selL b a i) (flE V E) (fl_at hi hV).2.1
 obtain ⟨h3,h4⟩ := fill_has hi hV hm
 generalize a[i] = p at *
 have h5 : (min p.1 p.2,max p.1 p.2) = p := by rw [Int.min_eq_left (by omega),Int.max_eq_right (by omega)]
 have h6 := (h2 p.1 p.2).2 ⟨(hasE_iff (fl_at hi hV).2.1.lo).2 (by rw [h5]; exact h4),by rw [h5]; exact h0⟩
 have h7 := (hasE_iff h1.lo).1 h6
 rw [h5] at h7
 exact h7
theorem sel_law (hi : GInv V E) (hV : V.length ≤ 9) {a : List (Int × Int)} (ha : a = msFill V E) {b : Nat → Bool} {i : Nat} (hil : i ≤ a.length) : (peoS V (cutL (selL b a i) (flE V E))).isSome = decide ((selL b a i).length = 0) := by
 rw [Bool.eq_iff_iff,flE_cut hi hV (fun p hp => by rw [← ha]; exact selL_sub hil p hp),decide_eq_true_eq,List.length_eq_zero_iff]
end
end Go.Proofs.YtmokciekndllpaaGreatDoor
namespace Go.Proofs.YtmokciekndllpaaGreatDoor
open Go Go.RowKit Go.Shelf
attribute [local go_sem] qUpon lUpon
attribute [local irreducible] wpO wpX wpQL
set_option maxRecDepth 100000 in
set_option maxHeartbeats 16000000 in
theorem triangulationNoSubsetRemovable_walk (A : Option Addr) (L : List Ed) (cL : Nat) (a : Int) (w : World) (hL : SlAt encD 5 w A L) (_ha : 0 ≤ a ∧ a ≤ 65535) (hT : Tab w) :
  Calls Tryz.prog 6 #[.slice A L.length cL, .int .u16 a] w fun e w' => e = .returned (.bool true) ∧ Ext w w' := by
 have hL' := hide hL
 have hT' := hide hT
 have hi := hide (mdS_inv L)
 clear hL hT
 have hP := hide (Sp.new w)
 refine callsIn_wide.1 (callsIn_of_wp_marks (n := 0) Tryz.func6 rfl trivial (wpIn_wide.2 ?_))
 simp only [Tryz.ntmps6,List.size_toArray,List.length_cons,List.length_nil,Nat.reduceAdd,Nat.reduceSub,Array.replicate_succ,Array.replicate_zero,List.push_toArray,List.append_toArray,List.nil_append,List.cons_append]
 try dsimp only
 repeat ((fail_if_success (with_reducible refine wp_reg (id := 1) ?_)); (first | go_values | go_skip | go_step | go_guarded | go_upon | go_in | go_back | fail))
 with_reducible refine wp_reg (id := 1) ?_
 refine wpO_val rfl (run_move rfl rfl) ?_
 go_frame
 refine wpO_want rfl ?_
 go_simp
 have hca := begun25_any A L cL w ((unhide hL').ext (unhide hP).extf)
 generalize mdS L = S at *
 obtain ⟨V,E⟩ := S
 try dsimp only at hi hca ⊢
 refine hca.mono ?_
 clear hca
 rintro _ y1 ⟨g,bv,be,A1,B1,cA,cB,rfl,hg0,hs0,he0,hxc⟩
 refine ⟨_,rfl, ?_⟩
 replace hP : Hid (Sp w [] w [] [] [] y1) := hide ((unhide hP).ext hxc)
 have hg := hide hg0
 have hsV := hide hs0
 have hsE := hide he0
 obtain ⟨q,hq⟩ : ∃ q,q = decide ((V.length : Int) ≤ 9) := ⟨_,rfl⟩
 rw [← hq]
 have hq' := hide hq
 have hnV := hide hg0.nV
 have hnE := hide hg0.nE
 clear hxc hg0 hs0 he0 hq
 generalize htu0 : Value.tuple _ = tu
 have htu := hide htu0
 clear htu0
 refine wpO_val rfl (run_move rfl rfl) ?_
 go_frame
 refine wpO_val rfl (run_extract (i := 0) (v := .pointer (some ⟨g,0,none⟩)) rfl (unhide htu).symm rfl) ?_
 go_frame
 refine wpO_val rfl (run_extract (i := 1) (v := .agg #[.slice A1 V.length cA, .slice B1 E.length cB]) rfl (unhide htu).symm rfl) ?_
 go_frame
 refine wpO_val rfl (run_extract (i := 2) (v := .bool q) rfl (unhide htu).symm rfl) ?_
 go_frame
 refine (unhide hP).allocT 30 #[.slice none 0 0, .slice none 0 0] rfl (by go_simp) ?_
 intro r6 y2 hQ hxa hga
 replace hP : Hid (Sp w [] w [] [(r6,30, #[.slice none 0 0, .slice none 0 0])] [] y2) := hide hQ
 clear hQ
 try go_frame
 refine wpO_want rfl ?_
 go_simp
 refine (unhide hP).setT 0 #[.slice A1 V.length cA, .slice B1 E.length cB] rfl rfl (fun hb => run_store_row (v := .agg #[.slice A1 V.length cA, .slice B1 E.length cB]) rfl (by rfl) (by rfl) (by simp [go_sem]) hb rfl (fun u hu => by simp [Value.cells] at hu; rcases hu with rfl | rfl <;> rfl)) ?_
 intro y3 hQ hkq
 replace hP : Hid (Sp w [] w [] [(r6,30, #[.slice A1 V.length cA, .slice B1 E.length cB])] [] y3) := hide hQ
 have hxs := hxa.of_new hkq (fun x hx => by rw [List.mem_singleton] at hx; rw [hx]; exact hga)
 clear hQ hkq hxa hga
 try go_frame
 replace hg := hide ((unhide hg).ext (hxs))
 replace hsV := hide ((unhide hsV).ext (hxs))
 replace hsE := hide ((unhide hsE).ext (hxs))
 clear hxs
 refine wpO_want rfl ?_
 go_simp
 refine wpO_done ?_
 try go_frame
 clear htu
 try dsimp only
 repeat ((fail_if_success (with_reducible refine wp_reg (id := 2) ?_)); (first | go_values | go_skip | go_step | go_guarded | go_upon | go_in | go_back | fail))
 with_reducible refine wp_reg (id := 2) ?_
 iterate 2
  refine wpO_want rfl ?_
  go_simp
 refine wpO_done ?_
 try go_frame
 cases q
 ·skip
  try dsimp only
  repeat ((fail_if_success (with_reducible refine wp_reg (id := 3) ?_)); (first | go_values | go_skip | go_step | go_guarded | go_upon | go_in | go_back | fail))
  with_reducible refine wp_reg (id := 3) ?_
  refine wpO_want rfl ?_
  go_simp
  refine (known25_any _ ((unhide hT').ext (unhide hP).extf)).mono ?_
  rintro _ y4 ⟨rfl,hxc⟩
  refine ⟨_,rfl, ?_⟩
  replace hP : Hid (Sp w [] w [] [(r6,30, #[.slice A1 V.length cA, .slice B1 E.length cB])] [] y4) := hide ((unhide hP).ext hxc)
  clear hxc
  refine wpO_want rfl ?_
  go_simp
  refine wpO_done ?_
  try go_frame
  go_wp2_with fail
  refine Sp.leaves0 ?_
  exact ⟨_,results_tmp rfl _ _ _,rfl,(unhide hP).extf⟩
 ·skip
  have hV := hide (show V.length ≤ 9 by have h := unhide hq'; have := of_decide_eq_true h.symm; omega)
  clear hq'
  try dsimp only
  repeat ((fail_if_success (with_reducible refine wp_reg (id := 4) ?_)); (first | go_values | go_skip | go_step | go_guarded | go_upon | go_in | go_back | fail))
  with_reducible refine wp_reg (id := 4) ?_
  refine wpO_val rfl (run_move rfl rfl) ?_
  go_frame
  refine wpO_want rfl ?_
  go_simp
  have hca := filled_any g bv be V E y3 (unhide hg) ((unhide hT').ext (unhide hP).extf) (unhide hV)
  unfold FdPost at hca
  rw [(fl_at (unhide hi) (unhide hV)).1] at hca
  refine hca.mono ?_
  clear hca
  rintro _ y4 ⟨f,fv,fe,rfl,hf0,hxc,n1,n2,n3⟩
  have hf := hide (show IsG y4 f fv fe V (flE V E) from hf0)
  have hb := hide (show w.heap.size ≤ f ∧ w.heap.size ≤ fv ∧ w.heap.size ≤ fe by have := (unhide hP).keep.size; omega)
  have hb2 := hide (show y3.heap.size ≤ fv ∧ y3.heap.size ≤ fe from ⟨n2,n3⟩)
  refine ⟨_,rfl, ?_⟩
  replace hP : Hid (Sp w [] w [] [(r6,30, #[.slice A1 V.length cA, .slice B1 E.length cB])] [] y4) := hide ((unhide hP).ext hxc)
  replace hg := hide ((unhide hg).ext (hxc))
  replace hsV := hide ((unhide hsV).ext (hxc))
  replace hsE := hide ((unhide hsE).ext (hxc))
  clear hxc hf0 n1 n2 n3
  try go_frame
  refine wpO_want rfl ?_
  go_simp
  refine wpO_done ?_
  try go_frame
  try dsimp only
  repeat ((fail_if_success (with_reducible refine wp_reg (id := 5) ?_)); (first | go_values | go_skip | go_step | go_guarded | go_upon | go_in | go_back | fail))
  with_reducible refine wp_reg (id := 5) ?_
  refine wpO_val rfl (run_move rfl rfl) ?_
  go_frame
  refine wpO_want rfl ?_
  go_simp
  obtain ⟨l,hl0⟩ : ∃ l,l = msFill V E := ⟨_,rfl⟩
  have hca := fillin_any (some ⟨g,0,none⟩) V E y4 (unhide hi) (GL.of (unhide hg)) ((unhide hT').ext (unhide hP).extf)
  unfold FIPost at hca
  rw [← hl0] at hca
  have hll := hide hl0
  clear hl0
  refine hca.mono ?_
  clear hca
  rintro _ y5 ⟨Aa,n,c,rfl,hn0,ho,hxc⟩
  have hn := hide hn0
  have hlt := (unhide hf).lt
  have hbf := unhide hb
  have hne := hide (show ∀ b o,Aa = some ⟨b,o,none⟩ → b ∉ [fv,fe] from fun b o e hm => by
   have h1 := (own_base ho (g := b) (by rw [e]; rfl)).1
   simp only [List.mem_cons,List.not_mem_nil,or_false] at hm
   omega)
  rw [hn0] at ho
  have hsl := hide (show SlAt encE 4 y5 Aa (l.map edgeP) from own_at (enc := encE) (xs := l.map edgeP) (by rw [List.length_map]; exact ho) (fun _ => rfl))
  have hln := hide (show l.length ≤ 1024 by have h := msFill_ok (unhide hi) (unhide hV); rw [← unhide hll] at h; have := h.len; omega)
  replace hP : Hid (Sp w [] w [] [(r6,30, #[.slice A1 V.length cA, .slice B1 E.length cB])] [] y5) := hide ((unhide hP).ext hxc)
  replace hg := hide ((unhide hg).ext (hxc))
  replace hsV := hide ((unhide hsV).ext (hxc))
  replace hsE := hide ((unhide hsE).ext (hxc))
  replace hf := hide ((unhide hf).ext (hxc))
  clear hxc hlt ho hn0 hbf
  refine ⟨_,rfl, ?_⟩
  try go_frame
  refine wpO_want rfl ?_
  go_simp
  refine wpO_done ?_
  try go_frame
  try dsimp only
  repeat ((fail_if_success (with_reducible refine wp_reg (id := 6) ?_)); (first | go_values | go_skip | go_step | go_guarded | go_upon | go_in | go_back | fail))
  with_reducible refine wp_reg (id := 6) ?_
  iterate 2
   refine wpO_want rfl ?_
   go_simp
  refine wpO_done ?_
  try go_frame
  try dsimp only
  repeat ((fail_if_success (with_reducible refine wp_reg (id := 8) ?_)); (first | go_values | go_skip | go_step | go_guarded | go_upon | go_in | go_back | fail))
  with_reducible refine wp_reg (id := 8) ?_
  refine wpO_want rfl ?_
  go_simp
  refine wpO_done ?_
  try go_frame
  try dsimp only
  repeat ((fail_if_success (with_reducible refine wp_reg (id := 9) ?_)); (first | go_values | go_skip | go_step | go_guarded | go_upon | go_in | go_back | fail))
  with_reducible refine wp_reg (id := 9) ?_
  refine wpO_want rfl ?_
  go_simp
  refine wpO_done ?_
  try go_frame
  go_wp2_with fail
  obtain ⟨bf,hbf0⟩ : ∃ b : Nat → Bool,b = fun i => bits .and .u16 (a / 2 ^ i) 1 == 1 := ⟨_,rfl⟩
  have hbf := hide hbf0
  clear hbf0
  replace hP : Hid (Sp w [] w [] [] [] y5) := hide ((Sp.new w).ext (unhide hP).extf)
  obtain ⟨I5_4,hI5_40⟩ : ∃ I : Nat → Act → World → Prop,I = fun fi a' wr => ∃ (i : Nat), ∃ (k : Nat),a'.tmps.size = 72 ∧ a'.tmps.getD 1 undef = .int .u16 a ∧ a'.tmps.getD 8 undef = .pointer (some ⟨f,0,none⟩) ∧ a'.tmps.getD 9 undef = .slice Aa n c ∧ a'.tmps.getD 10 undef = .int .i64 (k : Nat) ∧ a'.tmps.getD 11 undef = .int .i64 (i : Nat) ∧ a'.defers = [] ∧ i ≤ n ∧ i ≤ 16 ∧ k = (selL bf l i).length ∧ IsG wr f fv fe V (cutL (selL bf l i) (flE V E)) ∧ SlAt encE 4 wr Aa (l.map edgeP) ∧ Sp w [] w [] [] [] wr ∧ fi = n - i := ⟨_,rfl⟩
  have hI5_4 := hide hI5_40
  clear hI5_40
  refine wp_loop_ix I5_4 (n - 0) ?_ ?_
  ·rw [unhide hI5_4]; exact ⟨0,0,rfl,rfl,rfl,rfl,rfl,rfl,rfl,Nat.zero_le _,Nat.zero_le _,rfl,(by rw [show selL bf l 0 = [] from rfl,show cutL [] (flE V E) = flE V E from rfl]; exact unhide hf),unhide hsl,unhide hP,rfl⟩
  ·rintro fi ⟨tm,dfs⟩ wr hrel
   rw [unhide hI5_4] at hrel
   obtain ⟨i,k,hsz,e1,e8,e9,e10,e11,hdf,hin,h16,hk0,hgr,hs0,hPr,hfm⟩ := hrel
   obtain ⟨us,rfl⟩ : ∃ us : Nat → Value,tm = #[us 0,us 1,us 2,us 3,us 4,us 5,us 6,us 7,us 8,us 9,us 10,us 11,us 12,us 13,us 14,us 15,us 16,us 17,us 18,us 19,us 20,us 21,us 22,us 23,us 24,us 25,us 26,us 27,us 28,us 29,us 30,us 31,us 32,us 33,us 34,us 35,us 36,us 37,us 38,us 39,us 40,us 41,us 42,us 43,us 44,us 45,us 46,us 47,us 48,us 49,us 50,us 51,us 52,us 53,us 54,us 55,us 56,us 57,us 58,us 59,us 60,us 61,us 62,us 63,us 64,us 65,us 66,us 67,us 68,us 69,us 70,us 71] := ⟨fun i => tm.getD i undef,arr_fn hsz⟩
   have h1 : us 1 = .int .u16 a := e1
   have h8 : us 8 = .pointer (some ⟨f,0,none⟩) := e8
   have h9 : us 9 = .slice Aa n c := e9
   have h10 : us 10 = .int .i64 (k : Nat) := e10
   have h11 : us 11 = .int .i64 (i : Nat) := e11
   have hdf2 : dfs = [] := hdf
   subst hdf2
   clear hdf hsz e1 e8 e9 e10 e11
   simp only [h1,h8,h9,h10,h11]
   clear h1 h8 h9 h10 h11
   clear hP hf hsl
   have hP := hide hPr
   have hf := hide hgr
   have hsl := hide hs0
   have hfm' := hide hfm
   have hk := hide hk0
   have hin' := hide hin
   have h16' := hide h16
   clear hPr hgr hs0 hfm hk0 h16
   by_cases hlt : i < n
   ·skip
    have hil : (i : Int) < (n : Int) := by omega
    have hlt' := hide hlt
    clear hlt hin
    by_cases hlf : i < 16
    ·skip
     have h16i : (i : Int) < 16 := by omega
     have hlf' := hide hlf
     clear hlf
     try dsimp only
     repeat ((fail_if_success (with_reducible refine wp_reg (id := 10) ?_)); (first | go_values | go_skip | go_step | go_guarded | go_upon | go_in | go_back | fail))
     with_reducible refine wp_reg (id := 10) ?_
     iterate 8
      refine wpO_want rfl ?_
      go_simp
     refine wpO_done ?_
     try go_frame
     have hi0 : ¬ ((i : Nat) : Int) < 0 := by omega
     have hib : (i : Int) ≤ 1024 := by omega
     have hiL : i < l.length := by rw [← unhide hn]; exact unhide hlt'
     obtain ⟨qb,hqb⟩ : ∃ qb,qb = bf i := ⟨_,rfl⟩
     have hqv : (bits .and .u16 (a / 2 ^ i) 1 == 1) = qb := by rw [hqb,unhide hbf]
     have hqb' := hide hqb
     clear hqb
     try dsimp only
     repeat ((fail_if_success (with_reducible refine wp_reg (id := 12) ?_)); (first | go_values | go_skip | go_step | go_guarded | go_upon | go_in | go_back | fail))
     with_reducible refine wp_reg (id := 12) ?_
     iterate 5
      refine wpO_want rfl ?_
      go_simp
     refine wpO_done ?_
     try go_frame
     clear hqv
     cases qb
     ·skip
      have hsn := hide (selL_no (a := l) (unhide hqb').symm)
      clear hil h16i hiL hi0
      go_wp2_with fail
      refine ⟨n - (i + 1), ?_,by have := unhide hfm'; have := unhide hlt'; omega⟩
      rw [unhide hI5_4]
      exact ⟨i + 1,k,(by first | rfl | trivial),(by first | rfl | trivial),(by first | rfl | trivial),(by first | rfl | trivial),(by first | rfl | trivial),(by first | rfl | (show _ = Value.int _ _; go_num) | go_num),(by first | rfl | trivial),by have := unhide hlt'; omega,by have := unhide hlf'; omega,(by rw [unhide hsn]; exact unhide hk),(by rw [unhide hsn]; exact unhide hf),unhide hsl,unhide hP,rfl⟩
     ·skip
      go_wp2_with fail
      have hsn := hide (selL_yes (unhide hqb').symm hiL)
      have hth := hide (sel_there (unhide hi) (unhide hV) (unhide hll) (b := bf) hiL)
      have hkb := hide (show k ≤ 1024 by have h1 := unhide hk; have h2 := selL_len bf l i; omega)
      obtain ⟨b9,o9,rfl,q0,q1⟩ := slPair (unhide hsl) (unhide hne) hiL
      have hok := hide (show i64ok l[i].1 ∧ i64ok l[i].2 by
       have hm := List.getElem_mem hiL
       generalize l[i] = p at hm
       rw [unhide hll] at hm
       obtain ⟨_,h1,h2,_⟩ := (msFill_ok (unhide hi) (unhide hV)).ok _ hm
       have hr : ∀ x,x ∈ V.map (·.1) → i64ok x := fun x hx => by
        rw [← toL_vS (unhide hi)] at hx
        exact toL_ok hx
       exact ⟨hr _ h1,hr _ h2⟩)
      have hcg := hide (cutL_at (selL bf l i) (flE V E) (fl_at (unhide hi) (unhide hV)).2.1).1
      generalize l[i] = p at *
      obtain ⟨u,v⟩ := p
      dsimp only at q0 q1
      have hcs := hide (show cutL (selL bf l (i + 1)) (flE V E) = cutE (u,v) (cutL (selL bf l i) (flE V E)) by rw [unhide hsn,cutL_snoc])
      have hks := hide (show k + 1 = (selL bf l (i + 1)).length by rw [unhide hsn,List.length_append, ← unhide hk]; rfl)
      generalize cutL (selL bf l i) (flE V E) = E9 at *
      have hself := Keep.refl [fv,fe] wr
      clear hiL
      refine wp_regionK (P := Tryz.prog) [fv,fe] [0,1,2,3,4,5,6,7,8,9,10,11] [] 2 #[true,true,true,true,true,true,true,true,true,true,true,true,false,false] (by kernel_rfl) (by kernel_rfl) rfl (by rfl) ?_
      iterate 12
       refine ql_want (v := ?_) rfl (by rfl) (fun W hW => ?_) ?_
       rotate_left
       ·go_simp
        first | done | rfl
       go_frame
      refine wpQL_nil (fun y6 hxq => ?_)
      have hfq := hide ((unhide hf).ext hxq)
      have hK := hide (hxq.keep [fv,fe])
      replace hP : Hid (Sp w [] w [] [] [] y6) := hide ((unhide hP).ext hxq)
      clear hxq
      clear q0 q1 hself hil h16i hi0
      refine lx_one (i := 12) (by kernel_rfl) rfl (by rfl) #[true,true,true,true,true,true,true,true,true,true,true,true,true,false] (by rfl) ?_
      go_simp
      have hca := apply_any f fv fe V E9 3 u v 0 0 y6 (unhide hfq) (unhide hok).1 (unhide hok).2
      obtain ⟨hw9,hv9,he9⟩ := cut_ok (unhide hcg) (unhide hth)
      have hw9 : wrongR 3 u v 0 V E9 = 0 := hw9
      have hv9 : nxV 3 u v 0 0 V E9 = V := hv9
      have he9 : nxE 3 u v 0 0 V E9 = cutE (u,v) E9 := he9
      rw [hw9,hv9,he9] at hca
      refine hca.mono ?_
      clear hca hw9 hv9 he9
      rintro _ z9 ⟨rfl,hg9,hk9⟩
      refine ⟨_,rfl,(unhide hK).trans hk9,fun y7 hxd => ?_⟩
      replace hP : Hid (Sp w [] w [] [] [] y7) := hide ((Sp.new w).ext (ext_turnZ (unhide hP).extf (hk9.trans (hxd.keep _)) ⟨(unhide hb).2.1,(unhide hb).2.2⟩))
      have hf2 := hide (hg9.ext hxd)
      replace hK := hide (((unhide hK).trans hk9).trans (hxd.keep _))
      clear hxd hg9 hk9
      try go_frame
      have hKa := hK
      refine lx_rekeep (unhide hK) [13] [] 0 1 #[true,true,true,true,true,true,true,true,true,true,true,true,true,false] #[true,true,true,true,true,true,true,true,true,true,true,true,true,true] (by kernel_rfl) rfl (by rfl) ?_
      clear hK
      iterate 1
       refine ql_want (v := ?_) rfl (by rfl) (fun W hW => ?_) ?_
       rotate_left
       ·go_simp
        first | done | rfl
       go_frame
      refine wpQL_nil (fun y8 hxq => ?_)
      have hxE := hide hxq
      have hK := hide (hxq.keep [fv,fe])
      replace hP : Hid (Sp w [] w [] [] [] y8) := hide ((unhide hP).ext hxq)
      clear hxq
      refine wpX_done (by kernel_rfl) ?_
      try go_frame
      have hKe := hide ((unhide hKa).trans (unhide hK))
      have hw1 : IntKind.i64.wrap ((k : Int) + 1) = ((k + 1 : Nat) : Int) := by have := unhide hkb; rw [IntWalk.i64_in _ (by omega)]; omega
      go_wp2_with fail
      refine ⟨n - (i + 1), ?_,by have := unhide hfm'; have := unhide hlt'; omega⟩
      rw [unhide hI5_4]
      exact ⟨i + 1,k + 1,(by first | rfl | trivial),(by first | rfl | trivial),(by first | rfl | trivial),(by first | rfl | trivial),(by first | rfl | (show _ = Value.int _ _; go_num) | go_num),(by first | rfl | (show _ = Value.int _ _; go_num) | go_num),(by first | rfl | trivial),by have := unhide hlt'; omega,by have := unhide hlf'; omega,unhide hks,(by rw [unhide hcs]; exact (unhide hf2).ext (unhide hxE)),(unhide hsl).keepS (unhide hKe) (unhide hne),unhide hP,rfl⟩
    ·skip
     have h16i : ¬ (i : Int) < 16 := by omega
     clear hlf
     try dsimp only
     repeat ((fail_if_success (with_reducible refine wp_reg (id := 10) ?_)); (first | go_values | go_skip | go_step | go_guarded | go_upon | go_in | go_back | fail))
     with_reducible refine wp_reg (id := 10) ?_
     iterate 8
      refine wpO_want rfl ?_
      go_simp
     refine wpO_done ?_
     try go_frame
     clear hil h16i
     try dsimp only
     repeat ((fail_if_success (with_reducible refine wp_reg (id := 16) ?_)); (first | go_values | go_skip | go_step | go_guarded | go_upon | go_in | go_back | fail))
     with_reducible refine wp_reg (id := 16) ?_
     refine wpO_val rfl (run_move rfl rfl) ?_
     go_frame
     refine wpO_want rfl ?_
     go_simp
     obtain ⟨E9,hE9⟩ : ∃ E9,E9 = cutL (selL bf l i) (flE V E) := ⟨_,rfl⟩
     obtain ⟨q,hq⟩ : ∃ q,q = (peoS V E9).isSome := ⟨_,rfl⟩
     have hlaw := sel_law (unhide hi) (unhide hV) (unhide hll) (b := bf) (i := i) (by have := unhide hin'; have := unhide hn; omega)
     rw [← hE9, ← hq, ← unhide hk] at hlaw
     rw [← hE9] at hf
     obtain ⟨po,hpo⟩ : ∃ po,po = peoS V E9 := ⟨_,rfl⟩
     have hca := perfect_any (some ⟨f,0,none⟩) V E9 wr (GL.of (unhide hf)) ((unhide hT').ext (unhide hP).extf)
     unfold PoPost at hca
     rw [← hq, ← hpo] at hca
     obtain ⟨m9,hm9⟩ : ∃ m9,m9 = (po.getD []).length := ⟨_,rfl⟩
     rw [← hm9] at hca
     have hlw := hide hlaw
     clear hlaw hq hpo hm9 hE9
     refine hca.mono ?_
     clear hca
     rintro _ y6 ⟨Ap,cp,rfl,ho,hxc⟩
     clear ho
     refine ⟨_,rfl, ?_⟩
     replace hP : Hid (Sp w [] w [] [] [] y6) := hide ((unhide hP).ext hxc)
     clear hxc
     generalize htu0 : Value.tuple _ = tu
     have htu := hide htu0
     clear htu0
     refine wpO_val rfl (run_move rfl rfl) ?_
     go_frame
     refine wpO_val rfl (run_extract (i := 0) (v := .slice Ap m9 cp) rfl (unhide htu).symm rfl) ?_
     go_frame
     refine wpO_val rfl (run_extract (i := 1) (v := .bool q) rfl (unhide htu).symm rfl) ?_
     go_frame
     iterate 2
      refine wpO_want rfl ?_
      go_simp
     refine wpO_done ?_
     try go_frame
     clear htu
     have hqq : (q == ((k : Int) == 0)) = true := by rw [unhide hlw]; by_cases h0 : k = 0 <;> simp [h0]
     try dsimp only
     repeat ((fail_if_success (with_reducible refine wp_reg (id := 17) ?_)); (first | go_values | go_skip | go_step | go_guarded | go_upon | go_in | go_back | fail))
     with_reducible refine wp_reg (id := 17) ?_
     refine wpO_want rfl ?_
     go_simp
     have hca := known25_any y6 ((unhide hT').ext (unhide hP).extf)
     refine hca.mono ?_
     clear hca
     rintro _ y7 ⟨rfl,hxc⟩
     refine ⟨_,rfl, ?_⟩
     replace hP : Hid (Sp w [] w [] [] [] y7) := hide ((unhide hP).ext hxc)
     clear hxc
     try go_frame
     iterate 7
      refine wpO_want rfl ?_
      go_simp
     refine wpO_done ?_
     try go_frame
     go_wp2_with fail
     refine Sp.leaves0 ?_
     exact ⟨_,results_tmp rfl _ _ _,rfl,(unhide hP).extf⟩
   ·skip
    have hil : ¬ (i : Int) < (n : Int) := by omega
    clear hlt hin
    try dsimp only
    repeat ((fail_if_success (with_reducible refine wp_reg (id := 10) ?_)); (first | go_values | go_skip | go_step | go_guarded | go_upon | go_in | go_back | fail))
    with_reducible refine wp_reg (id := 10) ?_
    iterate 5
     refine wpO_want rfl ?_
     go_simp
    refine wpO_out (by rfl) ?_
    go_frame
    refine wpO_out (by rfl) ?_
    go_frame
    refine wpO_want rfl ?_
    go_simp
    refine wpO_done ?_
    try go_frame
    clear hil
    try dsimp only
    repeat ((fail_if_success (with_reducible refine wp_reg (id := 16) ?_)); (first | go_values | go_skip | go_step | go_guarded | go_upon | go_in | go_back | fail))
    with_reducible refine wp_reg (id := 16) ?_
    refine wpO_val rfl (run_move rfl rfl) ?_
    go_frame
    refine wpO_want rfl ?_
    go_simp
    obtain ⟨E9,hE9⟩ : ∃ E9,E9 = cutL (selL bf l i) (flE V E) := ⟨_,rfl⟩
    obtain ⟨q,hq⟩ : ∃ q,q = (peoS V E9).isSome := ⟨_,rfl⟩
    have hlaw := sel_law (unhide hi) (unhide hV) (unhide hll) (b := bf) (i := i) (by have := unhide hin'; have := unhide hn; omega)
    rw [← hE9, ← hq, ← unhide hk] at hlaw
    rw [← hE9] at hf
    obtain ⟨po,hpo⟩ : ∃ po,po = peoS V E9 := ⟨_,rfl⟩
    have hca := perfect_any (some ⟨f,0,none⟩) V E9 wr (GL.of (unhide hf)) ((unhide hT').ext (unhide hP).extf)
    unfold PoPost at hca
    rw [← hq, ← hpo] at hca
    obtain ⟨m9,hm9⟩ : ∃ m9,m9 = (po.getD []).length := ⟨_,rfl⟩
    rw [← hm9] at hca
    have hlw := hide hlaw
    clear hlaw hq hpo hm9 hE9
    refine hca.mono ?_
    clear hca
    rintro _ y6 ⟨Ap,cp,rfl,ho,hxc⟩
    clear ho
    refine ⟨_,rfl, ?_⟩
    replace hP : Hid (Sp w [] w [] [] [] y6) := hide ((unhide hP).ext hxc)
    clear hxc
    generalize htu0 : Value.tuple _ = tu
    have htu := hide htu0
    clear htu0
    refine wpO_val rfl (run_move rfl rfl) ?_
    go_frame
    refine wpO_val rfl (run_extract (i := 0) (v := .slice Ap m9 cp) rfl (unhide htu).symm rfl) ?_
    go_frame
    refine wpO_val rfl (run_extract (i := 1) (v := .bool q) rfl (unhide htu).symm rfl) ?_
    go_frame
    iterate 2
     refine wpO_want rfl ?_
     go_simp
    refine wpO_done ?_
    try go_frame
    clear htu
    have hqq : (q == ((k : Int) == 0)) = true := by rw [unhide hlw]; by_cases h0 : k = 0 <;> simp [h0]
    try dsimp only
    repeat ((fail_if_success (with_reducible refine wp_reg (id := 17) ?_)); (first | go_values | go_skip | go_step | go_guarded | go_upon | go_in | go_back | fail))
    with_reducible refine wp_reg (id := 17) ?_
    refine wpO_want rfl ?_
    go_simp
    have hca := known25_any y6 ((unhide hT').ext (unhide hP).extf)
    refine hca.mono ?_
    clear hca
    rintro _ y7 ⟨rfl,hxc⟩
    refine ⟨_,rfl, ?_⟩
    replace hP : Hid (Sp w [] w [] [] [] y7) := hide ((unhide hP).ext hxc)
    clear hxc
    try go_frame
    iterate 7
     refine wpO_want rfl ?_
     go_simp
    refine wpO_done ?_
    try go_frame
    go_wp2_with fail
    refine Sp.leaves0 ?_
    exact ⟨_,results_tmp rfl _ _ _,rfl,(unhide hP).extf⟩
end Go.Proofs.YtmokciekndllpaaGreatDoor
namespace Go.Proofs.YtmokciekndllpaaGreatDoor
open Go Go.RowKit Go.ChangeShapes Go.WideShapes Go.Deep
section
variable {H : Type} {enc : TypeId × Value → H} {w : World} {base : Nat} {spare : Nat → Bool} {held : Bool} {fuel : Nat} {x : DataW H × List MemPlace} {a : Option Addr} {len cap : Nat}
end
theorem gTab : Tryz.prog.globalNamed "math/bits.deBruijn64tab" = some 0 := by kernel_rfl
theorem tTab : (Tryz.prog.globals[0]?).map (·.type) = some 207 := by kernel_rfl
def laidL : List (String × DataW Unit) := [("math/bits.deBruijn64tab",Rows.laid_math_bits_deBruijn64tab)]
theorem laid_list {H : Type} : (Rows.laid_math_bits_deBruijn64tab : DataW H) = .agg (Lib.deBruijn64tab.map fun (n : Nat) => DataW.lit (.int .u8 (n : Int))) := by kernel_rfl
theorem tab_len : Lib.deBruijn64tab.length = 64 := by decide
theorem tab_of_laid {W : World} (h : laidMetH Tryz.prog laidL W) : Tab W := by
 rw [MakeChecks.laidMetH_plain _ _ _ (by kernel_rfl)] at h
 obtain ⟨ps,⟨g0,t0,cs0,f0,p0,q0,hg0,ht0,hv0,hd0,_⟩,_⟩ := h
 obtain rfl := Option.some.inj (gTab.symm.trans hg0)
 obtain rfl := Option.some.inj (tTab.symm.trans ht0)
 obtain ⟨xs,m1,rfl,hx1,hlen,hn3,hel⟩ := DataW.trod_array Tryz.underlying207 hd0
 rw [laid_list] at hx1
 simp only [Prod.mk.injEq,DataW.agg.injEq] at hx1
 have hc8 : Tryz.prog.cellsOf 5 = 1 := by kernel_rfl
 intro j hj
 have hj64 : j < 64 := by rw [tab_len] at hj; exact hj
 have hjx : j < xs.length := by omega
 have h0 := hel j hj64
 rw [List.getElem?_eq_getElem hjx] at h0
 obtain ⟨k,e1,e2,_⟩ := DataW.trod_int Tryz.underlying5 h0
 have hl := congrArg (fun l => l[j]?) hx1.1
 simp only [List.getElem?_map,List.getElem?_eq_getElem hjx,List.getElem?_eq_getElem hj,Option.map_some,e2,Option.some.injEq,DataW.lit.injEq,Lit.int.injEq,true_and] at hl
 rw [World.var?_cell hg0 hv0 j]
 rw [hc8,Nat.mul_one] at e1
 have e3 : (cs0.toList.drop j)[0]? = some (.int .u8 k) := by
  have := congrArg (fun l => l[0]?) e1
  simpa using this
 rw [List.getElem?_drop,Nat.add_zero,Array.getElem?_toList] at e3
 rw [e3, ← hl]
 simp [hj]
end Go.Proofs.YtmokciekndllpaaGreatDoor
namespace Go.Proofs.YtmokciekndllpaaGreatDoor.triangulationNoSubsetRemovableRow
open Go.ChangeShapes Go.WideShapes Go.ChangeAt Go.RowKit
set_option linter.unusedVariables false
theorem own : ownKnob Tryz.prog.godebug = none := by kernel_rfl
theorem laidOut : laidOutB Tryz.prog = true := by kernel_rfl
theorem door_met (os : Os) (args : Array Value) : laidMetH Tryz.prog laidL ((World.doorLaid Tryz.prog 400 os).forCall (fun _ _ => 0) ⟨#[],args,[]⟩).memory :=
 laidMetH_of_parts3 (fuel := 8) (laidMet_of_run' 8 (by kernel_rfl) (by kernel_rfl)) (by kernel_rfl) (by kernel_rfl)
set_option maxRecDepth 100000 in
theorem lifted (os : Os) (started : os.Started) (H : Type) (enc : TypeId × Value → H) :
  ReturnsInHanded {} Tryz.checked os 6 .any (fun w args => (Rows.triangulationNoSubsetRemovableSpec.pre enc Tryz.prog Tryz.f6 [] false w args ∧ laidMetH Tryz.prog laidL w) ∧ sizedMet enc Tryz.prog Tryz.f6 (OpenSpec.ofChange Rows.triangulationNoSubsetRemovableSpec) false w args)
   (Rows.triangulationNoSubsetRemovableSpec.post enc Tryz.prog Tryz.f6 false true false false) := by
 refine returnsInHanded_of_change_and (C := Tryz.checked) (X := fun w _ => laidMetH Tryz.prog laidL w) (fun _ _ _ hh h => h.of_heap hh) own started (by kernel_rfl) Tryz.func6
  (ChangeSpec.witness_shaped (enc := enc) (C := Tryz.checked) (os := os) (X := fun w _ => laidMetH Tryz.prog laidL w) false (World.doorLaid Tryz.prog 400 os) #[.slice none 0 0, .int .u16 0] 8 rfl (World.shaped_of_RefB (by kernel_rfl) (by kernel_rfl)) (by kernel_rfl) (by kernel_rfl) (by kernel_rfl) (door_met os _)) ?_
 intro W base args ds gs before hval0 hW _ _ hL _
 have hval : ∀ (j : Nat) t v,Tryz.f6.params[j]? = some t → args[j]? = some v → Value.okWide Tryz.prog W .any base t v := hval0
 have hW' := hW
 obtain ⟨p,q,hA0,hV,rfl,hfz,hnd⟩ := hW
 have hA : DataW.TrodAll enc Tryz.prog W 0 (fun _ => true) true Tryz.f6.params.toList args.toList ds p := hA0
 rw [Tryz.params6] at hA hval
 obtain ⟨v0,vs0,d0,ds0,p0,q0,hargs,rfl,rfl,h0,r0⟩ := trodAll_cons hA
 obtain ⟨v1,vs1,d1,ds1,p1,q1,rfl,rfl,rfl,h1,r1⟩ := trodAll_cons r0
 obtain ⟨rfl,rfl,rfl⟩ := trodAll_nil r1
 obtain rfl : args = #[v0,v1] := by cases args; simp_all
 obtain ⟨rfl,rfl⟩ := trodVars_none hV
 obtain ⟨a0,len0,cap0,rfl⟩ := okWide_slice Tryz.underlying22 (hval 0 22 v0 rfl rfl)
 have k0 := h0
 have lt0 : ∀ x ∈ p0,x.block < W.heap.size := by obtain ⟨m,hm⟩ := k0; exact DataW.trod_lt m _ _ _ hm
 obtain ⟨fu0,hf0⟩ := h0
 obtain ⟨L0,hn0,hs0,ho0,hm0,hz0⟩ := open_edits (by simpa [Value.cells] using hf0)
 subst hn0
 obtain ⟨a1,rfl,rfl,rfl,w1⟩ := open_int Tryz.underlying55 (hval 1 55 v1 rfl rfl) h1
 clear hA0 hval0
 refine (triangulationNoSubsetRemovable_walk a0 L0 cap0 a1 W hs0 (Go.bounds_u16 w1) (tab_of_laid hL)).mono fun e W' ⟨he,bel⟩ => ?_
 subst he
 exact ⟨_,rfl,_,_,_,[],_,[],hW',trodAll_mk1 (shut_bool Tryz.underlying4 _),(trodAll_cons_mk (Below.trod laidOut (by kernel_rfl) (of_decide_eq_true (by kernel_rfl)) k0 bel lt0) (trodAll_cons_mk (shut_int Tryz.underlying55 w1) trodAll_mk0)),rfl,bel.frame _,fun h => by cases h⟩
theorem and_ofB {a b : Bool} (ha : a = true) (hb : b = true) : (a && b) = true := by rw [ha,hb]; rfl
set_option maxHeartbeats 16000000 in
theorem joined : joinedFacts Tryz.pinned.checked.prog 6 Tryz.f6 Rows.triangulationNoSubsetRemovableSpec Rows.triangulationNoSubsetRemovableRow = true := by
 unfold joinedFacts
 repeat' (with_reducible refine and_ofB ?_ ?_)
 all_goals (as_aux_lemma => kernel_rfl)
theorem over : Rows.triangulationNoSubsetRemovableRow.holds Tryz.pinned (OpenSpec.ofChange Rows.triangulationNoSubsetRemovableSpec) :=
 OpenClaim.holds_of_wide 6 Tryz.f6 rfl rfl rfl rfl rfl rfl rfl ⟨rfl,rfl,rfl,rfl,rfl⟩ rfl rfl rfl rfl rfl (by kernel_rfl) Tryz.func6 joined
  (of_decide_eq_true (by kernel_rfl)) (by unfold Func.isWrapper; first | (rw [if_pos (by decide +kernel)]; kernel_rfl) | (rw [if_neg (by decide +kernel)]; exact ⟨rfl,rfl⟩))
  (fun os started H enc _ => lifted os started H enc)
end Go.Proofs.YtmokciekndllpaaGreatDoor.triangulationNoSubsetRemovableRow
namespace Go.Proofs.YtmokciekndllpaaGreatDoor
open Go
theorem triangulationNoSubsetRemovable_holds : Rows.TriangulationNoSubsetRemovableCardSaid :=
 Claim7.holds_tied_plain_at .later [] [.data] true (true, "4ea48a0faabaef4b59b1cce9920f05029ff3d82c3f215ac36c3bcd021fa08ae2") true
  triangulationNoSubsetRemovableRow.over (fun _ h => by cases h) (by kernel_rfl) (fun _ h => by cases h) triangulationNoSubsetRemovable_row_tie rfl ⟨rfl,rfl⟩ (by kernel_rfl) rfl
  (fun f fn hf hfn => by
   obtain rfl : f = 6 := Option.some.inj ((show Tryz.prog.funcNamed "palmette/palmettelaw25.TriangulationNoSubsetRemovable" = some 6 by kernel_rfl).symm.trans hf) |>.symm
   obtain rfl : fn = Tryz.f6 := (Option.some.inj (Tryz.func6.symm.trans hfn)).symm
   exact ⟨by kernel_rfl,fun j t ht => by
    rw [Tryz.params6] at ht
    have h3 : t = 22 ∨ t = 55 := by
     rcases j with _ | _ | j
     ·simp at ht; simp [ht]
     ·simp at ht; simp [ht]
     ·simp at ht
    rcases h3 with rfl | rfl
    ·exact (show Tryz.prog.wantsStandIn 22 = false by kernel_rfl)
    ·exact (show Tryz.prog.wantsStandIn 55 = false by kernel_rfl)⟩)
  (by kernel_rfl)
#print axioms triangulationNoSubsetRemovable_holds
end Go.Proofs.YtmokciekndllpaaGreatDoor
