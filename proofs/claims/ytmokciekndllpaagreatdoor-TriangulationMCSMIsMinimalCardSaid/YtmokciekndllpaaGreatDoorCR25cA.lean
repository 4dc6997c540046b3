/- Parts of a proof, laid together. Each part says its own conditions. -/
import Derived.Test.YtmokciekndllpaaGreatDoorC5
import Derived.Test.YtmokciekndllpaaGreatDoorRows
import Derived.Deep.Slices
import Derived.Deep.Fields
import Derived.ChangeSame
import Derived.OpenShut
import Derived.Test.YtmokciekndllpaaGreatDoorC13
import Derived.Test.YtmokciekndllpaaGreatDoorC14
import Derived.Test.YtmokciekndllpaaGreatDoorC24
import Derived.Test.YtmokciekndllpaaGreatDoorC11
import Derived.ChangeKeysEq
import Derived.Test.YtmokciekndllpaaGreatDoorC16
import Derived.Test.YtmokciekndllpaaGreatDoorC25
import Derived.Test.YtmokciekndllpaaGreatDoorC20
import Derived.Test.YtmokciekndllpaaGreatDoorC26
import Derived.Test.YtmokciekndllpaaGreatDoorC27
import Derived.Test.YtmokciekndllpaaGreatDoorC39
import Derived.Test.YtmokciekndllpaaGreatDoorC40
set_option maxRecDepth 100000
set_option maxHeartbeats 16000000
namespace Go.Proofs.YtmokciekndllpaaGreatDoor
open Go Go.RowKit
theorem uh {p : Prop} (h : Hid p) : p := unhide h
end Go.Proofs.YtmokciekndllpaaGreatDoor
namespace Go.Proofs.YtmokciekndllpaaGreatDoor
open Go Go.RowKit Go.ChangeShapes Go.WideShapes Go.Deep
section
variable {H:Type} {enc:TypeId×Value→H} {P:Program} {w:World} {base:Nat} {spare:Nat→Bool} {held:Bool}
theorem open_slice_fields {t e:TypeId} {fs:Array Field} {fuel:Nat} {cs:List Value} {x:DataW H×List MemPlace} (ht:P.underlying t=some (.slice e)) (he:P.underlying e=some (.struct fs))
  (hone:oneCellFields P fs=true) (hC:P.cellsOf e=fs.size) (h:DataW.trod enc P w base spare held fuel t cs=some x) :
  cs=[.slice none 0 0] ∨
  ∃ (a:Addr) (len cap n:Nat),cs=[.slice (some a) len cap]∧len≤cap∧cap≤maxLen ∧
   ∀ i,i < len → ∀ (j:Nat) (f:Field),fs[j]? = some f → ∃ (v:Value) (y:DataW H×List MemPlace),w.cell? (a.add (i*fs.size+j))=some v∧DataW.trod enc P w base spare held n f.type [v]=some y:=by
 rcases open_slice ht h with h0 | ⟨a,len,cap,m,n,D,Pl,hcs,hb,hl,hm,hmm,hx,hi⟩
 ·exact .inl h0.1
 ·cases n with
  | zero =>
   refine .inr ⟨a,len,cap,0,hcs,hl,hm,fun i hil=>?_⟩
   have hle:len≤m:=by rw [hmm];split <;> omega
   obtain ⟨cs',hc,ht'⟩:=hi i (by omega)
   cases ht'
  | succ n =>
   refine .inr ⟨a,len,cap,n,hcs,hl,hm,fun i hil j f hj=>?_⟩
   have hle:len≤m:=by rw [hmm];split <;> omega
   obtain ⟨cs',hc,ht'⟩:=hi i (by omega)
   rw [hC] at hc
   obtain ⟨ys,n',hn',hy,hlen,hyl,hf⟩:=DataW.trod_struct he ht'
   obtain rfl:n'=n:=by omega
   obtain ⟨_,hcl,hat⟩:=World.cells?_some hc
   obtain ⟨ho,hk⟩:=hone_of hone j f hj
   have hjl:j < fs.size:=(Array.getElem?_eq_some_iff.1 hj).1
   have hcell:=hat j hjl
   have hv:cs'[j]? = some (cs'[j]'(by omega)):=List.getElem?_eq_getElem (by omega)
   have h1:=hf j f hj
   rw [ho,hk] at h1
   have hone':(cs'.drop j).take 1=[cs'[j]'(by omega)]:=by
    rw [List.drop_eq_getElem_cons (by omega)]
    rfl
   rw [hone'] at h1
   have hys:ys[j]? = some (ys[j]'(by omega)):=List.getElem?_eq_getElem (by omega)
   refine ⟨_,_,?_,h1.trans hys⟩
   rw [← Go.Deep.add_add,hcell,hv]
end
theorem slAt_of {α:Type} [Inhabited α] {enc:α→List Value} {k:Nat} {w:World} {a:Addr} {len:Nat} {p:α→Prop} (h0:∀ x, ∃ u:Value,(enc x)[0]? = some u)
  (h:∀ i,i < len → ∃ x:α,(∀ j u,(enc x)[j]? = some u→w.cell? (a.add (i*k+j))=some u)∧p x) : ∃ L:List α,L.length=len∧SlAt enc k w (some a) L ∧ ∀ x∈L,p x:=by
 obtain ⟨f,hf⟩:=choose_lt h
 refine ⟨(List.range len).map f,by simp,fun hne=>?_,fun x hx=>?_⟩
 ·have hpos:0 < len:=by
   rcases Nat.eq_zero_or_pos len with h | h
   ·subst h;simp at hne
   ·exact h
  obtain ⟨u,hu⟩:=h0 (f 0)
  have hc:=(hf 0 hpos).1 0 u hu
  obtain ⟨b,off,spot⟩:=a
  have hspot:spot=none:=by simpa [Addr.add] using World.cell?_spot hc
  subst hspot
  have hlt:=World.block_lt_of_cell? w _ hc
  refine ⟨b,off,rfl,by simpa [Addr.add] using hlt,fun i x hx j u hu=>?_⟩
  rw [List.getElem?_map] at hx
  obtain ⟨i',hi',rfl⟩:=Option.map_eq_some_iff.1 hx
  obtain ⟨hil,rfl⟩:=List.getElem?_eq_some_iff.1 hi'
  simp only [List.getElem_range] at hu
  have:=(hf i (by simpa using hil)).1 j u hu
  unfold Addr.add at this
  split at this
  ·rename_i hz
   rw [show off+i*k+j=off by omega]
   exact this
  ·rw [show off+i*k+j=off+(i*k+j) by omega]
   exact this
 ·obtain ⟨i,hi,rfl⟩:=List.mem_map.1 hx
  exact (hf i (List.mem_range.1 hi)).2
def okD (d:Ed) : Prop:=i64ok d.1∧i64ok d.2.1∧i64ok d.2.2.1∧i64ok d.2.2.2.2
theorem i64_of_wf {n:Int} (h:(Lit.int .i64 n).wf=true) : i64ok n:=by
 have:=Go.bounds_i64 h
 unfold i64ok
 omega
section
variable {H:Type} {enc:TypeId×Value→H} {w:World} {base:Nat} {spare:Nat→Bool} {held:Bool} {fuel:Nat} {x:DataW H×List MemPlace} {a:Option Addr} {len cap:Nat}
theorem open_edits (h:DataW.trod enc Tryz.prog w base spare held fuel 22 [.slice a len cap]=some x) : ∃ L:List Ed,L.length=len∧SlAt encD 5 w a L∧(∀ d∈L,okD d)∧len≤9223372036854775807∧len≤cap:=by
 rcases open_slice_fields Tryz.underlying22 Tryz.underlying63 (by kernel_rfl) (by kernel_rfl) h with h0 | ⟨a',len',cap',n,hcs,hl,hm,hf⟩
 ·simp at h0
  obtain ⟨rfl,rfl,rfl⟩:=h0
  exact ⟨[],rfl,SlAt.nil,by simp,by omega,by omega⟩
 ·simp at hcs
  obtain ⟨rfl,rfl,rfl⟩:=hcs
  obtain ⟨L,h1,h2,h3⟩:=slAt_of (α:=Ed) (enc:=encD) (k:=5) (w:=w) (a:=a') (len:=len) (p:=okD) (fun x=>⟨_,rfl⟩) (fun i hi=>by
   obtain ⟨v0,y0,c0,r0⟩:=hf i hi 0 _ rfl
   obtain ⟨v1,y1,c1,r1⟩:=hf i hi 1 _ rfl
   obtain ⟨v2,y2,c2,r2⟩:=hf i hi 2 _ rfl
   obtain ⟨v3,y3,c3,r3⟩:=hf i hi 3 _ rfl
   obtain ⟨v4,y4,c4,r4⟩:=hf i hi 4 _ rfl
   obtain ⟨n0,e0,_,w0⟩:=DataW.trod_int Tryz.underlying3 r0
   obtain ⟨n1,e1,_,w1⟩:=DataW.trod_int Tryz.underlying3 r1
   obtain ⟨n2,e2,_,w2⟩:=DataW.trod_int Tryz.underlying3 r2
   obtain ⟨n3,e3,_,w3⟩:=DataW.trod_int Tryz.underlying5 r3
   obtain ⟨n4,e4,_,w4⟩:=DataW.trod_int Tryz.underlying3 r4
   simp at e0 e1 e2 e3 e4
   subst e0 e1 e2 e3 e4
   refine ⟨(n0,n1,n2,n3,n4),fun j u hu=>?_,i64_of_wf w0,i64_of_wf w1,i64_of_wf w2,i64_of_wf w4⟩
   match j,hu with
   | 0,hu=>simp [encD] at hu;subst hu;exact c0
   | 1,hu=>simp [encD] at hu;subst hu;exact c1
   | 2,hu=>simp [encD] at hu;subst hu;exact c2
   | 3,hu=>simp [encD] at hu;subst hu;exact c3
   | 4,hu=>simp [encD] at hu;subst hu;exact c4)
  exact ⟨L,h1,h2,h3,by unfold maxLen at hm;omega,hl⟩
end
end Go.Proofs.YtmokciekndllpaaGreatDoor
namespace Go.Proofs.YtmokciekndllpaaGreatDoor
open Go Go.RowKit
theorem posI_congr {α:Type} {p q:α→Bool}:∀ {l:List α},(∀ x∈l,p x=q x)→posI p l=posI q l:=by
 intro l h
 unfold posI
 have:l.findIdx? p=l.findIdx? q:=by
  induction l with
  | nil=>rfl
  | cons x r ih =>
   rw [List.findIdx?_cons,List.findIdx?_cons,h x (by simp),ih (fun y hy=>h y (by simp [hy]))]
 rw [this]
theorem posI_cases {α:Type} (p:α→Bool) (l:List α) : posI p l = -1∧(∀ x∈l,p x=false) ∨ ∃ i, ∃ h:i < l.length,posI p l=(i:Int)∧p l[i]=true:=by
 unfold posI
 cases hf:l.findIdx? p with
 | none=>exact .inl ⟨rfl,by simpa [List.findIdx?_eq_none_iff] using hf⟩
 | some i =>
  obtain ⟨h,hp,_⟩:=List.findIdx?_eq_some_iff_getElem.1 hf
  exact .inr ⟨i,h,rfl,hp⟩
theorem run_neq_Set {ρ:Operand→Value} {o:Oper} {x y:Operand} {w:World} {N M:Nat} {t:TypeId} (ho:o.op=.binOp .neq 25 x y t) (hx:ρ x=.agg (setC N)) (hy:ρ y=.agg (setC M)) : (execOp ρ o).run Tryz.prog w=.ok (.value (.bool (!eqS N M))) w:=by
 have h:=cmp_Set w N M
 generalize setC N=C at *
 generalize setC M=D at *
 unfold execOp
 simp only [ho,hx,hy]
 simp [go_sem,h]
theorem wrongR_ok {op u v wt:Int} {V:List (Int×Thing)} {E:List ((Int×Int)×Thing)} (hop:op=0∨op=1∨op=2∨op=3∨op=4∨op=5∨op=6∨op=7) (h2:w2B op u v wt=false) (h3:w3B op u v=false)
  (k0:op=0→hasV u V=false) (k1:op≠0→hasV u V=true) (k2:op=2→hasV v V=true∧hasE u v E=false∧E.length < 1024) (k3:op=3∨op=6∨op=7→hasE u v E=true) : wrongR op u v wt V E=0:=by
 unfold wrongR
 have h1:w1B op=false:=by unfold w1B;simp;omega
 rw [h1,h2,h3,if_neg (by simp),if_neg (by simp),if_neg (by simp)]
 generalize hasV u V=iu at *
 generalize hasV v V=iv at *
 generalize hasE u v E=ie at *
 generalize E.length=n at *
 rcases hop with rfl | rfl | rfl | rfl | rfl | rfl | rfl | rfl <;> simp [pairsB] at k0 k1 k2 k3 ⊢ <;> simp_all
theorem refV_same {op u lab wt:Int} {V:List (Int×Thing)} (h0:op≠0) (h1:op≠1) (h4:op≠4) (h5:op≠5) : refV op u lab wt V=V:=by
 unfold refV
 rw [if_neg h0]
 split
 ·rfl
 ·rw [flat_map (g:=id) (fun x _=>by simp [fV,h1,h4,h5])]
  simp
section
variable {u v lab wt:Int} {E:List ((Int×Int)×Thing)} (hlo:∀ e∈E,e.1.1 < e.1.2) (hn:(E.map (·.1)).Nodup)
include hlo hn
theorem refE_3:refE 3 u v lab wt E=E.filter fun q=>decide (q.1≠(min u v,max u v)):=by
 simp only [refE,Int.reduceEq,if_false]
 rw [flat_zip (g:=fun x=>if (decide (x.1≠(min u v,max u v)))=true then [x] else []) (fun x i hx=>by
  have hp:=pos_iff (u:=u) (v:=v) hlo hn hx
  rw [show posD 3 u v E=posI (isE u v) E from by simp [posD,pairsB]]
  by_cases hh:x.1=(min u v,max u v)
  ·simp [fE,hp.2 hh,hh]
  ·have:¬ ((i:Int)=posI (isE u v) E):=fun e=>hh (hp.1 e)
   simp [fE,hh,this]),flat_filter (fun x _=>rfl)]
end
end Go.Proofs.YtmokciekndllpaaGreatDoor
namespace Go.Proofs.YtmokciekndllpaaGreatDoor
open Go
section
variable {V:List (Int×Thing)} {E:List ((Int×Int)×Thing)}
theorem hasE_ne (hi:GInv V E) {u v:Int} (h:hasE u v E=true) : u≠v:=by
 unfold hasE at h
 rw [decide_eq_true_eq,posI_nonneg] at h
 obtain ⟨p,hp,h1⟩:=h
 have h2:=hi.lo p hp
 unfold isE at h1
 simp at h1
 omega
def Clq (E:List ((Int×Int)×Thing)) (l:List Int) : Prop:=∀ x∈l, ∀ y∈l,x≠y→hasE x y E=true
def Smp (E:List ((Int×Int)×Thing)) (v:Int) (l:List Int) : Prop:=∀ x∈l, ∀ y∈l,hasE v x E=true→hasE v y E=true→x≠y→hasE x y E=true
theorem cliqueS_iff (hi:GInv V E) {r:Nat}:cliqueS E r=true↔Clq E (toL r):=by
 unfold cliqueS
 rw [List.all_eq_true]
 constructor
 ·intro h x hx y hy hne
  exact (mem_near hi).1 (subS_iff.1 (h x hx) y (mem_without.2 ⟨hy,fun e=>hne e.symm⟩))
 ·intro h v hv
  refine subS_iff.2 fun y hy=>?_
  obtain ⟨h1,h2⟩:=mem_without.1 hy
  exact (mem_near hi).2 (h v hv y h1 (fun e=>h2 e.symm))
theorem simpleS_iff (hi:GInv V E) {v:Int} {left:Nat}:simpleS E v left=true↔Smp E v (toL left):=by
 unfold simpleS
 rw [cliqueS_iff hi]
 constructor
 ·intro h x hx y hy h1 h2 hne
  exact h x (mem_and.2 ⟨(mem_near hi).2 h1,hx⟩) y (mem_and.2 ⟨(mem_near hi).2 h2,hy⟩) hne
 ·intro h x hx y hy hne
  obtain ⟨h1,h2⟩:=mem_and.1 hx
  obtain ⟨h3,h4⟩:=mem_and.1 hy
  exact h x h2 y h4 ((mem_near hi).1 h1) ((mem_near hi).1 h3) hne
def ClqR (V:List (Int×Thing)) (E:List ((Int×Int)×Thing)) (l:List Int) : Prop:=∀ i (hi:i < l.length),hasV l[i] V=true ∧ ∀ k (hk:k < i),hasE l[i] (l[k]'(Nat.lt_trans hk hi)) E=true
theorem clqR_iff (_hi:GInv V E) {l:List Int} (hn:l.Nodup) (hm:∀ x∈l,x∈V.map (·.1)) : ClqR V E l↔Clq E l:=by
 constructor
 ·intro h x hx y hy hne
  obtain ⟨i,hi',rfl⟩:=List.getElem_of_mem hx
  obtain ⟨k,hk,rfl⟩:=List.getElem_of_mem hy
  rcases Nat.lt_trichotomy i k with h1 | h1 | h1
  ·exact hasE_symm ((h k hk).2 i h1)
  ·subst h1;exact absurd rfl hne
  ·exact (h i hi').2 k h1
 ·intro h i hi'
  refine ⟨hasV_iff.2 (hm _ (List.getElem_mem hi')),fun k hk=>h _ (List.getElem_mem _) _ (List.getElem_mem _) fun e=>?_⟩
  have:=(List.getElem_inj hn).1 e
  omega
def nbrR (E:List ((Int×Int)×Thing)) (v:Int) (l:List Int) : List Int:=l.filter fun x=>decide (x≠v) && hasE v x E
theorem mem_nbr {v x:Int} {l:List Int}:x∈nbrR E v l↔x∈l∧x≠v∧hasE v x E=true:=by
 unfold nbrR
 rw [List.mem_filter,Bool.and_eq_true,decide_eq_true_eq]
theorem smp_nbr (hi:GInv V E) {v:Int} {l:List Int} (hn:l.Nodup) (hm:∀ x∈l,x∈V.map (·.1)) : ClqR V E (nbrR E v l)↔Smp E v l:=by
 have h0:=clqR_iff hi (l:=nbrR E v l) (hn.filter _) (fun x hx=>hm x (mem_nbr.1 hx).1)
 rw [h0]
 constructor
 ·intro h x hx y hy h1 h2 hne
  exact h x (mem_nbr.2 ⟨hx,(hasE_ne hi h1).symm,h1⟩) y (mem_nbr.2 ⟨hy,(hasE_ne hi h2).symm,h2⟩) hne
 ·intro h x hx y hy hne
  obtain ⟨h1,_,h2⟩:=mem_nbr.1 hx
  obtain ⟨h3,_,h4⟩:=mem_nbr.1 hy
  exact h x h1 y h3 h2 h4 hne
theorem smp_out (hi:GInv V E) {v:Int} {l:List Int}:Smp E v (outR l v)↔Smp E v l:=by
 constructor
 ·intro h x hx y hy h1 h2 hne
  exact h x (mem_out.2 ⟨hx,(hasE_ne hi h1).symm⟩) y (mem_out.2 ⟨hy,(hasE_ne hi h2).symm⟩) h1 h2 hne
 ·intro h x hx y hy
  exact h x (mem_out.1 hx).1 y (mem_out.1 hy).1
def Peo (E:List ((Int×Int)×Thing)) : List Int→Prop
 | []=>True
 | v::l=>Smp E v l∧Peo E l
theorem Smp.sub {v:Int} {l m:List Int} (h:Smp E v m) (hs:∀ x∈l,x∈m) : Smp E v l:=fun x hx y hy=>h x (hs x hx) y (hs y hy)
theorem Peo.sub:∀ {l m:List Int},l.Sublist m→Peo E m→Peo E l
 | _,_,.slnil,h=>h
 | _,_,.cons _ hs,h=>Peo.sub hs h.2
 | _,_,.cons_cons _ hs,h=>⟨h.1.sub hs.subset,Peo.sub hs h.2⟩
def Cho (E:List ((Int×Int)×Thing)) (l:List Int) : Prop:=∃ o,o.Perm l∧Peo E o
theorem Cho.out {l:List Int} (h:Cho E l) (v:Int) : Cho E (outR l v):=by
 obtain ⟨o,hp,ho⟩:=h
 exact ⟨outR o v,hp.filter _,Peo.sub (List.filter_sublist) ho⟩
theorem Cho.back {l:List Int} (hn:l.Nodup) {v:Int} (hv:v∈l) (hs:Smp E v l) (h:Cho E (outR l v)) : Cho E l:=by
 obtain ⟨o,hp,ho⟩:=h
 exact ⟨v::o,(hp.cons v).trans (perm_out1 hn hv),hs.sub (fun x hx=>(mem_out.1 (hp.mem_iff.1 hx)).1),ho⟩
theorem Cho.first (hi:GInv V E) {l:List Int} (h:Cho E l) (hne:l≠[]) : ∃ v∈l,Smp E v l:=by
 obtain ⟨o,hp,ho⟩:=h
 cases o with
 | nil=>exact absurd hp.symm.eq_nil hne
 | cons v o =>
  refine ⟨v,hp.mem_iff.1 (by simp),(smp_out hi).1 (ho.1.sub fun x hx=>?_)⟩
  obtain ⟨h1,h2⟩:=mem_out.1 hx
  rcases List.mem_cons.1 (hp.mem_iff.2 h1) with h3 | h3
  ·exact absurd h3 h2
  ·exact h3
end
open Classical in
noncomputable def ordR (V:List (Int×Thing)) (E:List ((Int×Int)×Thing)) : Nat→List Int→Option (List Int)
 | 0,_=>none
 | f+1,l=>if l=[] then some [] else l.findSome? fun x=>if ClqR V E (nbrR E x (outR l x)) then (ordR V E f (outR l x)).map (x :: ·) else none
section
open Classical
variable {V:List (Int×Thing)} {E:List ((Int×Int)×Thing)}
theorem ordR_sound (hi:GInv V E) : ∀ (f:Nat) (l o:List Int),l.Nodup→(∀ x∈l,x∈V.map (·.1))→ordR V E f l=some o→o.Perm l∧Peo E o
 | 0,l,o,_,_,h=>by cases h
 | f+1,l,o,hn,hm,h=>by
  rw [ordR] at h
  split at h
  ·rename_i hl
   cases h
   subst hl
   exact ⟨.nil,trivial⟩
  ·obtain ⟨l1,x,l2,rfl,hx,_⟩:=List.findSome?_eq_some_iff.1 h
   have hxl:x∈l1++x::l2:=by simp
   generalize l1++x::l2=l at *
   split at hx
   ·rename_i hc
    obtain ⟨o',ho',rfl⟩:=Option.map_eq_some_iff.1 hx
    have hn2:(outR l x).Nodup:=hn.filter _
    have hm2:∀ y∈outR l x,y∈V.map (·.1):=fun y hy=>hm y (mem_out.1 hy).1
    obtain ⟨h1,h2⟩:=ordR_sound hi f _ _ hn2 hm2 ho'
    refine ⟨(h1.cons x).trans (perm_out1 hn hxl),?_,h2⟩
    have:=(smp_nbr hi hn2 hm2).1 hc
    exact this.sub fun y hy=>h1.mem_iff.1 hy
   ·cases hx
theorem ordR_some (hi:GInv V E) : ∀ (f:Nat) (l:List Int),l.Nodup→(∀ x∈l,x∈V.map (·.1))→l.length < f→Cho E l→(ordR V E f l).isSome=true
 | 0,l,_,_,h,_=>by omega
 | f+1,l,hn,hm,hf,hc=>by
  rw [ordR]
  split
  ·rfl
  ·rename_i hl
   obtain ⟨v,hv,hs⟩:=Cho.first hi hc hl
   rw [List.findSome?_isSome_iff]
   have hn2:(outR l v).Nodup:=hn.filter _
   have hm2:∀ y∈outR l v,y∈V.map (·.1):=fun y hy=>hm y (mem_out.1 hy).1
   refine ⟨v,hv,?_⟩
   rw [if_pos ((smp_nbr hi hn2 hm2).2 ((smp_out hi).2 hs))]
   have:=ordR_some hi f _ hn2 hm2 (by have:=out_lt hv;omega) (hc.out v)
   simpa using this
theorem ordR_iff (hi:GInv V E) {f:Nat} {l:List Int} (hn:l.Nodup) (hm:∀ x∈l,x∈V.map (·.1)) (hf:l.length < f) : (ordR V E f l).isSome=true↔Cho E l:=by
 refine ⟨fun h=>?_,ordR_some hi f l hn hm hf⟩
 obtain ⟨o,ho⟩:=Option.isSome_iff_exists.1 h
 exact ⟨o,ordR_sound hi f l o hn hm ho⟩
end
theorem findSome_find {l:List Int} {p:Int→Bool} {g:Int→Option (List Int)} (h:∀ x∈l,p x=true→(g x).isSome=true) :
  (l.findSome? fun x=>if p x=true then g x else none)=(l.find? p).bind g:=by
 induction l with
 | nil=>rfl
 | cons a r ih =>
  rw [List.findSome?_cons,List.find?_cons]
  by_cases hp:p a=true
  ·rw [if_pos hp,hp]
   obtain ⟨o,ho⟩:=Option.isSome_iff_exists.1 (h a (by simp) hp)
   simp only [ho]
   rw [Option.bind_some,ho]
  ·rw [if_neg hp]
   have:p a=false:=by simpa using hp
   rw [this]
   simp only
   exact ih fun x hx=>h x (by simp [hx])
open Classical in
theorem poS_ordR {V:List (Int×Thing)} {E:List ((Int×Int)×Thing)} (hi:GInv V E) (f:Nat) : ∀ (N:Nat),(∀ x∈toL N,x∈V.map (·.1))→(toL N).length < f→poS E f N=ordR V E f (toL N):=by
 induction f with
 | zero=>intro N _ h;exact absurd h (Nat.not_lt_zero _)
 | succ f ih =>
  intro N hm hf
  have hn:=toL_nodup N
  have hout:=toL_without N
  have hsim:=fun x=>simpleS_iff (E:=E) hi (v:=x) (left:=N)
  have hany:=anyB_iff (N:=N)
  rw [poS,ordR]
  generalize toL N=l at *
  by_cases hl:l=[]
  ·rw [if_neg (fun h=>hany.1 h hl),if_pos hl]
  ·rw [if_pos (hany.2 hl),if_neg hl]
   have hcl:∀ x,(ClqR V E (nbrR E x (outR l x)))↔simpleS E x N=true:=fun x=>by
    have h0:=smp_nbr hi (v:=x) (l:=outR l x) (hn.filter _) (fun y hy=>hm y (mem_out.1 hy).1)
    exact (h0.trans (smp_out hi)).trans (hsim x).symm
   have hgo:∀ x∈l,poS E f (withoutS N x)=ordR V E f (outR l x):=fun x hx=>by
    have e:toL (withoutS N x)=outR l x:=hout x
    have h1:=out_lt hx
    have h2:=ih (withoutS N x)
    rw [e] at h2
    exact h2 (fun y hy=>hm y (mem_out.1 hy).1) (by omega)
   have hsm:∀ x∈l,(ordR V E f (outR l x)).isSome=true↔Cho E (outR l x):=fun x hx=>by
    have h1:=out_lt hx
    exact ordR_iff hi (hn.filter _) (fun y hy=>hm y (mem_out.1 hy).1) (by omega)
   by_cases hc:Cho E l
   ·have h1:l.findSome? (fun x=>if ClqR V E (nbrR E x (outR l x)) then (ordR V E f (outR l x)).map (x :: ·) else none)
      = l.findSome? (fun x=>if simpleS E x N=true then (ordR V E f (outR l x)).map (x :: ·) else none):=by
     refine congrArg (fun q=>l.findSome? q) (funext fun x=>?_)
     by_cases h:simpleS E x N=true
     ·rw [if_pos h,if_pos ((hcl x).2 h)]
     ·rw [if_neg h,if_neg (fun h2=>h ((hcl x).1 h2))]
    rw [h1,findSome_find (p:=fun x=>simpleS E x N) (g:=fun x=>(ordR V E f (outR l x)).map (x :: ·)) (fun x hx _=>by
     have:=(hsm x hx).2 (hc.out x)
     simpa using this)]
    cases h:l.find? (fun v=>simpleS E v N) with
    | none=>rfl
    | some v =>
     rw [Option.bind_some,Option.bind_some,hgo v (List.mem_of_find?_eq_some h)]
   ·have h2:ordR V E (f+1) l=none:=by
     have:=mt (ordR_iff hi hn hm hf).1 hc
     simpa using this
    rw [ordR,if_neg hl] at h2
    rw [h2]
    cases h:l.find? (fun v=>simpleS E v N) with
    | none=>rfl
    | some v =>
     rw [Option.bind_some]
     have hv:=List.mem_of_find?_eq_some h
     have hs:=List.find?_some h
     rw [hgo v hv]
     have h3:ordR V E f (outR l v)=none:=by
      have:=mt (hsm v hv).1 (fun h4=>hc (Cho.back hn hv ((hsim v).1 hs) h4))
      simpa using this
     rw [h3]
     rfl
end Go.Proofs.YtmokciekndllpaaGreatDoor
namespace Go.Proofs.YtmokciekndllpaaGreatDoor
section
variable {A B:Int→Int→Prop} {S T:Int→Prop}
end
section
variable {A:Int→Int→Prop}
theorem higher_clique (hA:∀ u v,A u v→A v u) : ∀ {l0:List (Int×(Int→Bool))} {u:Int} {q:Int→Bool} {l1:List (Int×(Int→Bool))} {w:Int→Nat},MRun A w (l0++(u,q)::l1) →
  ∀ {v:Int},v∈l1.map (·.1)→q v=true → ∀ p∈l0,p.2 v=true→p.2 u=true
 | [],_,_,_,_,_,_,_,_,p,hp,_=>by cases hp
 | (y,qy)::l0,u,q,l1,w,h,v,hv,hq,p,hp,hpv=>by
  rcases List.mem_cons.1 hp with rfl | hp
  ·obtain ⟨pv,hpv',rfl⟩:=List.mem_map.1 hv
   obtain ⟨a,b,rfl⟩:=List.append_of_mem hpv'
   obtain ⟨v,qv⟩:=pv
   have h1:MRun A w ((y,qy)::((l0++(u,q)::a)++(v,qv)::b)):=by simpa using h
   have e1:=(reach_iff hA h1).1 hpv
   have h2:∃ w',MRun A w' ((u,q)::(a++(v,qv)::b)):=by
    have h3:=h.2.2
    generalize (fun y=>if qy y=true then w y+1 else w y)=w2 at h3
    clear h1 h e1 hpv hv hpv' hp
    induction l0 generalizing w2 with
    | nil=>exact ⟨_,h3⟩
    | cons a l0 ih=>exact ih _ h3.2.2
   obtain ⟨w',h2⟩:=h2
   have e2:=(reach_iff hA h2).1 hq
   have h4:MRun A w ((y,qy)::(l0++(u,q)::(a++(v,qv)::b))):=by simpa using h
   refine (reach_iff hA h4).2 ((e1.mono fun x hx=>?_).trans ?_ ((e2.flip hA).mono fun x hx=>?_))
   ·rw [List.map_append,List.map_cons];simp [hx]
   ·rw [List.map_append,List.map_cons];simp
   ·rw [List.map_append,List.map_cons];simp [hx]
  ·exact higher_clique hA h.2.2 hv hq p hp hpv
end
def PeoH (H:Int→Int→Prop) : List Int→Prop
 | []=>True
 | v::l=>(∀ x∈l, ∀ y∈l,H v x→H v y→x≠y→H x y)∧PeoH H l
def RWk (H:Int→Int→Prop) : List Int→Prop
 | []=>True
 | [_]=>True
 | x::y::l=>(x=y∨H x y)∧RWk H (y::l)
section
variable {H:Int→Int→Prop}
theorem RWk.out {a:Int} {P:Int→Prop} (hH:∀ u v,H u v→H v u) (hs:∀ x y,P x→P y→H a x→H a y→x≠y→H x y) : ∀ (l:List Int),(∀ x∈l,x≠a→P x)→RWk H l → ∀ x,x≠a→P x→(l.head? = some x∨(l.head? = some a∧H x a))→RWk H (x::(l.filter fun y=>decide (y≠a)))
 | [],_,_,x,_,_,h=>by simp [RWk]
 | [b],_,_,x,hx,_,h=>by
  by_cases e:b=a
  ·simp [e,RWk]
  ·rw [List.filter_cons_of_pos (by simpa using e)]
   simp only [List.head?_cons,Option.some.injEq] at h
   rcases h with h | ⟨h,_⟩
   ·exact ⟨.inl h.symm,by simp [RWk]⟩
   ·exact absurd h e
 | b::c::l,h0,hw,x,hx,hpx,h=>by
  have ih:=RWk.out hH hs (c::l) (fun x hx=>h0 x (List.mem_cons_of_mem _ hx)) hw.2
  have hpc:=h0 c (by simp)
  simp only [List.head?_cons,Option.some.injEq] at h ih
  by_cases e:b=a
  ·rw [List.filter_cons_of_neg (by simpa using e)]
   subst e
   have hxb:H x b:=by
    rcases h with h | h
    ·exact absurd h.symm hx
    ·exact h.2
   by_cases e2:c=b
   ·exact ih x hx hpx (.inr ⟨e2,hxb⟩)
   ·have hbc:H b c:=by
     rcases hw.1 with h1 | h1
     ·exact absurd h1.symm e2
     ·exact h1
    have h5:=ih c e2 (hpc e2) (.inl rfl)
    rw [List.filter_cons_of_pos (by simpa using e2)] at h5 ⊢
    refine ⟨?_,h5.2⟩
    by_cases e3:x=c
    ·exact .inl e3
    ·exact .inr (hs x c hpx (hpc e2) (hH _ _ hxb) hbc e3)
  ·rw [List.filter_cons_of_pos (by simpa using e)]
   have hxb:b=x:=by
    rcases h with h | h
    ·exact h
    ·exact absurd h.1 e
   subst hxb
   refine ⟨.inl rfl,?_⟩
   by_cases e2:c=a
   ·refine ih b e hpx (.inr ⟨e2,?_⟩)
    rcases hw.1 with h1 | h1
    ·exact absurd (h1.trans e2) e
    ·rw [← e2];exact h1
   ·have h5:=ih c e2 (hpc e2) (.inl rfl)
    rw [List.filter_cons_of_pos (by simpa using e2)] at h5 ⊢
    exact ⟨hw.1,h5.2⟩
theorem RWk.leaves:∀ (l:List Int) (u v:Int),u≠v→RWk H (u::(l++[v])) → ∃ x∈l++[v],H u x
 | [],u,v,hne,h=>by
  rcases h.1 with h | h
  ·exact absurd h hne
  ·exact ⟨v,by simp,h⟩
 | a::l,u,v,hne,h=>by
  rcases h.1 with h1 | h1
  ·subst h1
   obtain ⟨x,hx,h2⟩:=RWk.leaves l u v hne h.2
   exact ⟨x,List.mem_cons_of_mem _ hx,h2⟩
  ·exact ⟨a,by simp,h1⟩
theorem RWk.comes:∀ (l:List Int) (u v:Int),u≠v→RWk H (u::(l++[v])) → ∃ x∈u::l,H x v
 | [],u,v,hne,h=>by
  rcases h.1 with h | h
  ·exact absurd h hne
  ·exact ⟨u,by simp,h⟩
 | a::l,u,v,hne,h=>by
  by_cases e:a=v
  ·subst e
   rcases h.1 with h1 | h1
   ·exact absurd h1 hne
   ·exact ⟨u,by simp,h1⟩
  ·obtain ⟨x,hx,h2⟩:=RWk.comes l a v e h.2
   exact ⟨x,List.mem_cons_of_mem _ hx,h2⟩
theorem peo_walk (hH:∀ u v,H u v→H v u) (hne:∀ u, ¬ H u u) : ∀ (o:List Int),PeoH H o → ∀ (xs:List Int) (u v:Int) (Y:Int→Prop),u≠v → ¬ H u v→RWk H (u::(xs++[v]))→(∀ x∈u::(xs++[v]),x∈o)→(∀ y,Y y→y∈o∧H u y∧H v y)→(∀ x∈xs, ¬ Y x) →
  ∃ x∈xs, ∀ y,Y y→H x y
 | [],_,xs,u,v,Y,huv,hn,hw,ho,hY,hx=>by have:=ho u (by simp);cases this
 | a::o,⟨hs,hp⟩,xs,u,v,Y,huv,hn,hw,ho,hY,hx=>by
  have hin:∀ {x},x∈a::o→x≠a→x∈o:=fun {x} h h1=>by
   rcases List.mem_cons.1 h with h | h
   ·exact absurd h h1
   ·exact h
  have hYo:∀ {b y},Y y→H a b∨True→y≠a→y∈o:=fun {b y} h _ h2=>hin (hY y h).1 h2
  by_cases eu:u=a
  ·subst eu
   obtain ⟨x,hx1,hx2⟩:=RWk.leaves xs u v huv hw
   have hxs:x∈xs:=by
    rcases List.mem_append.1 hx1 with h | h
    ·exact h
    ·rw [List.mem_singleton] at h;subst h;exact absurd hx2 hn
   refine ⟨x,hxs,fun y hy=>?_⟩
   have hy1:=hY y hy
   refine hs x (hin (ho x (by simp [hxs])) fun e=>hne u (by rw [e] at hx2;exact hx2)) y (hin hy1.1 fun e=>hne u (by have:=hy1.2.1;rw [e] at this;exact this)) hx2 hy1.2.1 fun e=>hx x hxs (e ▸ hy)
  ·by_cases ev:v=a
   ·subst ev
    obtain ⟨x,hx1,hx2⟩:=RWk.comes xs u v huv hw
    have hxs:x∈xs:=by
     rcases List.mem_cons.1 hx1 with h | h
     ·subst h;exact absurd hx2 hn
     ·exact h
    have hx3:=hH _ _ hx2
    refine ⟨x,hxs,fun y hy=>?_⟩
    have hy1:=hY y hy
    refine hs x (hin (ho x (by simp [hxs])) fun e=>hne v (by rw [e] at hx3;exact hx3)) y (hin hy1.1 fun e=>hne v (by have:=hy1.2.2;rw [e] at this;exact this)) hx3 hy1.2.2 fun e=>hx x hxs (e ▸ hy)
   ·have hu:u∈o:=hin (ho u (by simp)) eu
    have hv:v∈o:=hin (ho v (by simp)) ev
    by_cases ya:Y a
    ·exact absurd (hs u hu v hv (hH _ _ (hY a ya).2.1) (hH _ _ (hY a ya).2.2) huv) hn
    ·have hw2:=RWk.out (P:=fun x=>x∈o) hH (fun x y hx hy h1 h2 h3=>hs x hx y hy h1 h2 h3) (u::(xs++[v])) (fun x hx h=>hin (ho x hx) h) hw u eu hu (.inl rfl)
     rw [List.filter_cons_of_pos (by simpa using eu),List.filter_append,List.filter_cons_of_pos (by simpa using ev),List.filter_nil] at hw2
     obtain ⟨x,h1,h2⟩:=peo_walk hH hne o hp (xs.filter fun y=>decide (y≠a)) u v Y huv hn hw2.2 (fun x hx=>by
      simp only [List.mem_cons,List.mem_append,List.mem_filter,List.not_mem_nil,or_false,decide_eq_true_eq] at hx
      rcases hx with rfl | ⟨hx,h⟩ | rfl
      ·exact hu
      ·exact hin (ho x (by simp [hx])) h
      ·exact hv) (fun y hy=>⟨hYo (b:=a) hy (.inr trivial) fun e=>ya (e ▸ hy),(hY y hy).2⟩) (fun x hx'=>hx x (List.mem_filter.1 hx').1)
     exact ⟨x,(List.mem_filter.1 h1).1,h2⟩
theorem rch_walk {A:Int→Int→Prop} {S:Int→Prop} {u v:Int} (h:Rch A S u v) (hA:∀ u v,A u v→H u v) : ∃ xs:List Int,RWk H (u::(xs++[v])) ∧ ∀ x∈xs,S x:=by
 induction h with
 | edge h=>exact ⟨[],⟨.inr (hA _ _ h),by simp [RWk]⟩,by simp⟩
 | @step u s v h hs _ ih =>
  obtain ⟨xs,h1,h2⟩:=ih
  refine ⟨s::xs,⟨.inr (hA _ _ h),h1⟩,fun x hx=>?_⟩
  rcases List.mem_cons.1 hx with rfl | hx
  ·exact hs
  ·exact h2 x hx
theorem mcs_min {A:Int→Int→Prop} (hA:∀ u v,A u v→A v u) (hH:∀ u v,H u v→H v u) (hne:∀ u, ¬ H u u) (hAH:∀ u v,A u v→H u v) {o:List Int} (hp:PeoH H o) :
  ∀ (l l0:List (Int×(Int→Bool))) (w0 w:Int→Nat),MRun A w0 (l0++l)→MRun A w l→((l0++l).map (·.1)).Nodup→(∀ p∈l0++l,p.1∈o) →
   (∀ y∈l.map (·.1),w y=(l0.filter fun p=>p.2 y).length) →
   (∀ p∈l0, ∀ y∈l.map (·.1),H p.1 y→p.2 y=true) →
   (∀ a u q b,l=a++(u,q)::b → ∀ y∈b.map (·.1),H u y→q y=true) →
   (∀ p∈l0, ∀ y∈l.map (·.1),p.2 y=true→H p.1 y) →
   ∀ a u q b,l=a++(u,q)::b → ∀ y∈b.map (·.1),q y=true→H u y
 | [],_,_,_,_,_,_,_,_,_,_,_,a,u,q,b,he=>by cases a <;> cases he
 | (z,qz)::l,l0,w0,w,hr0,⟨hr1,hr2,hr3⟩,hnd,ho,hw,hb0,hb1,hin,a,u,q,b,he=>by
  have head:∀ y∈l.map (·.1),qz y=true→H z y:=by
   intro v hv hq
   by_cases hH':H z v
   ·exact hH'
   ·exfalso
    obtain ⟨pv,hpv,rfl⟩:=List.mem_map.1 hv
    have hrch:=(hr2 pv hpv).1 hq
    generalize pv.1=v at *
    obtain ⟨xs,hx1,hx2⟩:=rch_walk hrch hAH
    have hzv:z≠v:=fun e=>by
     subst e
     rw [List.map_append,List.map_cons] at hnd
     have:=(List.nodup_append.1 hnd).2.1
     exact (List.nodup_cons.1 this).1 hv
    have hY:∀ y,(∃ p∈l0,p.1=y∧p.2 v=true)→y∈o∧H z y∧H v y:=by
     rintro y ⟨p,hp',rfl,hpv⟩
     have hpz:=higher_clique hA hr0 hv hq p hp' hpv
     exact ⟨ho p (by simp [hp']),hH _ _ (hin p hp' z (by simp) hpz),hH _ _ (hin p hp' v (by simp;exact .inr (by simpa using hv)) hpv)⟩
    have hdis:∀ x∈l.map (·.1), ¬ ∃ p∈l0,p.1=x∧p.2 v=true:=by
     rintro x hx ⟨p,hp',rfl,_⟩
     rw [List.map_append] at hnd
     exact (List.nodup_append.1 hnd).2.2 p.1 (List.mem_map_of_mem (f:=(·.1)) hp') p.1 (by simp;exact .inr (by simpa using hx)) rfl
    obtain ⟨x,hx,hxY⟩:=peo_walk hH hne o hp xs z v _ hzv hH' hx1 (fun x hx=>by
     simp only [List.mem_cons,List.mem_append,List.not_mem_nil,or_false] at hx
     have hlo:∀ x∈l.map (·.1),x∈o:=fun x hx=>by
      obtain ⟨p,hp',rfl⟩:=List.mem_map.1 hx
      exact ho p (by simp [hp'])
     rcases hx with rfl | hx | rfl
     ·exact ho (x,qz) (by simp)
     ·exact hlo x (hx2 x hx).1
     ·exact hlo x hv) hY (fun x hx=>hdis x (hx2 x hx).1)
    have h1:=(hx2 x hx).2
    rw [hw x (by simp;exact .inr (by simpa using (hx2 x hx).1)),hw v (by simp;exact .inr (by simpa using hv))] at h1
    refine absurd h1 (Nat.not_lt.2 ?_)
    have hsub:∀ p∈l0,p.2 v=true→p.2 x=true:=fun p hp' hpv=>hb0 p hp' x (by simp;exact .inr (by simpa using (hx2 x hx).1)) (hH _ _ (hxY p.1 ⟨p,hp',rfl,hpv⟩))
    clear hw hb0 hin hnd hr0 ho h1 hY hdis hxY
    induction l0 with
    | nil=>simp
    | cons p l0 ih =>
     have ih:=ih (fun p hp'=>hsub p (by simp [hp']))
     by_cases hpv:p.2 v=true
     ·rw [List.filter_cons_of_pos (by simpa using hpv),List.filter_cons_of_pos (by simpa using hsub p (by simp) hpv)]
      simp only [List.length_cons]
      omega
     ·rw [List.filter_cons_of_neg (by simpa using hpv),List.filter_cons]
      split
      ·simp only [List.length_cons];omega
      ·exact ih
  rcases a with _ | ⟨pa,a⟩
  ·simp only [List.nil_append,List.cons.injEq,Prod.mk.injEq] at he
   obtain ⟨⟨rfl,rfl⟩,rfl⟩:=he
   exact head
  ·simp only [List.cons_append,List.cons.injEq] at he
   obtain ⟨rfl,rfl⟩:=he
   refine mcs_min hA hH hne hAH hp (a++(u,q)::b) (l0++[(z,qz)]) w0 _ (by simpa using hr0) hr3 (by simpa using hnd) (fun p hp'=>ho p (by simpa [or_assoc] using hp')) ?_ ?_ ?_ ?_ a u q b rfl
   ·intro y hy
    have h1:=hw y (by simp;exact .inr (by simpa using hy))
    rw [List.filter_append,List.length_append, ← h1]
    by_cases hq:qz y=true
    ·rw [if_pos hq,List.filter_cons_of_pos (by simpa using hq)];rfl
    ·rw [if_neg hq,List.filter_cons_of_neg (by simpa using hq)];rfl
   ·intro p hp' y hy
    rcases List.mem_append.1 hp' with h | h
    ·exact hb0 p h y (by simp;exact .inr (by simpa using hy))
    ·rw [List.mem_singleton] at h
     subst h
     exact hb1 [] z qz _ rfl y hy
   ·intro a' u' q' b' he'
    exact hb1 ((z,qz)::a') u' q' b' (by rw [he'];rfl)
   ·intro p hp' y hy
    rcases List.mem_append.1 hp' with h | h
    ·exact hin p h y (by simp;exact .inr (by simpa using hy))
    ·rw [List.mem_singleton] at h
     subst h
     exact head y hy
end
end Go.Proofs.YtmokciekndllpaaGreatDoor
namespace Go.Proofs.YtmokciekndllpaaGreatDoor
open Go
section
variable {V:List (Int×Thing)} {E:List ((Int×Int)×Thing)}
theorem AdE.ne (hi:GInv V E) : ∀ u, ¬ AdE E u u:=fun _ h=>hasE_ne hi h rfl
end
section
variable {V:List (Int×Thing)} {E:List ((Int×Int)×Thing)}
theorem peoH_iff:∀ {l:List Int},Peo E l↔PeoH (AdE E) l
 | []=>Iff.rfl
 | _::_=>and_congr Iff.rfl peoH_iff
theorem adj_peo {L:List Int} (hn:L.Nodup) : ∀ k,k≤L.length→PeoH (Adj E L L.length) (L.drop k):=by
 intro k hk
 obtain ⟨m,hm'⟩ : ∃ m,k+m=L.length:=⟨L.length-k,by omega⟩
 induction m generalizing k with
 | zero =>
  rw [List.drop_eq_nil_of_le (by omega)]
  trivial
 | succ m ih =>
  have hk':k < L.length:=by omega
  rw [drop_get hk']
  refine ⟨fun x hx y hy h1 h2 h3=>?_,ih (k+1) (by omega) (by omega)⟩
  have h4:=h1.back hn (by omega) hk'
  have h5:=h2.back hn (by omega) hk'
  have h6:Adj E L (k+1) x y:=.inr ⟨h3,hx,hy,by simpa [hk'] using h4,by simpa [hk'] using h5⟩
  exact h6.mono (by omega)
attribute [local irreducible] msRun in
theorem ms_min (hi:GInv V E) {H:Int→Int→Prop} (hH:∀ u v,H u v→H v u) (hne:∀ u, ¬ H u u) (hAH:∀ u v,AdE E u v→H u v) (hHF:∀ u v,H u v→Adj E (msOrd V E) (msOrd V E).length u v) {o:List Int} (ho:∀ x,x∈V.map (·.1)→x∈o) (hp:PeoH H o) {u v:Int} (h:Adj E (msOrd V E) (msOrd V E).length u v) : H u v:=by
 obtain ⟨l0,hl0⟩ : ∃ l,l=msRun V E:=⟨_,rfl⟩
 have hr:=ms_run hi l0 hl0
 have hL:msOrd V E=((runQ l0).map (·.1)).reverse:=by rw [runQ_ids,hl0];rfl
 have hord:=ms_ord hi
 generalize msOrd V E=L at *
 generalize runQ l0=l at *
 have hnd:(l.map (·.1)).Nodup:=by
  have:=hord.nodup
  rw [hL] at this
  exact (List.reverse_perm _).nodup_iff.1 this
 have hml:∀ x,x∈l.map (·.1)↔x∈V.map (·.1):=fun x=>by rw [← hord.mem,hL,List.mem_reverse]
 have key:=mcs_min AdE.symm hH hne hAH hp l [] (fun _=>0) (fun _=>0) (by simpa using hr) hr (by simpa using hnd) (fun p hp'=>ho _ ((hml _).1 (List.mem_map.2 ⟨p,by simpa using hp',rfl⟩))) (fun y hy=>rfl) (fun p hp'=>by cases hp') (fun a x q b he y hy hxy=>?_) (fun p hp'=>by cases hp')
 ·-- both ends are numbered: one of them first
  obtain ⟨hu,hv⟩:=Adj.mem hi hord h
  have hne2:=Adj.ne hi h
  have main:∀ u v,(∃ a q b,l=a++(u,q)::b∧v∈b.map (·.1))→Adj E L L.length u v→H u v:=by
   rintro u v ⟨a,q,b,rfl,hvb⟩ h
   obtain ⟨pv,hpv,rfl⟩:=List.mem_map.1 hvb
   obtain ⟨b1,b2,rfl⟩:=List.append_of_mem hpv
   obtain ⟨v,qv⟩:=pv
   exact key a u q _ rfl v hvb ((run_adj hi hr hL hord.nodup).2 h)
  obtain ⟨pu,hpu,rfl⟩:=List.mem_map.1 ((hml u).2 ((hord.mem u).1 hu))
  obtain ⟨a,b,he⟩:=List.append_of_mem hpu
  obtain ⟨u,qu⟩:=pu
  have hvl:=(hml v).2 ((hord.mem v).1 hv)
  rw [he,List.map_append,List.map_cons,List.mem_append,List.mem_cons] at hvl
  rcases hvl with hvl | rfl | hvl
  ·refine hH _ _ (main v u ?_ h.symm)
   obtain ⟨pv,hpv,rfl⟩:=List.mem_map.1 hvl
   obtain ⟨a1,a2,rfl⟩:=List.append_of_mem hpv
   obtain ⟨v,qv⟩:=pv
   exact ⟨a1,qv,a2++(u,qu)::b,by rw [he];simp,by simp⟩
  ·exact absurd rfl hne2
  ·exact main u v ⟨a,qu,b,he,hvl⟩ h
 ·subst he
  obtain ⟨pv,hpv,rfl⟩:=List.mem_map.1 hy
  obtain ⟨b1,b2,rfl⟩:=List.append_of_mem hpv
  obtain ⟨y,qy⟩:=pv
  exact (run_adj hi hr hL hord.nodup).2 (hHF _ _ hxy)
end
end Go.Proofs.YtmokciekndllpaaGreatDoor
namespace Go.Proofs.YtmokciekndllpaaGreatDoor
open Go Go.RowKit Go.Shelf
section
variable {V:List (Int×Thing)} {E:List ((Int×Int)×Thing)}
theorem peoS_iff (hi:GInv V E) : (peoS V E).isSome=true↔Cho E (V.map (·.1)):=by
 unfold peoS
 have h1:∀ x∈toL (vS V),x∈V.map (·.1):=fun x hx=>(mem_vS hi).1 hx
 have h2:(toL (vS V)).length < 1025:=by have:=toL_len (vS V);omega
 rw [poS_ordR hi _ _ h1 h2,ordR_iff hi (toL_nodup _) h1 h2,toL_vS hi]
theorem mem_msFill (hi:GInv V E) {o:List Int} {m:Nat} (ho:o=msOrd V E) (hm:m=o.length) {p:Int×Int}:p∈msFill V E↔p.1 < p.2∧Adj E o m p.1 p.2 ∧ ¬ Adj0 E p.1 p.2:=by
 obtain ⟨l,hl⟩ : ∃ l,l=msRun V E:=⟨_,rfl⟩
 unfold msFill
 rw [← hl,(fillS_perm (fillL E l)).mem_iff,hm,ho]
 exact mem_fillL hi l hl
theorem adj0_has (hi:GInv V E) {u v:Int}:hasE u v E=true↔Adj0 E u v:=by
 rw [hasE_iff hi.lo,List.mem_map]
 exact ⟨fun ⟨e,h1,h2⟩=>⟨e,h1,h2⟩,fun ⟨e,h1,h2⟩=>⟨e,h1,h2⟩⟩
theorem adj_minmax {L:List Int} {k:Nat} {u v:Int}:Adj E L k (min u v) (max u v)↔Adj E L k u v:=by
 rcases Int.le_total u v with h | h
 ·rw [Int.min_eq_left h,Int.max_eq_right h]
 ·rw [Int.min_eq_right h,Int.max_eq_left h]
  exact ⟨Adj.symm,Adj.symm⟩
theorem adj0_minmax {u v:Int}:Adj0 E (min u v) (max u v)↔Adj0 E u v:=adj_minmax (L:=[]) (k:=0)
theorem adj_of0 {L:List Int} {m:Nat} {u v:Int} (h:Adj0 E u v) : Adj E L m u v:=Adj.mono (k:=0) h (Nat.zero_le _)
theorem fill_adj (hi:GInv V E) {o:List Int} {m:Nat} (ho:o=msOrd V E) (hm:m=o.length) {u v:Int}:(hasE u v E=true∨(min u v,max u v)∈msFill V E)↔Adj E o m u v:=by
 rw [adj0_has hi,mem_msFill hi ho hm]
 dsimp only
 rw [adj_minmax]
 clear ho hm
 constructor
 ·rintro (h | ⟨_,h,_⟩)
  ·exact adj_of0 h
  ·exact h
 ·intro h
  by_cases h0:Adj0 E u v
  ·exact .inl h0
  ·have hne:=h.ne hi
   exact .inr ⟨by omega,h,fun h9=>h0 (adj0_minmax.1 h9)⟩
theorem ms_minO (hi:GInv V E) {o:List Int} {m:Nat} (ho:o=msOrd V E) (hm:m=o.length) {H:Int→Int→Prop} (hH:∀ u v,H u v→H v u) (hne:∀ u, ¬ H u u) (hAH:∀ u v,AdE E u v→H u v) (hHF:∀ u v,H u v→Adj E o m u v) {o':List Int} (ho':∀ x,x∈V.map (·.1)→x∈o') (hp:PeoH H o') {u v:Int} (h:Adj E o m u v) : H u v:=by
 have k:=ms_min hi (H:=H) hH hne hAH
 rw [← ho, ← hm] at k
 exact k hHF ho' hp h
theorem adj_peoO {o:List Int} {m:Nat} (hn:o.Nodup) (hm:m=o.length) : PeoH (Adj E o m) o:=by
 have h:=adj_peo (E:=E) hn 0 (Nat.zero_le _)
 rw [List.drop_zero] at h
 rw [hm]
 exact h
theorem cut_chordal (hi:GInv V E) {o:List Int} {m:Nat} (ho:o=msOrd V E) (hm:m=o.length) {E':List ((Int×Int)×Thing)} (hi':GInv V E') {R:List (Int×Int)} (hR:∀ p∈R,p∈msFill V E) (hE:∀ u v,hasE u v E'=true↔Adj E o m u v∧(min u v,max u v) ∉ R) : (peoS V E').isSome=true↔R=[]:=by
 rw [peoS_iff hi']
 have hord:Ord V o:=by rw [ho];exact ms_ord hi
 have hmem:=fun p=>mem_msFill hi ho hm (p:=p)
 have hmin:=fun (H:Int→Int→Prop) h1 h2 h3 h4 o' h5 h6 u v h7=>ms_minO hi ho hm (H:=H) h1 h2 h3 h4 (o':=o') h5 h6 (u:=u) (v:=v) h7
 have hpe:=adj_peoO (E:=E) hord.nodup hm
 clear ho hm
 constructor
 ·rintro ⟨o',hp,ho'⟩
  rw [peoH_iff] at ho'
  rcases R with _ | ⟨p,R⟩
  ·rfl
  ·exfalso
   obtain ⟨h1,h2,h3⟩:=(hmem p).1 (hR p (by simp))
   have h4:=hmin (AdE E') AdE.symm (AdE.ne hi') (fun u v h=>by
    have h5:Adj0 E u v:=(adj0_has hi).1 h
    refine (hE u v).2 ⟨adj_of0 h5,fun hm=>?_⟩
    obtain ⟨_,_,h6⟩:=(hmem _).1 (hR _ hm)
    exact h6 (adj0_minmax.2 h5)) (fun u v h=>((hE u v).1 h).1) o' (fun x hx=>hp.mem_iff.2 hx) ho' _ _ h2
   have h5:=((hE _ _).1 h4).2
   rw [Int.min_eq_left (by omega),Int.max_eq_right (by omega)] at h5
   exact h5 (by simp)
 ·rintro rfl
  refine ⟨o,(List.perm_ext_iff_of_nodup hord.nodup (sv_nodup hi.sv)).2 hord.mem,?_⟩
  rw [peoH_iff]
  have e:AdE E'=Adj E o m:=funext fun u=>funext fun v=>propext (by
   unfold AdE
   rw [hE]
   simp)
  rw [e]
  exact hpe
end
section
variable {V:List (Int×Thing)} {E:List ((Int×Int)×Thing)}
theorem out_edge (hi:GInv V E) {e:(Int×Int)×Thing} (he:e∈E) : wrongR 3 e.1.1 e.1.2 0 V E=0∧nxV 3 e.1.1 e.1.2 0 0 V E=V ∧ ∀ f∈nxE 3 e.1.1 e.1.2 0 0 V E,f∈E:=by
 have hlt:=hi.lo e he
 obtain ⟨⟨t1,h1⟩,t2,h2⟩:=hi.ends e he
 have hw:wrongR 3 e.1.1 e.1.2 0 V E=0:=by
  refine wrongR_ok (by omega) ?_ ?_ (by omega) (fun _=>hasV_iff.2 (List.mem_map.2 ⟨_,h1,rfl⟩)) (by omega) (fun _=>(hasE_iff hi.lo).2 (List.mem_map.2 ⟨e,he,?_⟩))
  ·have a:=hi.ids _ h1
   have b:=hi.ids _ h2
   simp [w2B,idB,heavyB] at a b ⊢
   omega
  ·simp [w3B,pairsB];try omega
  ·rw [Prod.ext_iff]
   exact ⟨by simp only;omega,by simp only;omega⟩
 refine ⟨hw,?_,?_⟩
 ·unfold nxV
  rw [if_pos hw,refV_same (by omega) (by omega) (by omega) (by omega)]
 ·unfold nxE
  rw [if_pos hw,refE_3 hi.lo (se_nodup hi.se)]
  intro f hf
  exact (List.mem_filter.1 hf).1
def cutE (p:Int×Int) (E:List ((Int×Int)×Thing)) : List ((Int×Int)×Thing):=E.filter fun q=>decide (q.1≠p)
theorem cut_ok (hi:GInv V E) {p:Int×Int} (hp:p∈E.map (·.1)) : wrongR 3 p.1 p.2 0 V E=0∧nxV 3 p.1 p.2 0 0 V E=V∧nxE 3 p.1 p.2 0 0 V E=cutE p E:=by
 obtain ⟨e,he,rfl⟩:=List.mem_map.1 hp
 obtain ⟨h1,h2,_⟩:=out_edge hi he
 refine ⟨h1,h2,?_⟩
 have:=hi.lo e he
 unfold nxE
 rw [if_pos h1,refE_3 hi.lo (se_nodup hi.se)]
 unfold cutE
 rw [Int.min_eq_left (by omega),Int.max_eq_right (by omega)]
theorem cut_inv (hi:GInv V E) (p:Int×Int) : GInv V (cutE p E) :=
 ⟨hi.sv,hi.se.filter _,fun e he=>hi.lo e (List.mem_filter.1 he).1,fun e he=>hi.ends e (List.mem_filter.1 he).1,hi.ids,hi.wv,fun e he=>hi.we e (List.mem_filter.1 he).1,Nat.le_trans (List.length_filter_le _ _) hi.ne⟩
theorem cut_has (hi:GInv V E) {p:Int×Int} {u v:Int}:hasE u v (cutE p E)=true↔hasE u v E=true∧(min u v,max u v)≠p:=by
 rw [hasE_iff (cut_inv hi p).lo,hasE_iff hi.lo]
 simp only [cutE,List.mem_map,List.mem_filter,decide_eq_true_eq]
 constructor
 ·rintro ⟨e,⟨h1,h2⟩,h3⟩
  exact ⟨⟨e,h1,h3⟩,by rw [← h3];exact h2⟩
 ·rintro ⟨⟨e,h1,h3⟩,h2⟩
  exact ⟨e,⟨h1,by rw [h3];exact h2⟩,h3⟩
def cutL (R:List (Int×Int)) (E:List ((Int×Int)×Thing)) : List ((Int×Int)×Thing):=R.foldl (fun E p=>cutE p E) E
theorem cutL_one (p:Int×Int) (E:List ((Int×Int)×Thing)) : cutL [p] E=cutE p E:=rfl
theorem cutL_at:∀ (R:List (Int×Int)) (E:List ((Int×Int)×Thing)),GInv V E→GInv V (cutL R E) ∧ ∀ u v,hasE u v (cutL R E)=true↔hasE u v E=true∧(min u v,max u v) ∉ R
 | [],_,h=>⟨h,fun u v=>by simp [cutL]⟩
 | p::R,E,h=>by
  obtain ⟨h1,h2⟩:=cutL_at R (cutE p E) (cut_inv h p)
  refine ⟨h1,fun u v=>?_⟩
  show hasE u v (cutL R (cutE p E))=true↔_
  rw [h2,cut_has h,List.mem_cons,not_or,and_assoc]
def flE (V:List (Int×Thing)) (E:List ((Int×Int)×Thing)) : List ((Int×Int)×Thing):=(fillG V E (msFill V E)).2
theorem fl_at (hi:GInv V E) (hV:V.length≤9) : (fillG V E (msFill V E)).1=V∧GInv V (flE V E) ∧ ∀ u v,hasE u v (flE V E)=true↔hasE u v E=true∨(min u v,max u v)∈msFill V E:=by
 have h0:=fillG_inv hi (msFill V E)
 have h:=fillG_at hi (msFill_ok hi hV)
 unfold flE
 obtain ⟨l,hl⟩ : ∃ l,l=msFill V E:=⟨_,rfl⟩
 rw [← hl] at h h0 ⊢
 obtain ⟨h1,h2,_⟩:=h l.length (Nat.le_refl _)
 rw [List.take_length] at h1 h2
 rw [h1] at h0
 exact ⟨h1,h0,h2⟩
theorem fl_has (hi:GInv V E) (hV:V.length≤9) {o:List Int} {m:Nat} (ho:o=msOrd V E) (hm:m=o.length) {u v:Int}:hasE u v (flE V E)=true↔Adj E o m u v:=((fl_at hi hV).2.2 u v).trans (fill_adj hi ho hm)
theorem flE_cut (hi:GInv V E) (hV:V.length≤9) {R:List (Int×Int)} (hR:∀ p∈R,p∈msFill V E) : (peoS V (cutL R (flE V E))).isSome=true↔R=[]:=by
 obtain ⟨h1,h2⟩:=cutL_at R (flE V E) (fl_at hi hV).2.1
 obtain ⟨o,ho⟩ : ∃ o,o=msOrd V E:=⟨_,rfl⟩
 obtain ⟨m,hm⟩ : ∃ m,m=o.length:=⟨_,rfl⟩
 exact cut_chordal hi ho hm h1 hR fun u v=>(h2 u v).trans (and_congr_left fun _=>fl_has hi hV ho hm)
theorem fill_none (hi:GInv V E) : (peoS V E).isSome=true↔msFill V E=[]:=by
 obtain ⟨o,ho⟩ : ∃ o,o=msOrd V E:=⟨_,rfl⟩
 obtain ⟨m,hm⟩ : ∃ m,m=o.length:=⟨_,rfl⟩
 constructor
 ·intro h
  obtain ⟨o',hp,ho'⟩:=(peoS_iff hi).1 h
  rw [peoH_iff] at ho'
  refine List.eq_nil_iff_forall_not_mem.2 fun p hp2=>?_
  obtain ⟨_,h1,h2⟩:=(mem_msFill hi ho hm).1 hp2
  exact h2 ((adj0_has hi).1 (ms_minO hi ho hm (H:=AdE E) AdE.symm (AdE.ne hi) (fun _ _ h=>h) (fun u v h=>adj_of0 ((adj0_has hi).1 h)) (fun x hx=>hp.mem_iff.2 hx) ho' h1))
 ·intro h
  refine (cut_chordal hi ho hm hi (R:=[]) (by simp) fun u v=>?_).2 rfl
  rw [← fill_adj hi ho hm,h]
  simp
def okO (V:List (Int×Thing)) (E:List ((Int×Int)×Thing)) (V2:List (Int×Thing)) (E2:List ((Int×Int)×Thing)) : Bool:=eqS (vS V) (vS V2) && E.all fun e=>hasE e.1.1 e.1.2 E2
def moreO (E E2:List ((Int×Int)×Thing)) : List ((Int×Int)×Thing):=E2.filter fun e=>!hasE e.1.1 e.1.2 E
def choB (V:List (Int×Thing)) (E:List ((Int×Int)×Thing)) : Bool:=(peoS V E).isSome
def leastB (V2:List (Int×Thing)) (E E2:List ((Int×Int)×Thing)) : Bool:=choB V2 E2 && !(moreO E E2).any fun e=>choB V2 (cutE e.1 E2)
def isMin (V:List (Int×Thing)) (E:List ((Int×Int)×Thing)) (V2:List (Int×Thing)) (E2:List ((Int×Int)×Thing)) : Bool×Int:=if okO V E V2 E2 then (leastB V2 E E2,0) else (false,3)
theorem ms_isMin (hi:GInv V E) (hV:V.length≤9) : isMin V E V (flE V E)=(true,0):=by
 obtain ⟨_,h1,h2⟩:=fl_at hi hV
 have hmm:∀ {E':List ((Int×Int)×Thing)} {e:(Int×Int)×Thing},GInv V E'→e∈E'→(min e.1.1 e.1.2,max e.1.1 e.1.2)=e.1:=fun hi' he=>by
  have:=hi'.lo _ he
  rw [Int.min_eq_left (by omega),Int.max_eq_right (by omega)]
 have hok:okO V E V (flE V E)=true:=by
  unfold okO
  rw [Bool.and_eq_true]
  refine ⟨eqS_iff.2 fun _ _=>rfl,List.all_eq_true.2 fun e he=>(h2 _ _).2 (.inl ?_)⟩
  rw [hasE_iff hi.lo,hmm hi he]
  exact List.mem_map.2 ⟨e,he,rfl⟩
 have h3:choB V (flE V E)=true:=(flE_cut hi hV (R:=[]) (by simp)).2 rfl
 have key:((moreO E (flE V E)).any fun e=>choB V (cutE e.1 (flE V E)))=false:=by
  rw [List.any_eq_false]
  intro e he
  obtain ⟨he1,he2⟩:=List.mem_filter.1 he
  have hf:e.1∈msFill V E:=by
   have h4:hasE e.1.1 e.1.2 (flE V E)=true:=by
    rw [hasE_iff h1.lo,hmm h1 he1]
    exact List.mem_map.2 ⟨e,he1,rfl⟩
   rcases (h2 _ _).1 h4 with h | h
   ·rw [h] at he2
    cases he2
   ·rw [hmm h1 he1] at h
    exact h
  intro h5
  have h6:=flE_cut hi hV (R:=[e.1]) (by simpa using hf)
  rw [cutL_one] at h6
  exact absurd (h6.1 h5) (by simp)
 unfold isMin leastB
 rw [if_pos hok,h3,key]
 rfl
theorem ms_chordal (hi:GInv V E) (hV:V.length≤9) : (peoS V (flE V E)).isSome=true:=(flE_cut hi hV (R:=[]) (by simp)).2 rfl
end
end Go.Proofs.YtmokciekndllpaaGreatDoor
namespace Go.Proofs.YtmokciekndllpaaGreatDoor
open Go Go.RowKit
attribute [local go_sem] qUpon lUpon
def isX (x y:Int) (p:(Int×Int)×Thing) : Bool:=p.1.1 == x && p.1.2 == y
theorem edgeC_any (a b l t x y:Int) (cb:Nat) (w:World) (h0:w.cell? ⟨cb,0,none⟩=some (.int .i64 x)) (h1:w.cell? ⟨cb,1,none⟩=some (.int .i64 y)) :
  Calls Tryz.prog 187 #[.agg #[.int .i64 a,.int .i64 b,.int .u8 l,.int .i64 t],.pointer (some ⟨cb,0,none⟩)] w fun e w'=>e=.returned (.bool (isX x y ((a,b),(l,t))))∧Ext w w':=by
 have c0:=cell_ext h0
 have c1:=cell_ext h1
 clear h0 h1
 go_enter Tryz.func187,Tryz.ntmps187
 go_wp2
 all_goals (go_ret;exact ⟨ret_bool (by unfold isX;simp_all),ext_self1 _ _⟩)
set_option maxHeartbeats 1000000 in
theorem index_any (A:Option Addr) (E:List ((Int×Int)×Thing)) (cE:Nat) (x y:Int) (cb:Nat) (w:World) (hE:SlAt encE 4 w A E) (hl:E.length≤4096) (h0:w.cell? ⟨cb,0,none⟩=some (.int .i64 x)) (h1:w.cell? ⟨cb,1,none⟩=some (.int .i64 y)) :
  Calls Tryz.prog 154 #[.slice A E.length cE,.func (.func 187) #[] #[.pointer (some ⟨cb,0,none⟩)]] w fun e w'=>e=.returned (.int .i64 (posI (isX x y) E))∧Ext w w':=by
 have k0:=cell_ext h0
 have k1:=cell_ext h1
 have hE':=hide hE
 have k0':=hide k0
 have k1':=hide k1
 clear h0 h1 hE k0 k1
 go_enter Tryz.func154,Tryz.ntmps154
 go_wp2
 go_loopw [8] (fun i wr=>∃ k:Nat,k≤E.length∧i=.int .i64 k∧(∀ j (hj:j < k) (hj':j < E.length),isX x y E[j]=false)∧Ext w wr) (fun i _=>E.length-(intOf i).toNat)
 case atStart=>exact ⟨0,Nat.zero_le _,rfl,fun j hj=>by omega,Ext.refl _⟩
 case round =>
  obtain ⟨k,hk,rfl,hno,hxr⟩:=hrel
  have hno':=hide hno
  clear hno
  by_cases hlt:k < E.length
  ·obtain ⟨b,off,rfl,c0,c1,c2,c3⟩:=atE ((uh hE').ext hxr) hlt
   generalize hy:E[k]=p at c0 c1 c2 c3
   have hy':=hide hy
   clear hy
   obtain ⟨⟨a,b0⟩,⟨l,t⟩⟩:=p
   simp only at c0 c1 c2 c3
   generalize hq:isX x y ((a,b0),(l,t))=q
   have hq':=hide hq
   clear hq
   cases q
   ·go_wp2_with (go_at_call 187;refine (edgeC_any a b0 l t x y cb _ (uh k0' _ hxr) (uh k1' _ hxr)).mono ?_;rw [uh hq'];rintro e w3 ⟨rfl,hx3⟩)
    go_roundw
    case rel =>
     refine ⟨k+1,by omega,by go_num,fun j hj hj'=>?_,hxr.trans hx3⟩
     rcases Nat.lt_or_ge j k with h | h
     ·exact uh hno' j h hj'
     ·have:j=k:=by omega
      subst this
      rw [uh hy']
      exact uh hq'
    case measure=>simp [intOf];omega
   ·go_wp2_with (go_at_call 187;refine (edgeC_any a b0 l t x y cb _ (uh k0' _ hxr) (uh k1' _ hxr)).mono ?_;rw [uh hq'];rintro e w3 ⟨rfl,hx3⟩)
    go_ret
    exact ⟨ret_int (posI_hit hlt (by rw [uh hy'];exact uh hq') (fun j hj=>uh hno' j hj (by omega))).symm,hxr.trans hx3⟩
  ·go_wp2
   go_ret
   exact ⟨ret_int (posI_miss (fun j hj=>uh hno' j (by omega) hj)).symm,hxr⟩
theorem ret_cell3 {P:Program} {fn:Func} {t T u1 u2:Nat} {tmps:Array Value} {p:Addr} {W:World} {v:Value} (h:fn.results=#[.cell t T,.tmp u1,.tmp u2]) (hp:tmps.getD t undef=.pointer (some p)) (hl:(loadVar T p).run P W=.ok v W) :
  (results fn tmps).run P W=.ok (.tuple #[v,tmps.getD u1 undef,tmps.getD u2 undef]) W:=by
 simp only [Array.getD_eq_getD_getElem?] at hp
 simp [results,h,hp,asAddr,hl]
theorem load_Ed (W:World) (b:Nat) (p q r s:Value) (h:Blk W b 61 #[p,q,r,s]) : (loadVar 61 ⟨b,0,none⟩).run Tryz.prog W=.ok (.agg #[p,q,r,s]) W:=by
 have h0:=h.cell 0
 have h1:=h.cell 1
 have h2:=h.cell 2
 have h3:=h.cell 3
 simp at h0 h1 h2 h3
 simp [loadVar,h0,h1,h2,h3,go_sem]
set_option maxHeartbeats 4000000 in
theorem gedge_miss (g bv be:Nat) (V:List (Int×Thing)) (E S:List ((Int×Int)×Thing)) (u v:Int) (w:World) (hg:GraphAt w g bv be V E) (hp:S.Perm E) (hS:S.Pairwise ltE) (hl:E.length≤4096) (hpos:posI (isX (min u v) (max u v)) S = -1) :
  Calls Tryz.prog 153 #[.pointer (some ⟨g,0,none⟩),.int .i64 u,.int .i64 v] w fun e w'=>e=.returned (.tuple #[.agg #[.int .i64 0,.int .i64 0,.int .u8 0,.int .i64 0],.int .i64 0,.bool false])∧Ext w w':=by
 have hlS:S.length≤4096:=by rw [hp.length_eq];exact hl
 have hg':=hide hg
 have hpos':=hide hpos
 have hb0:=hide (Blk.new w 61 #[.int .i64 0,.int .i64 0,.int .u8 0,.int .i64 0])
 clear hg hpos
 go_enter Tryz.func153,Tryz.ntmps153
 go_wp2_with (first
  | (go_at_call 125;refine (between_any _ _ _).mono ?_;rintro e w2 ⟨rfl,hx2⟩;have hx2':=hide hx2;clear hx2)
  | (go_at_call 96;refine (edges_any g bv be V E S _ ((uh hg').ext (((ext_self1 _ _).trans (uh hx2')).alloc _)) hp hS hl).mono ?_;rintro e w3 ⟨v3,rfl,ho3,hx3⟩;obtain ⟨Ae,ce,rfl⟩:=own_slice ho3;have hq:=(Blk.new w2 _ _).ext hx3;have c0:=hq.cell 0;have c1:=hq.cell 1;simp at c0 c1;have ho3':=hide ho3;have hx3':=hide hx3;have c0':=hide c0;have c1':=hide c1;clear ho3 hx3 hq c0 c1)
  | (go_at_call 154;refine (index_any Ae S ce (min u v) (max u v) w2.heap.size _ (own_at (uh ho3') (fun _=>rfl)) hlS (uh c0') (uh c1')).mono ?_;rw [uh hpos'];rintro e w4 ⟨rfl,hx4⟩;have hx4':=hide hx4;have hb4:=((((uh hb0).ext (uh hx2')).ext (ext_self1 _ _)).ext (uh hx3')).ext hx4;have s0:=hb4.cell 0;have s1:=hb4.cell 1;have s2:=hb4.cell 2;have s3:=hb4.cell 3;have f0:=hb4.frozen 0;have f1:=hb4.frozen 1;have f2:=hb4.frozen 2;have f3:=hb4.frozen 3;simp at s0 s1 s2 s3;have hb4':=hide hb4;clear hx4 hb4))
 have hb4:=uh hb4'
 have hxw:Ext w w4:=(((ext_self1 _ _).trans (uh hx2')).trans (ext_self1 _ _)).trans ((uh hx3').trans (uh hx4'))
 refine bodyPost_ret (ret_cell3 rfl rfl (load_Ed _ w.heap.size _ _ _ _ ((((hb4.set 0 (.int .i64 0)).set 1 (.int .i64 0)).set 2 (.int .u8 0)).set 3 (.int .i64 0)))) rfl ?_
 exact ⟨rfl,Below.setCell (Below.setCell (Below.setCell (Below.setCell hxw (by simp) _) (by simp) _) (by simp) _) (by simp) _⟩
set_option maxHeartbeats 4000000 in
theorem gedge_hit (g bv be:Nat) (V:List (Int×Thing)) (E S:List ((Int×Int)×Thing)) (u v:Int) (w:World) (hg:GraphAt w g bv be V E) (hp:S.Perm E) (hS:S.Pairwise ltE) (hl:E.length≤4096) (i:Nat) (hi:i < S.length) (hpos:posI (isX (min u v) (max u v)) S=i) :
  Calls Tryz.prog 153 #[.pointer (some ⟨g,0,none⟩),.int .i64 u,.int .i64 v] w fun e w'=>e=.returned (.tuple #[.agg #[.int .i64 S[i].1.1,.int .i64 S[i].1.2,.int .u8 S[i].2.1,.int .i64 S[i].2.2],.int .i64 i,.bool true])∧Ext w w':=by
 have hlS:S.length≤4096:=by rw [hp.length_eq];exact hl
 have hg':=hide hg
 have hpos':=hide hpos
 have hb0:=hide (Blk.new w 61 #[.int .i64 0,.int .i64 0,.int .u8 0,.int .i64 0])
 clear hg hpos
 go_enter Tryz.func153,Tryz.ntmps153
 go_wp2_with (first
  | (go_at_call 125;refine (between_any _ _ _).mono ?_;rintro e w2 ⟨rfl,hx2⟩;have hx2':=hide hx2;clear hx2)
  | (go_at_call 96;refine (edges_any g bv be V E S _ ((uh hg').ext (((ext_self1 _ _).trans (uh hx2')).alloc _)) hp hS hl).mono ?_;rintro e w3 ⟨v3,rfl,ho3,hx3⟩;obtain ⟨Ae,ce,rfl⟩:=own_slice ho3;have hq:=(Blk.new w2 _ _).ext hx3;have c0:=hq.cell 0;have c1:=hq.cell 1;simp at c0 c1;have ho3':=hide ho3;have hx3':=hide hx3;have c0':=hide c0;have c1':=hide c1;clear ho3 hx3 hq c0 c1)
  | (go_at_call 154;refine (index_any Ae S ce (min u v) (max u v) w2.heap.size _ (own_at (uh ho3') (fun _=>rfl)) hlS (uh c0') (uh c1')).mono ?_;rw [uh hpos'];rintro e w4 ⟨rfl,hx4⟩;have hx4':=hide hx4;have hb4:=((((uh hb0).ext (uh hx2')).ext (ext_self1 _ _)).ext (uh hx3')).ext hx4;have s0:=hb4.cell 0;have s1:=hb4.cell 1;have s2:=hb4.cell 2;have s3:=hb4.cell 3;have f0:=hb4.frozen 0;have f1:=hb4.frozen 1;have f2:=hb4.frozen 2;have f3:=hb4.frozen 3;simp at s0 s1 s2 s3;have hb4':=hide hb4;clear hx4 hb4;obtain ⟨bb,off,rfl,k0,k1,k2,k3⟩:=atE ((own_at (uh ho3') (fun _=>rfl)).ext (uh hx4')) hi))
 have hb4:=uh hb4'
 have hxw:Ext w w4:=(((ext_self1 _ _).trans (uh hx2')).trans (ext_self1 _ _)).trans ((uh hx3').trans (uh hx4'))
 refine bodyPost_ret (ret_cell3 rfl rfl (load_Ed _ w.heap.size _ _ _ _ ((((hb4.set 0 (.int .i64 S[i].1.1)).set 1 (.int .i64 S[i].1.2)).set 2 (.int .u8 S[i].2.1)).set 3 (.int .i64 S[i].2.2)))) rfl ?_
 exact ⟨rfl,Below.setCell (Below.setCell (Below.setCell (Below.setCell hxw (by simp) _) (by simp) _) (by simp) _) (by simp) _⟩
end Go.Proofs.YtmokciekndllpaaGreatDoor
namespace Go.Proofs.YtmokciekndllpaaGreatDoor
open Go Go.RowKit Go.Shelf
attribute [local go_sem] qUpon lUpon
attribute [local irreducible] wpO wpX wpQL
theorem isX_isE {u v:Int} {q:(Int×Int)×Thing} (h:q.1.1 < q.1.2) : isX (min u v) (max u v) q=isE u v q:=by
 rw [Bool.eq_iff_iff,isE_iff h]
 unfold isX
 simp only [Bool.and_eq_true,beq_iff_eq]
 constructor
 ·intro h;exact Prod.ext h.1 h.2
 ·intro h;rw [h];exact ⟨rfl,rfl⟩
theorem posX_posE {u v:Int} {E:List ((Int×Int)×Thing)} (hlo:∀ e∈E,e.1.1 < e.1.2) : posI (isX (min u v) (max u v)) E=posI (isE u v) E:=posI_congr fun x hx=>isX_isE (hlo x hx)
theorem edge_has (g bv be:Nat) (V:List (Int×Thing)) (E:List ((Int×Int)×Thing)) (u v:Int) (w:World) (hg:IsG w g bv be V E) : Calls Tryz.prog 153 #[.pointer (some ⟨g,0,none⟩),.int .i64 u,.int .i64 v] w fun e w'=>∃ (x0 x1 x2 x3 k:Int),e=.returned (.tuple #[.agg #[.int .i64 x0,.int .i64 x1,.int .u8 x2,.int .i64 x3],.int .i64 k,.bool (hasE u v E)])∧Ext w w':=by
 have n2:=hg.nE
 obtain ⟨V',E',h1,hV,hE,hi⟩:=hg
 have n2':E'.length≤4096:=by rw [← hE.length_eq];exact n2
 rcases posI_cases (isE u v) E with ⟨hp,_⟩ | ⟨k,hlt,hk,_⟩
 ·have hh:hasE u v E=false:=by unfold hasE;exact decide_eq_false (by omega)
  rw [hh]
  refine (gedge_miss g bv be V' E' E u v w h1 hE hi.se n2' (by rw [posX_posE hi.lo];exact hp)).mono ?_
  rintro _ w' ⟨rfl,hx⟩
  exact ⟨_,_,_,_,_,rfl,hx⟩
 ·have hh:hasE u v E=true:=by unfold hasE;exact decide_eq_true (by omega)
  rw [hh]
  refine (gedge_hit g bv be V' E' E u v w h1 hE hi.se n2' k hlt (by rw [posX_posE hi.lo];exact hk)).mono ?_
  rintro _ w' ⟨rfl,hx⟩
  exact ⟨_,_,_,_,_,rfl,hx⟩
theorem SlAt.edge {w:World} {A:Option Addr} {xs:List ((Int×Int)×Thing)} (h:SlAt encE 4 w A xs) {i:Nat} (hi:i < xs.length) : ∃ b off u v lab wt,A=some ⟨b,off,none⟩∧xs[i]=((u,v),(lab,wt)) ∧ ∀ W,Keep [] w W → ∀ (j:Nat) x,(#[.int .i64 u,.int .i64 v,.int .u8 lab,.int .i64 wt] : Array Value)[j]? = some x→W.cell? ⟨b,off+i*4+j,none⟩=some x:=by
 obtain ⟨b,off,hA,hlt,hc⟩:=h (List.ne_nil_of_length_pos (by omega))
 rcases hx:xs[i] with ⟨⟨u,v⟩,lab,wt⟩
 refine ⟨b,off,u,v,lab,wt,hA,rfl,fun W hk j x hj=>?_⟩
 rw [World.cell?_of_block (hk.block b hlt (by simp))]
 exact hc i _ (by rw [List.getElem?_eq_getElem hi,hx]) j x (by rw [← hj];exact Array.getElem?_toList)
def WoPost (V:List (Int×Thing)) (E:List ((Int×Int)×Thing)) (w:World) (e:Ending) (w':World) : Prop:=∃ o ov oe,e=.returned (.pointer (some ⟨o,0,none⟩))∧IsG w' o ov oe V E∧Ext w w'∧w.heap.size≤o∧w.heap.size≤ov∧w.heap.size≤oe
def OvPost (V:List (Int×Thing)) (E:List ((Int×Int)×Thing)) (V2:List (Int×Thing)) (E2:List ((Int×Int)×Thing)) (w:World) (e:Ending) (w':World) : Prop :=
 (okO V E V2 E2=false∧e=.returned (.tuple #[.slice none 0 0,.int .i64 3])∨okO V E V2 E2=true ∧ ∃ A n c,e=.returned (.tuple #[.slice A n c,.int .i64 0])∧n=(moreO E E2).length∧w'.ownsRow w.heap.size 61 4 (.slice A n c) n ((moreO E E2).flatMap encE))∧Ext w w'
theorem all_next {α:Type} (p:α→Bool) (l:List α) {k:Nat} (h:k < l.length) : (l.take (k+1)).all p=((l.take k).all p && p l[k]):=by
 rw [List.take_succ_eq_append_getElem h,List.all_append,List.all_cons,List.all_nil,Bool.and_true]
theorem all_stop {α:Type} (p:α→Bool) (l:List α) {k:Nat} (h:k < l.length) (h2:p l[k]=false) : l.all p=false:=List.all_eq_false.2 ⟨l[k],List.getElem_mem h,by simp [h2]⟩
theorem chordal_any (og:Option Addr) (V:List (Int×Thing)) (E:List ((Int×Int)×Thing)) (w:World) (hg:GL w og V E) (hT:Tab w) :
  Calls Tryz.prog 99 #[.pointer og] w fun e w'=>e=.returned (.bool (choB V E))∧Ext w w':=by
 have hca:=perfect_any og V E w hg hT
 unfold PoPost at hca
 unfold choB
 obtain ⟨po,hpo⟩ : ∃ po,po=peoS V E:=⟨_,rfl⟩
 rw [← hpo] at hca ⊢
 obtain ⟨q,hq⟩ : ∃ q,q=po.isSome:=⟨_,rfl⟩
 obtain ⟨m9,hm9⟩ : ∃ m9,m9=(po.getD []).length:=⟨_,rfl⟩
 rw [← hq, ← hm9] at hca
 rw [← hq]
 have hca':=hide hca
 clear hca hpo hq hm9 hg hT
 have hP:=hide (Sp.new w)
 refine callsIn_wide.1 (callsIn_of_wp_marks (n:=0) Tryz.func99 rfl trivial (wpIn_wide.2 ?_))
 simp only [Tryz.ntmps99,List.size_toArray,List.length_cons,List.length_nil,Nat.reduceAdd,Nat.reduceSub,Array.replicate_succ,Array.replicate_zero,List.push_toArray,List.append_toArray,List.nil_append,List.cons_append]
 try dsimp only
 repeat ((fail_if_success with_reducible refine wp_reg (id:=1) ?_);first|go_values|go_skip|go_step|go_guarded|go_upon|go_in|go_back)
 with_reducible refine wp_reg (id:=1) ?_
 refine wpO_want rfl ?_
 go_simp
 refine wpO_want rfl ?_
 go_simp
 refine (uh hca').mono ?_
 rintro _ y1 ⟨Ap,cp,rfl,ho,hxc⟩
 clear ho
 refine ⟨_,rfl,?_⟩
 replace hP:=hide ((uh hP).ext hxc)
 clear hxc
 generalize htu0:Value.tuple _=tu
 have htu:=hide htu0
 clear htu0
 refine wpO_val rfl (run_move rfl rfl) ?_
 go_frame
 refine wpO_val rfl (run_extract (i:=0) (v:=.slice Ap m9 cp) rfl (uh htu).symm rfl) ?_
 go_frame
 refine wpO_val rfl (run_extract (i:=1) (v:=.bool q) rfl (uh htu).symm rfl) ?_
 go_frame
 iterate 2
  refine wpO_want rfl ?_
  go_simp
 refine wpO_done ?_
 try go_frame
 clear htu
 try dsimp only
 repeat ((fail_if_success with_reducible refine wp_reg (id:=2) ?_);first|go_values|go_skip|go_step|go_guarded|go_upon|go_in|go_back)
 with_reducible refine wp_reg (id:=2) ?_
 iterate 2
  refine wpO_want rfl ?_
  go_simp
 refine wpO_done ?_
 try go_frame
 go_wp2_with fail
 refine Sp.leaves0 ?_
 exact ⟨_,results_tmp (t:=2) rfl _ _ _,rfl,(uh hP).extf⟩
theorem withoutE_any (g bv be:Nat) (V:List (Int×Thing)) (E:List ((Int×Int)×Thing)) (u v lab wt:Int) (w:World) (hg:IsG w g bv be V E) (he:(u,v)∈E.map (·.1)) :
  Calls Tryz.prog 102 #[.pointer (some ⟨g,0,none⟩),.agg #[.int .i64 u,.int .i64 v,.int .u8 lab,.int .i64 wt]] w (WoPost V (cutE (u,v) E) w):=by
 have hg':=hide hg
 have hok:=hide (show i64ok u∧i64ok v by
  have hi:=hg.inv
  obtain ⟨e,he1,he2⟩:=List.mem_map.1 he
  obtain ⟨⟨t1,h1⟩,⟨t2,h2⟩⟩:=hi.ends e he1
  have hr:∀ x,x∈V.map (·.1)→i64ok x:=fun x hx=>by
   rw [← toL_vS hi] at hx
   exact toL_ok hx
  rw [he2] at h1 h2
  exact ⟨hr _ (List.mem_map.2 ⟨_,h1,rfl⟩),hr _ (List.mem_map.2 ⟨_,h2,rfl⟩)⟩)
 have hcut:=hide (cut_ok hg.inv he)
 clear hg he
 have hP:=hide (Sp.new w)
 refine callsIn_wide.1 (callsIn_of_wp_marks (n:=0) Tryz.func102 rfl trivial (wpIn_wide.2 ?_))
 simp only [Tryz.ntmps102,List.size_toArray,List.length_cons,List.length_nil,Nat.reduceAdd,Nat.reduceSub,Array.replicate_succ,Array.replicate_zero,List.push_toArray,List.append_toArray,List.nil_append,List.cons_append]
 try dsimp only
 repeat ((fail_if_success with_reducible refine wp_reg (id:=0) ?_);first|go_values|go_skip|go_step|go_guarded|go_upon|go_in|go_back)
 with_reducible refine wp_reg (id:=0) ?_
 refine (uh hP).allocO 61 #[.int .i64 u,.int .i64 v,.int .u8 lab,.int .i64 wt] rfl (run_box (v:=.agg #[.int .i64 u,.int .i64 v,.int .u8 lab,.int .i64 wt]) rfl rfl) ?_
 intro r3 y1 hQ
 replace hP:=hide hQ
 clear hQ
 refine wpO_want rfl ?_
 go_simp
 refine wpO_done ?_
 try go_frame
 try dsimp only
 repeat ((fail_if_success with_reducible refine wp_reg (id:=1) ?_);first|go_values|go_skip|go_step|go_guarded|go_upon|go_in|go_back)
 with_reducible refine wp_reg (id:=1) ?_
 refine wpO_want rfl ?_
 go_simp
 refine wpO_want rfl ?_
 go_simp
 refine (clone_any g bv be V E y1 ((uh hg').ext (uh hP).extf)).mono ?_
 rintro _ y2 ⟨o,ov,oe,rfl,ho0,hxc,n1,n2,n3⟩
 have hsz:=(uh hP).keep.size
 have hb:=hide (show w.heap.size≤o∧w.heap.size≤ov∧w.heap.size≤oe by omega)
 have ho:=hide ho0
 refine ⟨_,rfl,?_⟩
 replace hP:=hide ((uh hP).ext hxc)
 clear hxc ho0 n1 n2 n3 hsz
 refine wpO_want rfl ?_
 go_simp
 refine wpO_done ?_
 try go_frame
 try dsimp only
 repeat ((fail_if_success with_reducible refine wp_reg (id:=2) ?_);first|go_values|go_skip|go_step|go_guarded|go_upon|go_in|go_back)
 with_reducible refine wp_reg (id:=2) ?_
 have q0:=(uh hP).cell 0 0 (v:=.int .i64 u) rfl rfl
 have q1:=(uh hP).cell 0 1 (v:=.int .i64 v) rfl rfl
 have hself:=Ext.refl y2
 iterate 6
  refine wpO_want rfl ?_
  go_simp
 clear q0 q1 hself
 refine wpO_want rfl ?_
 go_simp
 have hca:=apply_any o ov oe V E 3 u v 0 0 y2 (uh ho) (uh hok).1 (uh hok).2
 obtain ⟨hw9,hv9,he9⟩:=uh hcut
 have hw9:wrongR 3 u v 0 V E=0:=hw9
 have hv9:nxV 3 u v 0 0 V E=V:=hv9
 have he9:nxE 3 u v 0 0 V E=cutE (u,v) E:=he9
 rw [hw9,hv9,he9] at hca
 refine hca.mono ?_
 clear hca hw9 hv9 he9
 rintro _ y3 ⟨rfl,hg9,hk9⟩
 refine ⟨_,rfl,?_⟩
 replace hP:Hid (Sp w [] w [] [] [] y3):=hide ((Sp.new w).ext (ext_turnZ (uh hP).extf hk9 ⟨(uh hb).2.1,(uh hb).2.2⟩))
 have hf:=hide hg9
 clear hg9 hk9
 try go_frame
 refine wpO_done ?_
 try go_frame
 try dsimp only
 repeat ((fail_if_success with_reducible refine wp_reg (id:=3) ?_);first|go_values|go_skip|go_step|go_guarded|go_upon|go_in|go_back)
 with_reducible refine wp_reg (id:=3) ?_
 iterate 2
  refine wpO_want rfl ?_
  go_simp
 refine wpO_done ?_
 try go_frame
 go_wp2_with fail
 refine Sp.leaves0 ?_
 exact ⟨_,results_tmp (t:=4) rfl _ _ _,o,ov,oe,rfl,uh hf,(uh hP).extf,(uh hb).1,(uh hb).2.1,(uh hb).2.2⟩
theorem over_any (g bv be f fv fe:Nat) (V:List (Int×Thing)) (E:List ((Int×Int)×Thing)) (V2:List (Int×Thing)) (E2:List ((Int×Int)×Thing)) (w:World) (hg:IsG w g bv be V E) (hf:IsG w f fv fe V2 E2) :
  Calls Tryz.prog 98 #[.pointer (some ⟨g,0,none⟩),.pointer (some ⟨f,0,none⟩)] w (OvPost V E V2 E2 w):=by
 have hg':=hide hg
 have hf':=hide hf
 have hnE:=hide hg.nE
 have hnE2:=hide hf.nE
 clear hg hf
 have hP:=hide (Sp.new w)
 refine callsIn_wide.1 (callsIn_of_wp_marks (n:=0) Tryz.func98 rfl trivial (wpIn_wide.2 ?_))
 simp only [Tryz.ntmps98,List.size_toArray,List.length_cons,List.length_nil,Nat.reduceAdd,Nat.reduceSub,Array.replicate_succ,Array.replicate_zero,List.push_toArray,List.append_toArray,List.nil_append,List.cons_append]
 try dsimp only
 repeat ((fail_if_success with_reducible refine wp_reg (id:=0) ?_);first|go_values|go_skip|go_step|go_guarded|go_upon|go_in|go_back)
 with_reducible refine wp_reg (id:=0) ?_
 iterate 2
  refine wpO_want rfl ?_
  go_simp
 refine wpO_done ?_
 try go_frame
 try dsimp only
 repeat ((fail_if_success with_reducible refine wp_reg (id:=1) ?_);first|go_values|go_skip|go_step|go_guarded|go_upon|go_in|go_back)
 with_reducible refine wp_reg (id:=1) ?_
 iterate 6
  refine wpO_want rfl ?_
  go_simp
 refine wpO_done ?_
 try go_frame
 try dsimp only
 repeat ((fail_if_success with_reducible refine wp_reg (id:=3) ?_);first|go_values|go_skip|go_step|go_guarded|go_upon|go_in|go_back)
 with_reducible refine wp_reg (id:=3) ?_
 refine wpO_want rfl ?_
 go_simp
 refine wpO_want rfl ?_
 go_simp
 refine (vsetG (some ⟨g,0,none⟩) V E w ((GL.of (uh hg')).ext (uh hP).extf)).mono ?_
 rintro _ y1 ⟨rfl,hxc⟩
 refine ⟨_,rfl,?_⟩
 replace hP:=hide ((uh hP).ext hxc)
 clear hxc
 refine wpO_want rfl ?_
 go_simp
 refine wpO_want rfl ?_
 go_simp
 refine (vsetG (some ⟨f,0,none⟩) V2 E2 y1 ((GL.of (uh hf')).ext (uh hP).extf)).mono ?_
 rintro _ y2 ⟨rfl,hxc⟩
 refine ⟨_,rfl,?_⟩
 replace hP:=hide ((uh hP).ext hxc)
 clear hxc
 obtain ⟨q,hq⟩ : ∃ q,q=eqS (vS V) (vS V2):=⟨_,rfl⟩
 have hq':=hide hq
 refine wpO_val (v:=.bool (!q)) rfl (by rw [run_neq_Set (N:=vS V) (M:=vS V2) rfl rfl rfl, ← hq]) ?_
 try go_frame
 refine wpO_done ?_
 try go_frame
 clear hq
 cases q
 ·skip
  go_wp2_with fail
  refine Sp.leaves0 ?_
  exact ⟨_,results_tmp2 (t:=4) (u:=5) rfl _ _ _,.inl ⟨by unfold okO;rw [← uh hq'];rfl,rfl⟩,(uh hP).extf⟩
 ·skip
  try dsimp only
  repeat ((fail_if_success with_reducible refine wp_reg (id:=5) ?_);first|go_values|go_skip|go_step|go_guarded|go_upon|go_in|go_back)
  with_reducible refine wp_reg (id:=5) ?_
  refine wpO_want rfl ?_
  go_simp
  refine wpO_want rfl ?_
  go_simp
  refine (edges_rel g bv be V E y2 ((uh hg').ext (uh hP).extf)).mono ?_
  rintro _ y3 ⟨Aa,ca,rfl,ho,hxc⟩
  obtain ⟨na,hn0⟩ : ∃ n,n=E.length:=⟨_,rfl⟩
  rw [← hn0] at ho
  rw [← hn0]
  have hna:=hide hn0
  clear hn0
  refine ⟨_,rfl,?_⟩
  have hsa:=hide (show SlAt encE 4 y3 Aa E from own_at (enc:=encE) (by rw [uh hna] at ho;exact ho) (fun _=>rfl))
  replace hP:Hid (Sp w [] w [] [] [(61,4,.slice Aa na ca,na,E.flatMap encE)] y3):=hide ((uh hP).addRow hxc ho)
  clear hxc ho
  try go_frame
  iterate 2
   refine wpO_want rfl ?_
   go_simp
  refine wpO_done ?_
  try go_frame
  go_wp2_with fail
  obtain ⟨I3_4,hI3_40⟩ : ∃ I:Nat→Act→World→Prop,I=fun fi a' wr=>∃ (i:Nat),a'.tmps.size=73∧a'.tmps.getD 0 undef=.pointer (some ⟨g,0,none⟩)∧a'.tmps.getD 1 undef=.pointer (some ⟨f,0,none⟩)∧a'.tmps.getD 29 undef=.slice Aa na ca∧a'.tmps.getD 30 undef=.int .i64 (na:Nat)∧a'.tmps.getD 31 undef=.int .i64 (i:Nat)∧a'.defers=[]∧i≤na∧((E.take i).all (fun e=>hasE e.1.1 e.1.2 E2)=true)∧Sp w [] w [] [] [(61,4,.slice Aa na ca,na,E.flatMap encE)] wr∧fi=na-i:=⟨_,rfl⟩
  have hI3_4:=hide hI3_40
  clear hI3_40
  refine wp_loop_ix I3_4 (na-0) ?_ ?_
  ·rw [uh hI3_4];exact ⟨0,rfl,rfl,rfl,rfl,rfl,rfl,rfl,Nat.zero_le _,rfl,uh hP,rfl⟩
  ·rintro fi ⟨tm,dfs⟩ wr hrel
   rw [uh hI3_4] at hrel
   obtain ⟨i,hsz,e0,e1,e29,e30,e31,hdf,hin,hal,hPr,hfm⟩:=hrel
   obtain ⟨us,rfl⟩ : ∃ us:Nat→Value,tm=#[us 0,us 1,us 2,us 3,us 4,us 5,us 6,us 7,us 8,us 9,us 10,us 11,us 12,us 13,us 14,us 15,us 16,us 17,us 18,us 19,us 20,us 21,us 22,us 23,us 24,us 25,us 26,us 27,us 28,us 29,us 30,us 31,us 32,us 33,us 34,us 35,us 36,us 37,us 38,us 39,us 40,us 41,us 42,us 43,us 44,us 45,us 46,us 47,us 48,us 49,us 50,us 51,us 52,us 53,us 54,us 55,us 56,us 57,us 58,us 59,us 60,us 61,us 62,us 63,us 64,us 65,us 66,us 67,us 68,us 69,us 70,us 71,us 72]:=⟨fun i=>tm.getD i undef,arr_fn hsz⟩
   have h0:us 0=.pointer (some ⟨g,0,none⟩):=e0
   have h1:us 1=.pointer (some ⟨f,0,none⟩):=e1
   have h29:us 29=.slice Aa na ca:=e29
   have h30:us 30=.int .i64 (na:Nat):=e30
   have h31:us 31=.int .i64 (i:Nat):=e31
   have hdf2:dfs=[]:=hdf
   subst hdf2
   clear hdf hsz e0 e1 e29 e30 e31
   simp only [h0,h1,h29,h30,h31]
   clear h0 h1 h29 h30 h31
   clear hP
   have hP:=hide hPr
   have hsa:=hide (show SlAt encE 4 wr Aa E from own_at (enc:=encE) (by have h:=(uh hP).row 0 rfl;rw [uh hna] at h;exact h) (fun _=>rfl))
   have hfm':=hide hfm
   have hal':=hide hal
   clear hPr hfm hal
   by_cases hlt:i < na
   ·skip
    have hil:(i:Int) < (na:Int):=by omega
    have hlt':=hide hlt
    have hiE:i < E.length:=by rw [← uh hna];exact hlt
    have hib:(i:Int)≤4096:=by have:=uh hnE;have:=uh hna;omega
    obtain ⟨b9,o9,u,v,lab,wt,rfl,hxe,hld⟩:=(uh hsa).edge hiE
    have hld':=hide hld
    have hxe':=hide (Exists.intro hiE hxe:∃ h:i < E.length,E[i]=((u,v),(lab,wt)))
    clear hlt hin hld hxe hiE hsa
    try dsimp only
    repeat ((fail_if_success with_reducible refine wp_reg (id:=6) ?_);first|go_values|go_skip|go_step|go_guarded|go_upon|go_in|go_back)
    with_reducible refine wp_reg (id:=6) ?_
    refine wpO_want rfl ?_
    go_simp
    refine wpO_done ?_
    try go_frame
    try dsimp only
    repeat ((fail_if_success with_reducible refine wp_reg (id:=7) ?_);first|go_values|go_skip|go_step|go_guarded|go_upon|go_in|go_back)
    with_reducible refine wp_reg (id:=7) ?_
    refine wpO_want rfl ?_
    go_simp
    refine wpO_val (v:=.agg #[.int .i64 u,.int .i64 v,.int .u8 lab,.int .i64 wt]) rfl (load_EdZ rfl rfl (uh hld' _ (Keep.refl [] _))) ?_
    try go_frame
    refine (uh hP).allocO 61 #[.int .i64 0,.int .i64 0,.int .u8 0,.int .i64 0] rfl (by go_simp) ?_
    intro r7 y4 hQ
    replace hP:=hide hQ
    clear hQ
    refine (uh hP).setO 0 #[.int .i64 u,.int .i64 v,.int .u8 lab,.int .i64 wt] rfl rfl (fun hb=>run_store_row (v:=.agg #[.int .i64 u,.int .i64 v,.int .u8 lab,.int .i64 wt]) rfl (by rfl) (by rfl) (by simp [go_sem]) hb rfl (fun u hu=>by simp [Value.cells] at hu;rcases hu with rfl | rfl | rfl | rfl <;> rfl)) ?_
    intro y5 hQ
    replace hP:=hide hQ
    clear hQ
    refine wpO_done ?_
    try go_frame
    clear hil
    try dsimp only
    repeat ((fail_if_success with_reducible refine wp_reg (id:=8) ?_);first|go_values|go_skip|go_step|go_guarded|go_upon|go_in|go_back)
    with_reducible refine wp_reg (id:=8) ?_
    have q0:=(uh hP).cell 0 0 (v:=.int .i64 u) rfl rfl
    have q1:=(uh hP).cell 0 1 (v:=.int .i64 v) rfl rfl
    have hself:=Ext.refl y5
    iterate 5
     refine wpO_want rfl ?_
     go_simp
    clear q0 q1 hself
    refine wpO_want rfl ?_
    go_simp
    obtain ⟨qh,hqh⟩ : ∃ q,q=hasE u v E2:=⟨_,rfl⟩
    have hca:=edge_has f fv fe V2 E2 u v y5 ((uh hf').ext (uh hP).extf)
    rw [← hqh] at hca
    have hqh':=hide hqh
    clear hqh
    refine hca.mono ?_
    clear hca
    rintro _ y6 ⟨x0,x1,x2,x3,kk,rfl,hxc⟩
    refine ⟨_,rfl,?_⟩
    replace hP:=hide ((uh hP).ext hxc)
    clear hxc
    generalize htu0:Value.tuple _=tu
    have htu:=hide htu0
    clear htu0
    refine wpO_val rfl (run_move rfl rfl) ?_
    go_frame
    refine wpO_val rfl (run_extract (i:=0) (v:=.agg #[.int .i64 x0,.int .i64 x1,.int .u8 x2,.int .i64 x3]) rfl (uh htu).symm rfl) ?_
    go_frame
    refine wpO_val rfl (run_extract (i:=1) (v:=.int .i64 kk) rfl (uh htu).symm rfl) ?_
    go_frame
    refine wpO_val rfl (run_extract (i:=2) (v:=.bool qh) rfl (uh htu).symm rfl) ?_
    go_frame
    refine (uh hP).allocO 61 #[.int .i64 0,.int .i64 0,.int .u8 0,.int .i64 0] rfl (by go_simp) ?_
    intro r72 y7 hQ
    replace hP:=hide hQ
    clear hQ
    refine (uh hP).setO 1 #[.int .i64 x0,.int .i64 x1,.int .u8 x2,.int .i64 x3] rfl rfl (fun hb=>run_store_row (v:=.agg #[.int .i64 x0,.int .i64 x1,.int .u8 x2,.int .i64 x3]) rfl (by rfl) (by rfl) (by simp [go_sem]) hb rfl (fun u hu=>by simp [Value.cells] at hu;rcases hu with rfl | rfl | rfl | rfl <;> rfl)) ?_
    intro y8 hQ
    replace hP:=hide hQ
    clear hQ
    iterate 2
     refine wpO_want rfl ?_
     go_simp
    refine wpO_done ?_
    try go_frame
    clear htu
    replace hP:Hid (Sp w [] w [] [(r7,61,#[.int .i64 u,.int .i64 v,.int .u8 lab,.int .i64 wt])] [(61,4,.slice (some ⟨b9,o9,none⟩) na ca,na,E.flatMap encE)] y8):=hide ((uh hP).sub (List.sublist_append_left _ ([(r72,61,#[.int .i64 x0,.int .i64 x1,.int .u8 x2,.int .i64 x3])] : List Cl)) (List.Sublist.refl _))
    try dsimp only
    repeat ((fail_if_success with_reducible refine wp_reg (id:=9) ?_);first|go_values|go_skip|go_step|go_guarded|go_upon|go_in|go_back)
    with_reducible refine wp_reg (id:=9) ?_
    iterate 2
     refine wpO_want rfl ?_
     go_simp
    refine wpO_done ?_
    try go_frame
    cases qh
    ·skip
     have hst:=hide (show okO V E V2 E2=false by obtain ⟨h1,h2⟩:=uh hxe';unfold okO;rw [all_stop (fun e:(Int×Int)×Thing=>hasE e.1.1 e.1.2 E2) E h1 (by rw [h2];exact (uh hqh').symm),Bool.and_false])
     go_wp2_with fail
     refine Sp.leaves0 ?_
     exact ⟨_,results_tmp2 (t:=4) (u:=5) rfl _ _ _,.inl ⟨uh hst,rfl⟩,(uh hP).extf⟩
    ·skip
     replace hP:Hid (Sp w [] w [] [] [(61,4,.slice (some ⟨b9,o9,none⟩) na ca,na,E.flatMap encE)] y8):=hide ((uh hP).sub (List.sublist_append_left _ ([(r7,61,#[.int .i64 u,.int .i64 v,.int .u8 lab,.int .i64 wt])] : List Cl)) (List.Sublist.refl _))
     go_wp2_with fail
     refine ⟨na-(i+1),?_,by have:=uh hfm';have:=uh hlt';omega⟩
     rw [uh hI3_4]
     exact ⟨i+1,(by first | rfl | trivial),(by first | rfl | trivial),(by first | rfl | trivial),(by first | rfl | trivial),(by first | rfl | trivial),(by first | rfl | (show _=Value.int _ _;go_num) | go_num),(by first | rfl | trivial),by have:=uh hlt';omega,(by obtain ⟨h1,h2⟩:=uh hxe';rw [all_next _ _ h1,uh hal',h2];exact (uh hqh').symm),uh hP,rfl⟩
   ·skip
    have hil:¬ (i:Int) < (na:Int):=by omega
    have hok:=hide (show okO V E V2 E2=true by have h:=uh hal';rw [List.take_of_length_le (by rw [← uh hna];omega)] at h;unfold okO;rw [← uh hq',h];rfl)
    clear hlt hin hal'
    try dsimp only
    repeat ((fail_if_success with_reducible refine wp_reg (id:=6) ?_);first|go_values|go_skip|go_step|go_guarded|go_upon|go_in|go_back)
    with_reducible refine wp_reg (id:=6) ?_
    refine wpO_want rfl ?_
    go_simp
    refine wpO_done ?_
    try go_frame
    clear hil
    try dsimp only
    repeat ((fail_if_success with_reducible refine wp_reg (id:=12) ?_);first|go_values|go_skip|go_step|go_guarded|go_upon|go_in|go_back)
    with_reducible refine wp_reg (id:=12) ?_
    refine wpO_want rfl ?_
    go_simp
    refine wpO_done ?_
    try go_frame
    skip
    replace hP:Hid (Sp w [] w [] [] [(61,4,.slice Aa na ca,na,E.flatMap encE),(61,4,.slice none 0 0,0,([] : List ((Int×Int)×Thing)).flatMap encE)] wr):=hide ((uh hP).nil 61 4)
    try dsimp only
    repeat ((fail_if_success with_reducible refine wp_reg (id:=13) ?_);first|go_values|go_skip|go_step|go_guarded|go_upon|go_in|go_back)
    with_reducible refine wp_reg (id:=13) ?_
    refine wpO_want rfl ?_
    go_simp
    refine wpO_want rfl ?_
    go_simp
    refine (edges_rel f fv fe V2 E2 wr ((uh hf').ext (uh hP).extf)).mono ?_
    rintro _ y4 ⟨Am,cm,rfl,ho,hxc⟩
    obtain ⟨nm,hn0⟩ : ∃ n,n=E2.length:=⟨_,rfl⟩
    rw [← hn0] at ho
    rw [← hn0]
    have hnm:=hide hn0
    clear hn0
    refine ⟨_,rfl,?_⟩
    have hsm:=hide (show SlAt encE 4 y4 Am E2 from own_at (enc:=encE) (by rw [uh hnm] at ho;exact ho) (fun _=>rfl))
    replace hP:Hid (Sp w [] w [] [] [(61,4,.slice Aa na ca,na,E.flatMap encE),(61,4,.slice none 0 0,0,([] : List ((Int×Int)×Thing)).flatMap encE),(61,4,.slice Am nm cm,nm,E2.flatMap encE)] y4):=hide ((uh hP).addRow hxc ho)
    clear hxc ho
    try go_frame
    iterate 2
     refine wpO_want rfl ?_
     go_simp
    refine wpO_done ?_
    try go_frame
    go_wp2_with fail
    obtain ⟨I4_8,hI4_80⟩ : ∃ I:Nat→Act→World→Prop,I=fun fi a' wr=>∃ (i:Nat), ∃ (Al:Option Addr), ∃ (q:Nat), ∃ (cl:Nat),a'.tmps.size=73∧a'.tmps.getD 0 undef=.pointer (some ⟨g,0,none⟩)∧a'.tmps.getD 11 undef=.slice Al q cl∧a'.tmps.getD 49 undef=.slice Am nm cm∧a'.tmps.getD 50 undef=.int .i64 (nm:Nat)∧a'.tmps.getD 51 undef=.int .i64 (i:Nat)∧a'.defers=[]∧i≤nm∧q=(moreO E (E2.take i)).length∧Sp w [] w [] [] [(61,4,.slice Aa na ca,na,E.flatMap encE),(61,4,.slice Al q cl,q,(moreO E (E2.take i)).flatMap encE),(61,4,.slice Am nm cm,nm,E2.flatMap encE)] wr∧fi=nm-i:=⟨_,rfl⟩
    have hI4_8:=hide hI4_80
    clear hI4_80
    refine wp_loop_ix I4_8 (nm-0) ?_ ?_
    ·rw [uh hI4_8];exact ⟨0,none,0,0,rfl,rfl,rfl,rfl,rfl,rfl,rfl,Nat.zero_le _,rfl,uh hP,rfl⟩
    ·rintro fi ⟨tm,dfs⟩ wr hrel
     rw [uh hI4_8] at hrel
     obtain ⟨i,Al,q,cl,hsz,e0,e11,e49,e50,e51,hdf,hin,hq,hPr,hfm⟩:=hrel
     obtain ⟨us,rfl⟩ : ∃ us:Nat→Value,tm=#[us 0,us 1,us 2,us 3,us 4,us 5,us 6,us 7,us 8,us 9,us 10,us 11,us 12,us 13,us 14,us 15,us 16,us 17,us 18,us 19,us 20,us 21,us 22,us 23,us 24,us 25,us 26,us 27,us 28,us 29,us 30,us 31,us 32,us 33,us 34,us 35,us 36,us 37,us 38,us 39,us 40,us 41,us 42,us 43,us 44,us 45,us 46,us 47,us 48,us 49,us 50,us 51,us 52,us 53,us 54,us 55,us 56,us 57,us 58,us 59,us 60,us 61,us 62,us 63,us 64,us 65,us 66,us 67,us 68,us 69,us 70,us 71,us 72]:=⟨fun i=>tm.getD i undef,arr_fn hsz⟩
     have h0:us 0=.pointer (some ⟨g,0,none⟩):=e0
     have h11:us 11=.slice Al q cl:=e11
     have h49:us 49=.slice Am nm cm:=e49
     have h50:us 50=.int .i64 (nm:Nat):=e50
     have h51:us 51=.int .i64 (i:Nat):=e51
     have hdf2:dfs=[]:=hdf
     subst hdf2
     clear hdf hsz e0 e11 e49 e50 e51
     simp only [h0,h11,h49,h50,h51]
     clear h0 h11 h49 h50 h51
     clear hP hsm
     have hP:=hide hPr
     have hsm:=hide (show SlAt encE 4 wr Am E2 from own_at (enc:=encE) (by have h:=(uh hP).row 2 rfl;rw [uh hnm] at h;exact h) (fun _=>rfl))
     have hfm':=hide hfm
     have hq':=hide hq
     clear hPr hfm hq
     by_cases hlt:i < nm
     ·skip
      have hqb:=hide (show q≤4096 by rw [uh hq'];exact Nat.le_trans (List.length_filter_le _ _) (by rw [List.length_take];have:=uh hnE2;omega))
      obtain ⟨xs,hxs0⟩ : ∃ xs,xs=moreO E (E2.take i):=⟨_,rfl⟩
      rw [← hxs0] at hq' hP
      have hxs:=hide hxs0
      have hnx:=hide (show ∀ h:i < E2.length,moreO E (E2.take (i+1))=xs++(if (!hasE E2[i].1.1 E2[i].1.2 E)=true then [E2[i]] else []) from fun h=>by rw [hxs0];unfold moreO;rw [List.take_succ_eq_append_getElem h,List.filter_append,List.filter_cons,List.filter_nil])
      clear hxs0
      have hil:(i:Int) < (nm:Int):=by omega
      have hlt':=hide hlt
      have hiE:i < E2.length:=by rw [← uh hnm];exact hlt
      have hib:(i:Int)≤4096:=by have:=uh hnE2;have:=uh hnm;omega
      obtain ⟨b9,o9,u,v,lab,wt,rfl,hxe,hld⟩:=(uh hsm).edge hiE
      have hld':=hide hld
      have hxe':=hide (Exists.intro hiE hxe:∃ h:i < E2.length,E2[i]=((u,v),(lab,wt)))
      clear hlt hin hld hxe hiE hsm
      try dsimp only
      repeat ((fail_if_success with_reducible refine wp_reg (id:=14) ?_);first|go_values|go_skip|go_step|go_guarded|go_upon|go_in|go_back)
      with_reducible refine wp_reg (id:=14) ?_
      refine wpO_want rfl ?_
      go_simp
      refine wpO_done ?_
      try go_frame
      try dsimp only
      repeat ((fail_if_success with_reducible refine wp_reg (id:=15) ?_);first|go_values|go_skip|go_step|go_guarded|go_upon|go_in|go_back)
      with_reducible refine wp_reg (id:=15) ?_
      refine wpO_want rfl ?_
      go_simp
      refine wpO_val (v:=.agg #[.int .i64 u,.int .i64 v,.int .u8 lab,.int .i64 wt]) rfl (load_EdZ rfl rfl (uh hld' _ (Keep.refl [] _))) ?_
      try go_frame
      refine (uh hP).allocO 61 #[.int .i64 0,.int .i64 0,.int .u8 0,.int .i64 0] rfl (by go_simp) ?_
      intro r13 y5 hQ
      replace hP:=hide hQ
      clear hQ
      refine (uh hP).setO 0 #[.int .i64 u,.int .i64 v,.int .u8 lab,.int .i64 wt] rfl rfl (fun hb=>run_store_row (v:=.agg #[.int .i64 u,.int .i64 v,.int .u8 lab,.int .i64 wt]) rfl (by rfl) (by rfl) (by simp [go_sem]) hb rfl (fun u hu=>by simp [Value.cells] at hu;rcases hu with rfl | rfl | rfl | rfl <;> rfl)) ?_
      intro y6 hQ
      replace hP:=hide hQ
      clear hQ
      refine wpO_done ?_
      try go_frame
      clear hil
      try dsimp only
      repeat ((fail_if_success with_reducible refine wp_reg (id:=16) ?_);first|go_values|go_skip|go_step|go_guarded|go_upon|go_in|go_back)
      with_reducible refine wp_reg (id:=16) ?_
      have q0:=(uh hP).cell 0 0 (v:=.int .i64 u) rfl rfl
      have q1:=(uh hP).cell 0 1 (v:=.int .i64 v) rfl rfl
      have hself:=Ext.refl y6
      iterate 5
       refine wpO_want rfl ?_
       go_simp
      clear q0 q1 hself
      refine wpO_want rfl ?_
      go_simp
      obtain ⟨qh,hqh⟩ : ∃ q,q=hasE u v E:=⟨_,rfl⟩
      have hca:=edge_has g bv be V E u v y6 ((uh hg').ext (uh hP).extf)
      rw [← hqh] at hca
      have hqh':=hide hqh
      clear hqh
      refine hca.mono ?_
      clear hca
      rintro _ y7 ⟨x0,x1,x2,x3,kk,rfl,hxc⟩
      refine ⟨_,rfl,?_⟩
      replace hP:=hide ((uh hP).ext hxc)
      clear hxc
      generalize htu0:Value.tuple _=tu
      have htu:=hide htu0
      clear htu0
      refine wpO_val rfl (run_move rfl rfl) ?_
      go_frame
      refine wpO_val rfl (run_extract (i:=0) (v:=.agg #[.int .i64 x0,.int .i64 x1,.int .u8 x2,.int .i64 x3]) rfl (uh htu).symm rfl) ?_
      go_frame
      refine wpO_val rfl (run_extract (i:=1) (v:=.int .i64 kk) rfl (uh htu).symm rfl) ?_
      go_frame
      refine wpO_val rfl (run_extract (i:=2) (v:=.bool qh) rfl (uh htu).symm rfl) ?_
      go_frame
      refine (uh hP).allocO 61 #[.int .i64 0,.int .i64 0,.int .u8 0,.int .i64 0] rfl (by go_simp) ?_
      intro r132 y8 hQ
      replace hP:=hide hQ
      clear hQ
      refine (uh hP).setO 1 #[.int .i64 x0,.int .i64 x1,.int .u8 x2,.int .i64 x3] rfl rfl (fun hb=>run_store_row (v:=.agg #[.int .i64 x0,.int .i64 x1,.int .u8 x2,.int .i64 x3]) rfl (by rfl) (by rfl) (by simp [go_sem]) hb rfl (fun u hu=>by simp [Value.cells] at hu;rcases hu with rfl | rfl | rfl | rfl <;> rfl)) ?_
      intro y9 hQ
      replace hP:=hide hQ
      clear hQ
      iterate 2
       refine wpO_want rfl ?_
       go_simp
      refine wpO_done ?_
      try go_frame
      clear htu
      replace hP:Hid (Sp w [] w [] [(r13,61,#[.int .i64 u,.int .i64 v,.int .u8 lab,.int .i64 wt])] [(61,4,.slice Aa na ca,na,E.flatMap encE),(61,4,.slice Al q cl,q,xs.flatMap encE),(61,4,.slice (some ⟨b9,o9,none⟩) nm cm,nm,E2.flatMap encE)] y9):=hide ((uh hP).sub (List.sublist_append_left _ ([(r132,61,#[.int .i64 x0,.int .i64 x1,.int .u8 x2,.int .i64 x3])] : List Cl)) (List.Sublist.refl _))
      try dsimp only
      repeat ((fail_if_success with_reducible refine wp_reg (id:=17) ?_);first|go_values|go_skip|go_step|go_guarded|go_upon|go_in|go_back)
      with_reducible refine wp_reg (id:=17) ?_
      iterate 2
       refine wpO_want rfl ?_
       go_simp
      refine wpO_done ?_
      try go_frame
      cases qh
      ·skip
       have hnx2:=hide (show moreO E (E2.take (i+1))=xs++[((u,v),(lab,wt))] by obtain ⟨h1,h2⟩:=uh hxe';rw [uh hnx h1,h2,if_pos (by rw [← uh hqh'];rfl)])
       try dsimp only
       repeat ((fail_if_success with_reducible refine wp_reg (id:=18) ?_);first|go_values|go_skip|go_step|go_guarded|go_upon|go_in|go_back)
       with_reducible refine wp_reg (id:=18) ?_
       refine wpO_want rfl ?_
       go_simp
       refine wpO_val (v:=.agg #[.int .i64 u,.int .i64 v,.int .u8 lab,.int .i64 wt]) rfl (run_load_agg (cs:=#[.int .i64 u,.int .i64 v,.int .u8 lab,.int .i64 wt]) rfl rfl (by simp [go_sem]) (by simp [go_sem]) ((uh hP).get 0 rfl).whole) ?_
       go_frame
       refine (uh hP).build1O 61 #[.int .i64 u,.int .i64 v,.int .u8 lab,.int .i64 wt] rfl (by go_simp) ?_
       intro bn y10 hQ
       replace hP:=hide hQ
       clear hQ
       try go_frame
       refine (uh hP).ap1O (enc:=encE) (T:=61) (ST:=57) 1 (v:=.slice Al q cl) (m:=q) (xs:=xs) rfl rfl infoE Tryz.underlying57 one_encE (fun _=>rfl) (by decide) (by decide) rfl (((u,v),(lab,wt)) : (Int×Int)×Thing) rfl rfl ((uh hP).get 1 rfl) (by have:=uh hqb;omega) ?_
       intro A4 cA4 y11 hQ
       replace hP:=hide hQ
       clear hQ
       try go_frame
       replace hP:Hid (Sp w [] w [] [(r13,61,#[.int .i64 u,.int .i64 v,.int .u8 lab,.int .i64 wt])] [(61,4,.slice Aa na ca,na,E.flatMap encE),(61,4,.slice A4 (q+1) cA4,q+1,(xs++[(((u,v),(lab,wt)) : (Int×Int)×Thing)]).flatMap encE),(61,4,.slice (some ⟨b9,o9,none⟩) nm cm,nm,E2.flatMap encE)] y11):=hide ((uh hP).sub (List.sublist_append_left _ ([(bn,61,#[.int .i64 u,.int .i64 v,.int .u8 lab,.int .i64 wt])] : List Cl)) (List.Sublist.refl _))
       refine wpO_want rfl ?_
       go_simp
       refine wpO_done ?_
       try go_frame
       replace hP:Hid (Sp w [] w [] [] [(61,4,.slice Aa na ca,na,E.flatMap encE),(61,4,.slice A4 (q+1) cA4,q+1,(xs++[(((u,v),(lab,wt)) : (Int×Int)×Thing)]).flatMap encE),(61,4,.slice (some ⟨b9,o9,none⟩) nm cm,nm,E2.flatMap encE)] y11):=hide ((uh hP).sub (List.sublist_append_left _ ([(r13,61,#[.int .i64 u,.int .i64 v,.int .u8 lab,.int .i64 wt])] : List Cl)) (List.Sublist.refl _))
       go_wp2_with fail
       refine ⟨nm-(i+1),?_,by have:=uh hfm';have:=uh hlt';omega⟩
       rw [uh hI4_8]
       exact ⟨i+1,A4,q+1,cA4,(by first | rfl | trivial),(by first | rfl | trivial),(by first | rfl | trivial),(by first | rfl | trivial),(by first | rfl | trivial),(by first | rfl | (show _=Value.int _ _;go_num) | go_num),(by first | rfl | trivial),by have:=uh hlt';omega,(by rw [uh hnx2,List.length_append, ← uh hq'];rfl),(by rw [uh hnx2];exact uh hP),rfl⟩
      ·skip
       have hnx2:=hide (show moreO E (E2.take (i+1))=xs by obtain ⟨h1,h2⟩:=uh hxe';rw [uh hnx h1,h2,if_neg (by rw [← uh hqh'];simp),List.append_nil])
       replace hP:Hid (Sp w [] w [] [] [(61,4,.slice Aa na ca,na,E.flatMap encE),(61,4,.slice Al q cl,q,xs.flatMap encE),(61,4,.slice (some ⟨b9,o9,none⟩) nm cm,nm,E2.flatMap encE)] y9):=hide ((uh hP).sub (List.sublist_append_left _ ([(r13,61,#[.int .i64 u,.int .i64 v,.int .u8 lab,.int .i64 wt])] : List Cl)) (List.Sublist.refl _))
       go_wp2_with fail
       refine ⟨nm-(i+1),?_,by have:=uh hfm';have:=uh hlt';omega⟩
       rw [uh hI4_8]
       exact ⟨i+1,Al,q,cl,(by first | rfl | trivial),(by first | rfl | trivial),(by first | rfl | trivial),(by first | rfl | trivial),(by first | rfl | trivial),(by first | rfl | (show _=Value.int _ _;go_num) | go_num),(by first | rfl | trivial),by have:=uh hlt';omega,(by rw [uh hnx2];exact uh hq'),(by rw [uh hnx2];exact uh hP),rfl⟩
     ·skip
      have hil:¬ (i:Int) < (nm:Int):=by omega
      have hte:=hide (show E2.take i=E2 from List.take_of_length_le (by rw [← uh hnm];omega))
      clear hlt hin
      try dsimp only
      repeat ((fail_if_success with_reducible refine wp_reg (id:=14) ?_);first|go_values|go_skip|go_step|go_guarded|go_upon|go_in|go_back)
      with_reducible refine wp_reg (id:=14) ?_
      refine wpO_want rfl ?_
      go_simp
      refine wpO_done ?_
      try go_frame
      clear hil
      try dsimp only
      repeat ((fail_if_success with_reducible refine wp_reg (id:=20) ?_);first|go_values|go_skip|go_step|go_guarded|go_upon|go_in|go_back)
      with_reducible refine wp_reg (id:=20) ?_
      iterate 3
       refine wpO_want rfl ?_
       go_simp
      refine wpO_done ?_
      try go_frame
      go_wp2_with fail
      refine Sp.leaves0 ?_
      exact ⟨_,results_tmp2 (t:=4) (u:=5) rfl _ _ _,.inr ⟨uh hok,Al,q,cl,rfl,by rw [uh hq',uh hte],by have h:=(uh hP).row 1 rfl;rw [uh hte] at h;exact h⟩,(uh hP).extf⟩
structure PrE (w:World) (g:Nat) (lb:Array Value) (L:List ((Int×Int)×Thing)) (f:(Int×Int)×Thing→Bool) : Prop where
 enters:∀ args w,(callFunc g args).run Tryz.prog w=.ok (.enter g args) w
 calls:∀ (W:World) (e:(Int×Int)×Thing),Ext w W→e∈L→Calls Tryz.prog g (#[(.agg #[.int .i64 e.1.1,.int .i64 e.1.2,.int .u8 e.2.1,.int .i64 e.2.2])]++lb) W fun x w'=>x=.returned (.bool (f e))∧Ext W w'
theorem posI_any {α:Type} (p:α→Bool) (l:List α) : decide (0≤posI p l)=l.any p:=by
 rcases posI_cases p l with ⟨h1,h2⟩ | ⟨i,h1,h2,h3⟩
 ·rw [h1,List.any_eq_false.2 (fun x hx=>by rw [h2 x hx];simp)]
  rfl
 ·rw [h2,List.any_eq_true.2 ⟨l[i],List.getElem_mem h1,h3⟩]
  simp
theorem indexE_any (A:Option Addr) (L:List ((Int×Int)×Thing)) (n cA g:Nat) (lb:Array Value) (f:(Int×Int)×Thing→Bool) (w:World) (hL:SlAt encE 4 w A L) (hn:n=L.length) (hl:n≤4096) (hf:PrE w g lb L f) :
  Calls Tryz.prog 154 #[.slice A n cA,.func (.func g) #[] lb] w fun e w'=>e=.returned (.int .i64 (posI f L))∧Ext w w':=by
 have hL':=hide hL
 have hn':=hide hn
 have hl':=hide hl
 clear hL hn hl
 have hen:=hf.enters
 have hf':=hide hf
 clear hf
 obtain ⟨R,hR0⟩ : ∃ R,R=posI f L:=⟨_,rfl⟩
 rw [← hR0]
 have hR:=hide hR0
 clear hR0
 have hP:=hide (Sp.new w)
 refine callsIn_wide.1 (callsIn_of_wp_marks (n:=0) Tryz.func154 rfl trivial (wpIn_wide.2 ?_))
 simp only [Tryz.ntmps154,List.size_toArray,List.length_cons,List.length_nil,Nat.reduceAdd,Nat.reduceSub,Array.replicate_succ,Array.replicate_zero,List.push_toArray,List.append_toArray,List.nil_append,List.cons_append]
 try dsimp only
 repeat ((fail_if_success with_reducible refine wp_reg (id:=1) ?_);first|go_values|go_skip|go_step|go_guarded|go_upon|go_in|go_back)
 with_reducible refine wp_reg (id:=1) ?_
 iterate 3
  refine wpO_want rfl ?_
  go_simp
 refine wpO_done ?_
 try go_frame
 go_wp2_with fail
 obtain ⟨I0_2,hI0_20⟩ : ∃ I:Nat→Act→World→Prop,I=fun fi a' wr=>∃ (i:Nat),a'.tmps.size=19∧a'.tmps.getD 0 undef=.slice A n cA∧a'.tmps.getD 1 undef=.func (.func g) #[] lb∧a'.tmps.getD 7 undef=.int .i64 (n:Nat)∧a'.tmps.getD 8 undef=.int .i64 (i:Nat)∧a'.defers=[]∧i≤n∧(∀ j (h:j < L.length),j < i→f L[j]=false)∧Sp w [] w [] [] [] wr∧fi=n-i:=⟨_,rfl⟩
 have hI0_2:=hide hI0_20
 clear hI0_20
 refine wp_loop_ix I0_2 (n-0) ?_ ?_
 ·rw [uh hI0_2];exact ⟨0,rfl,rfl,rfl,rfl,rfl,rfl,Nat.zero_le _,(fun j h h2=>absurd h2 (Nat.not_lt_zero _)),uh hP,rfl⟩
 ·rintro fi ⟨tm,dfs⟩ wr hrel
  rw [uh hI0_2] at hrel
  obtain ⟨i,hsz,e0,e1,e7,e8,hdf,hin,hno,hPr,hfm⟩:=hrel
  obtain ⟨us,rfl⟩ : ∃ us:Nat→Value,tm=#[us 0,us 1,us 2,us 3,us 4,us 5,us 6,us 7,us 8,us 9,us 10,us 11,us 12,us 13,us 14,us 15,us 16,us 17,us 18]:=⟨fun i=>tm.getD i undef,arr_fn hsz⟩
  have h0:us 0=.slice A n cA:=e0
  have h1:us 1=.func (.func g) #[] lb:=e1
  have h7:us 7=.int .i64 (n:Nat):=e7
  have h8:us 8=.int .i64 (i:Nat):=e8
  have hdf2:dfs=[]:=hdf
  subst hdf2
  clear hdf hsz e0 e1 e7 e8
  simp only [h0,h1,h7,h8]
  clear h0 h1 h7 h8
  clear hP
  have hP:=hide hPr
  have hfm':=hide hfm
  have hno':=hide hno
  clear hPr hfm hno
  by_cases hlt:i < n
  ·skip
   have hil:(i:Int) < (n:Int):=by omega
   have hi2:=hide hlt
   have hiL:i < L.length:=by rw [← uh hn'];exact hlt
   have hib:(i:Int)≤4096:=by have:=uh hl';omega
   obtain ⟨b9,o9,u,v,lab,wt,rfl,hxe,hld⟩:=(uh hL').edge hiL
   have hld':=hide hld
   have hxe':=hide (Exists.intro hiL hxe:∃ h:i < L.length,L[i]=((u,v),(lab,wt)))
   have hmem:=hide (show (((u,v),(lab,wt)) : (Int×Int)×Thing)∈L by rw [← hxe];exact List.getElem_mem hiL)
   clear hlt hin hld hxe hiL
   try dsimp only
   repeat ((fail_if_success with_reducible refine wp_reg (id:=2) ?_);first|go_values|go_skip|go_step|go_guarded|go_upon|go_in|go_back)
   with_reducible refine wp_reg (id:=2) ?_
   refine wpO_want rfl ?_
   go_simp
   refine wpO_done ?_
   try go_frame
   try dsimp only
   repeat ((fail_if_success with_reducible refine wp_reg (id:=3) ?_);first|go_values|go_skip|go_step|go_guarded|go_upon|go_in|go_back)
   with_reducible refine wp_reg (id:=3) ?_
   iterate 2
    refine wpO_want rfl ?_
    go_simp
   refine wpO_done ?_
   try go_frame
   try dsimp only
   repeat ((fail_if_success with_reducible refine wp_reg (id:=4) ?_);first|go_values|go_skip|go_step|go_guarded|go_upon|go_in|go_back)
   with_reducible refine wp_reg (id:=4) ?_
   iterate 4
    refine wpO_want rfl ?_
    go_simp
   refine wpO_val (v:=.agg #[.int .i64 u,.int .i64 v,.int .u8 lab,.int .i64 wt]) rfl (load_EdZ rfl rfl (uh hld' _ ((uh hP).extf.keep []))) ?_
   try go_frame
   refine wpO_want rfl ?_
   go_simp
   obtain ⟨q,hq0⟩ : ∃ q,q=f ((u,v),(lab,wt)):=⟨_,rfl⟩
   have hq:=hide hq0
   have hca:=(uh hf').calls wr ((u,v),(lab,wt)) (uh hP).extf (uh hmem)
   rw [← hq0] at hca
   clear hq0
   refine hca.mono ?_
   clear hca
   rintro _ y1 ⟨rfl,hxc⟩
   refine ⟨_,rfl,?_⟩
   replace hP:=hide ((uh hP).ext hxc)
   clear hxc
   try go_frame
   refine wpO_done ?_
   try go_frame
   clear hil
   cases q
   ·skip
    go_wp2_with fail
    refine ⟨n-(i+1),?_,by have:=uh hfm';have:=uh hi2;omega⟩
    rw [uh hI0_2]
    exact ⟨i+1,(by first | rfl | trivial),(by first | rfl | trivial),(by first | rfl | trivial),(by first | rfl | trivial),(by first | rfl | (show _=Value.int _ _;go_num) | go_num),(by first | rfl | trivial),by have:=uh hi2;omega,(fun j h h2=>by by_cases hj:j=i;(subst hj;obtain ⟨h3,h4⟩:=uh hxe';rw [h4];exact (uh hq).symm);exact uh hno' j h (by omega)),uh hP,rfl⟩
   ·skip
    have hre:=hide (show R=(i:Int) by obtain ⟨h3,h4⟩:=uh hxe';rw [uh hR];exact posI_hit h3 (by rw [h4];exact (uh hq).symm) fun j hj=>uh hno' j (by omega) hj)
    go_wp2_with fail
    refine Sp.leaves0 ?_
    exact ⟨_,results_tmp (t:=4) rfl _ _ _,by rw [uh hre];rfl,(uh hP).extf⟩
  ·skip
   have hil:¬ (i:Int) < (n:Int):=by omega
   have hre:=hide (show R = -1 by rw [uh hR];exact posI_miss fun j hj=>uh hno' j hj (by have:=uh hn';omega))
   clear hlt hin
   try dsimp only
   repeat ((fail_if_success with_reducible refine wp_reg (id:=2) ?_);first|go_values|go_skip|go_step|go_guarded|go_upon|go_in|go_back)
   with_reducible refine wp_reg (id:=2) ?_
   refine wpO_want rfl ?_
   go_simp
   refine wpO_done ?_
   try go_frame
   clear hil
   go_wp2_with fail
   refine Sp.leaves0 ?_
   exact ⟨_,results_tmp (t:=4) rfl _ _ _,by rw [uh hre];rfl,(uh hP).extf⟩
theorem containsE_any (A:Option Addr) (L:List ((Int×Int)×Thing)) (n cA g:Nat) (lb:Array Value) (f:(Int×Int)×Thing→Bool) (w:World) (hL:SlAt encE 4 w A L) (hn:n=L.length) (hl:n≤4096) (hf:PrE w g lb L f) :
  Calls Tryz.prog 100 #[.slice A n cA,.func (.func g) #[] lb] w fun e w'=>e=.returned (.bool (L.any f))∧Ext w w':=by
 have hca:=indexE_any A L n cA g lb f w hL hn hl hf
 have hany:=posI_any f L
 obtain ⟨R,hR0⟩ : ∃ R,R=posI f L:=⟨_,rfl⟩
 rw [← hR0] at hca hany
 obtain ⟨q,hq0⟩ : ∃ q,q=L.any f:=⟨_,rfl⟩
 rw [← hq0] at hany ⊢
 have hge:decide (R ≥ 0)=q:=hany
 have hca':=hide hca
 clear hca hR0 hq0 hL hn hl hf
 have hP:=hide (Sp.new w)
 refine callsIn_wide.1 (callsIn_of_wp_marks (n:=0) Tryz.func100 rfl trivial (wpIn_wide.2 ?_))
 simp only [Tryz.ntmps100,List.size_toArray,List.length_cons,List.length_nil,Nat.reduceAdd,Nat.reduceSub,Array.replicate_succ,Array.replicate_zero,List.push_toArray,List.append_toArray,List.nil_append,List.cons_append]
 try dsimp only
 repeat ((fail_if_success with_reducible refine wp_reg (id:=1) ?_);first|go_values|go_skip|go_step|go_guarded|go_upon|go_in|go_back)
 with_reducible refine wp_reg (id:=1) ?_
 iterate 2
  refine wpO_want rfl ?_
  go_simp
 refine wpO_want rfl ?_
 go_simp
 refine (uh hca').mono ?_
 rintro _ y1 ⟨rfl,hxc⟩
 refine ⟨_,rfl,?_⟩
 replace hP:=hide ((uh hP).ext hxc)
 clear hxc
 iterate 2
  refine wpO_want rfl ?_
  go_simp
 refine wpO_done ?_
 try go_frame
 go_wp2_with fail
 refine Sp.leaves0 ?_
 exact ⟨_,results_tmp (t:=4) rfl _ _ _,by first | rfl | (rw [hge];rfl) | (rw [hany];rfl),(uh hP).extf⟩
theorem isMin1_any (f fv fe r3:Nat) (V2:List (Int×Thing)) (E2:List ((Int×Int)×Thing)) (e:(Int×Int)×Thing) (w:World) (hf:IsG w f fv fe V2 E2) (hT:Tab w) (hb:Blk w r3 26 #[.pointer (some ⟨f,0,none⟩)]) (he:e∈E2) :
  Calls Tryz.prog 101 #[(.agg #[.int .i64 e.1.1,.int .i64 e.1.2,.int .u8 e.2.1,.int .i64 e.2.2]),.pointer (some ⟨r3,0,none⟩)] w fun x w'=>x=.returned (.bool (choB V2 (cutE e.1 E2)))∧Ext w w':=by
 obtain ⟨⟨u,v⟩,lab,wt⟩:=e
 dsimp only
 have hmem:=hide (show (u,v)∈E2.map (·.1) from List.mem_map.2 ⟨_,he,rfl⟩)
 obtain ⟨q,hq0⟩ : ∃ q,q=choB V2 (cutE (u,v) E2):=⟨_,rfl⟩
 rw [← hq0]
 have hq:=hide hq0
 clear hq0 he
 have hf':=hide hf
 have hT':=hide hT
 have hb':=hide hb
 clear hf hT hb
 have hP:=hide (Sp.new w)
 refine callsIn_wide.1 (callsIn_of_wp_marks (n:=0) Tryz.func101 rfl trivial (wpIn_wide.2 ?_))
 simp only [Tryz.ntmps101,List.size_toArray,List.length_cons,List.length_nil,Nat.reduceAdd,Nat.reduceSub,Array.replicate_succ,Array.replicate_zero,List.push_toArray,List.append_toArray,List.nil_append,List.cons_append]
 try dsimp only
 repeat ((fail_if_success with_reducible refine wp_reg (id:=0) ?_);first|go_values|go_skip|go_step|go_guarded|go_upon|go_in|go_back)
 with_reducible refine wp_reg (id:=0) ?_
 refine (uh hP).allocO 61 #[.int .i64 u,.int .i64 v,.int .u8 lab,.int .i64 wt] rfl (run_box (v:=.agg #[.int .i64 u,.int .i64 v,.int .u8 lab,.int .i64 wt]) rfl rfl) ?_
 intro r2 y1 hQ
 replace hP:=hide hQ
 clear hQ
 refine wpO_want rfl ?_
 go_simp
 refine wpO_done ?_
 try go_frame
 try dsimp only
 repeat ((fail_if_success with_reducible refine wp_reg (id:=1) ?_);first|go_values|go_skip|go_step|go_guarded|go_upon|go_in|go_back)
 with_reducible refine wp_reg (id:=1) ?_
 refine wpO_val rfl (load_V (v:=.pointer (some ⟨f,0,none⟩)) rfl rfl (by simp [go_sem]) (((uh hb').ext (uh hP).extf).cell 0)) ?_
 go_frame
 refine wpO_val (v:=.agg #[.int .i64 u,.int .i64 v,.int .u8 lab,.int .i64 wt]) rfl (run_load_agg (cs:=#[.int .i64 u,.int .i64 v,.int .u8 lab,.int .i64 wt]) rfl rfl (by simp [go_sem]) (by simp [go_sem]) ((uh hP).get 0 rfl).whole) ?_
 go_frame
 refine wpO_want rfl ?_
 go_simp
 refine (withoutE_any f fv fe V2 E2 u v lab wt y1 ((uh hf').ext (uh hP).extf) (uh hmem)).mono ?_
 rintro _ y2 ⟨o,ov,oe,rfl,ho0,hxc,_,_,_⟩
 have ho:=hide ho0
 refine ⟨_,rfl,?_⟩
 replace hP:=hide ((uh hP).ext hxc)
 clear ho0 hxc
 try go_frame
 refine wpO_want rfl ?_
 go_simp
 have hca:=chordal_any (some ⟨o,0,none⟩) V2 (cutE (u,v) E2) y2 (GL.of (uh ho)) ((uh hT').ext (uh hP).extf)
 rw [← uh hq] at hca
 refine hca.mono ?_
 clear hca
 rintro _ y3 ⟨rfl,hxc⟩
 refine ⟨_,rfl,?_⟩
 replace hP:=hide ((uh hP).ext hxc)
 clear hxc
 try go_frame
 refine wpO_want rfl ?_
 go_simp
 refine wpO_done ?_
 try go_frame
 go_wp2_with fail
 refine Sp.leaves0 ?_
 exact ⟨_,results_tmp (t:=3) rfl _ _ _,rfl,(uh hP).extf⟩
theorem isMin_any (g bv be f fv fe:Nat) (V:List (Int×Thing)) (E:List ((Int×Int)×Thing)) (V2:List (Int×Thing)) (E2:List ((Int×Int)×Thing)) (w:World) (hg:IsG w g bv be V E) (hf:IsG w f fv fe V2 E2) (hT:Tab w) :
  Calls Tryz.prog 40 #[.pointer (some ⟨g,0,none⟩),.pointer (some ⟨f,0,none⟩)] w fun e w'=>e=.returned (.tuple #[.bool (isMin V E V2 E2).1,.int .i64 (isMin V E V2 E2).2])∧Ext w w':=by
 obtain ⟨R,hR0⟩ : ∃ R,R=isMin V E V2 E2:=⟨_,rfl⟩
 rw [← hR0]
 have hR:=hide hR0
 have hml:=hide (show (moreO E E2).length≤4096 from Nat.le_trans (List.length_filter_le _ _) hf.nE)
 have hms:=hide (show ∀ e∈moreO E E2,e∈E2 from fun e he=>(List.mem_filter.1 he).1)
 clear hR0
 have hg':=hide hg
 have hf':=hide hf
 have hT':=hide hT
 clear hg hf hT
 have hP:=hide (Sp.new w)
 refine callsIn_wide.1 (callsIn_of_wp_marks (n:=0) Tryz.func40 rfl trivial (wpIn_wide.2 ?_))
 simp only [Tryz.ntmps40,List.size_toArray,List.length_cons,List.length_nil,Nat.reduceAdd,Nat.reduceSub,Array.replicate_succ,Array.replicate_zero,List.push_toArray,List.append_toArray,List.nil_append,List.cons_append]
 try dsimp only
 repeat ((fail_if_success with_reducible refine wp_reg (id:=0) ?_);first|go_values|go_skip|go_step|go_guarded|go_upon|go_in|go_back)
 with_reducible refine wp_reg (id:=0) ?_
 refine (uh hP).allocO 26 #[.pointer (some ⟨f,0,none⟩)] rfl (run_box (v:=.pointer (some ⟨f,0,none⟩)) rfl rfl) ?_
 intro r3 y1 hQ
 replace hP:=hide hQ
 clear hQ
 iterate 2
  refine wpO_want rfl ?_
  go_simp
 refine wpO_done ?_
 try go_frame
 try dsimp only
 repeat ((fail_if_success with_reducible refine wp_reg (id:=1) ?_);first|go_values|go_skip|go_step|go_guarded|go_upon|go_in|go_back)
 with_reducible refine wp_reg (id:=1) ?_
 refine wpO_want rfl ?_
 go_simp
 refine wpO_val rfl (load_V (v:=.pointer (some ⟨f,0,none⟩)) rfl rfl (by simp [go_sem]) (((uh hP).get 0 rfl).cell 0)) ?_
 go_frame
 refine wpO_want rfl ?_
 go_simp
 have hca:=over_any g bv be f fv fe V E V2 E2 y1 ((uh hg').ext (uh hP).extf) ((uh hf').ext (uh hP).extf)
 unfold OvPost at hca
 refine hca.mono ?_
 clear hca
 rintro _ y2 ⟨⟨hno,rfl⟩ | ⟨hok,Al,n,c,rfl,hn0,ho⟩,hxc⟩
 ·skip
  have hre:=hide (show R=(false,3) by rw [uh hR];unfold isMin;rw [hno];rfl)
  refine ⟨_,rfl,?_⟩
  replace hP:=hide ((uh hP).ext hxc)
  clear hxc hno
  generalize htu0:Value.tuple _=tu
  have htu:=hide htu0
  clear htu0
  refine wpO_val rfl (run_move rfl rfl) ?_
  go_frame
  refine wpO_val rfl (run_extract (i:=0) (v:=.slice none 0 0) rfl (uh htu).symm rfl) ?_
  go_frame
  refine wpO_val rfl (run_extract (i:=1) (v:=.int .i64 3) rfl (uh htu).symm rfl) ?_
  go_frame
  iterate 2
   refine wpO_want rfl ?_
   go_simp
  refine wpO_done ?_
  try go_frame
  clear htu
  try dsimp only
  repeat ((fail_if_success with_reducible refine wp_reg (id:=2) ?_);first|go_values|go_skip|go_step|go_guarded|go_upon|go_in|go_back)
  with_reducible refine wp_reg (id:=2) ?_
  iterate 3
   refine wpO_want rfl ?_
   go_simp
  refine wpO_out (by rfl) ?_
  go_frame
  refine wpO_out (by rfl) ?_
  go_frame
  refine wpO_out (by rfl) ?_
  go_frame
  refine wpO_want rfl ?_
  go_simp
  refine wpO_done ?_
  try go_frame
  go_wp2_with fail
  refine Sp.leaves0 ?_
  rw [uh hre]
  exact ⟨_,results_tmp2 (t:=4) (u:=5) rfl _ _ _,rfl,(uh hP).extf⟩
 ·skip
  have hok':=hide hok
  have hn:=hide hn0
  have hsl:=hide (show SlAt encE 4 y2 Al (moreO E E2) from own_at (enc:=encE) (by rw [hn0] at ho;exact ho) (fun _=>rfl))
  refine ⟨_,rfl,?_⟩
  replace hP:=hide ((uh hP).ext hxc)
  clear hxc hok hn0 ho
  generalize htu0:Value.tuple _=tu
  have htu:=hide htu0
  clear htu0
  refine wpO_val rfl (run_move rfl rfl) ?_
  go_frame
  refine wpO_val rfl (run_extract (i:=0) (v:=.slice Al n c) rfl (uh htu).symm rfl) ?_
  go_frame
  refine wpO_val rfl (run_extract (i:=1) (v:=.int .i64 0) rfl (uh htu).symm rfl) ?_
  go_frame
  iterate 2
   refine wpO_want rfl ?_
   go_simp
  refine wpO_done ?_
  try go_frame
  clear htu
  try dsimp only
  repeat ((fail_if_success with_reducible refine wp_reg (id:=2) ?_);first|go_values|go_skip|go_step|go_guarded|go_upon|go_in|go_back)
  with_reducible refine wp_reg (id:=2) ?_
  iterate 3
   refine wpO_want rfl ?_
   go_simp
  refine wpO_val rfl (load_V (v:=.pointer (some ⟨f,0,none⟩)) rfl rfl (by simp [go_sem]) (((uh hP).get 0 rfl).cell 0)) ?_
  go_frame
  refine wpO_want rfl ?_
  go_simp
  obtain ⟨q,hq0⟩ : ∃ q,q=choB V2 E2:=⟨_,rfl⟩
  have hq:=hide hq0
  have hca:=chordal_any (some ⟨f,0,none⟩) V2 E2 y2 (GL.of ((uh hf').ext (uh hP).extf)) ((uh hT').ext (uh hP).extf)
  rw [← hq0] at hca
  clear hq0
  refine hca.mono ?_
  clear hca
  rintro _ y3 ⟨rfl,hxc⟩
  refine ⟨_,rfl,?_⟩
  replace hP:=hide ((uh hP).ext hxc)
  replace hsl:=hide ((uh hsl).ext hxc)
  clear hxc
  try go_frame
  iterate 2
   refine wpO_want rfl ?_
   go_simp
  refine wpO_done ?_
  try go_frame
  cases q
  ·skip
   have hre:=hide (show R=(false,0) by rw [uh hR];unfold isMin leastB;rw [if_pos (uh hok'), ← uh hq];rfl)
   go_wp2_with fail
   refine Sp.leaves0 ?_
   rw [uh hre]
   exact ⟨_,results_tmp2 (t:=4) (u:=5) rfl _ _ _,rfl,(uh hP).extf⟩
  ·skip
   try dsimp only
   repeat ((fail_if_success with_reducible refine wp_reg (id:=4) ?_);first|go_values|go_skip|go_step|go_guarded|go_upon|go_in|go_back)
   with_reducible refine wp_reg (id:=4) ?_
   iterate 2
    refine wpO_want rfl ?_
    go_simp
   refine wpO_want rfl ?_
   go_simp
   obtain ⟨z,hz0⟩ : ∃ z,z=(moreO E E2).any fun e=>choB V2 (cutE e.1 E2):=⟨_,rfl⟩
   have hre:=hide (show R=(!z,0) by rw [uh hR];unfold isMin leastB;rw [if_pos (uh hok'), ← uh hq, ← hz0];rfl)
   have hca:=containsE_any Al (moreO E E2) n c 101 #[.pointer (some ⟨r3,0,none⟩)] (fun e=>choB V2 (cutE e.1 E2)) y3 (uh hsl) (uh hn) (by rw [uh hn];exact uh hml) { enters:=Go.Proofs.enters_of Tryz.func101 (by kernel_rfl) rfl,calls:=fun W e hW he=>isMin1_any f fv fe r3 V2 E2 e W ((uh hf').ext ((uh hP).extf.trans hW)) ((uh hT').ext ((uh hP).extf.trans hW)) (((uh hP).get 0 rfl).ext hW) (uh hms e he) }
   rw [← hz0] at hca
   clear hz0
   refine hca.mono ?_
   clear hca
   rintro _ y4 ⟨rfl,hxc⟩
   refine ⟨_,rfl,?_⟩
   replace hP:=hide ((uh hP).ext hxc)
   clear hxc
   try go_frame
   iterate 3
    refine wpO_want rfl ?_
    go_simp
   refine wpO_done ?_
   try go_frame
   go_wp2_with fail
   refine Sp.leaves0 ?_
   rw [uh hre]
   exact ⟨_,results_tmp2 (t:=4) (u:=5) rfl _ _ _,rfl,(uh hP).extf⟩
theorem ms_none {V:List (Int×Thing)} {E:List ((Int×Int)×Thing)} (hi:GInv V E) (hV:V.length≤9) : (msFill V (flE V E)).length=0:=by
 rw [(fill_none (fl_at hi hV).2.1).1 (ms_chordal hi hV)]
 rfl
theorem ms_nil_len {V:List (Int×Thing)} {E:List ((Int×Int)×Thing)} (hi:GInv V E) : (peoS V E).isSome=decide ((msFill V E).length=0):=by
 rw [Bool.eq_iff_iff,fill_none hi,decide_eq_true_eq,List.length_eq_zero_iff]
theorem triangulationMCSMIsMinimal_walk (A:Option Addr) (L:List Ed) (cL:Nat) (w:World) (hL:SlAt encD 5 w A L) (hT:Tab w) :
  Calls Tryz.prog 10 #[.slice A L.length cL] w fun e w'=>e=.returned (.bool true)∧Ext w w':=by
 have hL':=hide hL
 have hT':=hide hT
 have hi:=hide (mdS_inv L)
 clear hL hT
 have hP:=hide (Sp.new w)
 refine callsIn_wide.1 (callsIn_of_wp_marks (n:=0) Tryz.func10 rfl trivial (wpIn_wide.2 ?_))
 simp only [Tryz.ntmps10,List.size_toArray,List.length_cons,List.length_nil,Nat.reduceAdd,Nat.reduceSub,Array.replicate_succ,Array.replicate_zero,List.push_toArray,List.append_toArray,List.nil_append,List.cons_append]
 try dsimp only
 repeat ((fail_if_success with_reducible refine wp_reg (id:=1) ?_);first|go_values|go_skip|go_step|go_guarded|go_upon|go_in|go_back)
 with_reducible refine wp_reg (id:=1) ?_
 refine wpO_val rfl (run_move rfl rfl) ?_
 go_frame
 refine wpO_want rfl ?_
 go_simp
 have hca:=begun25_any A L cL w ((uh hL').ext (uh hP).extf)
 generalize mdS L=S at *
 obtain ⟨V,E⟩:=S
 try dsimp only at hi hca ⊢
 refine hca.mono ?_
 clear hca
 rintro _ y1 ⟨g,bv,be,A1,B1,cA,cB,rfl,hg0,hs0,he0,hxc⟩
 refine ⟨_,rfl,?_⟩
 replace hP:=hide ((uh hP).ext hxc)
 have hg:=hide hg0
 have hsV:=hide hs0
 have hsE:=hide he0
 obtain ⟨q,hq⟩ : ∃ q,q=decide ((V.length:Int)≤9):=⟨_,rfl⟩
 rw [← hq]
 have hq':=hide hq
 have hnV:=hide hg0.nV
 have hnE:=hide hg0.nE
 clear hxc hg0 hs0 he0 hq
 generalize htu0:Value.tuple _=tu
 have htu:=hide htu0
 clear htu0
 refine wpO_val rfl (run_move rfl rfl) ?_
 go_frame
 refine wpO_val rfl (run_extract (i:=0) (v:=.pointer (some ⟨g,0,none⟩)) rfl (uh htu).symm rfl) ?_
 go_frame
 refine wpO_val rfl (run_extract (i:=1) (v:=.agg #[.slice A1 V.length cA,.slice B1 E.length cB]) rfl (uh htu).symm rfl) ?_
 go_frame
 refine wpO_val rfl (run_extract (i:=2) (v:=.bool q) rfl (uh htu).symm rfl) ?_
 go_frame
 refine (uh hP).allocT 30 #[.slice none 0 0,.slice none 0 0] rfl (by go_simp) ?_
 intro r4 y2 hQ hxa hga
 replace hP:=hide hQ
 clear hQ
 try go_frame
 refine wpO_want rfl ?_
 go_simp
 refine (uh hP).setT 0 #[.slice A1 V.length cA,.slice B1 E.length cB] rfl rfl (fun hb=>run_store_row (v:=.agg #[.slice A1 V.length cA,.slice B1 E.length cB]) rfl (by rfl) (by rfl) (by simp [go_sem]) hb rfl (fun u hu=>by simp [Value.cells] at hu;rcases hu with rfl | rfl <;> rfl)) ?_
 intro y3 hQ hkq
 replace hP:=hide hQ
 have hxs:=hxa.of_new hkq (fun x hx=>by rw [List.mem_singleton] at hx;rw [hx];exact hga)
 clear hQ hkq hxa hga
 try go_frame
 replace hg:=hide ((uh hg).ext (hxs))
 replace hsV:=hide ((uh hsV).ext (hxs))
 replace hsE:=hide ((uh hsE).ext (hxs))
 clear hxs
 refine wpO_want rfl ?_
 go_simp
 refine wpO_done ?_
 try go_frame
 clear htu
 try dsimp only
 repeat ((fail_if_success with_reducible refine wp_reg (id:=2) ?_);first|go_values|go_skip|go_step|go_guarded|go_upon|go_in|go_back)
 with_reducible refine wp_reg (id:=2) ?_
 iterate 2
  refine wpO_want rfl ?_
  go_simp
 refine wpO_done ?_
 try go_frame
 cases q
 ·skip
  try dsimp only
  repeat ((fail_if_success with_reducible refine wp_reg (id:=3) ?_);first|go_values|go_skip|go_step|go_guarded|go_upon|go_in|go_back)
  with_reducible refine wp_reg (id:=3) ?_
  refine wpO_want rfl ?_
  go_simp
  refine (known25_any _ ((uh hT').ext (uh hP).extf)).mono ?_
  rintro _ y4 ⟨rfl,hxc⟩
  refine ⟨_,rfl,?_⟩
  replace hP:=hide ((uh hP).ext hxc)
  clear hxc
  refine wpO_want rfl ?_
  go_simp
  refine wpO_done ?_
  try go_frame
  go_wp2_with fail
  refine Sp.leaves0 ?_
  exact ⟨_,results_tmp rfl _ _ _,rfl,(uh hP).extf⟩
 ·skip
  have hV:=hide (show V.length≤9 by have h:=uh hq';have:=of_decide_eq_true h.symm;omega)
  clear hq'
  try dsimp only
  repeat ((fail_if_success with_reducible refine wp_reg (id:=4) ?_);first|go_values|go_skip|go_step|go_guarded|go_upon|go_in|go_back)
  with_reducible refine wp_reg (id:=4) ?_
  refine wpO_val rfl (run_move rfl rfl) ?_
  go_frame
  refine wpO_want rfl ?_
  go_simp
  have hca:=filled_any g bv be V E y3 (uh hg) ((uh hT').ext (uh hP).extf) (uh hV)
  unfold FdPost at hca
  rw [(fl_at (uh hi) (uh hV)).1] at hca
  refine hca.mono ?_
  clear hca
  rintro _ y4 ⟨f,fv,fe,rfl,hf0,hxc,n1,n2,n3⟩
  have hf:=hide (show IsG y4 f fv fe V (flE V E) from hf0)
  have hb:=hide (show w.heap.size≤f∧w.heap.size≤fv∧w.heap.size≤fe by have:=(uh hP).keep.size;omega)
  have hb2:=hide (show y3.heap.size≤fv∧y3.heap.size≤fe from ⟨n2,n3⟩)
  refine ⟨_,rfl,?_⟩
  replace hP:=hide ((uh hP).ext hxc)
  replace hg:=hide ((uh hg).ext (hxc))
  replace hsV:=hide ((uh hsV).ext (hxc))
  replace hsE:=hide ((uh hsE).ext (hxc))
  clear hxc hf0 n1 n2 n3
  try go_frame
  refine wpO_want rfl ?_
  go_simp
  refine wpO_done ?_
  try go_frame
  have hig:=hi
  have hif:=hide (fl_at (uh hi) (uh hV)).2.1
  have hmin:=hide (ms_isMin (uh hi) (uh hV))
  try dsimp only
  repeat ((fail_if_success with_reducible refine wp_reg (id:=5) ?_);first|go_values|go_skip|go_step|go_guarded|go_upon|go_in|go_back)
  with_reducible refine wp_reg (id:=5) ?_
  iterate 2
   refine wpO_want rfl ?_
   go_simp
  refine wpO_done ?_
  try go_frame
  try dsimp only
  repeat ((fail_if_success with_reducible refine wp_reg (id:=7) ?_);first|go_values|go_skip|go_step|go_guarded|go_upon|go_in|go_back)
  with_reducible refine wp_reg (id:=7) ?_
  iterate 2
   refine wpO_want rfl ?_
   go_simp
  refine wpO_want rfl ?_
  go_simp
  have hca:=isMin_any g bv be f fv fe V E V (flE V E) y4 (uh hg) (uh hf) ((uh hT').ext (uh hP).extf)
  rw [uh hmin] at hca
  try dsimp only at hca
  refine hca.mono ?_
  clear hca
  rintro _ y5 ⟨rfl,hxc⟩
  refine ⟨_,rfl,?_⟩
  replace hP:=hide ((uh hP).ext hxc)
  replace hg:=hide ((uh hg).ext (hxc))
  replace hsV:=hide ((uh hsV).ext (hxc))
  replace hsE:=hide ((uh hsE).ext (hxc))
  replace hf:=hide ((uh hf).ext (hxc))
  clear hxc
  try go_frame
  generalize htu0:Value.tuple _=tu
  have htu:=hide htu0
  clear htu0
  refine wpO_val rfl (run_move rfl rfl) ?_
  go_frame
  refine wpO_val rfl (run_extract (i:=0) (v:=.bool true) rfl (uh htu).symm rfl) ?_
  go_frame
  refine wpO_val rfl (run_extract (i:=1) (v:=.int .i64 0) rfl (uh htu).symm rfl) ?_
  go_frame
  iterate 2
   refine wpO_want rfl ?_
   go_simp
  refine wpO_done ?_
  try go_frame
  clear htu
  try dsimp only
  repeat ((fail_if_success with_reducible refine wp_reg (id:=8) ?_);first|go_values|go_skip|go_step|go_guarded|go_upon|go_in|go_back)
  with_reducible refine wp_reg (id:=8) ?_
  refine wpO_val rfl (run_move rfl rfl) ?_
  go_frame
  refine wpO_want rfl ?_
  go_simp
  obtain ⟨po,hpo⟩ : ∃ po,po=peoS V E:=⟨_,rfl⟩
  obtain ⟨qg,hq0⟩ : ∃ q,q=(peoS V E).isSome:=⟨_,rfl⟩
  have hca:=perfect_any (some ⟨g,0,none⟩) V E y5 (GL.of (uh hg)) ((uh hT').ext (uh hP).extf)
  unfold PoPost at hca
  rw [← hq0, ← hpo] at hca
  obtain ⟨m9g,hm9⟩ : ∃ m9,m9=(po.getD []).length:=⟨_,rfl⟩
  rw [← hm9] at hca
  have hqg:=hide hq0
  clear hq0 hpo hm9
  refine hca.mono ?_
  clear hca
  rintro _ y6 ⟨Apg,cpg,rfl,ho,hxc⟩
  clear ho
  refine ⟨_,rfl,?_⟩
  replace hP:=hide ((uh hP).ext hxc)
  replace hg:=hide ((uh hg).ext (hxc))
  replace hsV:=hide ((uh hsV).ext (hxc))
  replace hsE:=hide ((uh hsE).ext (hxc))
  replace hf:=hide ((uh hf).ext (hxc))
  clear hxc
  generalize htu0:Value.tuple _=tu
  have htu:=hide htu0
  clear htu0
  refine wpO_val rfl (run_move rfl rfl) ?_
  go_frame
  refine wpO_val rfl (run_extract (i:=0) (v:=.slice Apg m9g cpg) rfl (uh htu).symm rfl) ?_
  go_frame
  refine wpO_val rfl (run_extract (i:=1) (v:=.bool qg) rfl (uh htu).symm rfl) ?_
  go_frame
  iterate 2
   refine wpO_want rfl ?_
   go_simp
  refine wpO_done ?_
  try go_frame
  clear htu
  try dsimp only
  repeat ((fail_if_success with_reducible refine wp_reg (id:=9) ?_);first|go_values|go_skip|go_step|go_guarded|go_upon|go_in|go_back)
  with_reducible refine wp_reg (id:=9) ?_
  refine wpO_val rfl (run_move rfl rfl) ?_
  go_frame
  refine wpO_want rfl ?_
  go_simp
  obtain ⟨po,hpo⟩ : ∃ po,po=peoS V (flE V E):=⟨_,rfl⟩
  obtain ⟨qf,hq0⟩ : ∃ q,q=(peoS V (flE V E)).isSome:=⟨_,rfl⟩
  have hca:=perfect_any (some ⟨f,0,none⟩) V (flE V E) y6 (GL.of (uh hf)) ((uh hT').ext (uh hP).extf)
  unfold PoPost at hca
  rw [← hq0, ← hpo] at hca
  obtain ⟨m9f,hm9⟩ : ∃ m9,m9=(po.getD []).length:=⟨_,rfl⟩
  rw [← hm9] at hca
  have hqf:=hide hq0
  clear hq0 hpo hm9
  refine hca.mono ?_
  clear hca
  rintro _ y7 ⟨Apf,cpf,rfl,ho,hxc⟩
  clear ho
  refine ⟨_,rfl,?_⟩
  replace hP:=hide ((uh hP).ext hxc)
  replace hg:=hide ((uh hg).ext (hxc))
  replace hsV:=hide ((uh hsV).ext (hxc))
  replace hsE:=hide ((uh hsE).ext (hxc))
  replace hf:=hide ((uh hf).ext (hxc))
  clear hxc
  generalize htu0:Value.tuple _=tu
  have htu:=hide htu0
  clear htu0
  refine wpO_val rfl (run_move rfl rfl) ?_
  go_frame
  refine wpO_val rfl (run_extract (i:=0) (v:=.slice Apf m9f cpf) rfl (uh htu).symm rfl) ?_
  go_frame
  refine wpO_val rfl (run_extract (i:=1) (v:=.bool qf) rfl (uh htu).symm rfl) ?_
  go_frame
  iterate 2
   refine wpO_want rfl ?_
   go_simp
  refine wpO_done ?_
  try go_frame
  clear htu
  obtain rfl:qf=true:=by rw [uh hqf];exact ms_chordal (uh hi) (uh hV)
  clear hqf
  try dsimp only
  repeat ((fail_if_success with_reducible refine wp_reg (id:=10) ?_);first|go_values|go_skip|go_step|go_guarded|go_upon|go_in|go_back)
  with_reducible refine wp_reg (id:=10) ?_
  refine wpO_want rfl ?_
  go_simp
  have hca:=known25_any y7 ((uh hT').ext (uh hP).extf)
  refine hca.mono ?_
  clear hca
  rintro _ y8 ⟨rfl,hxc⟩
  refine ⟨_,rfl,?_⟩
  replace hP:=hide ((uh hP).ext hxc)
  replace hg:=hide ((uh hg).ext (hxc))
  replace hsV:=hide ((uh hsV).ext (hxc))
  replace hsE:=hide ((uh hsE).ext (hxc))
  replace hf:=hide ((uh hf).ext (hxc))
  clear hxc
  try go_frame
  iterate 13
   refine wpO_want rfl ?_
   go_simp
  refine wpO_want rfl ?_
  go_simp
  obtain ⟨fl,hfl⟩ : ∃ l,l=msFill V E:=⟨_,rfl⟩
  have hca:=fillin_any (some ⟨g,0,none⟩) V E y8 (uh hig) (GL.of (uh hg)) ((uh hT').ext (uh hP).extf)
  unfold FIPost at hca
  rw [← hfl] at hca
  refine hca.mono ?_
  clear hca
  rintro _ y9 ⟨Aang,ng,cng,rfl,hn0,ho,hxc⟩
  have hng:=hide (show ng=(msFill V E).length by rw [hn0,hfl])
  clear ho hn0 hfl
  refine ⟨_,rfl,?_⟩
  replace hP:=hide ((uh hP).ext hxc)
  replace hg:=hide ((uh hg).ext (hxc))
  replace hsV:=hide ((uh hsV).ext (hxc))
  replace hsE:=hide ((uh hsE).ext (hxc))
  replace hf:=hide ((uh hf).ext (hxc))
  clear hxc
  try go_frame
  have hqq:(qg == ((ng:Int) == 0))=true:=by rw [uh hqg,ms_nil_len (uh hi),uh hng];by_cases h0:(msFill V E).length=0 <;> simp [h0]
  iterate 6
   refine wpO_want rfl ?_
   go_simp
  refine wpO_want rfl ?_
  go_simp
  obtain ⟨fl,hfl⟩ : ∃ l,l=msFill V (flE V E):=⟨_,rfl⟩
  have hca:=fillin_any (some ⟨f,0,none⟩) V (flE V E) y9 (uh hif) (GL.of (uh hf)) ((uh hT').ext (uh hP).extf)
  unfold FIPost at hca
  rw [← hfl] at hca
  refine hca.mono ?_
  clear hca
  rintro _ y10 ⟨Aanf,nf,cnf,rfl,hn0,ho,hxc⟩
  have hnf:=hide (show nf=(msFill V (flE V E)).length by rw [hn0,hfl])
  clear ho hn0 hfl
  refine ⟨_,rfl,?_⟩
  replace hP:=hide ((uh hP).ext hxc)
  replace hg:=hide ((uh hg).ext (hxc))
  replace hsV:=hide ((uh hsV).ext (hxc))
  replace hsE:=hide ((uh hsE).ext (hxc))
  replace hf:=hide ((uh hf).ext (hxc))
  clear hxc
  try go_frame
  obtain rfl:nf=0:=by rw [uh hnf];exact ms_none (uh hi) (uh hV)
  clear hnf
  iterate 4
   refine wpO_want rfl ?_
   go_simp
  refine wpO_done ?_
  try go_frame
  go_wp2_with fail
  refine Sp.leaves0 ?_
  exact ⟨_,results_tmp rfl _ _ _,rfl,(uh hP).extf⟩
end Go.Proofs.YtmokciekndllpaaGreatDoor
