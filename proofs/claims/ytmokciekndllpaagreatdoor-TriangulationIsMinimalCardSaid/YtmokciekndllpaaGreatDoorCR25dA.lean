/- Parts of a proof, laid together. Each part says its own conditions. -/
import Derived.Test.YtmokciekndllpaaGreatDoorC5
import Derived.Test.YtmokciekndllpaaGreatDoorRows
import Derived.Deep.Slices
import Derived.Deep.Fields
import Derived.ChangeSame
import Derived.OpenShut
import Derived.Test.YtmokciekndllpaaGreatDoorC13
import Derived.Test.YtmokciekndllpaaGreatDoorC14
import Derived.Test.YtmokciekndllpaaGreatDoorC24
import Derived.Test.YtmokciekndllpaaGreatDoorC11
import Derived.ChangeKeysEq
import Derived.Test.YtmokciekndllpaaGreatDoorC16
import Derived.Test.YtmokciekndllpaaGreatDoorC25
import Derived.Test.YtmokciekndllpaaGreatDoorC20
import Derived.Test.YtmokciekndllpaaGreatDoorC27
import Derived.Test.YtmokciekndllpaaGreatDoorC40
import Derived.Test.YtmokciekndllpaaGreatDoorC17
import Derived.Test.YtmokciekndllpaaGreatDoorC18
import Derived.Test.YtmokciekndllpaaGreatDoorC19
import Derived.Test.YtmokciekndllpaaGreatDoorC10
import Derived.Shelf.SlMaps.Clone
import Derived.Test.YtmokciekndllpaaGreatDoorC38
set_option maxRecDepth 100000
set_option maxHeartbeats 16000000
namespace Go.Proofs.YtmokciekndllpaaGreatDoor
open Go Go.RowKit
theorem uh {p : Prop} (h : Hid p) : p := unhide h
end Go.Proofs.YtmokciekndllpaaGreatDoor
namespace Go.Proofs.YtmokciekndllpaaGreatDoor
open Go Go.RowKit Go.ChangeShapes Go.WideShapes Go.Deep
section
variable {H:Type} {enc:TypeId×Value→H} {P:Program} {w:World} {base:Nat} {spare:Nat→Bool} {held:Bool}
theorem open_slice_fields {t e:TypeId} {fs:Array Field} {fuel:Nat} {cs:List Value} {x:DataW H×List MemPlace} (ht:P.underlying t=some (.slice e)) (he:P.underlying e=some (.struct fs))
  (hone:oneCellFields P fs=true) (hC:P.cellsOf e=fs.size) (h:DataW.trod enc P w base spare held fuel t cs=some x) :
  cs=[.slice none 0 0] ∨
  ∃ (a:Addr) (len cap n:Nat),cs=[.slice (some a) len cap]∧len≤cap∧cap≤maxLen ∧
   ∀ i,i < len → ∀ (j:Nat) (f:Field),fs[j]? = some f → ∃ (v:Value) (y:DataW H×List MemPlace),w.cell? (a.add (i*fs.size+j))=some v∧DataW.trod enc P w base spare held n f.type [v]=some y:=by
 rcases open_slice ht h with h0 | ⟨a,len,cap,m,n,D,Pl,hcs,hb,hl,hm,hmm,hx,hi⟩
 ·exact .inl h0.1
 ·cases n with
  | zero =>
   refine .inr ⟨a,len,cap,0,hcs,hl,hm,fun i hil=>?_⟩
   have hle:len≤m:=by rw [hmm];split <;> omega
   obtain ⟨cs',hc,ht'⟩:=hi i (by omega)
   cases ht'
  | succ n =>
   refine .inr ⟨a,len,cap,n,hcs,hl,hm,fun i hil j f hj=>?_⟩
   have hle:len≤m:=by rw [hmm];split <;> omega
   obtain ⟨cs',hc,ht'⟩:=hi i (by omega)
   rw [hC] at hc
   obtain ⟨ys,n',hn',hy,hlen,hyl,hf⟩:=DataW.trod_struct he ht'
   obtain rfl:n'=n:=by omega
   obtain ⟨_,hcl,hat⟩:=World.cells?_some hc
   obtain ⟨ho,hk⟩:=hone_of hone j f hj
   have hjl:j < fs.size:=(Array.getElem?_eq_some_iff.1 hj).1
   have hcell:=hat j hjl
   have hv:cs'[j]? = some (cs'[j]'(by omega)):=List.getElem?_eq_getElem (by omega)
   have h1:=hf j f hj
   rw [ho,hk] at h1
   have hone':(cs'.drop j).take 1=[cs'[j]'(by omega)]:=by
    rw [List.drop_eq_getElem_cons (by omega)]
    rfl
   rw [hone'] at h1
   have hys:ys[j]? = some (ys[j]'(by omega)):=List.getElem?_eq_getElem (by omega)
   refine ⟨_,_,?_,h1.trans hys⟩
   rw [← Go.Deep.add_add,hcell,hv]
end
theorem slAt_of {α:Type} [Inhabited α] {enc:α→List Value} {k:Nat} {w:World} {a:Addr} {len:Nat} {p:α→Prop} (h0:∀ x, ∃ u:Value,(enc x)[0]? = some u)
  (h:∀ i,i < len → ∃ x:α,(∀ j u,(enc x)[j]? = some u→w.cell? (a.add (i*k+j))=some u)∧p x) : ∃ L:List α,L.length=len∧SlAt enc k w (some a) L ∧ ∀ x∈L,p x:=by
 obtain ⟨f,hf⟩:=choose_lt h
 refine ⟨(List.range len).map f,by simp,fun hne=>?_,fun x hx=>?_⟩
 ·have hpos:0 < len:=by
   rcases Nat.eq_zero_or_pos len with h | h
   ·subst h;simp at hne
   ·exact h
  obtain ⟨u,hu⟩:=h0 (f 0)
  have hc:=(hf 0 hpos).1 0 u hu
  obtain ⟨b,off,spot⟩:=a
  have hspot:spot=none:=by simpa [Addr.add] using World.cell?_spot hc
  subst hspot
  have hlt:=World.block_lt_of_cell? w _ hc
  refine ⟨b,off,rfl,by simpa [Addr.add] using hlt,fun i x hx j u hu=>?_⟩
  rw [List.getElem?_map] at hx
  obtain ⟨i',hi',rfl⟩:=Option.map_eq_some_iff.1 hx
  obtain ⟨hil,rfl⟩:=List.getElem?_eq_some_iff.1 hi'
  simp only [List.getElem_range] at hu
  have:=(hf i (by simpa using hil)).1 j u hu
  unfold Addr.add at this
  split at this
  ·rename_i hz
   rw [show off+i*k+j=off by omega]
   exact this
  ·rw [show off+i*k+j=off+(i*k+j) by omega]
   exact this
 ·obtain ⟨i,hi,rfl⟩:=List.mem_map.1 hx
  exact (hf i (List.mem_range.1 hi)).2
def okD (d:Ed) : Prop:=i64ok d.1∧i64ok d.2.1∧i64ok d.2.2.1∧i64ok d.2.2.2.2
theorem i64_of_wf {n:Int} (h:(Lit.int .i64 n).wf=true) : i64ok n:=by
 have:=Go.bounds_i64 h
 unfold i64ok
 omega
section
variable {H:Type} {enc:TypeId×Value→H} {w:World} {base:Nat} {spare:Nat→Bool} {held:Bool} {fuel:Nat} {x:DataW H×List MemPlace} {a:Option Addr} {len cap:Nat}
theorem open_edits (h:DataW.trod enc Tryz.prog w base spare held fuel 22 [.slice a len cap]=some x) : ∃ L:List Ed,L.length=len∧SlAt encD 5 w a L∧(∀ d∈L,okD d)∧len≤9223372036854775807∧len≤cap:=by
 rcases open_slice_fields Tryz.underlying22 Tryz.underlying63 (by kernel_rfl) (by kernel_rfl) h with h0 | ⟨a',len',cap',n,hcs,hl,hm,hf⟩
 ·simp at h0
  obtain ⟨rfl,rfl,rfl⟩:=h0
  exact ⟨[],rfl,SlAt.nil,by simp,by omega,by omega⟩
 ·simp at hcs
  obtain ⟨rfl,rfl,rfl⟩:=hcs
  obtain ⟨L,h1,h2,h3⟩:=slAt_of (α:=Ed) (enc:=encD) (k:=5) (w:=w) (a:=a') (len:=len) (p:=okD) (fun x=>⟨_,rfl⟩) (fun i hi=>by
   obtain ⟨v0,y0,c0,r0⟩:=hf i hi 0 _ rfl
   obtain ⟨v1,y1,c1,r1⟩:=hf i hi 1 _ rfl
   obtain ⟨v2,y2,c2,r2⟩:=hf i hi 2 _ rfl
   obtain ⟨v3,y3,c3,r3⟩:=hf i hi 3 _ rfl
   obtain ⟨v4,y4,c4,r4⟩:=hf i hi 4 _ rfl
   obtain ⟨n0,e0,_,w0⟩:=DataW.trod_int Tryz.underlying3 r0
   obtain ⟨n1,e1,_,w1⟩:=DataW.trod_int Tryz.underlying3 r1
   obtain ⟨n2,e2,_,w2⟩:=DataW.trod_int Tryz.underlying3 r2
   obtain ⟨n3,e3,_,w3⟩:=DataW.trod_int Tryz.underlying5 r3
   obtain ⟨n4,e4,_,w4⟩:=DataW.trod_int Tryz.underlying3 r4
   simp at e0 e1 e2 e3 e4
   subst e0 e1 e2 e3 e4
   refine ⟨(n0,n1,n2,n3,n4),fun j u hu=>?_,i64_of_wf w0,i64_of_wf w1,i64_of_wf w2,i64_of_wf w4⟩
   match j,hu with
   | 0,hu=>simp [encD] at hu;subst hu;exact c0
   | 1,hu=>simp [encD] at hu;subst hu;exact c1
   | 2,hu=>simp [encD] at hu;subst hu;exact c2
   | 3,hu=>simp [encD] at hu;subst hu;exact c3
   | 4,hu=>simp [encD] at hu;subst hu;exact c4)
  exact ⟨L,h1,h2,h3,by unfold maxLen at hm;omega,hl⟩
end
end Go.Proofs.YtmokciekndllpaaGreatDoor
namespace Go.Proofs.YtmokciekndllpaaGreatDoor
open Go Go.RowKit
theorem posI_congr {α:Type} {p q:α→Bool}:∀ {l:List α},(∀ x∈l,p x=q x)→posI p l=posI q l:=by
 intro l h
 unfold posI
 have:l.findIdx? p=l.findIdx? q:=by
  induction l with
  | nil=>rfl
  | cons x r ih =>
   rw [List.findIdx?_cons,List.findIdx?_cons,h x (by simp),ih (fun y hy=>h y (by simp [hy]))]
 rw [this]
theorem posI_cases {α:Type} (p:α→Bool) (l:List α) : posI p l = -1∧(∀ x∈l,p x=false) ∨ ∃ i, ∃ h:i < l.length,posI p l=(i:Int)∧p l[i]=true:=by
 unfold posI
 cases hf:l.findIdx? p with
 | none=>exact .inl ⟨rfl,by simpa [List.findIdx?_eq_none_iff] using hf⟩
 | some i =>
  obtain ⟨h,hp,_⟩:=List.findIdx?_eq_some_iff_getElem.1 hf
  exact .inr ⟨i,h,rfl,hp⟩
theorem run_neq_Set {ρ:Operand→Value} {o:Oper} {x y:Operand} {w:World} {N M:Nat} {t:TypeId} (ho:o.op=.binOp .neq 25 x y t) (hx:ρ x=.agg (setC N)) (hy:ρ y=.agg (setC M)) : (execOp ρ o).run Tryz.prog w=.ok (.value (.bool (!eqS N M))) w:=by
 have h:=cmp_Set w N M
 generalize setC N=C at *
 generalize setC M=D at *
 unfold execOp
 simp only [ho,hx,hy]
 simp [go_sem,h]
theorem wrongR_ok {op u v wt:Int} {V:List (Int×Thing)} {E:List ((Int×Int)×Thing)} (hop:op=0∨op=1∨op=2∨op=3∨op=4∨op=5∨op=6∨op=7) (h2:w2B op u v wt=false) (h3:w3B op u v=false)
  (k0:op=0→hasV u V=false) (k1:op≠0→hasV u V=true) (k2:op=2→hasV v V=true∧hasE u v E=false∧E.length < 1024) (k3:op=3∨op=6∨op=7→hasE u v E=true) : wrongR op u v wt V E=0:=by
 unfold wrongR
 have h1:w1B op=false:=by unfold w1B;simp;omega
 rw [h1,h2,h3,if_neg (by simp),if_neg (by simp),if_neg (by simp)]
 generalize hasV u V=iu at *
 generalize hasV v V=iv at *
 generalize hasE u v E=ie at *
 generalize E.length=n at *
 rcases hop with rfl | rfl | rfl | rfl | rfl | rfl | rfl | rfl <;> simp [pairsB] at k0 k1 k2 k3 ⊢ <;> simp_all
theorem refV_same {op u lab wt:Int} {V:List (Int×Thing)} (h0:op≠0) (h1:op≠1) (h4:op≠4) (h5:op≠5) : refV op u lab wt V=V:=by
 unfold refV
 rw [if_neg h0]
 split
 ·rfl
 ·rw [flat_map (g:=id) (fun x _=>by simp [fV,h1,h4,h5])]
  simp
section
variable {u v lab wt:Int} {E:List ((Int×Int)×Thing)} (hlo:∀ e∈E,e.1.1 < e.1.2) (hn:(E.map (·.1)).Nodup)
include hlo hn
theorem refE_3:refE 3 u v lab wt E=E.filter fun q=>decide (q.1≠(min u v,max u v)):=by
 simp only [refE,Int.reduceEq,if_false]
 rw [flat_zip (g:=fun x=>if (decide (x.1≠(min u v,max u v)))=true then [x] else []) (fun x i hx=>by
  have hp:=pos_iff (u:=u) (v:=v) hlo hn hx
  rw [show posD 3 u v E=posI (isE u v) E from by simp [posD,pairsB]]
  by_cases hh:x.1=(min u v,max u v)
  ·simp [fE,hp.2 hh,hh]
  ·have:¬ ((i:Int)=posI (isE u v) E):=fun e=>hh (hp.1 e)
   simp [fE,hh,this]),flat_filter (fun x _=>rfl)]
end
end Go.Proofs.YtmokciekndllpaaGreatDoor
namespace Go.Proofs.YtmokciekndllpaaGreatDoor
open Go
section
variable {V:List (Int×Thing)} {E:List ((Int×Int)×Thing)}
theorem hasE_ne (hi:GInv V E) {u v:Int} (h:hasE u v E=true) : u≠v:=by
 unfold hasE at h
 rw [decide_eq_true_eq,posI_nonneg] at h
 obtain ⟨p,hp,h1⟩:=h
 have h2:=hi.lo p hp
 unfold isE at h1
 simp at h1
 omega
def Clq (E:List ((Int×Int)×Thing)) (l:List Int) : Prop:=∀ x∈l, ∀ y∈l,x≠y→hasE x y E=true
def Smp (E:List ((Int×Int)×Thing)) (v:Int) (l:List Int) : Prop:=∀ x∈l, ∀ y∈l,hasE v x E=true→hasE v y E=true→x≠y→hasE x y E=true
theorem cliqueS_iff (hi:GInv V E) {r:Nat}:cliqueS E r=true↔Clq E (toL r):=by
 unfold cliqueS
 rw [List.all_eq_true]
 constructor
 ·intro h x hx y hy hne
  exact (mem_near hi).1 (subS_iff.1 (h x hx) y (mem_without.2 ⟨hy,fun e=>hne e.symm⟩))
 ·intro h v hv
  refine subS_iff.2 fun y hy=>?_
  obtain ⟨h1,h2⟩:=mem_without.1 hy
  exact (mem_near hi).2 (h v hv y h1 (fun e=>h2 e.symm))
theorem simpleS_iff (hi:GInv V E) {v:Int} {left:Nat}:simpleS E v left=true↔Smp E v (toL left):=by
 unfold simpleS
 rw [cliqueS_iff hi]
 constructor
 ·intro h x hx y hy h1 h2 hne
  exact h x (mem_and.2 ⟨(mem_near hi).2 h1,hx⟩) y (mem_and.2 ⟨(mem_near hi).2 h2,hy⟩) hne
 ·intro h x hx y hy hne
  obtain ⟨h1,h2⟩:=mem_and.1 hx
  obtain ⟨h3,h4⟩:=mem_and.1 hy
  exact h x h2 y h4 ((mem_near hi).1 h1) ((mem_near hi).1 h3) hne
def ClqR (V:List (Int×Thing)) (E:List ((Int×Int)×Thing)) (l:List Int) : Prop:=∀ i (hi:i < l.length),hasV l[i] V=true ∧ ∀ k (hk:k < i),hasE l[i] (l[k]'(Nat.lt_trans hk hi)) E=true
theorem clqR_iff (_hi:GInv V E) {l:List Int} (hn:l.Nodup) (hm:∀ x∈l,x∈V.map (·.1)) : ClqR V E l↔Clq E l:=by
 constructor
 ·intro h x hx y hy hne
  obtain ⟨i,hi',rfl⟩:=List.getElem_of_mem hx
  obtain ⟨k,hk,rfl⟩:=List.getElem_of_mem hy
  rcases Nat.lt_trichotomy i k with h1 | h1 | h1
  ·exact hasE_symm ((h k hk).2 i h1)
  ·subst h1;exact absurd rfl hne
  ·exact (h i hi').2 k h1
 ·intro h i hi'
  refine ⟨hasV_iff.2 (hm _ (List.getElem_mem hi')),fun k hk=>h _ (List.getElem_mem _) _ (List.getElem_mem _) fun e=>?_⟩
  have:=(List.getElem_inj hn).1 e
  omega
def nbrR (E:List ((Int×Int)×Thing)) (v:Int) (l:List Int) : List Int:=l.filter fun x=>decide (x≠v) && hasE v x E
theorem mem_nbr {v x:Int} {l:List Int}:x∈nbrR E v l↔x∈l∧x≠v∧hasE v x E=true:=by
 unfold nbrR
 rw [List.mem_filter,Bool.and_eq_true,decide_eq_true_eq]
theorem smp_nbr (hi:GInv V E) {v:Int} {l:List Int} (hn:l.Nodup) (hm:∀ x∈l,x∈V.map (·.1)) : ClqR V E (nbrR E v l)↔Smp E v l:=by
 have h0:=clqR_iff hi (l:=nbrR E v l) (hn.filter _) (fun x hx=>hm x (mem_nbr.1 hx).1)
 rw [h0]
 constructor
 ·intro h x hx y hy h1 h2 hne
  exact h x (mem_nbr.2 ⟨hx,(hasE_ne hi h1).symm,h1⟩) y (mem_nbr.2 ⟨hy,(hasE_ne hi h2).symm,h2⟩) hne
 ·intro h x hx y hy hne
  obtain ⟨h1,_,h2⟩:=mem_nbr.1 hx
  obtain ⟨h3,_,h4⟩:=mem_nbr.1 hy
  exact h x h1 y h3 h2 h4 hne
theorem smp_out (hi:GInv V E) {v:Int} {l:List Int}:Smp E v (outR l v)↔Smp E v l:=by
 constructor
 ·intro h x hx y hy h1 h2 hne
  exact h x (mem_out.2 ⟨hx,(hasE_ne hi h1).symm⟩) y (mem_out.2 ⟨hy,(hasE_ne hi h2).symm⟩) h1 h2 hne
 ·intro h x hx y hy
  exact h x (mem_out.1 hx).1 y (mem_out.1 hy).1
def Peo (E:List ((Int×Int)×Thing)) : List Int→Prop
 | []=>True
 | v::l=>Smp E v l∧Peo E l
theorem Smp.sub {v:Int} {l m:List Int} (h:Smp E v m) (hs:∀ x∈l,x∈m) : Smp E v l:=fun x hx y hy=>h x (hs x hx) y (hs y hy)
theorem Peo.sub:∀ {l m:List Int},l.Sublist m→Peo E m→Peo E l
 | _,_,.slnil,h=>h
 | _,_,.cons _ hs,h=>Peo.sub hs h.2
 | _,_,.cons_cons _ hs,h=>⟨h.1.sub hs.subset,Peo.sub hs h.2⟩
def Cho (E:List ((Int×Int)×Thing)) (l:List Int) : Prop:=∃ o,o.Perm l∧Peo E o
theorem Cho.out {l:List Int} (h:Cho E l) (v:Int) : Cho E (outR l v):=by
 obtain ⟨o,hp,ho⟩:=h
 exact ⟨outR o v,hp.filter _,Peo.sub (List.filter_sublist) ho⟩
theorem Cho.back {l:List Int} (hn:l.Nodup) {v:Int} (hv:v∈l) (hs:Smp E v l) (h:Cho E (outR l v)) : Cho E l:=by
 obtain ⟨o,hp,ho⟩:=h
 exact ⟨v::o,(hp.cons v).trans (perm_out1 hn hv),hs.sub (fun x hx=>(mem_out.1 (hp.mem_iff.1 hx)).1),ho⟩
theorem Cho.first (hi:GInv V E) {l:List Int} (h:Cho E l) (hne:l≠[]) : ∃ v∈l,Smp E v l:=by
 obtain ⟨o,hp,ho⟩:=h
 cases o with
 | nil=>exact absurd hp.symm.eq_nil hne
 | cons v o =>
  refine ⟨v,hp.mem_iff.1 (by simp),(smp_out hi).1 (ho.1.sub fun x hx=>?_)⟩
  obtain ⟨h1,h2⟩:=mem_out.1 hx
  rcases List.mem_cons.1 (hp.mem_iff.2 h1) with h3 | h3
  ·exact absurd h3 h2
  ·exact h3
end
open Classical in
noncomputable def ordR (V:List (Int×Thing)) (E:List ((Int×Int)×Thing)) : Nat→List Int→Option (List Int)
 | 0,_=>none
 | f+1,l=>if l=[] then some [] else l.findSome? fun x=>if ClqR V E (nbrR E x (outR l x)) then (ordR V E f (outR l x)).map (x :: ·) else none
section
open Classical
variable {V:List (Int×Thing)} {E:List ((Int×Int)×Thing)}
theorem ordR_sound (hi:GInv V E) : ∀ (f:Nat) (l o:List Int),l.Nodup→(∀ x∈l,x∈V.map (·.1))→ordR V E f l=some o→o.Perm l∧Peo E o
 | 0,l,o,_,_,h=>by cases h
 | f+1,l,o,hn,hm,h=>by
  rw [ordR] at h
  split at h
  ·rename_i hl
   cases h
   subst hl
   exact ⟨.nil,trivial⟩
  ·obtain ⟨l1,x,l2,rfl,hx,_⟩:=List.findSome?_eq_some_iff.1 h
   have hxl:x∈l1++x::l2:=by simp
   generalize l1++x::l2=l at *
   split at hx
   ·rename_i hc
    obtain ⟨o',ho',rfl⟩:=Option.map_eq_some_iff.1 hx
    have hn2:(outR l x).Nodup:=hn.filter _
    have hm2:∀ y∈outR l x,y∈V.map (·.1):=fun y hy=>hm y (mem_out.1 hy).1
    obtain ⟨h1,h2⟩:=ordR_sound hi f _ _ hn2 hm2 ho'
    refine ⟨(h1.cons x).trans (perm_out1 hn hxl),?_,h2⟩
    have:=(smp_nbr hi hn2 hm2).1 hc
    exact this.sub fun y hy=>h1.mem_iff.1 hy
   ·cases hx
theorem ordR_some (hi:GInv V E) : ∀ (f:Nat) (l:List Int),l.Nodup→(∀ x∈l,x∈V.map (·.1))→l.length < f→Cho E l→(ordR V E f l).isSome=true
 | 0,l,_,_,h,_=>by omega
 | f+1,l,hn,hm,hf,hc=>by
  rw [ordR]
  split
  ·rfl
  ·rename_i hl
   obtain ⟨v,hv,hs⟩:=Cho.first hi hc hl
   rw [List.findSome?_isSome_iff]
   have hn2:(outR l v).Nodup:=hn.filter _
   have hm2:∀ y∈outR l v,y∈V.map (·.1):=fun y hy=>hm y (mem_out.1 hy).1
   refine ⟨v,hv,?_⟩
   rw [if_pos ((smp_nbr hi hn2 hm2).2 ((smp_out hi).2 hs))]
   have:=ordR_some hi f _ hn2 hm2 (by have:=out_lt hv;omega) (hc.out v)
   simpa using this
theorem ordR_iff (hi:GInv V E) {f:Nat} {l:List Int} (hn:l.Nodup) (hm:∀ x∈l,x∈V.map (·.1)) (hf:l.length < f) : (ordR V E f l).isSome=true↔Cho E l:=by
 refine ⟨fun h=>?_,ordR_some hi f l hn hm hf⟩
 obtain ⟨o,ho⟩:=Option.isSome_iff_exists.1 h
 exact ⟨o,ordR_sound hi f l o hn hm ho⟩
end
theorem findSome_find {l:List Int} {p:Int→Bool} {g:Int→Option (List Int)} (h:∀ x∈l,p x=true→(g x).isSome=true) :
  (l.findSome? fun x=>if p x=true then g x else none)=(l.find? p).bind g:=by
 induction l with
 | nil=>rfl
 | cons a r ih =>
  rw [List.findSome?_cons,List.find?_cons]
  by_cases hp:p a=true
  ·rw [if_pos hp,hp]
   obtain ⟨o,ho⟩:=Option.isSome_iff_exists.1 (h a (by simp) hp)
   simp only [ho]
   rw [Option.bind_some,ho]
  ·rw [if_neg hp]
   have:p a=false:=by simpa using hp
   rw [this]
   simp only
   exact ih fun x hx=>h x (by simp [hx])
open Classical in
theorem poS_ordR {V:List (Int×Thing)} {E:List ((Int×Int)×Thing)} (hi:GInv V E) (f:Nat) : ∀ (N:Nat),(∀ x∈toL N,x∈V.map (·.1))→(toL N).length < f→poS E f N=ordR V E f (toL N):=by
 induction f with
 | zero=>intro N _ h;exact absurd h (Nat.not_lt_zero _)
 | succ f ih =>
  intro N hm hf
  have hn:=toL_nodup N
  have hout:=toL_without N
  have hsim:=fun x=>simpleS_iff (E:=E) hi (v:=x) (left:=N)
  have hany:=anyB_iff (N:=N)
  rw [poS,ordR]
  generalize toL N=l at *
  by_cases hl:l=[]
  ·rw [if_neg (fun h=>hany.1 h hl),if_pos hl]
  ·rw [if_pos (hany.2 hl),if_neg hl]
   have hcl:∀ x,(ClqR V E (nbrR E x (outR l x)))↔simpleS E x N=true:=fun x=>by
    have h0:=smp_nbr hi (v:=x) (l:=outR l x) (hn.filter _) (fun y hy=>hm y (mem_out.1 hy).1)
    exact (h0.trans (smp_out hi)).trans (hsim x).symm
   have hgo:∀ x∈l,poS E f (withoutS N x)=ordR V E f (outR l x):=fun x hx=>by
    have e:toL (withoutS N x)=outR l x:=hout x
    have h1:=out_lt hx
    have h2:=ih (withoutS N x)
    rw [e] at h2
    exact h2 (fun y hy=>hm y (mem_out.1 hy).1) (by omega)
   have hsm:∀ x∈l,(ordR V E f (outR l x)).isSome=true↔Cho E (outR l x):=fun x hx=>by
    have h1:=out_lt hx
    exact ordR_iff hi (hn.filter _) (fun y hy=>hm y (mem_out.1 hy).1) (by omega)
   by_cases hc:Cho E l
   ·have h1:l.findSome? (fun x=>if ClqR V E (nbrR E x (outR l x)) then (ordR V E f (outR l x)).map (x :: ·) else none)
      = l.findSome? (fun x=>if simpleS E x N=true then (ordR V E f (outR l x)).map (x :: ·) else none):=by
     refine congrArg (fun q=>l.findSome? q) (funext fun x=>?_)
     by_cases h:simpleS E x N=true
     ·rw [if_pos h,if_pos ((hcl x).2 h)]
     ·rw [if_neg h,if_neg (fun h2=>h ((hcl x).1 h2))]
    rw [h1,findSome_find (p:=fun x=>simpleS E x N) (g:=fun x=>(ordR V E f (outR l x)).map (x :: ·)) (fun x hx _=>by
     have:=(hsm x hx).2 (hc.out x)
     simpa using this)]
    cases h:l.find? (fun v=>simpleS E v N) with
    | none=>rfl
    | some v =>
     rw [Option.bind_some,Option.bind_some,hgo v (List.mem_of_find?_eq_some h)]
   ·have h2:ordR V E (f+1) l=none:=by
     have:=mt (ordR_iff hi hn hm hf).1 hc
     simpa using this
    rw [ordR,if_neg hl] at h2
    rw [h2]
    cases h:l.find? (fun v=>simpleS E v N) with
    | none=>rfl
    | some v =>
     rw [Option.bind_some]
     have hv:=List.mem_of_find?_eq_some h
     have hs:=List.find?_some h
     rw [hgo v hv]
     have h3:ordR V E f (outR l v)=none:=by
      have:=mt (hsm v hv).1 (fun h4=>hc (Cho.back hn hv ((hsim v).1 hs) h4))
      simpa using this
     rw [h3]
     rfl
end Go.Proofs.YtmokciekndllpaaGreatDoor
namespace Go.Proofs.YtmokciekndllpaaGreatDoor
open Go Go.RowKit Go.Shelf
section
variable {V:List (Int×Thing)} {E:List ((Int×Int)×Thing)}
theorem peoS_iff (hi:GInv V E) : (peoS V E).isSome=true↔Cho E (V.map (·.1)):=by
 unfold peoS
 have h1:∀ x∈toL (vS V),x∈V.map (·.1):=fun x hx=>(mem_vS hi).1 hx
 have h2:(toL (vS V)).length < 1025:=by have:=toL_len (vS V);omega
 rw [poS_ordR hi _ _ h1 h2,ordR_iff hi (toL_nodup _) h1 h2,toL_vS hi]
end
section
variable {V:List (Int×Thing)} {E:List ((Int×Int)×Thing)}
theorem out_edge (hi:GInv V E) {e:(Int×Int)×Thing} (he:e∈E) : wrongR 3 e.1.1 e.1.2 0 V E=0∧nxV 3 e.1.1 e.1.2 0 0 V E=V ∧ ∀ f∈nxE 3 e.1.1 e.1.2 0 0 V E,f∈E:=by
 have hlt:=hi.lo e he
 obtain ⟨⟨t1,h1⟩,t2,h2⟩:=hi.ends e he
 have hw:wrongR 3 e.1.1 e.1.2 0 V E=0:=by
  refine wrongR_ok (by omega) ?_ ?_ (by omega) (fun _=>hasV_iff.2 (List.mem_map.2 ⟨_,h1,rfl⟩)) (by omega) (fun _=>(hasE_iff hi.lo).2 (List.mem_map.2 ⟨e,he,?_⟩))
  ·have a:=hi.ids _ h1
   have b:=hi.ids _ h2
   simp [w2B,idB,heavyB] at a b ⊢
   omega
  ·simp [w3B,pairsB];try omega
  ·rw [Prod.ext_iff]
   exact ⟨by simp only;omega,by simp only;omega⟩
 refine ⟨hw,?_,?_⟩
 ·unfold nxV
  rw [if_pos hw,refV_same (by omega) (by omega) (by omega) (by omega)]
 ·unfold nxE
  rw [if_pos hw,refE_3 hi.lo (se_nodup hi.se)]
  intro f hf
  exact (List.mem_filter.1 hf).1
def cutE (p:Int×Int) (E:List ((Int×Int)×Thing)) : List ((Int×Int)×Thing):=E.filter fun q=>decide (q.1≠p)
theorem cut_ok (hi:GInv V E) {p:Int×Int} (hp:p∈E.map (·.1)) : wrongR 3 p.1 p.2 0 V E=0∧nxV 3 p.1 p.2 0 0 V E=V∧nxE 3 p.1 p.2 0 0 V E=cutE p E:=by
 obtain ⟨e,he,rfl⟩:=List.mem_map.1 hp
 obtain ⟨h1,h2,_⟩:=out_edge hi he
 refine ⟨h1,h2,?_⟩
 have:=hi.lo e he
 unfold nxE
 rw [if_pos h1,refE_3 hi.lo (se_nodup hi.se)]
 unfold cutE
 rw [Int.min_eq_left (by omega),Int.max_eq_right (by omega)]
theorem cut_inv (hi:GInv V E) (p:Int×Int) : GInv V (cutE p E) :=
 ⟨hi.sv,hi.se.filter _,fun e he=>hi.lo e (List.mem_filter.1 he).1,fun e he=>hi.ends e (List.mem_filter.1 he).1,hi.ids,hi.wv,fun e he=>hi.we e (List.mem_filter.1 he).1,Nat.le_trans (List.length_filter_le _ _) hi.ne⟩
def okO (V:List (Int×Thing)) (E:List ((Int×Int)×Thing)) (V2:List (Int×Thing)) (E2:List ((Int×Int)×Thing)) : Bool:=eqS (vS V) (vS V2) && E.all fun e=>hasE e.1.1 e.1.2 E2
def moreO (E E2:List ((Int×Int)×Thing)) : List ((Int×Int)×Thing):=E2.filter fun e=>!hasE e.1.1 e.1.2 E
def choB (V:List (Int×Thing)) (E:List ((Int×Int)×Thing)) : Bool:=(peoS V E).isSome
def leastB (V2:List (Int×Thing)) (E E2:List ((Int×Int)×Thing)) : Bool:=choB V2 E2 && !(moreO E E2).any fun e=>choB V2 (cutE e.1 E2)
def isMin (V:List (Int×Thing)) (E:List ((Int×Int)×Thing)) (V2:List (Int×Thing)) (E2:List ((Int×Int)×Thing)) : Bool×Int:=if okO V E V2 E2 then (leastB V2 E E2,0) else (false,3)
end
section
variable {V:List (Int×Thing)} {E:List ((Int×Int)×Thing)}
def smp1 (E:List ((Int×Int)×Thing)) (v a:Int) (M:List Int) : Bool:=M.all fun b=>!(hasE v a E && hasE v b E && !hasE a b E)
def smpR (E:List ((Int×Int)×Thing)) (v:Int) (L:List Int) (i:Nat) : Bool:=(List.range i).all fun j=>smp1 E v (L.getD j 0) (L.take j)
theorem smp1_next (v a:Int) {M:List Int} {k:Nat} (h:k < M.length) : smp1 E v a (M.take (k+1))=(smp1 E v a (M.take k) && !(hasE v a E && hasE v M[k] E && !hasE a M[k] E)):=by
 unfold smp1
 rw [List.take_succ_eq_append_getElem h,List.all_append,List.all_cons,List.all_nil,Bool.and_true]
theorem smpR_next (v:Int) {L:List Int} {i:Nat} (h:i < L.length) : smpR E v L (i+1)=(smpR E v L i && smp1 E v L[i] (L.take i)):=by
 unfold smpR
 rw [List.range_succ,List.all_append,List.all_cons,List.all_nil,Bool.and_true,List.getD_eq_getElem?_getD,List.getElem?_eq_getElem h]
 rfl
theorem smpR_mono (v:Int) {L:List Int} {i j:Nat} (hij:i≤j) (h:smpR E v L i=false) : smpR E v L j=false:=by
 unfold smpR at h ⊢
 rw [List.all_eq_false] at h ⊢
 obtain ⟨x,h1,h2⟩:=h
 exact ⟨x,List.mem_range.2 (by have:=List.mem_range.1 h1;omega),h2⟩
theorem smpR_iff {v:Int} {L:List Int} (hn:L.Nodup) : smpR E v L L.length=true↔Smp E v L:=by
 unfold smpR smp1
 rw [List.all_eq_true]
 constructor
 ·intro h x hx y hy h1 h2 hne
  obtain ⟨i,hi,rfl⟩:=List.getElem_of_mem hx
  obtain ⟨k,hk,rfl⟩:=List.getElem_of_mem hy
  have key:∀ (i k:Nat) (hi:i < L.length) (hk:k < L.length),k < i→hasE v L[i] E=true→hasE v L[k] E=true→hasE L[i] L[k] E=true:=by
   intro i k hi hk hlt h1 h2
   have h3:=List.all_eq_true.1 (h i (List.mem_range.2 hi)) L[k] (List.mem_take_iff_getElem.2 ⟨k,by omega,rfl⟩)
   rw [List.getD_eq_getElem?_getD,List.getElem?_eq_getElem hi] at h3
   simpa [h1,h2] using h3
  rcases Nat.lt_trichotomy k i with hlt | rfl | hlt
  ·exact key i k hi hk hlt h1 h2
  ·exact absurd rfl hne
  ·exact hasE_symm (key k i hk hi hlt h2 h1)
 ·intro h i hi
  have hi:=List.mem_range.1 hi
  rw [List.all_eq_true]
  intro b hb
  obtain ⟨k,hk,rfl⟩:=List.mem_take_iff_getElem.1 hb
  rw [List.getD_eq_getElem?_getD,List.getElem?_eq_getElem hi]
  have hne:L[i]≠L[k]:=fun e=>by
   have:=(List.getElem_inj hn).1 e
   omega
  have h1:=h L[i] (List.getElem_mem _) L[k] (List.getElem_mem _)
  show (!(hasE v L[i] E && hasE v L[k] E && !hasE L[i] L[k] E))=true
  cases h2:hasE v L[i] E
  ·rfl
  ·cases h3:hasE v L[k] E
   ·rfl
   ·rw [h1 h2 h3 hne];rfl
structure ChI (V:List (Int×Thing)) (E:List ((Int×Int)×Thing)) (L:List Int) : Prop where
 nd:L.Nodup
 cho:Cho E (V.map (·.1))↔Cho E L
theorem ChI.start (hi:GInv V E) : ChI V E (V.map (·.1)):=⟨sv_nodup hi.sv,Iff.rfl⟩
theorem ChI.next {L:List Int} (h:ChI V E L) {v:Int} (hv:v∈L) (hs:smpR E v L L.length=true) : ChI V E (outR L v) :=
 ⟨h.nd.filter _,h.cho.trans ⟨fun h1=>h1.out v,fun h1=>Cho.back h.nd hv ((smpR_iff h.nd).1 hs) h1⟩⟩
theorem cho_iff (hi:GInv V E) : choB V E=true↔Cho E (V.map (·.1)):=peoS_iff hi
theorem ChI.none (hi:GInv V E) {L:List Int} (h:ChI V E L) (hne:L≠[]) (hs:∀ v∈L,smpR E v L L.length=false) : choB V E=false:=by
 rw [Bool.eq_false_iff]
 intro h1
 obtain ⟨v,hv,h2⟩:=Cho.first hi (h.cho.1 ((cho_iff hi).1 h1)) hne
 have h3:=hs v hv
 rw [(smpR_iff h.nd).2 h2] at h3
 cases h3
theorem ChI.done (hi:GInv V E) {L:List Int} (h:ChI V E L) (hl:L=[]) : choB V E=true:=by
 subst hl
 exact (cho_iff hi).2 (h.cho.2 ⟨[],.refl _,trivial⟩)
def moreN (E E2:List ((Int×Int)×Thing)) (i:Nat) : List Nat:=(List.range i).filter fun j=>!hasE (E2.getD j ((0,0),(0,0))).1.1 (E2.getD j ((0,0),(0,0))).1.2 E
theorem moreN_next (E:List ((Int×Int)×Thing)) {E2:List ((Int×Int)×Thing)} {i:Nat} (h:i < E2.length) : moreN E E2 (i+1)=moreN E E2 i++(if hasE E2[i].1.1 E2[i].1.2 E=true then [] else [i]):=by
 unfold moreN
 rw [List.range_succ,List.filter_append,List.filter_cons,List.filter_nil,List.getD_eq_getElem?_getD,List.getElem?_eq_getElem h]
 show _++(if (!hasE E2[i].1.1 E2[i].1.2 E)=true then [i] else [])=_
 cases hasE E2[i].1.1 E2[i].1.2 E <;> rfl
theorem moreN_lt {E E2:List ((Int×Int)×Thing)} {i:Nat}:∀ j∈moreN E E2 i,j < i:=fun _ hj=>List.mem_range.1 (List.mem_filter.1 hj).1
theorem moreN_le (E E2:List ((Int×Int)×Thing)) (i:Nat) : (moreN E E2 i).length≤i:=by
 have h:=List.length_filter_le (fun j=>!hasE (E2.getD j ((0,0),(0,0))).1.1 (E2.getD j ((0,0),(0,0))).1.2 E) (List.range i)
 rw [List.length_range] at h
 exact h
theorem moreN_get (E E2:List ((Int×Int)×Thing)) : (moreN E E2 E2.length).map (fun j=>E2.getD j ((0,0),(0,0)))=moreO E E2:=by
 have h:∀ i,i≤E2.length→(moreN E E2 i).map (fun j=>E2.getD j ((0,0),(0,0)))=(E2.take i).filter fun e=>!hasE e.1.1 e.1.2 E:=by
  intro i
  induction i with
  | zero=>intro _;simp [moreN]
  | succ i ih =>
   intro hi
   rw [moreN_next E (show i < E2.length by omega),List.map_append,ih (by omega),List.take_succ_eq_append_getElem (show i < E2.length by omega),List.filter_append,List.filter_cons,List.filter_nil]
   cases hasE E2[i].1.1 E2[i].1.2 E
   ·simp [List.getElem?_eq_getElem (show i < E2.length by omega)]
   ·simp
 rw [h E2.length (Nat.le_refl _),List.take_length]
 rfl
theorem cut_idx (hi:GInv V E) {i:Nat} (h:i < E.length) : E.eraseIdx i=cutE E[i].1 E:=by
 have hn:=se_nodup hi.se
 unfold cutE
 clear hi
 induction E generalizing i with
 | nil=>simp at h
 | cons a E ih =>
  rw [List.map_cons,List.nodup_cons] at hn
  cases i with
  | zero =>
   rw [List.eraseIdx_cons_zero,List.filter_cons,if_neg (by simp)]
   refine (List.filter_eq_self.2 fun q hq=>?_).symm
   rw [decide_eq_true_eq]
   exact fun e=>hn.1 (List.mem_map.2 ⟨q,hq,e⟩)
  | succ i =>
   have hi':i < E.length:=by simpa using h
   rw [List.eraseIdx_cons_succ,List.filter_cons,if_pos,ih hi' hn.2]
   ·rfl
   ·rw [decide_eq_true_eq]
    exact fun e=>hn.1 (List.mem_map.2 ⟨E[i],List.getElem_mem hi',e.symm⟩)
theorem cutI_next (at_:Nat) {i:Nat} (h:i < E.length) : (E.take (i+1)).eraseIdx at_=(E.take i).eraseIdx at_++(if i=at_ then [] else [E[i]]):=by
 rw [List.take_succ_eq_append_getElem h]
 by_cases he:i=at_
 ·subst he
  rw [if_pos rfl,List.append_nil]
  rw [List.eraseIdx_append_of_length_le (by rw [List.length_take];omega),List.eraseIdx_of_length_le (l:=E.take i) (by rw [List.length_take];omega)]
  simp [List.length_take,Nat.min_eq_left (Nat.le_of_lt h)]
 ·rw [if_neg he]
  by_cases hlt:at_ < i
  ·rw [List.eraseIdx_append_of_lt_length (by rw [List.length_take];omega)]
  ·rw [List.eraseIdx_of_length_le (by rw [List.length_append,List.length_take];simp;omega),List.eraseIdx_of_length_le (by rw [List.length_take];omega)]
attribute [local irreducible] choB
def goN (V:List (Int×Thing)) (E2:List ((Int×Int)×Thing)) (j:Nat) : Bool:=choB V (E2.eraseIdx j)
theorem goN_eq (hi:GInv V E) {j:Nat} (h:j < E.length) : goN V E j=choB V (cutE (E.getD j ((0,0),(0,0))).1 E):=by
 unfold goN
 rw [cut_idx hi h,List.getD_eq_getElem?_getD,List.getElem?_eq_getElem h]
 rfl
theorem any_congrN {α:Type} {l:List α} {f g:α→Bool} (h:∀ x∈l,f x=g x) : l.any f=l.any g:=by
 induction l with
 | nil=>rfl
 | cons a l ih=>rw [List.any_cons,List.any_cons,h a (by simp),ih fun x hx=>h x (by simp [hx])]
theorem any_more {E2:List ((Int×Int)×Thing)} (hi:GInv V E2) : ((moreN E E2 E2.length).any fun j=>goN V E2 j)=(moreO E E2).any fun e=>choB V (cutE e.1 E2):=by
 obtain ⟨l,hl⟩ : ∃ l,l=moreN E E2 E2.length:=⟨_,rfl⟩
 have h1:=moreN_get E E2
 have h2:∀ j∈l,j < E2.length:=fun j hj=>by rw [hl] at hj;exact moreN_lt j hj
 rw [← hl] at h1 ⊢
 rw [← h1,List.any_map]
 clear hl h1
 refine any_congrN fun j hj=>?_
 rw [Function.comp_apply]
 exact goN_eq hi (h2 j hj)
end
section
variable {b:Nat} {L:List Cl} {Rs:List Rw} {W W':World}
end
section
variable {wf:World} {T0:List Nat} {w W W':World} {ds:List Deferred} {L L':List Cl} {Rs Rs':List Rw}
end
section
variable {P:Program}
end
section
variable {P:Program} {C:World→Prop} {safe:Nat→Bool} {Q:Act→World→Prop} {l:List Oper} {n i:Nat} {o:Oper} {listed:Array Bool} {a:Act} {W w':World} {v:Value}
end
section
variable {α:Type} {enc:α→List Value} {T ST:TypeId} {kk byt:Nat} {C:World→Prop} {safe:Nat→Bool} {Q:Act→World→Prop} {l:List Oper} {n i:Nat} {o:Oper} {s x:Operand} {listed:Array Bool} {a:Act} {W:World}
end
section
variable {P:Program} {wf:World} {T0:List Nat} {w W:World} {ds:List Deferred} {L:List Cl} {Rs:List Rw} {l:List Oper} {K:Act→World→Prop} {r:List Oper} {o:Oper} {a:Act}
variable {C:World→Prop} {safe:Nat→Bool} {Q:Act→World→Prop} {n j:Nat} {listed:Array Bool} {S:List Nat} {w1:World}
end
section
variable {α:Type} {enc:α→List Value} {T ST:TypeId} {kk byt:Nat} {l:List Oper} {s x:Operand} {o:Oper} {a:Act} {W w wf:World} {T0:List Nat} {ds:List Deferred} {L:List Cl} {Rs:List Rw}
end
theorem Sp.toRow {wf:World} {T0:List Nat} {w W:World} {ds:List Deferred} {L:List Cl} {Rs:List Rw} {b t n:Nat} {cs:Array Value} (h:Sp wf T0 w ds (L++[(b,t,cs)]) Rs W) (hn:cs.size=n) (h0:n≤100) : Sp wf T0 w ds L (Rs++[(t,1,.slice (some ⟨b,0,none⟩) n n,n,cs.toList)]) W:=by
 have hT:(stT L (Rs++[(t,1,.slice (some ⟨b,0,none⟩) n n,n,cs.toList)])).Perm (stT (L++[(b,t,cs)]) Rs):=by
  unfold stT rwT
  rw [List.flatMap_append,List.map_append,List.append_assoc]
  refine List.Perm.append_left _ ?_
  simp only [List.flatMap_cons,List.flatMap_nil,List.append_nil,rwB_slice (show (1:Nat)≠0 by decide),Value.ownBlock,Option.toList,List.map_cons,List.map_nil]
  exact List.perm_append_comm
 have hb:Blk W b t cs:=h.st.cells (b,t,cs) (by simp)
 refine h.step (Keep.refl [] W) (by simp) ⟨fun e he=>h.st.cells e (by simp [he]),fun r hr=>?_,hT.nodup_iff.2 h.st.nd,fun x hx=>h.st.ge x (hT.mem_iff.1 hx)⟩ (fun x hx=>.inl (hT.mem_iff.1 hx))
 rcases List.mem_append.1 hr with hr | hr
 ·exact h.st.rows r hr
 ·rw [List.mem_singleton] at hr
  subst hr
  refine (RowIs.slice (by decide)).2 ?_
  exact ⟨by simp [hn],.inr ⟨b,n,cs,rfl,h.st.ge b (by unfold stT;simp),hb,Nat.le_refl _,by unfold maxLen;omega,by simpa using hn,by rw [Nat.mul_one, ← hn];exact List.take_of_length_le (by simp)⟩⟩
section
variable {κ τ:Type} {ek:κ→Value} {ev:τ→Value} {ok:κ→Prop}
end
section
variable {κ τ:Type} {ek:κ→Value} {ev:τ→Value} {ok:κ→Prop} {P:Program} {kt et t T:TypeId} {wf:World} {T0:List Nat} {w W:World} {ds:List Deferred} {L:List Cl} {Rs:List Rw} {l:List Oper} {K:Act→World→Prop} {r:List Oper} {o:Oper} {a:Act} {mb n:Nat} {m:List (κ×τ)}
variable [DecidableEq κ]
end
section
variable {α:Type} {enc:α→List Value} {T ST:TypeId} {kk byt:Nat} {l:List Oper} {s x:Operand} {o:Oper} {a:Act} {W w wf:World} {T0:List Nat} {ds:List Deferred} {L:List Cl} {Rs:List Rw}
variable {S:List Nat} {w1:World} {safe:Nat→Bool} {q:Prop} {Q:Act→World→Prop} {n:Nat} {li:Array Bool}
end
section
variable {P:Program} {l:List Oper} {o:Oper} {a:Act} {W w wf:World} {T0:List Nat} {ds:List Deferred} {L:List Cl} {Rs:List Rw} {S:List Nat} {w1:World} {safe:Nat→Bool} {q:Prop} {Q:Act→World→Prop} {n:Nat} {li:Array Bool}
end
section
variable {P:Program} {C:World→Prop} {safe:Nat→Bool} {Q:Act→World→Prop}
end
theorem slK {w:World} {b off:Nat} {L:List Int} {S:List Nat} (h:SlAt encI 1 w (some ⟨b,off,none⟩) L) (hb:b ∉ S) {i:Nat} (hi:i < L.length) : ∀ W,Keep S w W→W.cell? ⟨b,off+i,none⟩=some (.int .i64 L[i]):=by
 intro W hk
 obtain ⟨b',off',e,hc⟩:=atI (h.keepS hk (fun b2 o2 e hm=>by injection e with e;injection e with e1 e2;subst e1;exact hb hm)) hi
 injection e with e
 injection e with e1 e2
 subst e1
 subst e2
 exact hc W (Ext.refl W)
theorem slE {w:World} {b off:Nat} {L:List Int} (h:SlAt encI 1 w (some ⟨b,off,none⟩) L) {i:Nat} (hi:i < L.length) : ∀ W,Ext w W→W.cell? ⟨b,off+i,none⟩=some (.int .i64 L[i]):=fun W hW=>slK h (S:=[]) (by simp) hi W (hW.keep [])
section
variable {P:Program} {C:World→Prop} {safe:Nat→Bool} {Q:Act→World→Prop} {l:List Oper} {r:List Oper} {K:Act→World→Prop} {o:Oper} {a:Act} {W w wf:World} {T0:List Nat} {ds:List Deferred} {L:List Cl} {Rs:List Rw} {n j:Nat} {li:Array Bool}
end
end Go.Proofs.YtmokciekndllpaaGreatDoor
namespace Go.Proofs.YtmokciekndllpaaGreatDoor
open Go Go.RowKit
attribute [local go_sem] qUpon lUpon
def OwI (w:World) (xs:List Int) (e:Ending) (w':World) : Prop:=∃ A' c',e=.returned (.slice A' xs.length c')∧w'.ownsRow w.heap.size 3 1 (.slice A' xs.length c') xs.length (xs.flatMap encI)∧Ext w w'
theorem OwI.mk {w w':World} {xs:List Int} {A':Option Addr} {n c' b:Nat} (hn:n=xs.length) (h1:w'.ownsRow b 3 1 (.slice A' xs.length c') xs.length (xs.flatMap encI)) (hb:w.heap.size≤b) (h2:Ext w w') : OwI w xs (.returned (.slice A' n c')) w':=⟨A',c',by rw [hn],own_base_le h1 hb,h2⟩
theorem joined25_any (A B:Option Addr) (V:List (Int×Thing)) (E:List ((Int×Int)×Thing)) (cA cB:Nat) (u v:Int) (w:World) (hE:SlAt encE 4 w B E) (hl:E.length≤4096) :
  Calls Tryz.prog 73 #[.agg #[.slice A V.length cA,.slice B E.length cB],.int .i64 u,.int .i64 v] w fun e w'=>e=.returned (.bool (hasE u v E))∧Ext w w':=by
 have hx1:=hide (ext_self1 w (.cells #[.slice A V.length cA,.slice B E.length cB] 30))
 have hE':=hide hE
 clear hE
 go_enter Tryz.func73,Tryz.ntmps73
 go_wp2_with fail
 refine (redge_any A B E V.length cA cB u v _ ((uh hE').ext (uh hx1)) hl).mono ?_
 rintro e w2 ⟨rfl,hx2⟩
 have hq:hasE u v E=decide (0≤posI (isE u v) E):=rfl
 generalize posI (isE u v) E=p at *
 have hq':=hide hq
 have hx3:=hide ((uh hx1).trans hx2)
 clear hx2 hq
 go_wp2_with fail
 go_ret
 exact ⟨by rw [uh hq'];rfl,uh hx3⟩
theorem cellI {w:World} {A:Option Addr} {L:List Int} (h:SlAt encI 1 w A L) {k:Nat} (hk:k < L.length) : ∃ b off,A=some ⟨b,off,none⟩ ∧ ∀ W,Ext w W→W.cell? ⟨b,off+k,none⟩=some (.int .i64 L[k]):=by
 obtain ⟨b,off,rfl,hc⟩:=atI h hk
 exact ⟨b,off,rfl,hc⟩
end Go.Proofs.YtmokciekndllpaaGreatDoor
namespace Go.Proofs.YtmokciekndllpaaGreatDoor
open Go Go.RowKit Go.Shelf
attribute [local go_sem] qUpon lUpon
section
variable {P:Program} {wf:World} {T0:List Nat} {w W:World} {ds:List Deferred} {L:List Cl} {Rs:List Rw} {l:List Oper} {K:Act→World→Prop} {r:List Oper} {o:Oper} {a:Act}
theorem Sp.allocVO (h:Sp wf T0 w ds L Rs W) {v:Nat→Value} (t:TypeId) (cs:Array Value) (hw:Region.wanted o (yielded l.toArray a.tmps)=true) (hrun:(execOp a.eval o).run P W=.ok (.value (v W.heap.size)) (W.alloc (.cells cs t)))
  (hk:∀ b W',Sp wf T0 w ds (L++[(b,t,cs)]) Rs W'→wpO P l K r (a.put o.dst (v b)) W') : wpO P l K (o::r) a W:=wpO_val hw hrun (hk _ _ (h.alloc t cs))
end
end Go.Proofs.YtmokciekndllpaaGreatDoor
namespace Go.Proofs.YtmokciekndllpaaGreatDoor
open Go Go.RowKit Go.Shelf
attribute [local go_sem] qUpon lUpon
attribute [local irreducible] wpO wpX wpQL
theorem run_buildR {ρ:Operand→Value} {o:Oper} {x:Operand} {w:World} {z:Int} (ho:o.op=.buildSlice 43 1 #[(0,x)]) (hx:ρ x=.int .i64 z) : (execOp ρ o).run Tryz.prog w=.ok (.value (.slice (some ⟨w.heap.size,0,none⟩) 1 1)) (w.alloc (.cells #[.int .i64 z] 3)):=by
 unfold execOp
 simp only [ho]
 simp [go_sem,hx]
theorem run_build0 {ρ:Operand→Value} {o:Oper} {w:World} (ho:o.op=.buildSlice 43 0 #[]) : (execOp ρ o).run Tryz.prog w=.ok (.value (.slice (some ⟨w.heap.size,0,none⟩) 0 0)) (w.alloc (.cells #[] 3)):=by
 unfold execOp
 simp only [ho]
 simp [go_sem]
theorem outR_next (L:List Int) (x:Int) {k:Nat} (h:k < L.length) : outR (L.take (k+1)) x=outR (L.take k) x++(if decide (L[k]=x)=true then [] else [L[k]]):=by
 rw [List.take_succ_eq_append_getElem h]
 unfold outR
 rw [List.filter_append,List.filter_cons,List.filter_nil]
 by_cases hx:L[k]=x
 ·rw [if_neg (by simp [hx]),if_pos (by simp [hx])]
 ·rw [if_pos (by simp [hx]),if_neg (by simp [hx])]
def cmpR:List Int→List Int→Int
 | x::xs,y::ys=>if y < x then 1 else if x < y then -1 else cmpR xs ys
 | _::_,[]=>1
 | [],_::_=>-1
 | [],[]=>0
theorem cmpR_zero:∀ {a b:List Int},cmpR a b=0↔a=b
 | x::xs,y::ys=>by
  unfold cmpR
  by_cases h1:y < x
  ·rw [if_pos h1]
   simp
   omega
  ·rw [if_neg h1]
   by_cases h2:x < y
   ·rw [if_pos h2]
    simp
    omega
   ·rw [if_neg h2,cmpR_zero]
    simp
    omega
 | _::_,[]=>by simp [cmpR]
 | [],_::_=>by simp [cmpR]
 | [],[]=>by simp [cmpR]
def cmpQ (L M:List Int) : Int:=cmpR L.reverse M.reverse
theorem cmpQ_zero {L M:List Int}:cmpQ L M=0↔L=M:=by
 unfold cmpQ
 rw [cmpR_zero,List.reverse_inj]
theorem rev_take {L:List Int} {p:Nat} (h:p < L.length) : (L.take (p+1)).reverse=L[p]::(L.take p).reverse:=by
 rw [List.take_succ_eq_append_getElem h,List.reverse_append]
 rfl
theorem outQ_any (A:Option Addr) (L:List Int) (n cL:Nat) (x:Int) (w:World) (hL:SlAt encI 1 w A L) (hn:n=L.length) (hl:n≤100000) :
  Calls Tryz.prog 89 #[.slice A n cL,.int .i64 x] w (OwI w (outR L x)):=by
 have hL':=hide hL
 have hn':=hide hn
 have hl':=hide hl
 clear hL hn hl
 have hP:=hide (Sp.new w)
 refine callsIn_wide.1 (callsIn_of_wp_marks (n:=0) Tryz.func89 rfl trivial (wpIn_wide.2 ?_))
 simp only [Tryz.ntmps89,List.size_toArray,List.length_cons,List.length_nil,Nat.reduceAdd,Nat.reduceSub,Array.replicate_succ,Array.replicate_zero,List.push_toArray,List.append_toArray,List.nil_append,List.cons_append]
 try dsimp only
 repeat ((fail_if_success with_reducible refine wp_reg (id:=1) ?_);first|go_values|go_skip|go_step|go_guarded|go_upon|go_in|go_back)
 with_reducible refine wp_reg (id:=1) ?_
 refine (uh hP).allocVO (v:=fun b=>.slice (some ⟨b,0,none⟩) 0 0) 3 #[] rfl (run_build0 rfl) ?_
 intro be y1 hQ
 replace hP:=hide hQ
 clear hQ
 go_frame
 replace hP:Hid (Sp w [] w [] [] [(3,1,.slice (some ⟨be,0,none⟩) 0 0,0,[])] y1):=hide (Sp.toRow (L:=[]) (b:=be) (t:=3) (n:=0) (cs:=#[]) (uh hP) rfl (by decide))
 refine wpO_want rfl ?_
 go_simp
 refine wpO_done ?_
 try go_frame
 try dsimp only
 repeat ((fail_if_success with_reducible refine wp_reg (id:=2) ?_);first|go_values|go_skip|go_step|go_guarded|go_upon|go_in|go_back)
 with_reducible refine wp_reg (id:=2) ?_
 refine wpO_want rfl ?_
 go_simp
 refine wpO_done ?_
 try go_frame
 go_wp2_with fail
 obtain ⟨I1_2,hI1_20⟩ : ∃ I:Nat→Act→World→Prop,I=fun fi a' wr=>∃ (k:Nat), ∃ (A5:Option Addr), ∃ (q:Nat), ∃ (c5:Nat), ∃ (xs:List Int),a'.tmps.size=28∧a'.tmps.getD 0 undef=.slice A n cL∧a'.tmps.getD 1 undef=.int .i64 x∧a'.tmps.getD 5 undef=.slice A5 q c5∧a'.tmps.getD 6 undef=.int .i64 (k:Nat)∧a'.defers=[]∧k≤n∧q=xs.length∧xs=outR (L.take k) x∧Sp w [] w [] [] [(3,1,.slice A5 q c5,q,xs.flatMap encI)] wr∧fi=n-k:=⟨_,rfl⟩
 have hI1_2:=hide hI1_20
 clear hI1_20
 refine wp_loop_ix I1_2 (n-0) ?_ ?_
 ·rw [uh hI1_2];exact ⟨0,some ⟨be,0,none⟩,0,0,[],rfl,rfl,rfl,rfl,rfl,rfl,Nat.zero_le _,rfl,rfl,uh hP,rfl⟩
 ·rintro fi ⟨tm,dfs⟩ wr hrel
  rw [uh hI1_2] at hrel
  obtain ⟨k,A5,q,c5,xs,hsz,e0,e1,e5,e6,hdf,hk,hq,hxs,hPr,hfm⟩:=hrel
  obtain ⟨us,rfl⟩ : ∃ us:Nat→Value,tm=#[us 0,us 1,us 2,us 3,us 4,us 5,us 6,us 7,us 8,us 9,us 10,us 11,us 12,us 13,us 14,us 15,us 16,us 17,us 18,us 19,us 20,us 21,us 22,us 23,us 24,us 25,us 26,us 27]:=⟨fun i=>tm.getD i undef,arr_fn hsz⟩
  have h0:us 0=.slice A n cL:=e0
  have h1:us 1=.int .i64 x:=e1
  have h5:us 5=.slice A5 q c5:=e5
  have h6:us 6=.int .i64 (k:Nat):=e6
  have hdf2:dfs=[]:=hdf
  subst hdf2
  clear hdf hsz e0 e1 e5 e6
  simp only [h0,h1,h5,h6]
  clear h0 h1 h5 h6
  clear hP
  have hP:=hide hPr
  have hq':=hide hq
  have hxs':=hide hxs
  have hfm':=hide hfm
  have hqb:=hide (show q≤100000 by rw [hq,hxs];exact Nat.le_trans (List.length_filter_le _ _) (by rw [List.length_take];have:=uh hl';omega))
  clear hPr hq hxs hfm
  by_cases hlt:k < n
  ·skip
   have hil:(k:Int) < (n:Int):=by omega
   have hk2:=hide hlt
   have hkL:k < L.length:=by have:=uh hn';omega
   have hkb:(k:Int)≤100000:=by have:=uh hl';omega
   have hnx:=outR_next L x hkL
   rw [← uh hxs'] at hnx
   clear hk hlt hxs'
   obtain ⟨b0,o0,rfl,hcz⟩:=cellI (uh hL') hkL
   clear hcz
   obtain ⟨y,hy⟩ : ∃ y,y=L[k]:=⟨_,rfl⟩
   have c0:=slE ((uh hL').ext (uh hP).extf) hkL
   rw [← hy] at c0
   have hy':=hide hy
   clear hy
   have hself:=Ext.refl wr
   rw [← uh hy'] at hnx
   try dsimp only
   repeat ((fail_if_success with_reducible refine wp_reg (id:=3) ?_);first|go_values|go_skip|go_step|go_guarded|go_upon|go_in|go_back)
   with_reducible refine wp_reg (id:=3) ?_
   iterate 4
    refine wpO_want rfl ?_
    go_simp
   refine wpO_done ?_
   try go_frame
   obtain ⟨j,hj⟩ : ∃ j,j=decide (y=x):=⟨_,rfl⟩
   rw [← hj] at hnx
   have hj':=hide hj
   have hnx':=hide hnx
   have hne:(y != x) = !j:=by rw [hj];by_cases h:y=x <;> simp [h]
   clear hj hnx
   try dsimp only
   repeat ((fail_if_success with_reducible refine wp_reg (id:=5) ?_);first|go_values|go_skip|go_step|go_guarded|go_upon|go_in|go_back)
   with_reducible refine wp_reg (id:=5) ?_
   iterate 6
    refine wpO_want rfl ?_
    go_simp
   clear c0 hself
   try rw [hne]
   clear hne
   refine wpO_done ?_
   try go_frame
   cases j
   ·skip
    have c0:=slE ((uh hL').ext (uh hP).extf) hkL
    rw [← uh hy'] at c0
    have hself:=Ext.refl wr
    try dsimp only
    repeat ((fail_if_success with_reducible refine wp_reg (id:=6) ?_);first|go_values|go_skip|go_step|go_guarded|go_upon|go_in|go_back)
    with_reducible refine wp_reg (id:=6) ?_
    iterate 5
     refine wpO_want rfl ?_
     go_simp
    clear c0 hself
    refine (uh hP).build1O 3 #[.int .i64 y] rfl (run_buildR rfl rfl) ?_
    intro bt y2 hQ
    replace hP:=hide hQ
    clear hQ
    go_frame
    refine (uh hP).ap1O (enc:=encI) (T:=3) (ST:=43) 0 (v:=.slice A5 q c5) (m:=q) (xs:=xs) rfl rfl infoI Tryz.underlying43 one_encI (fun _=>rfl) (by decide) (by decide) rfl y rfl rfl ((uh hP).get 0 rfl) (by have:=uh hqb;omega) ?_
    intro A6 cA6 y3 hQ
    replace hP:=hide hQ
    clear hQ
    try go_frame
    replace hP:Hid (Sp w [] w [] [] [(3,1,.slice A6 (q+1) cA6,q+1,(xs++[y]).flatMap encI)] y3):=hide ((uh hP).sub (List.sublist_append_left _ ([(bt,3,#[.int .i64 y])] : List Cl)) (List.Sublist.refl _))
    refine wpO_want rfl ?_
    go_simp
    refine wpO_done ?_
    try go_frame
    go_wp2_with fail
    have h1:=uh hk2
    refine ⟨n-(k+1),?_,by have:=uh hfm';omega⟩
    rw [uh hI1_2]
    exact ⟨k+1,A6,q+1,cA6,xs++[y],(by first | rfl | trivial),(by first | rfl | trivial),(by first | rfl | trivial),(by first | rfl | trivial),(by first | rfl | (show _=Value.int _ _;go_num) | go_num),(by first | rfl | trivial),by omega,(by rw [List.length_append, ← uh hq'];rfl),(by rw [uh hnx'];simp),uh hP,rfl⟩
   ·skip
    go_wp2_with fail
    have h1:=uh hk2
    refine ⟨n-(k+1),?_,by have:=uh hfm';omega⟩
    rw [uh hI1_2]
    exact ⟨k+1,A5,q,c5,xs,(by first | rfl | trivial),(by first | rfl | trivial),(by first | rfl | trivial),(by first | rfl | trivial),(by first | rfl | (show _=Value.int _ _;go_num) | go_num),(by first | rfl | trivial),by omega,(uh hq'),(by rw [uh hnx'];simp),uh hP,rfl⟩
  ·skip
   have hil:¬ (k:Int) < (n:Int):=by omega
   have hxe:=hide (show xs=outR L x by rw [uh hxs',List.take_of_length_le (by have:=uh hn';omega)])
   clear hlt hk hxs'
   try dsimp only
   repeat ((fail_if_success with_reducible refine wp_reg (id:=3) ?_);first|go_values|go_skip|go_step|go_guarded|go_upon|go_in|go_back)
   with_reducible refine wp_reg (id:=3) ?_
   iterate 4
    refine wpO_want rfl ?_
    go_simp
   refine wpO_done ?_
   try go_frame
   go_wp2_with fail
   refine Sp.leaves0 ?_
   exact ⟨_,results_tmp (t:=4) rfl _ _ _,OwI.mk (by rw [← uh hxe];exact uh hq') (by have h:=(uh hP).row 0 rfl;rw [uh hq',uh hxe] at h;exact h) (Nat.le_refl _) (uh hP).extf⟩
theorem ids25_any (A1 B1:Option Addr) (V:List (Int×Thing)) (E:List ((Int×Int)×Thing)) (cA cB:Nat) (w:World) (hV:SlAt encV 3 w A1 V) (hl:V.length≤4096) :
  Calls Tryz.prog 60 #[.agg #[.slice A1 V.length cA,.slice B1 E.length cB]] w (OwI w (V.map (·.1))):=by
 have hV':=hide hV
 have hl':=hide hl
 clear hV hl
 obtain ⟨n,hn0⟩ : ∃ n,n=V.length:=⟨_,rfl⟩
 rw [← hn0]
 have hn':=hide hn0
 have hnb:=hide (show n≤4096 by rw [hn0];exact uh hl')
 clear hn0
 have hP:=hide (Sp.new w)
 refine callsIn_wide.1 (callsIn_of_wp_marks (n:=0) Tryz.func60 rfl trivial (wpIn_wide.2 ?_))
 simp only [Tryz.ntmps60,List.size_toArray,List.length_cons,List.length_nil,Nat.reduceAdd,Nat.reduceSub,Array.replicate_succ,Array.replicate_zero,List.push_toArray,List.append_toArray,List.nil_append,List.cons_append]
 try dsimp only
 repeat ((fail_if_success with_reducible refine wp_reg (id:=0) ?_);first|go_values|go_skip|go_step|go_guarded|go_upon|go_in|go_back)
 with_reducible refine wp_reg (id:=0) ?_
 refine (uh hP).allocO 30 #[.slice A1 n cA,.slice B1 E.length cB] rfl (run_box (v:=.agg #[.slice A1 n cA,.slice B1 E.length cB]) rfl rfl) ?_
 intro r1 y1 hQ
 replace hP:=hide hQ
 clear hQ
 refine wpO_want rfl ?_
 go_simp
 refine wpO_done ?_
 try go_frame
 try dsimp only
 repeat ((fail_if_success with_reducible refine wp_reg (id:=1) ?_);first|go_values|go_skip|go_step|go_guarded|go_upon|go_in|go_back)
 with_reducible refine wp_reg (id:=1) ?_
 refine (uh hP).allocVO (v:=fun b=>.slice (some ⟨b,0,none⟩) 0 0) 3 #[] rfl (run_build0 rfl) ?_
 intro be y2 hQ
 replace hP:=hide hQ
 clear hQ
 go_frame
 replace hP:Hid (Sp w [] w [] [(r1,30,#[.slice A1 n cA,.slice B1 E.length cB])] [(3,1,.slice (some ⟨be,0,none⟩) 0 0,0,[])] y2):=hide (Sp.toRow (L:=[(r1,30,#[.slice A1 n cA,.slice B1 E.length cB])]) (b:=be) (t:=3) (n:=0) (cs:=#[]) (uh hP) rfl (by decide))
 refine wpO_want rfl ?_
 go_simp
 refine wpO_done ?_
 try go_frame
 try dsimp only
 repeat ((fail_if_success with_reducible refine wp_reg (id:=2) ?_);first|go_values|go_skip|go_step|go_guarded|go_upon|go_in|go_back)
 with_reducible refine wp_reg (id:=2) ?_
 refine wpO_want rfl ?_
 go_simp
 refine wpO_done ?_
 try go_frame
 go_wp2_with fail
 obtain ⟨I2_2,hI2_20⟩ : ∃ I:Nat→Act→World→Prop,I=fun fi a' wr=>∃ (k:Nat), ∃ (A5:Option Addr), ∃ (q:Nat), ∃ (c5:Nat), ∃ (xs:List Int),a'.tmps.size=23∧a'.tmps.getD 1 undef=.pointer (some ⟨r1,0,none⟩)∧a'.tmps.getD 3 undef=.slice A5 q c5∧a'.tmps.getD 4 undef=.int .i64 (k:Nat)∧a'.defers=[]∧k≤n∧q=xs.length∧xs=(V.take k).map (·.1)∧Sp w [] w [] [(r1,30,#[.slice A1 n cA,.slice B1 E.length cB])] [(3,1,.slice A5 q c5,q,xs.flatMap encI)] wr∧fi=n-k:=⟨_,rfl⟩
 have hI2_2:=hide hI2_20
 clear hI2_20
 refine wp_loop_ix I2_2 (n-0) ?_ ?_
 ·rw [uh hI2_2];exact ⟨0,some ⟨be,0,none⟩,0,0,[],rfl,rfl,rfl,rfl,rfl,Nat.zero_le _,rfl,rfl,uh hP,rfl⟩
 ·rintro fi ⟨tm,dfs⟩ wr hrel
  rw [uh hI2_2] at hrel
  obtain ⟨k,A5,q,c5,xs,hsz,e1,e3,e4,hdf,hk,hq,hxs,hPr,hfm⟩:=hrel
  obtain ⟨us,rfl⟩ : ∃ us:Nat→Value,tm=#[us 0,us 1,us 2,us 3,us 4,us 5,us 6,us 7,us 8,us 9,us 10,us 11,us 12,us 13,us 14,us 15,us 16,us 17,us 18,us 19,us 20,us 21,us 22]:=⟨fun i=>tm.getD i undef,arr_fn hsz⟩
  have h1:us 1=.pointer (some ⟨r1,0,none⟩):=e1
  have h3:us 3=.slice A5 q c5:=e3
  have h4:us 4=.int .i64 (k:Nat):=e4
  have hdf2:dfs=[]:=hdf
  subst hdf2
  clear hdf hsz e1 e3 e4
  simp only [h1,h3,h4]
  clear h1 h3 h4
  clear hP
  have hP:=hide hPr
  have hq':=hide hq
  have hxs':=hide hxs
  have hfm':=hide hfm
  have hqb:=hide (show q≤4096 by rw [hq,hxs,List.length_map,List.length_take];have:=uh hnb;omega)
  clear hPr hq hxs hfm
  by_cases hlt:k < n
  ·skip
   have hil:(k:Int) < (n:Int):=by omega
   have hk2:=hide hlt
   have hkV:k < V.length:=by rw [← uh hn'];exact hlt
   have hkb:(k:Int)≤4096:=by have:=uh hnb;omega
   have hnx:=hide (show (V.take (k+1)).map (·.1)=xs++[V[k].1] by rw [List.take_succ_eq_append_getElem hkV,List.map_append,uh hxs'];rfl)
   clear hk hlt
   have q0:=(uh hP).cell 0 0 (v:=.slice A1 n cA) rfl rfl
   have hself:=Ext.refl wr
   try dsimp only
   repeat ((fail_if_success with_reducible refine wp_reg (id:=3) ?_);first|go_values|go_skip|go_step|go_guarded|go_upon|go_in|go_back)
   with_reducible refine wp_reg (id:=3) ?_
   iterate 5
    refine wpO_want rfl ?_
    go_simp
   clear q0 hself
   refine wpO_done ?_
   try go_frame
   clear hil
   have hkn:(k:Int) < (n:Int):=by have:=uh hk2;omega
   obtain ⟨b9,o9,rfl,c0,c1,c2⟩:=atV ((uh hV').ext (uh hP).extf) hkV
   clear c1 c2
   generalize V[k].1=y at *
   clear hkV
   have q0:=(uh hP).cell 0 0 (v:=.slice (some ⟨b9,o9,none⟩) n cA) rfl rfl
   have hself:=Ext.refl wr
   try dsimp only
   repeat ((fail_if_success with_reducible refine wp_reg (id:=5) ?_);first|go_values|go_skip|go_step|go_guarded|go_upon|go_in|go_back)
   with_reducible refine wp_reg (id:=5) ?_
   iterate 7
    refine wpO_want rfl ?_
    go_simp
   clear q0 c0 hself
   refine (uh hP).build1O 3 #[.int .i64 y] rfl (run_buildR rfl rfl) ?_
   intro bt y3 hQ
   replace hP:=hide hQ
   clear hQ
   go_frame
   refine (uh hP).ap1O (enc:=encI) (T:=3) (ST:=43) 0 (v:=.slice A5 q c5) (m:=q) (xs:=xs) rfl rfl infoI Tryz.underlying43 one_encI (fun _=>rfl) (by decide) (by decide) rfl y rfl rfl ((uh hP).get 1 rfl) (by have:=uh hqb;omega) ?_
   intro A6 cA6 y4 hQ
   replace hP:=hide hQ
   clear hQ
   try go_frame
   replace hP:Hid (Sp w [] w [] [(r1,30,#[.slice (some ⟨b9,o9,none⟩) n cA,.slice B1 E.length cB])] [(3,1,.slice A6 (q+1) cA6,q+1,(xs++[y]).flatMap encI)] y4):=hide ((uh hP).sub (List.sublist_append_left _ ([(bt,3,#[.int .i64 y])] : List Cl)) (List.Sublist.refl _))
   refine wpO_want rfl ?_
   go_simp
   refine wpO_done ?_
   try go_frame
   clear hkn
   go_wp2_with fail
   have h1:=uh hk2
   refine ⟨n-(k+1),?_,by have:=uh hfm';omega⟩
   rw [uh hI2_2]
   exact ⟨k+1,A6,q+1,cA6,xs++[y],(by first | rfl | trivial),(by first | rfl | trivial),(by first | rfl | trivial),(by first | rfl | (show _=Value.int _ _;go_num) | go_num),(by first | rfl | trivial),by omega,(by rw [List.length_append, ← uh hq'];rfl),(uh hnx).symm,uh hP,rfl⟩
  ·skip
   have hil:¬ (k:Int) < (n:Int):=by omega
   have hxe:=hide (show xs=V.map (·.1) by rw [uh hxs',List.take_of_length_le (by rw [← uh hn'];omega)])
   clear hlt hk hxs'
   have q0:=(uh hP).cell 0 0 (v:=.slice A1 n cA) rfl rfl
   have hself:=Ext.refl wr
   try dsimp only
   repeat ((fail_if_success with_reducible refine wp_reg (id:=3) ?_);first|go_values|go_skip|go_step|go_guarded|go_upon|go_in|go_back)
   with_reducible refine wp_reg (id:=3) ?_
   iterate 5
    refine wpO_want rfl ?_
    go_simp
   clear q0 hself
   refine wpO_done ?_
   try go_frame
   clear hil
   try dsimp only
   repeat ((fail_if_success with_reducible refine wp_reg (id:=6) ?_);first|go_values|go_skip|go_step|go_guarded|go_upon|go_in|go_back)
   with_reducible refine wp_reg (id:=6) ?_
   iterate 2
    refine wpO_want rfl ?_
    go_simp
   refine wpO_done ?_
   try go_frame
   go_wp2_with fail
   refine Sp.leaves0 ?_
   exact ⟨_,results_tmp (t:=2) rfl _ _ _,OwI.mk (by rw [← uh hxe];exact uh hq') (by have h:=(uh hP).row 0 rfl;rw [uh hq',uh hxe] at h;exact h) (Nat.le_refl _) (uh hP).extf⟩
theorem smp1_stop {E:List ((Int×Int)×Thing)} {v a:Int} {M:List Int} {k:Nat} (h:k < M.length) (h2:(!(hasE v a E && hasE v M[k] E && !hasE a M[k] E))=false) : smp1 E v a M=false:=by
 unfold smp1
 rw [List.all_eq_false]
 exact ⟨M[k],List.getElem_mem h,by rw [h2];simp⟩
theorem smpR_stop {E:List ((Int×Int)×Thing)} {v:Int} {L:List Int} {i:Nat} (h:i < L.length) (h2:smp1 E v L[i] (L.take i)=false) : smpR E v L L.length=false :=
 smpR_mono v (Nat.succ_le_of_lt h) (by rw [Nat.succ_eq_add_one,smpR_next v h,h2,Bool.and_false])
theorem simple25_any (A1 B1:Option Addr) (V:List (Int×Thing)) (E:List ((Int×Int)×Thing)) (cA cB:Nat) (C:Option Addr) (L:List Int) (n cC:Nat) (v:Int) (w:World) (hE:SlAt encE 4 w B1 E) (hl:E.length≤4096) (hC:SlAt encI 1 w C L) (hn:n=L.length) (hnb:n≤100) :
  Calls Tryz.prog 107 #[.agg #[.slice A1 V.length cA,.slice B1 E.length cB],.slice C n cC,.int .i64 v] w fun e w'=>e=.returned (.bool (smpR E v L L.length))∧Ext w w':=by
 have hE':=hide hE
 have hl':=hide hl
 have hC':=hide hC
 have hn':=hide hn
 have hnb':=hide hnb
 clear hE hl hC hn hnb
 obtain ⟨R,hR0⟩ : ∃ R,R=smpR E v L L.length:=⟨_,rfl⟩
 rw [← hR0]
 have hR:=hide hR0
 clear hR0
 have hP:=hide (Sp.new w)
 refine callsIn_wide.1 (callsIn_of_wp_marks (n:=0) Tryz.func107 rfl trivial (wpIn_wide.2 ?_))
 simp only [Tryz.ntmps107,List.size_toArray,List.length_cons,List.length_nil,Nat.reduceAdd,Nat.reduceSub,Array.replicate_succ,Array.replicate_zero,List.push_toArray,List.append_toArray,List.nil_append,List.cons_append]
 try dsimp only
 repeat ((fail_if_success with_reducible refine wp_reg (id:=0) ?_);first|go_values|go_skip|go_step|go_guarded|go_upon|go_in|go_back)
 with_reducible refine wp_reg (id:=0) ?_
 refine (uh hP).allocO 30 #[.slice A1 V.length cA,.slice B1 E.length cB] rfl (run_box (v:=.agg #[.slice A1 V.length cA,.slice B1 E.length cB]) rfl rfl) ?_
 intro r3 y1 hQ
 replace hP:=hide hQ
 clear hQ
 refine wpO_want rfl ?_
 go_simp
 refine wpO_done ?_
 try go_frame
 try dsimp only
 repeat ((fail_if_success with_reducible refine wp_reg (id:=1) ?_);first|go_values|go_skip|go_step|go_guarded|go_upon|go_in|go_back)
 with_reducible refine wp_reg (id:=1) ?_
 refine wpO_want rfl ?_
 go_simp
 refine wpO_done ?_
 try go_frame
 go_wp2_with fail
 have hEo:=hide ((uh hE').ext (uh hP).extf)
 have hCo:=hide ((uh hC').ext (uh hP).extf)
 have hb3:=hide ((uh hP).get 0 rfl)
 have hxwo:=hide (uh hP).extf
 clear hP
 generalize y1=wo at *
 have hP:=hide (Sp.new wo)
 obtain ⟨I1_2,hI1_20⟩ : ∃ I:Nat→Act→World→Prop,I=fun fi a' wr=>∃ (i:Nat),a'.tmps.size=49∧a'.tmps.getD 1 undef=.slice C n cC∧a'.tmps.getD 2 undef=.int .i64 v∧a'.tmps.getD 3 undef=.pointer (some ⟨r3,0,none⟩)∧a'.tmps.getD 7 undef=.int .i64 (i:Nat)∧a'.defers=[]∧i≤n∧smpR E v L i=true∧fi=n-i∧Ext wo wr:=⟨_,rfl⟩
 have hI1_2:=hide hI1_20
 clear hI1_20
 refine wp_loop_ix I1_2 (n-0) ?_ ?_
 ·rw [uh hI1_2];exact ⟨0,rfl,rfl,rfl,rfl,rfl,rfl,Nat.zero_le _,rfl,rfl,Ext.refl _⟩
 ·rintro fi ⟨tm,dfs⟩ wr hrel
  rw [uh hI1_2] at hrel
  obtain ⟨i,hsz,e1,e2,e3,e7,hdf,hin,hs,hfm,hPx⟩:=hrel
  obtain ⟨us,rfl⟩ : ∃ us:Nat→Value,tm=#[us 0,us 1,us 2,us 3,us 4,us 5,us 6,us 7,us 8,us 9,us 10,us 11,us 12,us 13,us 14,us 15,us 16,us 17,us 18,us 19,us 20,us 21,us 22,us 23,us 24,us 25,us 26,us 27,us 28,us 29,us 30,us 31,us 32,us 33,us 34,us 35,us 36,us 37,us 38,us 39,us 40,us 41,us 42,us 43,us 44,us 45,us 46,us 47,us 48]:=⟨fun i=>tm.getD i undef,arr_fn hsz⟩
  have h1:us 1=.slice C n cC:=e1
  have h2:us 2=.int .i64 v:=e2
  have h3:us 3=.pointer (some ⟨r3,0,none⟩):=e3
  have h7:us 7=.int .i64 (i:Nat):=e7
  have hdf2:dfs=[]:=hdf
  subst hdf2
  clear hdf hsz e1 e2 e3 e7
  simp only [h1,h2,h3,h7]
  clear h1 h2 h3 h7
  clear hP
  have hxwi:=hide hPx
  clear hPx
  generalize wr=wi at *
  have hP:=hide (Sp.new wi)
  have hs':=hide hs
  have hfm':=hide hfm
  clear hs hfm
  by_cases hlt:i < n
  ·skip
   have hil:(i:Int) < (n:Int):=by omega
   have hi2:=hide hlt
   have hiL:=hide (show i < L.length by rw [← uh hn'];exact hlt)
   have hib:=hide (show (i:Int)≤100 by have:=uh hnb';omega)
   obtain ⟨a,ha0⟩ : ∃ a,a=L[i]'(uh hiL):=⟨_,rfl⟩
   have ha:=hide ha0
   have hin0:=hide (show (i:Int)≤(n:Int) by omega)
   clear hlt hin ha0
   try dsimp only
   repeat ((fail_if_success with_reducible refine wp_reg (id:=2) ?_);first|go_values|go_skip|go_step|go_guarded|go_upon|go_in|go_back)
   with_reducible refine wp_reg (id:=2) ?_
   iterate 4
    refine wpO_want rfl ?_
    go_simp
   refine wpO_done ?_
   try go_frame
   clear hil
   try dsimp only
   repeat ((fail_if_success with_reducible refine wp_reg (id:=4) ?_);first|go_values|go_skip|go_step|go_guarded|go_upon|go_in|go_back)
   with_reducible refine wp_reg (id:=4) ?_
   refine wpO_want rfl ?_
   go_simp
   refine wpO_done ?_
   try go_frame
   go_wp2_with fail
   obtain ⟨I1_6,hI1_60⟩ : ∃ I:Nat→Act→World→Prop,I=fun fk a' wr=>∃ (k:Nat),a'.tmps.size=49∧a'.tmps.getD 1 undef=.slice C n cC∧a'.tmps.getD 2 undef=.int .i64 v∧a'.tmps.getD 3 undef=.pointer (some ⟨r3,0,none⟩)∧a'.tmps.getD 7 undef=.int .i64 (i:Nat)∧a'.tmps.getD 8 undef=.int .i64 (k:Nat)∧a'.defers=[]∧k≤i∧smp1 E v a ((L.take i).take k)=true∧fk=i-k∧Ext wi wr:=⟨_,rfl⟩
   have hI1_6:=hide hI1_60
   clear hI1_60
   refine wp_loop_ix I1_6 (i-0) ?_ ?_
   ·rw [uh hI1_6];exact ⟨0,rfl,rfl,rfl,rfl,rfl,rfl,rfl,Nat.zero_le _,rfl,rfl,Ext.refl _⟩
   ·rintro fk ⟨tm,dfs⟩ wr hrel
    rw [uh hI1_6] at hrel
    obtain ⟨k,hsz,e1,e2,e3,e7,e8,hdf,hkn,hs1,hfk,hPx⟩:=hrel
    obtain ⟨us,rfl⟩ : ∃ us:Nat→Value,tm=#[us 0,us 1,us 2,us 3,us 4,us 5,us 6,us 7,us 8,us 9,us 10,us 11,us 12,us 13,us 14,us 15,us 16,us 17,us 18,us 19,us 20,us 21,us 22,us 23,us 24,us 25,us 26,us 27,us 28,us 29,us 30,us 31,us 32,us 33,us 34,us 35,us 36,us 37,us 38,us 39,us 40,us 41,us 42,us 43,us 44,us 45,us 46,us 47,us 48]:=⟨fun i=>tm.getD i undef,arr_fn hsz⟩
    have h1:us 1=.slice C n cC:=e1
    have h2:us 2=.int .i64 v:=e2
    have h3:us 3=.pointer (some ⟨r3,0,none⟩):=e3
    have h7:us 7=.int .i64 (i:Nat):=e7
    have h8:us 8=.int .i64 (k:Nat):=e8
    have hdf2:dfs=[]:=hdf
    subst hdf2
    clear hdf hsz e1 e2 e3 e7 e8
    simp only [h1,h2,h3,h7,h8]
    clear h1 h2 h3 h7 h8
    clear hP
    have hxwk:=hide hPx
    clear hPx
    generalize wr=wk at *
    have hP:=hide (Sp.new wk)
    have hs1':=hide hs1
    have hfk':=hide hfk
    clear hs1 hfk
    by_cases hlt:k < i
    ·skip
     have hil:(k:Int) < (i:Int):=by omega
     have hk2:=hide hlt
     have hkL:k < L.length:=Nat.lt_trans hlt (uh hiL)
     have hkM:=hide (show k < (L.take i).length by rw [List.length_take];have:=uh hiL;omega)
     have hkb:=hide (show (k:Int)≤100 by have:=uh hib;omega)
     obtain ⟨b0,o0,rfl,hcz⟩:=cellI (uh hCo) hkL
     clear hcz
     obtain ⟨b,hb0⟩ : ∃ b,b=L[k]:=⟨_,rfl⟩
     have hbM:=hide (show (L.take i)[k]'(uh hkM)=b by rw [List.getElem_take];exact hb0.symm)
     have hxok:=hide ((uh hxwi).trans (uh hxwk))
     have hEk:=hide ((uh hEo).ext (uh hxok))
     have hb3k:=hide ((uh hb3).ext (uh hxok))
     have hn1:=hide (smp1_next (E:=E) v a (uh hkM))
     obtain ⟨j1,hj10⟩ : ∃ j,j=hasE v a E:=⟨_,rfl⟩
     obtain ⟨j2,hj20⟩ : ∃ j,j=hasE v b E:=⟨_,rfl⟩
     obtain ⟨j3,hj30⟩ : ∃ j,j=hasE a b E:=⟨_,rfl⟩
     have hj1:=hide hj10
     have hj2:=hide hj20
     have hj3:=hide hj30
     have c0:=slK ((uh hCo).ext (uh hxok)) (S:=[]) (by simp) (uh hiL)
     have c1:=slK ((uh hCo).ext (uh hxok)) (S:=[]) (by simp) hkL
     rw [← uh ha] at c0
     rw [← hb0] at c1
     clear hlt hkn hb0 hj10 hj20 hj30 hkL
     try dsimp only
     repeat ((fail_if_success with_reducible refine wp_reg (id:=5) ?_);first|go_values|go_skip|go_step|go_guarded|go_upon|go_in|go_back)
     with_reducible refine wp_reg (id:=5) ?_
     iterate 3
      refine wpO_want rfl ?_
      go_simp
     refine wpO_done ?_
     try go_frame
     clear hil
     go_wp2_with fail
     have hin3:(i:Int) < (n:Int):=by have:=uh hi2;omega
     have hkn3:(k:Int) < (n:Int):=by have:=uh hk2;omega
     have hkb3:=uh hkb
     have hib3:=uh hib
     have hself:=Keep.refl [] wk
     cases j1
     ·skip
      refine wp_regionK (P:=Tryz.prog) [] [0,1,2,3,4,5,6,7,8,9,10,11,12,13,14,15,16,17,18,19,20,21,22,23,24,25,26,27,28] [] 0 #[true,true,true,true,true,true,true,true,true,true,true,true,true,true,true,true,true,true,true,true,true,true,true,true,true,true,true,true,true] (by kernel_rfl) (by kernel_rfl) rfl (by rfl) ?_
      refine ql_want (v:=.agg #[.slice A1 V.length cA,.slice B1 E.length cB]) rfl (by rfl) (fun W hW=>qUpon_ofX (run_load_agg (cs:=#[.slice A1 V.length cA,.slice B1 E.length cB]) rfl rfl (by simp [go_sem]) (by simp [go_sem]) (((uh hb3k).ext ((uh hP).extf.trans hW.ext)).whole))) ?_
      go_frame
      iterate 5
       refine ql_want (v:=?_) rfl (by rfl) (fun W hW=>?_) ?_
       rotate_left
       ·go_simp
        first | done | rfl
       go_frame
      refine ql_want (v:=.bool false) rfl (by rfl) (fun W hW=>?_) ?_
      ·go_simp
       refine (joined25_any A1 B1 V E cA cB v a W ((uh hEk).ext ((uh hP).extf.trans hW.ext)) (uh hl')).mono ?_
       rw [← uh hj1]
       rintro _ _ ⟨h1,h2⟩
       exact ⟨_,h1,rfl,h2⟩
      go_frame
      iterate 1
       refine ql_want (v:=?_) rfl (by rfl) (fun W hW=>?_) ?_
       rotate_left
       ·go_simp
        first | done | rfl
       go_frame
      iterate 7
       first
       | (refine ql_skip rfl (by rfl) ?_)
       | (refine ql_want (v:=?_) rfl (by rfl) (fun W hW=>?_) ?_;rotate_left;(go_simp;(first | done | rfl)))
       try go_frame
      iterate 2
       refine ql_want (v:=?_) rfl (by rfl) (fun W hW=>?_) ?_
       rotate_left
       ·go_simp
        first | done | rfl
       go_frame
      iterate 11
       first
       | (refine ql_skip rfl (by rfl) ?_)
       | (refine ql_want (v:=?_) rfl (by rfl) (fun W hW=>?_) ?_;rotate_left;(go_simp;(first | done | rfl)))
       try go_frame
      iterate 1
       refine ql_want (v:=?_) rfl (by rfl) (fun W hW=>?_) ?_
       rotate_left
       ·go_simp
        first | done | rfl
       go_frame
      refine wpQL_nil (fun y2 hxq=>?_)
      replace hP:=hide ((uh hP).ext hxq)
      clear hxq
      refine wpX_done (by kernel_rfl) ?_
      try go_frame
      clear c0 c1 hself hin3 hkn3
      go_wp2_with fail
      refine ⟨i-(k+1),?_,by have:=uh hfk';have:=uh hk2;omega⟩
      rw [uh hI1_6]
      exact ⟨k+1,(by first | rfl | trivial),(by first | rfl | trivial),(by first | rfl | trivial),(by first | rfl | trivial),(by first | rfl | trivial),(by first | rfl | (show _=Value.int _ _;go_num) | go_num),(by first | rfl | trivial),by have:=uh hk2;omega,(by rw [uh hn1,uh hs1',uh hbM, ← uh hj1];rfl),rfl,(uh hxwk).trans (uh hP).extf⟩
     ·skip
      cases j2
      ·skip
       refine wp_regionK (P:=Tryz.prog) [] [0,1,2,3,4,5,6,7,8,9,10,11,12,13,14,15,16,17,18,19,20,21,22,23,24,25,26,27,28] [] 0 #[true,true,true,true,true,true,true,true,true,true,true,true,true,true,true,true,true,true,true,true,true,true,true,true,true,true,true,true,true] (by kernel_rfl) (by kernel_rfl) rfl (by rfl) ?_
       refine ql_want (v:=.agg #[.slice A1 V.length cA,.slice B1 E.length cB]) rfl (by rfl) (fun W hW=>qUpon_ofX (run_load_agg (cs:=#[.slice A1 V.length cA,.slice B1 E.length cB]) rfl rfl (by simp [go_sem]) (by simp [go_sem]) (((uh hb3k).ext ((uh hP).extf.trans hW.ext)).whole))) ?_
       go_frame
       iterate 5
        refine ql_want (v:=?_) rfl (by rfl) (fun W hW=>?_) ?_
        rotate_left
        ·go_simp
         first | done | rfl
        go_frame
       refine ql_want (v:=.bool true) rfl (by rfl) (fun W hW=>?_) ?_
       ·go_simp
        refine (joined25_any A1 B1 V E cA cB v a W ((uh hEk).ext ((uh hP).extf.trans hW.ext)) (uh hl')).mono ?_
        rw [← uh hj1]
        rintro _ _ ⟨h1,h2⟩
        exact ⟨_,h1,rfl,h2⟩
       go_frame
       iterate 1
        refine ql_want (v:=?_) rfl (by rfl) (fun W hW=>?_) ?_
        rotate_left
        ·go_simp
         first | done | rfl
        go_frame
       refine ql_want (v:=.agg #[.slice A1 V.length cA,.slice B1 E.length cB]) rfl (by rfl) (fun W hW=>qUpon_ofX (run_load_agg (cs:=#[.slice A1 V.length cA,.slice B1 E.length cB]) rfl rfl (by simp [go_sem]) (by simp [go_sem]) (((uh hb3k).ext ((uh hP).extf.trans hW.ext)).whole))) ?_
       go_frame
       iterate 5
        refine ql_want (v:=?_) rfl (by rfl) (fun W hW=>?_) ?_
        rotate_left
        ·go_simp
         first | done | rfl
        go_frame
       refine ql_want (v:=.bool false) rfl (by rfl) (fun W hW=>?_) ?_
       ·go_simp
        refine (joined25_any A1 B1 V E cA cB v b W ((uh hEk).ext ((uh hP).extf.trans hW.ext)) (uh hl')).mono ?_
        rw [← uh hj2]
        rintro _ _ ⟨h1,h2⟩
        exact ⟨_,h1,rfl,h2⟩
       go_frame
       iterate 2
        refine ql_want (v:=?_) rfl (by rfl) (fun W hW=>?_) ?_
        rotate_left
        ·go_simp
         first | done | rfl
        go_frame
       iterate 11
        first
        | (refine ql_skip rfl (by rfl) ?_)
        | (refine ql_want (v:=?_) rfl (by rfl) (fun W hW=>?_) ?_;rotate_left;(go_simp;(first | done | rfl)))
        try go_frame
       iterate 1
        refine ql_want (v:=?_) rfl (by rfl) (fun W hW=>?_) ?_
        rotate_left
        ·go_simp
         first | done | rfl
        go_frame
       refine wpQL_nil (fun y2 hxq=>?_)
       replace hP:=hide ((uh hP).ext hxq)
       clear hxq
       refine wpX_done (by kernel_rfl) ?_
       try go_frame
       clear c0 c1 hself hin3 hkn3
       go_wp2_with fail
       refine ⟨i-(k+1),?_,by have:=uh hfk';have:=uh hk2;omega⟩
       rw [uh hI1_6]
       exact ⟨k+1,(by first | rfl | trivial),(by first | rfl | trivial),(by first | rfl | trivial),(by first | rfl | trivial),(by first | rfl | trivial),(by first | rfl | (show _=Value.int _ _;go_num) | go_num),(by first | rfl | trivial),by have:=uh hk2;omega,(by rw [uh hn1,uh hs1',uh hbM, ← uh hj1, ← uh hj2];rfl),rfl,(uh hxwk).trans (uh hP).extf⟩
      ·skip
       refine wp_regionK (P:=Tryz.prog) [] [0,1,2,3,4,5,6,7,8,9,10,11,12,13,14,15,16,17,18,19,20,21,22,23,24,25,26,27,28] [] 0 #[true,true,true,true,true,true,true,true,true,true,true,true,true,true,true,true,true,true,true,true,true,true,true,true,true,true,true,true,true] (by kernel_rfl) (by kernel_rfl) rfl (by rfl) ?_
       refine ql_want (v:=.agg #[.slice A1 V.length cA,.slice B1 E.length cB]) rfl (by rfl) (fun W hW=>qUpon_ofX (run_load_agg (cs:=#[.slice A1 V.length cA,.slice B1 E.length cB]) rfl rfl (by simp [go_sem]) (by simp [go_sem]) (((uh hb3k).ext ((uh hP).extf.trans hW.ext)).whole))) ?_
       go_frame
       iterate 5
        refine ql_want (v:=?_) rfl (by rfl) (fun W hW=>?_) ?_
        rotate_left
        ·go_simp
         first | done | rfl
        go_frame
       refine ql_want (v:=.bool true) rfl (by rfl) (fun W hW=>?_) ?_
       ·go_simp
        refine (joined25_any A1 B1 V E cA cB v a W ((uh hEk).ext ((uh hP).extf.trans hW.ext)) (uh hl')).mono ?_
        rw [← uh hj1]
        rintro _ _ ⟨h1,h2⟩
        exact ⟨_,h1,rfl,h2⟩
       go_frame
       iterate 1
        refine ql_want (v:=?_) rfl (by rfl) (fun W hW=>?_) ?_
        rotate_left
        ·go_simp
         first | done | rfl
        go_frame
       refine ql_want (v:=.agg #[.slice A1 V.length cA,.slice B1 E.length cB]) rfl (by rfl) (fun W hW=>qUpon_ofX (run_load_agg (cs:=#[.slice A1 V.length cA,.slice B1 E.length cB]) rfl rfl (by simp [go_sem]) (by simp [go_sem]) (((uh hb3k).ext ((uh hP).extf.trans hW.ext)).whole))) ?_
       go_frame
       iterate 5
        refine ql_want (v:=?_) rfl (by rfl) (fun W hW=>?_) ?_
        rotate_left
        ·go_simp
         first | done | rfl
        go_frame
       refine ql_want (v:=.bool true) rfl (by rfl) (fun W hW=>?_) ?_
       ·go_simp
        refine (joined25_any A1 B1 V E cA cB v b W ((uh hEk).ext ((uh hP).extf.trans hW.ext)) (uh hl')).mono ?_
        rw [← uh hj2]
        rintro _ _ ⟨h1,h2⟩
        exact ⟨_,h1,rfl,h2⟩
       go_frame
       iterate 2
        refine ql_want (v:=?_) rfl (by rfl) (fun W hW=>?_) ?_
        rotate_left
        ·go_simp
         first | done | rfl
        go_frame
       refine ql_want (v:=.agg #[.slice A1 V.length cA,.slice B1 E.length cB]) rfl (by rfl) (fun W hW=>qUpon_ofX (run_load_agg (cs:=#[.slice A1 V.length cA,.slice B1 E.length cB]) rfl rfl (by simp [go_sem]) (by simp [go_sem]) (((uh hb3k).ext ((uh hP).extf.trans hW.ext)).whole))) ?_
       go_frame
       iterate 8
        refine ql_want (v:=?_) rfl (by rfl) (fun W hW=>?_) ?_
        rotate_left
        ·go_simp
         first | done | rfl
        go_frame
       refine ql_want (v:=.bool j3) rfl (by rfl) (fun W hW=>?_) ?_
       ·go_simp
        refine (joined25_any A1 B1 V E cA cB a b W ((uh hEk).ext ((uh hP).extf.trans hW.ext)) (uh hl')).mono ?_
        rw [← uh hj3]
        rintro _ _ ⟨h1,h2⟩
        exact ⟨_,h1,rfl,h2⟩
       go_frame
       iterate 2
        refine ql_want (v:=?_) rfl (by rfl) (fun W hW=>?_) ?_
        rotate_left
        ·go_simp
         first | done | rfl
        go_frame
       refine wpQL_nil (fun y2 hxq=>?_)
       replace hP:=hide ((uh hP).ext hxq)
       clear hxq
       refine wpX_done (by kernel_rfl) ?_
       try go_frame
       clear c0 c1 hself hin3 hkn3
       cases j3
       ·skip
        have hre:=hide (show R=false by rw [uh hR];exact smpR_stop (uh hiL) (by rw [← uh ha];exact smp1_stop (uh hkM) (by rw [uh hbM, ← uh hj1, ← uh hj2, ← uh hj3];rfl)))
        go_wp2_with fail
        refine Sp.leaves0 ?_
        exact ⟨_,results_tmp (t:=6) rfl _ _ _,by rw [uh hre];rfl,(uh hxwo).trans ((uh hxok).trans (uh hP).extf)⟩
       ·skip
        go_wp2_with fail
        refine ⟨i-(k+1),?_,by have:=uh hfk';have:=uh hk2;omega⟩
        rw [uh hI1_6]
        exact ⟨k+1,(by first | rfl | trivial),(by first | rfl | trivial),(by first | rfl | trivial),(by first | rfl | trivial),(by first | rfl | trivial),(by first | rfl | (show _=Value.int _ _;go_num) | go_num),(by first | rfl | trivial),by have:=uh hk2;omega,(by rw [uh hn1,uh hs1',uh hbM, ← uh hj1, ← uh hj2, ← uh hj3];rfl),rfl,(uh hxwk).trans (uh hP).extf⟩
    ·skip
     have hil:¬ (k:Int) < (i:Int):=by omega
     have hnx:=hide (show smpR E v L (i+1)=true by rw [smpR_next v (uh hiL),uh hs', ← uh ha];have h:=uh hs1';rw [List.take_of_length_le (by rw [List.length_take];omega)] at h;rw [h];rfl)
     have hib3:=uh hib
     clear hlt hkn
     try dsimp only
     repeat ((fail_if_success with_reducible refine wp_reg (id:=5) ?_);first|go_values|go_skip|go_step|go_guarded|go_upon|go_in|go_back)
     with_reducible refine wp_reg (id:=5) ?_
     iterate 3
      refine wpO_want rfl ?_
      go_simp
     refine wpO_done ?_
     try go_frame
     clear hil
     go_wp2_with fail
     refine ⟨n-(i+1),?_,by have:=uh hfm';have:=uh hi2;omega⟩
     rw [uh hI1_2]
     exact ⟨i+1,(by first | rfl | trivial),(by first | rfl | trivial),(by first | rfl | trivial),(by first | rfl | trivial),(by first | rfl | (show _=Value.int _ _;go_num) | go_num),(by first | rfl | trivial),by have:=uh hi2;omega,uh hnx,rfl,(uh hxwi).trans (uh hxwk)⟩
  ·skip
   have hil:¬ (i:Int) < (n:Int):=by omega
   obtain rfl:i=L.length:=by have:=uh hn';omega
   have hre:=hide (show R=true by rw [uh hR];exact uh hs')
   clear hlt hin
   try dsimp only
   repeat ((fail_if_success with_reducible refine wp_reg (id:=2) ?_);first|go_values|go_skip|go_step|go_guarded|go_upon|go_in|go_back)
   with_reducible refine wp_reg (id:=2) ?_
   iterate 4
    refine wpO_want rfl ?_
    go_simp
   refine wpO_done ?_
   try go_frame
   clear hil
   try dsimp only
   repeat ((fail_if_success with_reducible refine wp_reg (id:=9) ?_);first|go_values|go_skip|go_step|go_guarded|go_upon|go_in|go_back)
   with_reducible refine wp_reg (id:=9) ?_
   refine wpO_want rfl ?_
   go_simp
   refine wpO_done ?_
   try go_frame
   go_wp2_with fail
   refine Sp.leaves0 ?_
   exact ⟨_,results_tmp (t:=6) rfl _ _ _,by rw [uh hre];rfl,(uh hxwo).trans ((uh hxwi).trans (uh hP).extf)⟩
theorem chordal25_any (A1 B1:Option Addr) (V:List (Int×Thing)) (E:List ((Int×Int)×Thing)) (cA cB:Nat) (w:World) (hi:GInv V E) (hV:SlAt encV 3 w A1 V) (hVl:V.length≤100) (hE:SlAt encE 4 w B1 E) (hl:E.length≤4096)  :
  Calls Tryz.prog 44 #[.agg #[.slice A1 V.length cA,.slice B1 E.length cB]] w fun e w'=>e=.returned (.bool (choB V E))∧Ext w w':=by
 obtain ⟨R,hR0⟩ : ∃ R,R=choB V E:=⟨_,rfl⟩
 have hids:=hide (fun (W:World) (hW:Ext w W)=>ids25_any A1 B1 V E cA cB W (hV.ext hW) (show V.length≤4096 by omega))
 have hsimp:=hide (fun (C:Option Addr) (L:List Int) (n cC:Nat) (v:Int) (W:World) (hW:Ext w W) (h1:SlAt encI 1 W C L) (h2:n=L.length) (h3:n≤100)=>simple25_any A1 B1 V E cA cB C L n cC v W (hE.ext hW) hl h1 h2 h3)
 have hst:=hide (ChI.start hi)
 obtain ⟨U,hU0⟩ : ∃ U,U=V.map (·.1):=⟨_,rfl⟩
 have hUl:=hide (show U.length≤100 by rw [hU0,List.length_map];exact hVl)
 rw [← hU0] at hids hst
 have hnone:=hide (fun (L:List Int) (h:ChI V E L) (h1:L≠[]) (h2:∀ v∈L,smpR E v L L.length=false)=>hR0.trans (ChI.none hi h h1 h2))
 have hdone:=hide (fun (L:List Int) (h:ChI V E L) (h1:L=[])=>hR0.trans (ChI.done hi h h1))
 rw [← hR0]
 clear hU0 hR0 hi hV hVl hE hl
 have hP:=hide (Sp.new w)
 refine callsIn_wide.1 (callsIn_of_wp_marks (n:=0) Tryz.func44 rfl trivial (wpIn_wide.2 ?_))
 simp only [Tryz.ntmps44,List.size_toArray,List.length_cons,List.length_nil,Nat.reduceAdd,Nat.reduceSub,Array.replicate_succ,Array.replicate_zero,List.push_toArray,List.append_toArray,List.nil_append,List.cons_append]
 try dsimp only
 repeat ((fail_if_success with_reducible refine wp_reg (id:=0) ?_);first|go_values|go_skip|go_step|go_guarded|go_upon|go_in|go_back)
 with_reducible refine wp_reg (id:=0) ?_
 refine (uh hP).allocO 30 #[.slice A1 V.length cA,.slice B1 E.length cB] rfl (run_box (v:=.agg #[.slice A1 V.length cA,.slice B1 E.length cB]) rfl rfl) ?_
 intro r1 y1 hQ
 replace hP:=hide hQ
 clear hQ
 refine wpO_want rfl ?_
 go_simp
 refine wpO_done ?_
 try go_frame
 try dsimp only
 repeat ((fail_if_success with_reducible refine wp_reg (id:=1) ?_);first|go_values|go_skip|go_step|go_guarded|go_upon|go_in|go_back)
 with_reducible refine wp_reg (id:=1) ?_
 refine wpO_val rfl (run_load_agg (cs:=#[.slice A1 V.length cA,.slice B1 E.length cB]) rfl rfl (by simp [go_sem]) (by simp [go_sem]) ((uh hP).get 0 rfl).whole) ?_
 go_frame
 refine wpO_want rfl ?_
 go_simp
 have hca:=uh hids y1 (uh hP).extf
 unfold OwI at hca
 obtain ⟨nU,hnU0⟩ : ∃ n,n=U.length:=⟨_,rfl⟩
 rw [← hnU0] at hca
 have hnU:=hide hnU0
 clear hnU0
 refine hca.mono ?_
 clear hca
 rintro _ y2 ⟨A8,c8,rfl,ho,hxc⟩
 have hs8:=hide (own_at (enc:=encI) (xs:=U) (by rw [uh hnU] at ho;exact ho) (fun _=>rfl))
 clear ho
 refine ⟨_,rfl,?_⟩
 replace hP:=hide ((uh hP).ext hxc)
 clear hxc
 try go_frame
 refine wpO_want rfl ?_
 go_simp
 refine wpO_done ?_
 try go_frame
 go_wp2_with fail
 have hb1:=hide ((uh hP).get 0 rfl)
 have hxwo:=hide (uh hP).extf
 clear hP
 generalize y2=wo at *
 have hP:=hide (Sp.new wo)
 obtain ⟨I2_2,hI2_20⟩ : ∃ I:Nat→Act→World→Prop,I=fun fi a' wr=>∃ (A3:Option Addr), ∃ (n3:Nat), ∃ (c3:Nat), ∃ (L:List Int),a'.tmps.size=36∧a'.tmps.getD 1 undef=.pointer (some ⟨r1,0,none⟩)∧a'.tmps.getD 3 undef=.slice A3 n3 c3∧a'.defers=[]∧n3=L.length∧SlAt encI 1 wr A3 L∧ChI V E L∧L.length≤100∧fi=n3∧Ext wo wr:=⟨_,rfl⟩
 have hI2_2:=hide hI2_20
 clear hI2_20
 refine wp_loop_ix I2_2 (nU) ?_ ?_
 ·rw [uh hI2_2];exact ⟨A8,nU,c8,U,rfl,rfl,rfl,rfl,uh hnU,uh hs8,uh hst,uh hUl,rfl,Ext.refl _⟩
 ·rintro fi ⟨tm,dfs⟩ wr hrel
  rw [uh hI2_2] at hrel
  obtain ⟨A3,n3,c3,L,hsz,e1,e3,hdf,hn3,hs3,hC,hLb,hfm,hPx⟩:=hrel
  obtain ⟨us,rfl⟩ : ∃ us:Nat→Value,tm=#[us 0,us 1,us 2,us 3,us 4,us 5,us 6,us 7,us 8,us 9,us 10,us 11,us 12,us 13,us 14,us 15,us 16,us 17,us 18,us 19,us 20,us 21,us 22,us 23,us 24,us 25,us 26,us 27,us 28,us 29,us 30,us 31,us 32,us 33,us 34,us 35]:=⟨fun i=>tm.getD i undef,arr_fn hsz⟩
  have h1:us 1=.pointer (some ⟨r1,0,none⟩):=e1
  have h3:us 3=.slice A3 n3 c3:=e3
  have hdf2:dfs=[]:=hdf
  subst hdf2
  clear hdf hsz e1 e3
  simp only [h1,h3]
  clear h1 h3
  clear hP
  have hxwi:=hide hPx
  clear hPx
  generalize wr=wi at *
  have hP:=hide (Sp.new wi)
  have hn3':=hide hn3
  have hs3':=hide hs3
  have hC':=hide hC
  have hLb':=hide hLb
  have hfm':=hide hfm
  clear hn3 hs3 hC hLb hfm
  by_cases hpos:0 < n3
  ·skip
   have hgt:(n3:Int) > 0:=by omega
   have hne:=hide (show L≠[] from List.ne_nil_of_length_pos (by have:=uh hn3';omega))
   clear hpos
   try dsimp only
   repeat ((fail_if_success with_reducible refine wp_reg (id:=2) ?_);first|go_values|go_skip|go_step|go_guarded|go_upon|go_in|go_back)
   with_reducible refine wp_reg (id:=2) ?_
   iterate 3
    refine wpO_want rfl ?_
    go_simp
   refine wpO_done ?_
   try go_frame
   try dsimp only
   repeat ((fail_if_success with_reducible refine wp_reg (id:=3) ?_);first|go_values|go_skip|go_step|go_guarded|go_upon|go_in|go_back)
   with_reducible refine wp_reg (id:=3) ?_
   clear hgt
   refine wpO_want rfl ?_
   go_simp
   refine wpO_done ?_
   try go_frame
   try dsimp only
   repeat ((fail_if_success with_reducible refine wp_reg (id:=4) ?_);first|go_values|go_skip|go_step|go_guarded|go_upon|go_in|go_back)
   with_reducible refine wp_reg (id:=4) ?_
   refine wpO_want rfl ?_
   go_simp
   refine wpO_done ?_
   try go_frame
   go_wp2_with fail
   obtain ⟨I2_6,hI2_60⟩ : ∃ I:Nat→Act→World→Prop,I=fun fk a' wr=>∃ (i:Nat), ∃ (A4:Option Addr), ∃ (n4:Nat), ∃ (c4:Nat), ∃ (L4:List Int), ∃ (fo:Bool),a'.tmps.size=36∧a'.tmps.getD 1 undef=.pointer (some ⟨r1,0,none⟩)∧a'.tmps.getD 3 undef=.slice A4 n4 c4∧a'.tmps.getD 4 undef=.bool fo∧a'.tmps.getD 5 undef=.int .i64 (i:Nat)∧a'.defers=[]∧n4=L4.length∧SlAt encI 1 wr A4 L4∧i≤n3∧(fo=false∧A4=A3∧c4=c3∧L4=L∧(∀ j (h:j < L.length),j < i→smpR E L[j] L L.length=false)∨fo=true∧ChI V E L4∧L4.length < L.length)∧fk=n3-i∧Ext wi wr:=⟨_,rfl⟩
   have hI2_6:=hide hI2_60
   clear hI2_60
   refine wp_loop_ix I2_6 (n3-0) ?_ ?_
   ·rw [uh hI2_6];exact ⟨0,A3,n3,c3,L,false,rfl,rfl,rfl,rfl,rfl,rfl,uh hn3',uh hs3',Nat.zero_le _,.inl ⟨rfl,rfl,rfl,rfl,fun j h h2=>absurd h2 (Nat.not_lt_zero _)⟩,rfl,Ext.refl _⟩
   ·rintro fk ⟨tm,dfs⟩ wr hrel
    rw [uh hI2_6] at hrel
    obtain ⟨i,A4,n4,c4,L4,fo,hsz,e1,e3,e4,e5,hdf,hn4,hs4,hib,hof,hfk,hPx⟩:=hrel
    obtain ⟨us,rfl⟩ : ∃ us:Nat→Value,tm=#[us 0,us 1,us 2,us 3,us 4,us 5,us 6,us 7,us 8,us 9,us 10,us 11,us 12,us 13,us 14,us 15,us 16,us 17,us 18,us 19,us 20,us 21,us 22,us 23,us 24,us 25,us 26,us 27,us 28,us 29,us 30,us 31,us 32,us 33,us 34,us 35]:=⟨fun i=>tm.getD i undef,arr_fn hsz⟩
    have h1:us 1=.pointer (some ⟨r1,0,none⟩):=e1
    have h3:us 3=.slice A4 n4 c4:=e3
    have h4:us 4=.bool fo:=e4
    have h5:us 5=.int .i64 (i:Nat):=e5
    have hdf2:dfs=[]:=hdf
    subst hdf2
    clear hdf hsz e1 e3 e4 e5
    simp only [h1,h3,h4,h5]
    clear h1 h3 h4 h5
    clear hP
    have hxwk:=hide hPx
    clear hPx
    generalize wr=wk at *
    have hP:=hide (Sp.new wk)
    have hn4':=hide hn4
    have hs4':=hide hs4
    have hfk':=hide hfk
    clear hn4 hs4 hfk
    have hib':=hide hib
    clear hib
    rcases hof with ⟨rfl,rfl,rfl,rfl,hno⟩ | ⟨rfl,hC4,hl4⟩
    ·skip
     obtain rfl:n4=n3:=by have:=uh hn4';have:=uh hn3';omega
     have hno':=hide hno
     clear hno
     by_cases hlt:i < n4
     ·skip
      have hil:(i:Int) < (n4:Int):=by omega
      have hi2:=hide hlt
      have hiL:=hide (show i < L4.length by rw [← uh hn4'];exact hlt)
      have hi1:=hide (show (i:Int)≤100 by have:=uh hLb';have:=uh hiL;omega)
      obtain ⟨y,hy0⟩ : ∃ y,y=L4[i]'(uh hiL):=⟨_,rfl⟩
      have hy:=hide hy0
      obtain ⟨b0,o0,rfl,hcz⟩:=cellI (uh hs4') (uh hiL)
      clear hcz hlt hy0
      obtain ⟨j,hj0⟩ : ∃ j,j=smpR E y L4 L4.length:=⟨_,rfl⟩
      have hj:=hide hj0
      have hxok:=hide ((uh hxwi).trans (uh hxwk))
      have hb1k:=hide ((uh hb1).ext (uh hxok))
      have c0:=slK (uh hs4') (S:=[]) (by simp) (uh hiL)
      rw [← uh hy] at c0
      have hself:=Keep.refl [] wk
      clear hj0
      try dsimp only
      repeat ((fail_if_success with_reducible refine wp_reg (id:=5) ?_);first|go_values|go_skip|go_step|go_guarded|go_upon|go_in|go_back)
      with_reducible refine wp_reg (id:=5) ?_
      iterate 8
       refine wpO_want rfl ?_
       go_simp
      refine wpO_done ?_
      try go_frame
      clear hil
      go_wp2_with fail
      have hin3:(i:Int) < (n4:Int):=by have:=uh hi2;omega
      have hi3:=uh hi1
      refine wp_regionK (P:=Tryz.prog) [] [0,1,2,3,4,5,6] [] 0 #[true,true,true,true,true,true,true] (by kernel_rfl) (by kernel_rfl) rfl (by rfl) ?_
      refine ql_want (v:=.agg #[.slice A1 V.length cA,.slice B1 E.length cB]) rfl (by rfl) (fun W hW=>qUpon_ofX (run_load_agg (cs:=#[.slice A1 V.length cA,.slice B1 E.length cB]) rfl rfl (by simp [go_sem]) (by simp [go_sem]) (((uh hb1k).ext ((uh hP).extf.trans hW.ext)).whole))) ?_
      go_frame
      iterate 5
       refine ql_want (v:=?_) rfl (by rfl) (fun W hW=>?_) ?_
       rotate_left
       ·go_simp
        first | done | rfl
       go_frame
      refine ql_want (v:=.bool j) rfl (by rfl) (fun W hW=>?_) ?_
      ·go_simp
       refine ((uh hsimp) (some ⟨b0,o0,none⟩) L4 n4 c4 y W ((uh hxwo).trans ((uh hxok).trans ((uh hP).extf.trans hW.ext))) ((uh hs4').ext ((uh hP).extf.trans hW.ext)) (uh hn4') (by have:=uh hLb';have:=uh hn4';omega)).mono ?_
       rw [← uh hj]
       rintro _ _ ⟨h1,h2⟩
       exact ⟨_,h1,rfl,h2⟩
      go_frame
      refine wpQL_nil (fun y3 hxq=>?_)
      replace hP:=hide ((uh hP).ext hxq)
      clear hxq
      refine wpX_done (by kernel_rfl) ?_
      try go_frame
      clear c0 hself
      cases j
      ·skip
       go_wp2_with fail
       refine ⟨n4-(i+1),?_,by have:=uh hfk';have:=uh hi2;omega⟩
       rw [uh hI2_6]
       exact ⟨i+1,some ⟨b0,o0,none⟩,n4,c4,L4,false,(by first | rfl | trivial),(by first | rfl | trivial),(by first | rfl | trivial),(by first | rfl | trivial),(by first | rfl | (show _=Value.int _ _;go_num) | go_num),(by first | rfl | trivial),uh hn4',(uh hs4').ext (uh hP).extf,by have:=uh hi2;omega,.inl ⟨rfl,rfl,rfl,rfl,fun j h h2=>by by_cases he:j=i;(subst he;rw [← uh hy];exact (uh hj).symm);exact uh hno' j h (by omega)⟩,rfl,(uh hxwk).trans (uh hP).extf⟩
      ·skip
       have c0:=slE ((uh hs4').ext (uh hP).extf) (uh hiL)
       rw [← uh hy] at c0
       have hself:=Ext.refl y3
       try dsimp only
       repeat ((fail_if_success with_reducible refine wp_reg (id:=8) ?_);first|go_values|go_skip|go_step|go_guarded|go_upon|go_in|go_back)
       with_reducible refine wp_reg (id:=8) ?_
       iterate 5
        refine wpO_want rfl ?_
        go_simp
       clear c0 hself hin3
       refine wpO_want rfl ?_
       go_simp
       obtain ⟨Z,hZ0⟩ : ∃ Z,Z=outR L4 y:=⟨_,rfl⟩
       have hZ:=hide hZ0
       clear hZ0
       obtain ⟨nZ,hnZ0⟩ : ∃ n,n=Z.length:=⟨_,rfl⟩
       have hnZ:=hide hnZ0
       clear hnZ0
       have hca:=outQ_any (some ⟨b0,o0,none⟩) L4 n4 c4 y y3 ((uh hs4').ext (uh hP).extf) (uh hn4') (by have:=uh hLb';have:=uh hn4';omega)
       unfold OwI at hca
       rw [← uh hZ, ← uh hnZ] at hca
       refine hca.mono ?_
       clear hca
       rintro _ y4 ⟨AZ,cZ,rfl,ho,hxc⟩
       have hsZ:=hide (own_at (enc:=encI) (xs:=Z) (by rw [uh hnZ] at ho;exact ho) (fun _=>rfl))
       clear ho
       refine ⟨_,rfl,?_⟩
       replace hP:=hide ((uh hP).ext hxc)
       clear hxc
       try go_frame
       refine wpO_want rfl ?_
       go_simp
       refine wpO_done ?_
       try go_frame
       try dsimp only
       repeat ((fail_if_success with_reducible refine wp_reg (id:=9) ?_);first|go_values|go_skip|go_step|go_guarded|go_upon|go_in|go_back)
       with_reducible refine wp_reg (id:=9) ?_
       refine wpO_want rfl ?_
       go_simp
       refine wpO_done ?_
       try go_frame
       go_wp2_with fail
       refine ⟨n4-(i+1),?_,by have:=uh hfk';have:=uh hi2;omega⟩
       rw [uh hI2_6]
       exact ⟨i+1,AZ,nZ,cZ,Z,true,(by first | rfl | trivial),(by first | rfl | trivial),(by first | rfl | trivial),(by first | rfl | trivial),(by first | rfl | (show _=Value.int _ _;go_num) | go_num),(by first | rfl | trivial),uh hnZ,uh hsZ,by have:=uh hi2;omega,.inr ⟨rfl,by rw [uh hZ,uh hy];exact (uh hC').next (List.getElem_mem _) (by rw [← uh hy];exact (uh hj).symm),by rw [uh hZ,uh hy];exact out_lt (List.getElem_mem _)⟩,rfl,(uh hxwk).trans (uh hP).extf⟩
     ·skip
      have hil:¬ (i:Int) < (n4:Int):=by omega
      have hre:=hide (show R=false from uh hnone L4 (uh hC') (uh hne) fun v hv=>by obtain ⟨j,h,rfl⟩:=List.getElem_of_mem hv;exact uh hno' j h (by have:=uh hn4';omega))
      clear hlt
      try dsimp only
      repeat ((fail_if_success with_reducible refine wp_reg (id:=5) ?_);first|go_values|go_skip|go_step|go_guarded|go_upon|go_in|go_back)
      with_reducible refine wp_reg (id:=5) ?_
      iterate 5
       refine wpO_want rfl ?_
       go_simp
      refine wpO_out (by rfl) ?_
      go_frame
      refine wpO_out (by rfl) ?_
      go_frame
      refine wpO_want rfl ?_
      go_simp
      refine wpO_done ?_
      try go_frame
      clear hil
      try dsimp only
      repeat ((fail_if_success with_reducible refine wp_reg (id:=10) ?_);first|go_values|go_skip|go_step|go_guarded|go_upon|go_in|go_back)
      with_reducible refine wp_reg (id:=10) ?_
      iterate 2
       refine wpO_want rfl ?_
       go_simp
      refine wpO_done ?_
      try go_frame
      try dsimp only
      repeat ((fail_if_success with_reducible refine wp_reg (id:=11) ?_);first|go_values|go_skip|go_step|go_guarded|go_upon|go_in|go_back)
      with_reducible refine wp_reg (id:=11) ?_
      refine wpO_want rfl ?_
      go_simp
      refine wpO_done ?_
      try go_frame
      go_wp2_with fail
      refine Sp.leaves0 ?_
      exact ⟨_,results_tmp (t:=2) rfl _ _ _,by rw [uh hre];rfl,(uh hxwo).trans ((uh hxwi).trans ((uh hxwk).trans (uh hP).extf))⟩
    ·skip
     have hC4':=hide hC4
     have hl4':=hide hl4
     clear hC4 hl4
     by_cases hlt:i < n4
     ·skip
      have hil:(i:Int) < (n4:Int):=by omega
      clear hlt
      try dsimp only
      repeat ((fail_if_success with_reducible refine wp_reg (id:=5) ?_);first|go_values|go_skip|go_step|go_guarded|go_upon|go_in|go_back)
      with_reducible refine wp_reg (id:=5) ?_
      iterate 8
       refine wpO_want rfl ?_
       go_simp
      refine wpO_done ?_
      try go_frame
      clear hil
      try dsimp only
      repeat ((fail_if_success with_reducible refine wp_reg (id:=10) ?_);first|go_values|go_skip|go_step|go_guarded|go_upon|go_in|go_back)
      with_reducible refine wp_reg (id:=10) ?_
      iterate 2
       refine wpO_want rfl ?_
       go_simp
      refine wpO_done ?_
      try go_frame
      go_wp2_with fail
      refine ⟨n4,?_,by have:=uh hfm';have:=uh hl4';have:=uh hn4';have:=uh hn3';omega⟩
      rw [uh hI2_2]
      exact ⟨A4,n4,c4,L4,(by first | rfl | trivial),(by first | rfl | trivial),(by first | rfl | trivial),(by first | rfl | trivial),uh hn4',(uh hs4').ext (uh hP).extf,uh hC4',(by have:=uh hl4';have:=uh hLb';omega),rfl,(uh hxwi).trans ((uh hxwk).trans (uh hP).extf)⟩
     ·skip
      have hil:¬ (i:Int) < (n4:Int):=by omega
      clear hlt
      try dsimp only
      repeat ((fail_if_success with_reducible refine wp_reg (id:=5) ?_);first|go_values|go_skip|go_step|go_guarded|go_upon|go_in|go_back)
      with_reducible refine wp_reg (id:=5) ?_
      iterate 5
       refine wpO_want rfl ?_
       go_simp
      refine wpO_out (by rfl) ?_
      go_frame
      refine wpO_out (by rfl) ?_
      go_frame
      refine wpO_want rfl ?_
      go_simp
      refine wpO_done ?_
      try go_frame
      clear hil
      try dsimp only
      repeat ((fail_if_success with_reducible refine wp_reg (id:=10) ?_);first|go_values|go_skip|go_step|go_guarded|go_upon|go_in|go_back)
      with_reducible refine wp_reg (id:=10) ?_
      iterate 2
       refine wpO_want rfl ?_
       go_simp
      refine wpO_done ?_
      try go_frame
      go_wp2_with fail
      refine ⟨n4,?_,by have:=uh hfm';have:=uh hl4';have:=uh hn4';have:=uh hn3';omega⟩
      rw [uh hI2_2]
      exact ⟨A4,n4,c4,L4,(by first | rfl | trivial),(by first | rfl | trivial),(by first | rfl | trivial),(by first | rfl | trivial),uh hn4',(uh hs4').ext (uh hP).extf,uh hC4',(by have:=uh hl4';have:=uh hLb';omega),rfl,(uh hxwi).trans ((uh hxwk).trans (uh hP).extf)⟩
  ·skip
   obtain rfl:n3=0:=by omega
   have hre:=hide (show R=true from uh hdone L (uh hC') (List.length_eq_zero_iff.1 (by have:=uh hn3';omega)))
   clear hpos
   try dsimp only
   repeat ((fail_if_success with_reducible refine wp_reg (id:=2) ?_);first|go_values|go_skip|go_step|go_guarded|go_upon|go_in|go_back)
   with_reducible refine wp_reg (id:=2) ?_
   iterate 3
    refine wpO_want rfl ?_
    go_simp
   refine wpO_done ?_
   try go_frame
   try dsimp only
   repeat ((fail_if_success with_reducible refine wp_reg (id:=12) ?_);first|go_values|go_skip|go_step|go_guarded|go_upon|go_in|go_back)
   with_reducible refine wp_reg (id:=12) ?_
   refine wpO_want rfl ?_
   go_simp
   refine wpO_done ?_
   try go_frame
   go_wp2_with fail
   refine Sp.leaves0 ?_
   exact ⟨_,results_tmp (t:=2) rfl _ _ _,by rw [uh hre];rfl,(uh hxwo).trans ((uh hxwi).trans (uh hP).extf)⟩
theorem cmpQ_any (A B:Option Addr) (L M:List Int) (n m cL cM:Nat) (w:World) (hL:SlAt encI 1 w A L) (hM:SlAt encI 1 w B M) (hn:n=L.length) (hm:m=M.length) (hl:n≤100000) (hl2:m≤100000) :
  Calls Tryz.prog 114 #[.slice A n cL,.slice B m cM] w fun e w'=>e=.returned (.int .i64 (cmpQ L M))∧Ext w w':=by
 have hL':=hide hL
 have hM':=hide hM
 have hn':=hide hn
 have hm':=hide hm
 have hl':=hide hl
 have hl2':=hide hl2
 clear hL hM hn hm hl hl2
 obtain ⟨R,hR0⟩ : ∃ R,R=cmpQ L M:=⟨_,rfl⟩
 rw [← hR0]
 have hR:=hide hR0
 clear hR0
 have hwn:IntKind.i64.wrap ((n:Int)-1)=(n:Int)-1:=by have:=uh hl';rw [IntWalk.i64_in _ (by omega)]
 have hwm:IntKind.i64.wrap ((m:Int)-1)=(m:Int)-1:=by have:=uh hl2';rw [IntWalk.i64_in _ (by omega)]
 have hP:=hide (Sp.new w)
 refine callsIn_wide.1 (callsIn_of_wp_marks (n:=0) Tryz.func114 rfl trivial (wpIn_wide.2 ?_))
 simp only [Tryz.ntmps114,List.size_toArray,List.length_cons,List.length_nil,Nat.reduceAdd,Nat.reduceSub,Array.replicate_succ,Array.replicate_zero,List.push_toArray,List.append_toArray,List.nil_append,List.cons_append]
 try dsimp only
 repeat ((fail_if_success with_reducible refine wp_reg (id:=1) ?_);first|go_values|go_skip|go_step|go_guarded|go_upon|go_in|go_back)
 with_reducible refine wp_reg (id:=1) ?_
 iterate 8
  refine wpO_want rfl ?_
  go_simp
 refine wpO_done ?_
 try go_frame
 clear hwn hwm
 go_wp2_with fail
 obtain ⟨I0_2,hI0_20⟩ : ∃ I:Nat→Act→World→Prop,I=fun fi a' wr=>∃ (p:Nat), ∃ (q:Nat), ∃ (a:Int), ∃ (b:Int),a'.tmps.size=45∧a'.tmps.getD 0 undef=.slice A n cL∧a'.tmps.getD 1 undef=.slice B m cM∧a'.tmps.getD 5 undef=.int .i64 a∧a'.tmps.getD 6 undef=.int .i64 b∧a'.defers=[]∧p≤n∧q≤m∧a=(p:Int)-1∧b=(q:Int)-1∧cmpR (L.take p).reverse (M.take q).reverse=R∧Sp w [] w [] [] [] wr∧fi=p:=⟨_,rfl⟩
 have hI0_2:=hide hI0_20
 clear hI0_20
 refine wp_loop_ix I0_2 (n) ?_ ?_
 ·rw [uh hI0_2];exact ⟨n,m,(n:Int)-1,(m:Int)-1,rfl,rfl,rfl,rfl,rfl,rfl,Nat.le_refl _,Nat.le_refl _,rfl,rfl,(by rw [List.take_of_length_le (by rw [uh hn'];exact Nat.le_refl _),List.take_of_length_le (by rw [uh hm'];exact Nat.le_refl _)];exact (uh hR).symm),uh hP,rfl⟩
 ·rintro fi ⟨tm,dfs⟩ wr hrel
  rw [uh hI0_2] at hrel
  obtain ⟨p,q,a,b,hsz,e0,e1,e5,e6,hdf,hp,hq,ha,hb,hc,hPr,hfm⟩:=hrel
  obtain ⟨us,rfl⟩ : ∃ us:Nat→Value,tm=#[us 0,us 1,us 2,us 3,us 4,us 5,us 6,us 7,us 8,us 9,us 10,us 11,us 12,us 13,us 14,us 15,us 16,us 17,us 18,us 19,us 20,us 21,us 22,us 23,us 24,us 25,us 26,us 27,us 28,us 29,us 30,us 31,us 32,us 33,us 34,us 35,us 36,us 37,us 38,us 39,us 40,us 41,us 42,us 43,us 44]:=⟨fun i=>tm.getD i undef,arr_fn hsz⟩
  have h0:us 0=.slice A n cL:=e0
  have h1:us 1=.slice B m cM:=e1
  have h5:us 5=.int .i64 a:=e5
  have h6:us 6=.int .i64 b:=e6
  have hdf2:dfs=[]:=hdf
  subst hdf2
  clear hdf hsz e0 e1 e5 e6
  simp only [h0,h1,h5,h6]
  clear h0 h1 h5 h6
  clear hP
  have hP:=hide hPr
  have hfm':=hide hfm
  have hc':=hide hc
  have ha':=hide ha
  have hb':=hide hb
  have hp':=hide hp
  have hq':=hide hq
  clear hPr hfm hc
  by_cases hpp:0 < p
  ·skip
   have hag:a ≥ 0:=by omega
   by_cases hqq:0 < q
   ·skip
    have hbg:b ≥ 0:=by omega
    have hpq:=hide (And.intro hpp hqq)
    clear ha hb hp hq hpp hqq
    try dsimp only
    repeat ((fail_if_success with_reducible refine wp_reg (id:=2) ?_);first|go_values|go_skip|go_step|go_guarded|go_upon|go_in|go_back)
    with_reducible refine wp_reg (id:=2) ?_
    iterate 6
     refine wpO_want rfl ?_
     go_simp
    refine wpO_done ?_
    try go_frame
    clear hag hbg
    go_wp2_with fail
    obtain ⟨p',hp9⟩ : ∃ p',p=p'+1:=⟨p-1,by have:=(uh hpq).1;omega⟩
    obtain ⟨q',hq9⟩ : ∃ q',q=q'+1:=⟨q-1,by have:=(uh hpq).2;omega⟩
    have ha9:a=(p':Int):=by have:=uh ha';omega
    have hb9:b=(q':Int):=by have:=uh hb';omega
    subst ha9 hb9 hp9 hq9
    have hpL:p' < L.length:=by have:=uh hp';have:=uh hn';omega
    have hqL:q' < M.length:=by have:=uh hq';have:=uh hm';omega
    have hpb:(p':Int)≤100000:=by have:=uh hp';have:=uh hl';omega
    have hqb:(q':Int)≤100000:=by have:=uh hq';have:=uh hl2';omega
    have hpn:(p':Int) < (n:Int):=by have:=uh hp';omega
    have hqn:(q':Int) < (m:Int):=by have:=uh hq';omega
    have hst:=uh hc'
    rw [rev_take hpL,rev_take hqL] at hst
    unfold cmpR at hst
    obtain ⟨b0,o0,rfl,hcz⟩:=cellI (uh hL') hpL
    clear hcz
    obtain ⟨b1,o1,rfl,hcz⟩:=cellI (uh hM') hqL
    clear hcz
    obtain ⟨y,hy⟩ : ∃ y,y=L[p']:=⟨_,rfl⟩
    obtain ⟨z,hz⟩ : ∃ z,z=M[q']:=⟨_,rfl⟩
    have c0:=slK ((uh hL').ext (uh hP).extf) (S:=[]) (by simp) hpL
    have c1:=slK ((uh hM').ext (uh hP).extf) (S:=[]) (by simp) hqL
    rw [← hy] at c0 hst
    rw [← hz] at c1 hst
    have hst':=hide hst
    have hk:=hide (And.intro (show SlAt encI 1 wr _ L from (uh hL').ext (uh hP).extf) (show SlAt encI 1 wr _ M from (uh hM').ext (uh hP).extf))
    have hself:=Keep.refl [] wr
    have hyz:=hide (And.intro hy hz)
    clear hst hy hz
    refine wp_regionK (P:=Tryz.prog) [] [0,1,2,3,4,5,6,7,8] [] 0 #[true,true,true,true,true,true,true,true,true] (by kernel_rfl) (by kernel_rfl) rfl (by rfl) ?_
    iterate 9
     refine ql_want (v:=?_) rfl (by rfl) (fun W hW=>?_) ?_
     rotate_left
     ·go_simp
      first | done | rfl
     go_frame
    refine wpQL_nil (fun y1 hxq=>?_)
    replace hP:=hide ((uh hP).ext hxq)
    clear hxq
    refine wpX_done (by kernel_rfl) ?_
    try go_frame
    clear c0 c1 hself
    by_cases h1:z < y
    ·skip
     have h1':y > z:=h1
     have hre:=hide (show R=1 by have h:=uh hst';rw [if_pos h1] at h;exact h.symm)
     clear h1
     go_wp2_with fail
     refine Sp.leaves0 ?_
     exact ⟨_,results_tmp (t:=4) rfl _ _ _,by rw [uh hre];rfl,(uh hP).extf⟩
    ·skip
     have h1':¬ y > z:=h1
     replace h1:=hide h1
     go_wp2_with fail
     have c0:=slK ((uh hL').ext (uh hP).extf) (S:=[]) (by simp) hpL
     have c1:=slK ((uh hM').ext (uh hP).extf) (S:=[]) (by simp) hqL
     rw [← (uh hyz).1] at c0
     rw [← (uh hyz).2] at c1
     have hself:=Keep.refl [] y1
     clear h1'
     refine wp_regionK (P:=Tryz.prog) [] [0,1,2,3,4,5,6,7,8] [] 0 #[true,true,true,true,true,true,true,true,true] (by kernel_rfl) (by kernel_rfl) rfl (by rfl) ?_
     iterate 9
      refine ql_want (v:=?_) rfl (by rfl) (fun W hW=>?_) ?_
      rotate_left
      ·go_simp
       first | done | rfl
      go_frame
     refine wpQL_nil (fun y2 hxq=>?_)
     replace hP:=hide ((uh hP).ext hxq)
     clear hxq
     refine wpX_done (by kernel_rfl) ?_
     try go_frame
     clear c0 c1 hself
     by_cases h2:y < z
     ·skip
      have hre:=hide (show R = -1 by have h:=uh hst';rw [if_neg (by have:=uh h1;omega),if_pos h2] at h;exact h.symm)
      go_wp2_with fail
      refine Sp.leaves0 ?_
      exact ⟨_,results_tmp (t:=4) rfl _ _ _,by rw [uh hre];rfl,(uh hP).extf⟩
     ·skip
      have hnx:=hide (show cmpR (L.take p').reverse (M.take q').reverse=R by have h:=uh hst';rw [if_neg (by have:=uh h1;omega),if_neg h2] at h;exact h)
      have hwp:IntKind.i64.wrap ((p':Int)-1)=(p':Int)-1:=by rw [IntWalk.i64_in _ (by omega)]
      have hwq:IntKind.i64.wrap ((q':Int)-1)=(q':Int)-1:=by rw [IntWalk.i64_in _ (by omega)]
      clear hpn hqn hpb hqb
      go_wp2_with fail
      refine ⟨p',?_,by have:=uh hfm';omega⟩
      rw [uh hI0_2]
      exact ⟨p',q',(p':Int)-1,(q':Int)-1,(by first | rfl | trivial),(by first | rfl | trivial),(by first | rfl | trivial),(by first | rfl | trivial),(by first | rfl | trivial),(by first | rfl | trivial),by have:=uh hp';omega,by have:=uh hq';omega,rfl,rfl,uh hnx,uh hP,rfl⟩
   ·skip
    have hbg:¬ b ≥ 0:=by omega
    have hre:=hide (show R=1 by
     have h:=uh hc'
     obtain ⟨p',rfl⟩ : ∃ p',p=p'+1:=⟨p-1,by omega⟩
     obtain rfl:q=0:=by omega
     rw [rev_take (by have:=uh hn';omega),List.take_zero,List.reverse_nil] at h
     exact h.symm)
    clear ha hb hp hq hpp hqq
    try dsimp only
    repeat ((fail_if_success with_reducible refine wp_reg (id:=2) ?_);first|go_values|go_skip|go_step|go_guarded|go_upon|go_in|go_back)
    with_reducible refine wp_reg (id:=2) ?_
    iterate 6
     refine wpO_want rfl ?_
     go_simp
    refine wpO_done ?_
    try go_frame
    go_wp2_with fail
    refine Sp.leaves0 ?_
    exact ⟨_,results_tmp (t:=4) rfl _ _ _,by rw [uh hre];rfl,(uh hP).extf⟩
  ·skip
   have hag:¬ a ≥ 0:=by omega
   by_cases hqq:0 < q
   ·skip
    have hbg:b ≥ 0:=by omega
    have hre:=hide (show R = -1 by
     have h:=uh hc'
     obtain ⟨q',rfl⟩ : ∃ q',q=q'+1:=⟨q-1,by omega⟩
     obtain rfl:p=0:=by omega
     rw [rev_take (L:=M) (by have:=uh hm';omega),List.take_zero,List.reverse_nil] at h
     exact h.symm)
    clear ha hb hp hq hpp hqq
    try dsimp only
    repeat ((fail_if_success with_reducible refine wp_reg (id:=2) ?_);first|go_values|go_skip|go_step|go_guarded|go_upon|go_in|go_back)
    with_reducible refine wp_reg (id:=2) ?_
    iterate 3
     refine wpO_want rfl ?_
     go_simp
    refine wpO_out (by rfl) ?_
    go_frame
    refine wpO_out (by rfl) ?_
    go_frame
    refine wpO_want rfl ?_
    go_simp
    refine wpO_done ?_
    try go_frame
    go_wp2_with fail
    refine Sp.leaves0 ?_
    exact ⟨_,results_tmp (t:=4) rfl _ _ _,by rw [uh hre];rfl,(uh hP).extf⟩
   ·skip
    have hbg:¬ b ≥ 0:=by omega
    have hre:=hide (show R=0 by
     have h:=uh hc'
     obtain rfl:q=0:=by omega
     obtain rfl:p=0:=by omega
     rw [List.take_zero,List.take_zero,List.reverse_nil] at h
     exact h.symm)
    clear ha hb hp hq hpp hqq
    try dsimp only
    repeat ((fail_if_success with_reducible refine wp_reg (id:=2) ?_);first|go_values|go_skip|go_step|go_guarded|go_upon|go_in|go_back)
    with_reducible refine wp_reg (id:=2) ?_
    iterate 3
     refine wpO_want rfl ?_
     go_simp
    refine wpO_out (by rfl) ?_
    go_frame
    refine wpO_out (by rfl) ?_
    go_frame
    refine wpO_want rfl ?_
    go_simp
    refine wpO_done ?_
    try go_frame
    go_wp2_with fail
    refine Sp.leaves0 ?_
    exact ⟨_,results_tmp (t:=4) rfl _ _ _,by rw [uh hre];rfl,(uh hP).extf⟩
theorem sameQ_any (A B:Option Addr) (L M:List Int) (n m cL cM:Nat) (w:World) (hL:SlAt encI 1 w A L) (hM:SlAt encI 1 w B M) (hn:n=L.length) (hm:m=M.length) (hl:n≤100000) (hl2:m≤100000) :
  Calls Tryz.prog 103 #[.slice A n cL,.slice B m cM] w fun e w'=>e=.returned (.bool (decide (L=M)))∧Ext w w':=by
 have hca:=cmpQ_any A B L M n m cL cM w hL hM hn hm hl hl2
 obtain ⟨q,hq⟩ : ∃ q,q=cmpQ L M:=⟨_,rfl⟩
 rw [← hq] at hca
 obtain ⟨z,hz⟩ : ∃ z,z=decide (L=M):=⟨_,rfl⟩
 rw [← hz]
 have hqz:(q == 0)=z:=by rw [hz,hq,Bool.eq_iff_iff,beq_iff_eq,decide_eq_true_eq,cmpQ_zero]
 have hca':=hide hca
 clear hL hM hn hm hl hl2 hca hq hz
 have hP:=hide (Sp.new w)
 refine callsIn_wide.1 (callsIn_of_wp_marks (n:=0) Tryz.func103 rfl trivial (wpIn_wide.2 ?_))
 simp only [Tryz.ntmps103,List.size_toArray,List.length_cons,List.length_nil,Nat.reduceAdd,Nat.reduceSub,Array.replicate_succ,Array.replicate_zero,List.push_toArray,List.append_toArray,List.nil_append,List.cons_append]
 try dsimp only
 repeat ((fail_if_success with_reducible refine wp_reg (id:=1) ?_);first|go_values|go_skip|go_step|go_guarded|go_upon|go_in|go_back)
 with_reducible refine wp_reg (id:=1) ?_
 iterate 2
  refine wpO_want rfl ?_
  go_simp
 refine wpO_want rfl ?_
 go_simp
 refine (uh hca').mono ?_
 rintro _ y1 ⟨rfl,hxc⟩
 refine ⟨_,rfl,?_⟩
 replace hP:=hide ((uh hP).ext hxc)
 clear hxc
 iterate 2
  refine wpO_want rfl ?_
  go_simp
 refine wpO_done ?_
 try go_frame
 go_wp2_with fail
 refine Sp.leaves0 ?_
 exact ⟨_,results_tmp (t:=4) rfl _ _ _,by first | rfl | (rw [hqz];rfl),(uh hP).extf⟩
end Go.Proofs.YtmokciekndllpaaGreatDoor
namespace Go.Proofs.YtmokciekndllpaaGreatDoor
open Go Go.RowKit
attribute [local go_sem] qUpon lUpon
set_option maxHeartbeats 2000000 in
theorem mcloneV_any (b:Nat) (M:List (Int×Thing)) (w:World) (h:MapIs ekV evT i64ok w b M) :
  Calls Tryz.prog 120 #[.map (some b)] w fun e w'=>∃ c,e=.returned (.map (some c))∧MapIs ekV evT i64ok w' c M∧Ext w w'∧w.heap.size≤c:=by
 obtain ⟨es,clock,hb,hs,hm,hk⟩:=h
 have hq:=fun w=>run_eql_map_nil_sl (P:=Tryz.prog) w 154 _ _ (some b) Tryz.underlying154
 have hmm:=hide (And.intro hs (And.intro hm hk))
 clear hs hm hk
 go_enter Tryz.func120,Tryz.ntmps120
 go_wp2_with fail
 rw [run_callFunc_extern Tryz.func169 (by kernel_rfl) (by kernel_rfl) (by kernel_rfl) (e:=Extern.MapsClone.clone) (by kernel_rfl),run_maps_clone_sl w 154 hb]
 simp only [Result.andThen]
 rw [Oper.upon_value]
 go_wp2_with fail
 rw [run_typeAssert_map_sl _ 154 20 _ _ _ Tryz.underlying154]
 simp only [Result.andThen]
 rw [Oper.upon_value]
 go_wp2_with fail
 go_ret
 obtain ⟨hs,hm,hk⟩:=uh hmm
 exact ⟨w.heap.size,rfl,⟨es,clock,(MapKept.heap_alloc w _).1,hs,hm,hk⟩,ext_self1 _ _,Nat.le_refl _⟩
set_option maxHeartbeats 2000000 in
theorem mcloneE_any (b:Nat) (M:List ((Int×Int)×Thing)) (w:World) (h:MapIs ekE evT okE w b M) :
  Calls Tryz.prog 121 #[.map (some b)] w fun e w'=>∃ c,e=.returned (.map (some c))∧MapIs ekE evT okE w' c M∧Ext w w'∧w.heap.size≤c:=by
 obtain ⟨es,clock,hb,hs,hm,hk⟩:=h
 have hq:=fun w=>run_eql_map_nil_sl (P:=Tryz.prog) w 155 _ _ (some b) Tryz.underlying155
 have hmm:=hide (And.intro hs (And.intro hm hk))
 clear hs hm hk
 go_enter Tryz.func121,Tryz.ntmps121
 go_wp2_with fail
 rw [run_callFunc_extern Tryz.func169 (by kernel_rfl) (by kernel_rfl) (by kernel_rfl) (e:=Extern.MapsClone.clone) (by kernel_rfl),run_maps_clone_sl w 155 hb]
 simp only [Result.andThen]
 rw [Oper.upon_value]
 go_wp2_with fail
 rw [run_typeAssert_map_sl _ 155 20 _ _ _ Tryz.underlying155]
 simp only [Result.andThen]
 rw [Oper.upon_value]
 go_wp2_with fail
 go_ret
 obtain ⟨hs,hm,hk⟩:=uh hmm
 exact ⟨w.heap.size,rfl,⟨es,clock,(MapKept.heap_alloc w _).1,hs,hm,hk⟩,ext_self1 _ _,Nat.le_refl _⟩
set_option maxHeartbeats 4000000 in
theorem clone_any (g bv be:Nat) (V:List (Int×Thing)) (E:List ((Int×Int)×Thing)) (w:World) (hg:IsG w g bv be V E) :
  Calls Tryz.prog 75 #[.pointer (some ⟨g,0,none⟩)] w fun e w'=>∃ o ov oe,e=.returned (.pointer (some ⟨o,0,none⟩))∧IsG w' o ov oe V E∧Ext w w'∧w.heap.size≤o∧w.heap.size≤ov∧w.heap.size≤oe:=by
 obtain ⟨V',E',h1,p1,p2,hi⟩:=hg
 have c0:=h1.ptr0
 have c1:=h1.ptr1
 have m1:=hide h1.vs
 have m2:=hide h1.es
 have hp:=hide (And.intro p1 (And.intro p2 hi))
 clear h1 p1 p2 hi
 go_enter Tryz.func75,Tryz.ntmps75
 go_wp2_with fail
 refine wp_region_ext (P:=Tryz.prog) [0,1,2,3,5,6,7,8] [] 5 #[true,true,true,true,false,true,true,true,true,false,false,false,false] (by kernel_rfl) (by kernel_rfl) rfl (by rfl) ?_
 iterate 8
  refine ql_want (v:=?_) rfl (by rfl) (fun W hW=>?_) ?_
  rotate_left
  ·go_simp
   first | done | rfl
  go_frame
 refine wpQL_nil (fun w1 hx1=>?_)
 clear c0 c1
 refine lx_one (i:=4) (by kernel_rfl) rfl (by rfl) #[true,true,true,true,true,true,true,true,true,false,false,false,false] (by rfl) ?_
 go_simp
 refine (mcloneV_any bv V' _ ((uh m1).ext hx1)).mono ?_
 rintro e w2 ⟨ov,rfl,hm2,hx2,n2⟩
 refine ⟨_,rfl,hx1.trans hx2,fun w3 hx3=>?_⟩
 refine lx_one (i:=9) (by kernel_rfl) rfl (by rfl) #[true,true,true,true,true,true,true,true,true,true,false,false,false] (by rfl) ?_
 go_simp
 refine (mcloneE_any be E' _ ((uh m2).ext ((hx1.trans hx2).trans hx3))).mono ?_
 rintro e w4 ⟨oe,rfl,hm4,hx4,n4⟩
 have hx14:=((hx1.trans hx2).trans hx3).trans hx4
 refine ⟨_,rfl,hx14,fun w5 hx5=>?_⟩
 have hne:ov≠oe:=by
  have:=hm2.lt
  have:=Below.size hx3
  omega
 have s1:=Below.size hx1
 have s2:=Below.size ((hx1.trans hx2).trans hx3)
 have hv5:=(hm2.ext (hx3.trans hx4)).ext hx5
 have he5:=hm4.ext hx5
 have hx15:=hx14.trans hx5
 clear hx1 hx2 hx3 hx4 hx5 hx14 hm2 hm4
 refine lx_one (i:=10) (by kernel_rfl) rfl (by rfl) #[true,true,true,true,true,true,true,true,true,true,true,false,false] (by rfl) ?_
 go_simp
 intro w6 hx6
 refine lx_one (i:=11) (by kernel_rfl) rfl (by rfl) #[true,true,true,true,true,true,true,true,true,true,true,true,false] (by rfl) ?_
 go_simp
 have hb7:=Blk.new w6 157 #[.map (some ov),.map (some oe)]
 have hx67:=ext_self1 w6 (.cells #[.map (some ov),.map (some oe)] 157)
 have s3:=Below.size (hx15.trans hx6)
 have hx17:=(hx15.trans hx6).trans hx67
 have hv7:=(hv5.ext hx6).ext hx67
 have he7:=(he5.ext hx6).ext hx67
 generalize w6.heap.size=o at *
 generalize w6.alloc (.cells #[.map (some ov),.map (some oe)] 157)=w7 at *
 first | refine ⟨(by assumption),?_⟩ | skip
 intro w8 hx8
 refine lx_one (i:=12) (by kernel_rfl) rfl (by rfl) #[true,true,true,true,true,true,true,true,true,true,true,true,true] (by rfl) ?_
 go_simp
 first | refine ⟨hx17.trans hx8,?_⟩ | skip
 intro w9 hx9
 have hx19:=(hx17.trans hx8).trans hx9
 have hv9:=(hv7.ext hx8).ext hx9
 have he9:=(he7.ext hx8).ext hx9
 have hb9:=(hb7.ext hx8).ext hx9
 have hfin:=hide (And.intro hx19 (And.intro hv9 (And.intro he9 hb9)))
 have hsz:=hide (And.intro s1 (And.intro s2 s3))
 clear hx19 hv9 he9 hb9 hx17 hx8 hx9 hv7 he7 hb7 hx67 hx6 hv5 he5 hx15 s1 s2 s3
 refine wpX_done (by kernel_rfl) ?_
 try go_frame
 go_wp2_with fail
 go_ret
 obtain ⟨hx19,hv9,he9,hb9⟩:=uh hfin
 obtain ⟨p1,p2,hi⟩:=uh hp
 obtain ⟨s1,s2,s3⟩:=uh hsz
 exact ⟨o,ov,oe,rfl,⟨V',E',⟨hb9,hv9,he9,hne⟩,p1,p2,hi⟩,hx19,by omega,by omega,by omega⟩
end Go.Proofs.YtmokciekndllpaaGreatDoor
namespace Go.Proofs.YtmokciekndllpaaGreatDoor
open Go Go.RowKit Go.Shelf
attribute [local go_sem] qUpon lUpon
attribute [local irreducible] wpO wpX wpQL
theorem ext_turnZ {w W W':World} {bv be:Nat} (hx:Ext w W) (hk:Keep [bv,be] W W') (hb:w.heap.size≤bv∧w.heap.size≤be) : Ext w W':=hx.of_new hk fun x hx=>by
 rcases List.mem_cons.1 hx with rfl | hx
 ·exact hb.1
 ·rw [List.mem_singleton] at hx
  subst hx
  exact hb.2
end Go.Proofs.YtmokciekndllpaaGreatDoor
namespace Go.Proofs.YtmokciekndllpaaGreatDoor
open Go Go.RowKit
attribute [local go_sem] qUpon lUpon
def isX (x y:Int) (p:(Int×Int)×Thing) : Bool:=p.1.1 == x && p.1.2 == y
theorem edgeC_any (a b l t x y:Int) (cb:Nat) (w:World) (h0:w.cell? ⟨cb,0,none⟩=some (.int .i64 x)) (h1:w.cell? ⟨cb,1,none⟩=some (.int .i64 y)) :
  Calls Tryz.prog 187 #[.agg #[.int .i64 a,.int .i64 b,.int .u8 l,.int .i64 t],.pointer (some ⟨cb,0,none⟩)] w fun e w'=>e=.returned (.bool (isX x y ((a,b),(l,t))))∧Ext w w':=by
 have c0:=cell_ext h0
 have c1:=cell_ext h1
 clear h0 h1
 go_enter Tryz.func187,Tryz.ntmps187
 go_wp2
 all_goals (go_ret;exact ⟨ret_bool (by unfold isX;simp_all),ext_self1 _ _⟩)
set_option maxHeartbeats 1000000 in
theorem index_any (A:Option Addr) (E:List ((Int×Int)×Thing)) (cE:Nat) (x y:Int) (cb:Nat) (w:World) (hE:SlAt encE 4 w A E) (hl:E.length≤4096) (h0:w.cell? ⟨cb,0,none⟩=some (.int .i64 x)) (h1:w.cell? ⟨cb,1,none⟩=some (.int .i64 y)) :
  Calls Tryz.prog 154 #[.slice A E.length cE,.func (.func 187) #[] #[.pointer (some ⟨cb,0,none⟩)]] w fun e w'=>e=.returned (.int .i64 (posI (isX x y) E))∧Ext w w':=by
 have k0:=cell_ext h0
 have k1:=cell_ext h1
 have hE':=hide hE
 have k0':=hide k0
 have k1':=hide k1
 clear h0 h1 hE k0 k1
 go_enter Tryz.func154,Tryz.ntmps154
 go_wp2
 go_loopw [8] (fun i wr=>∃ k:Nat,k≤E.length∧i=.int .i64 k∧(∀ j (hj:j < k) (hj':j < E.length),isX x y E[j]=false)∧Ext w wr) (fun i _=>E.length-(intOf i).toNat)
 case atStart=>exact ⟨0,Nat.zero_le _,rfl,fun j hj=>by omega,Ext.refl _⟩
 case round =>
  obtain ⟨k,hk,rfl,hno,hxr⟩:=hrel
  have hno':=hide hno
  clear hno
  by_cases hlt:k < E.length
  ·obtain ⟨b,off,rfl,c0,c1,c2,c3⟩:=atE ((uh hE').ext hxr) hlt
   generalize hy:E[k]=p at c0 c1 c2 c3
   have hy':=hide hy
   clear hy
   obtain ⟨⟨a,b0⟩,⟨l,t⟩⟩:=p
   simp only at c0 c1 c2 c3
   generalize hq:isX x y ((a,b0),(l,t))=q
   have hq':=hide hq
   clear hq
   cases q
   ·go_wp2_with (go_at_call 187;refine (edgeC_any a b0 l t x y cb _ (uh k0' _ hxr) (uh k1' _ hxr)).mono ?_;rw [uh hq'];rintro e w3 ⟨rfl,hx3⟩)
    go_roundw
    case rel =>
     refine ⟨k+1,by omega,by go_num,fun j hj hj'=>?_,hxr.trans hx3⟩
     rcases Nat.lt_or_ge j k with h | h
     ·exact uh hno' j h hj'
     ·have:j=k:=by omega
      subst this
      rw [uh hy']
      exact uh hq'
    case measure=>simp [intOf];omega
   ·go_wp2_with (go_at_call 187;refine (edgeC_any a b0 l t x y cb _ (uh k0' _ hxr) (uh k1' _ hxr)).mono ?_;rw [uh hq'];rintro e w3 ⟨rfl,hx3⟩)
    go_ret
    exact ⟨ret_int (posI_hit hlt (by rw [uh hy'];exact uh hq') (fun j hj=>uh hno' j hj (by omega))).symm,hxr.trans hx3⟩
  ·go_wp2
   go_ret
   exact ⟨ret_int (posI_miss (fun j hj=>uh hno' j (by omega) hj)).symm,hxr⟩
theorem ret_cell3 {P:Program} {fn:Func} {t T u1 u2:Nat} {tmps:Array Value} {p:Addr} {W:World} {v:Value} (h:fn.results=#[.cell t T,.tmp u1,.tmp u2]) (hp:tmps.getD t undef=.pointer (some p)) (hl:(loadVar T p).run P W=.ok v W) :
  (results fn tmps).run P W=.ok (.tuple #[v,tmps.getD u1 undef,tmps.getD u2 undef]) W:=by
 simp only [Array.getD_eq_getD_getElem?] at hp
 simp [results,h,hp,asAddr,hl]
theorem load_Ed (W:World) (b:Nat) (p q r s:Value) (h:Blk W b 61 #[p,q,r,s]) : (loadVar 61 ⟨b,0,none⟩).run Tryz.prog W=.ok (.agg #[p,q,r,s]) W:=by
 have h0:=h.cell 0
 have h1:=h.cell 1
 have h2:=h.cell 2
 have h3:=h.cell 3
 simp at h0 h1 h2 h3
 simp [loadVar,h0,h1,h2,h3,go_sem]
set_option maxHeartbeats 4000000 in
theorem gedge_miss (g bv be:Nat) (V:List (Int×Thing)) (E S:List ((Int×Int)×Thing)) (u v:Int) (w:World) (hg:GraphAt w g bv be V E) (hp:S.Perm E) (hS:S.Pairwise ltE) (hl:E.length≤4096) (hpos:posI (isX (min u v) (max u v)) S = -1) :
  Calls Tryz.prog 153 #[.pointer (some ⟨g,0,none⟩),.int .i64 u,.int .i64 v] w fun e w'=>e=.returned (.tuple #[.agg #[.int .i64 0,.int .i64 0,.int .u8 0,.int .i64 0],.int .i64 0,.bool false])∧Ext w w':=by
 have hlS:S.length≤4096:=by rw [hp.length_eq];exact hl
 have hg':=hide hg
 have hpos':=hide hpos
 have hb0:=hide (Blk.new w 61 #[.int .i64 0,.int .i64 0,.int .u8 0,.int .i64 0])
 clear hg hpos
 go_enter Tryz.func153,Tryz.ntmps153
 go_wp2_with (first
  | (go_at_call 125;refine (between_any _ _ _).mono ?_;rintro e w2 ⟨rfl,hx2⟩;have hx2':=hide hx2;clear hx2)
  | (go_at_call 96;refine (edges_any g bv be V E S _ ((uh hg').ext (((ext_self1 _ _).trans (uh hx2')).alloc _)) hp hS hl).mono ?_;rintro e w3 ⟨v3,rfl,ho3,hx3⟩;obtain ⟨Ae,ce,rfl⟩:=own_slice ho3;have hq:=(Blk.new w2 _ _).ext hx3;have c0:=hq.cell 0;have c1:=hq.cell 1;simp at c0 c1;have ho3':=hide ho3;have hx3':=hide hx3;have c0':=hide c0;have c1':=hide c1;clear ho3 hx3 hq c0 c1)
  | (go_at_call 154;refine (index_any Ae S ce (min u v) (max u v) w2.heap.size _ (own_at (uh ho3') (fun _=>rfl)) hlS (uh c0') (uh c1')).mono ?_;rw [uh hpos'];rintro e w4 ⟨rfl,hx4⟩;have hx4':=hide hx4;have hb4:=((((uh hb0).ext (uh hx2')).ext (ext_self1 _ _)).ext (uh hx3')).ext hx4;have s0:=hb4.cell 0;have s1:=hb4.cell 1;have s2:=hb4.cell 2;have s3:=hb4.cell 3;have f0:=hb4.frozen 0;have f1:=hb4.frozen 1;have f2:=hb4.frozen 2;have f3:=hb4.frozen 3;simp at s0 s1 s2 s3;have hb4':=hide hb4;clear hx4 hb4))
 have hb4:=uh hb4'
 have hxw:Ext w w4:=(((ext_self1 _ _).trans (uh hx2')).trans (ext_self1 _ _)).trans ((uh hx3').trans (uh hx4'))
 refine bodyPost_ret (ret_cell3 rfl rfl (load_Ed _ w.heap.size _ _ _ _ ((((hb4.set 0 (.int .i64 0)).set 1 (.int .i64 0)).set 2 (.int .u8 0)).set 3 (.int .i64 0)))) rfl ?_
 exact ⟨rfl,Below.setCell (Below.setCell (Below.setCell (Below.setCell hxw (by simp) _) (by simp) _) (by simp) _) (by simp) _⟩
set_option maxHeartbeats 4000000 in
theorem gedge_hit (g bv be:Nat) (V:List (Int×Thing)) (E S:List ((Int×Int)×Thing)) (u v:Int) (w:World) (hg:GraphAt w g bv be V E) (hp:S.Perm E) (hS:S.Pairwise ltE) (hl:E.length≤4096) (i:Nat) (hi:i < S.length) (hpos:posI (isX (min u v) (max u v)) S=i) :
  Calls Tryz.prog 153 #[.pointer (some ⟨g,0,none⟩),.int .i64 u,.int .i64 v] w fun e w'=>e=.returned (.tuple #[.agg #[.int .i64 S[i].1.1,.int .i64 S[i].1.2,.int .u8 S[i].2.1,.int .i64 S[i].2.2],.int .i64 i,.bool true])∧Ext w w':=by
 have hlS:S.length≤4096:=by rw [hp.length_eq];exact hl
 have hg':=hide hg
 have hpos':=hide hpos
 have hb0:=hide (Blk.new w 61 #[.int .i64 0,.int .i64 0,.int .u8 0,.int .i64 0])
 clear hg hpos
 go_enter Tryz.func153,Tryz.ntmps153
 go_wp2_with (first
  | (go_at_call 125;refine (between_any _ _ _).mono ?_;rintro e w2 ⟨rfl,hx2⟩;have hx2':=hide hx2;clear hx2)
  | (go_at_call 96;refine (edges_any g bv be V E S _ ((uh hg').ext (((ext_self1 _ _).trans (uh hx2')).alloc _)) hp hS hl).mono ?_;rintro e w3 ⟨v3,rfl,ho3,hx3⟩;obtain ⟨Ae,ce,rfl⟩:=own_slice ho3;have hq:=(Blk.new w2 _ _).ext hx3;have c0:=hq.cell 0;have c1:=hq.cell 1;simp at c0 c1;have ho3':=hide ho3;have hx3':=hide hx3;have c0':=hide c0;have c1':=hide c1;clear ho3 hx3 hq c0 c1)
  | (go_at_call 154;refine (index_any Ae S ce (min u v) (max u v) w2.heap.size _ (own_at (uh ho3') (fun _=>rfl)) hlS (uh c0') (uh c1')).mono ?_;rw [uh hpos'];rintro e w4 ⟨rfl,hx4⟩;have hx4':=hide hx4;have hb4:=((((uh hb0).ext (uh hx2')).ext (ext_self1 _ _)).ext (uh hx3')).ext hx4;have s0:=hb4.cell 0;have s1:=hb4.cell 1;have s2:=hb4.cell 2;have s3:=hb4.cell 3;have f0:=hb4.frozen 0;have f1:=hb4.frozen 1;have f2:=hb4.frozen 2;have f3:=hb4.frozen 3;simp at s0 s1 s2 s3;have hb4':=hide hb4;clear hx4 hb4;obtain ⟨bb,off,rfl,k0,k1,k2,k3⟩:=atE ((own_at (uh ho3') (fun _=>rfl)).ext (uh hx4')) hi))
 have hb4:=uh hb4'
 have hxw:Ext w w4:=(((ext_self1 _ _).trans (uh hx2')).trans (ext_self1 _ _)).trans ((uh hx3').trans (uh hx4'))
 refine bodyPost_ret (ret_cell3 rfl rfl (load_Ed _ w.heap.size _ _ _ _ ((((hb4.set 0 (.int .i64 S[i].1.1)).set 1 (.int .i64 S[i].1.2)).set 2 (.int .u8 S[i].2.1)).set 3 (.int .i64 S[i].2.2)))) rfl ?_
 exact ⟨rfl,Below.setCell (Below.setCell (Below.setCell (Below.setCell hxw (by simp) _) (by simp) _) (by simp) _) (by simp) _⟩
end Go.Proofs.YtmokciekndllpaaGreatDoor
namespace Go.Proofs.YtmokciekndllpaaGreatDoor
open Go Go.RowKit Go.Shelf
attribute [local go_sem] qUpon lUpon
attribute [local irreducible] wpO wpX wpQL
theorem isX_isE {u v:Int} {q:(Int×Int)×Thing} (h:q.1.1 < q.1.2) : isX (min u v) (max u v) q=isE u v q:=by
 rw [Bool.eq_iff_iff,isE_iff h]
 unfold isX
 simp only [Bool.and_eq_true,beq_iff_eq]
 constructor
 ·intro h;exact Prod.ext h.1 h.2
 ·intro h;rw [h];exact ⟨rfl,rfl⟩
theorem posX_posE {u v:Int} {E:List ((Int×Int)×Thing)} (hlo:∀ e∈E,e.1.1 < e.1.2) : posI (isX (min u v) (max u v)) E=posI (isE u v) E:=posI_congr fun x hx=>isX_isE (hlo x hx)
theorem edge_has (g bv be:Nat) (V:List (Int×Thing)) (E:List ((Int×Int)×Thing)) (u v:Int) (w:World) (hg:IsG w g bv be V E) : Calls Tryz.prog 153 #[.pointer (some ⟨g,0,none⟩),.int .i64 u,.int .i64 v] w fun e w'=>∃ (x0 x1 x2 x3 k:Int),e=.returned (.tuple #[.agg #[.int .i64 x0,.int .i64 x1,.int .u8 x2,.int .i64 x3],.int .i64 k,.bool (hasE u v E)])∧Ext w w':=by
 have n2:=hg.nE
 obtain ⟨V',E',h1,hV,hE,hi⟩:=hg
 have n2':E'.length≤4096:=by rw [← hE.length_eq];exact n2
 rcases posI_cases (isE u v) E with ⟨hp,_⟩ | ⟨k,hlt,hk,_⟩
 ·have hh:hasE u v E=false:=by unfold hasE;exact decide_eq_false (by omega)
  rw [hh]
  refine (gedge_miss g bv be V' E' E u v w h1 hE hi.se n2' (by rw [posX_posE hi.lo];exact hp)).mono ?_
  rintro _ w' ⟨rfl,hx⟩
  exact ⟨_,_,_,_,_,rfl,hx⟩
 ·have hh:hasE u v E=true:=by unfold hasE;exact decide_eq_true (by omega)
  rw [hh]
  refine (gedge_hit g bv be V' E' E u v w h1 hE hi.se n2' k hlt (by rw [posX_posE hi.lo];exact hk)).mono ?_
  rintro _ w' ⟨rfl,hx⟩
  exact ⟨_,_,_,_,_,rfl,hx⟩
theorem SlAt.edge {w:World} {A:Option Addr} {xs:List ((Int×Int)×Thing)} (h:SlAt encE 4 w A xs) {i:Nat} (hi:i < xs.length) : ∃ b off u v lab wt,A=some ⟨b,off,none⟩∧xs[i]=((u,v),(lab,wt)) ∧ ∀ W,Keep [] w W → ∀ (j:Nat) x,(#[.int .i64 u,.int .i64 v,.int .u8 lab,.int .i64 wt] : Array Value)[j]? = some x→W.cell? ⟨b,off+i*4+j,none⟩=some x:=by
 obtain ⟨b,off,hA,hlt,hc⟩:=h (List.ne_nil_of_length_pos (by omega))
 rcases hx:xs[i] with ⟨⟨u,v⟩,lab,wt⟩
 refine ⟨b,off,u,v,lab,wt,hA,rfl,fun W hk j x hj=>?_⟩
 rw [World.cell?_of_block (hk.block b hlt (by simp))]
 exact hc i _ (by rw [List.getElem?_eq_getElem hi,hx]) j x (by rw [← hj];exact Array.getElem?_toList)
def WoPost (V:List (Int×Thing)) (E:List ((Int×Int)×Thing)) (w:World) (e:Ending) (w':World) : Prop:=∃ o ov oe,e=.returned (.pointer (some ⟨o,0,none⟩))∧IsG w' o ov oe V E∧Ext w w'∧w.heap.size≤o∧w.heap.size≤ov∧w.heap.size≤oe
def OvPost (V:List (Int×Thing)) (E:List ((Int×Int)×Thing)) (V2:List (Int×Thing)) (E2:List ((Int×Int)×Thing)) (w:World) (e:Ending) (w':World) : Prop :=
 (okO V E V2 E2=false∧e=.returned (.tuple #[.slice none 0 0,.int .i64 3])∨okO V E V2 E2=true ∧ ∃ A n c,e=.returned (.tuple #[.slice A n c,.int .i64 0])∧n=(moreO E E2).length∧w'.ownsRow w.heap.size 61 4 (.slice A n c) n ((moreO E E2).flatMap encE))∧Ext w w'
theorem all_next {α:Type} (p:α→Bool) (l:List α) {k:Nat} (h:k < l.length) : (l.take (k+1)).all p=((l.take k).all p && p l[k]):=by
 rw [List.take_succ_eq_append_getElem h,List.all_append,List.all_cons,List.all_nil,Bool.and_true]
theorem all_stop {α:Type} (p:α→Bool) (l:List α) {k:Nat} (h:k < l.length) (h2:p l[k]=false) : l.all p=false:=List.all_eq_false.2 ⟨l[k],List.getElem_mem h,by simp [h2]⟩
theorem chordal_any (og:Option Addr) (V:List (Int×Thing)) (E:List ((Int×Int)×Thing)) (w:World) (hg:GL w og V E) (hT:Tab w) :
  Calls Tryz.prog 99 #[.pointer og] w fun e w'=>e=.returned (.bool (choB V E))∧Ext w w':=by
 have hca:=perfect_any og V E w hg hT
 unfold PoPost at hca
 unfold choB
 obtain ⟨po,hpo⟩ : ∃ po,po=peoS V E:=⟨_,rfl⟩
 rw [← hpo] at hca ⊢
 obtain ⟨q,hq⟩ : ∃ q,q=po.isSome:=⟨_,rfl⟩
 obtain ⟨m9,hm9⟩ : ∃ m9,m9=(po.getD []).length:=⟨_,rfl⟩
 rw [← hq, ← hm9] at hca
 rw [← hq]
 have hca':=hide hca
 clear hca hpo hq hm9 hg hT
 have hP:=hide (Sp.new w)
 refine callsIn_wide.1 (callsIn_of_wp_marks (n:=0) Tryz.func99 rfl trivial (wpIn_wide.2 ?_))
 simp only [Tryz.ntmps99,List.size_toArray,List.length_cons,List.length_nil,Nat.reduceAdd,Nat.reduceSub,Array.replicate_succ,Array.replicate_zero,List.push_toArray,List.append_toArray,List.nil_append,List.cons_append]
 try dsimp only
 repeat ((fail_if_success with_reducible refine wp_reg (id:=1) ?_);first|go_values|go_skip|go_step|go_guarded|go_upon|go_in|go_back)
 with_reducible refine wp_reg (id:=1) ?_
 refine wpO_want rfl ?_
 go_simp
 refine wpO_want rfl ?_
 go_simp
 refine (uh hca').mono ?_
 rintro _ y1 ⟨Ap,cp,rfl,ho,hxc⟩
 clear ho
 refine ⟨_,rfl,?_⟩
 replace hP:=hide ((uh hP).ext hxc)
 clear hxc
 generalize htu0:Value.tuple _=tu
 have htu:=hide htu0
 clear htu0
 refine wpO_val rfl (run_move rfl rfl) ?_
 go_frame
 refine wpO_val rfl (run_extract (i:=0) (v:=.slice Ap m9 cp) rfl (uh htu).symm rfl) ?_
 go_frame
 refine wpO_val rfl (run_extract (i:=1) (v:=.bool q) rfl (uh htu).symm rfl) ?_
 go_frame
 iterate 2
  refine wpO_want rfl ?_
  go_simp
 refine wpO_done ?_
 try go_frame
 clear htu
 try dsimp only
 repeat ((fail_if_success with_reducible refine wp_reg (id:=2) ?_);first|go_values|go_skip|go_step|go_guarded|go_upon|go_in|go_back)
 with_reducible refine wp_reg (id:=2) ?_
 iterate 2
  refine wpO_want rfl ?_
  go_simp
 refine wpO_done ?_
 try go_frame
 go_wp2_with fail
 refine Sp.leaves0 ?_
 exact ⟨_,results_tmp (t:=2) rfl _ _ _,rfl,(uh hP).extf⟩
theorem withoutE_any (g bv be:Nat) (V:List (Int×Thing)) (E:List ((Int×Int)×Thing)) (u v lab wt:Int) (w:World) (hg:IsG w g bv be V E) (he:(u,v)∈E.map (·.1)) :
  Calls Tryz.prog 102 #[.pointer (some ⟨g,0,none⟩),.agg #[.int .i64 u,.int .i64 v,.int .u8 lab,.int .i64 wt]] w (WoPost V (cutE (u,v) E) w):=by
 have hg':=hide hg
 have hok:=hide (show i64ok u∧i64ok v by
  have hi:=hg.inv
  obtain ⟨e,he1,he2⟩:=List.mem_map.1 he
  obtain ⟨⟨t1,h1⟩,⟨t2,h2⟩⟩:=hi.ends e he1
  have hr:∀ x,x∈V.map (·.1)→i64ok x:=fun x hx=>by
   rw [← toL_vS hi] at hx
   exact toL_ok hx
  rw [he2] at h1 h2
  exact ⟨hr _ (List.mem_map.2 ⟨_,h1,rfl⟩),hr _ (List.mem_map.2 ⟨_,h2,rfl⟩)⟩)
 have hcut:=hide (cut_ok hg.inv he)
 clear hg he
 have hP:=hide (Sp.new w)
 refine callsIn_wide.1 (callsIn_of_wp_marks (n:=0) Tryz.func102 rfl trivial (wpIn_wide.2 ?_))
 simp only [Tryz.ntmps102,List.size_toArray,List.length_cons,List.length_nil,Nat.reduceAdd,Nat.reduceSub,Array.replicate_succ,Array.replicate_zero,List.push_toArray,List.append_toArray,List.nil_append,List.cons_append]
 try dsimp only
 repeat ((fail_if_success with_reducible refine wp_reg (id:=0) ?_);first|go_values|go_skip|go_step|go_guarded|go_upon|go_in|go_back)
 with_reducible refine wp_reg (id:=0) ?_
 refine (uh hP).allocO 61 #[.int .i64 u,.int .i64 v,.int .u8 lab,.int .i64 wt] rfl (run_box (v:=.agg #[.int .i64 u,.int .i64 v,.int .u8 lab,.int .i64 wt]) rfl rfl) ?_
 intro r3 y1 hQ
 replace hP:=hide hQ
 clear hQ
 refine wpO_want rfl ?_
 go_simp
 refine wpO_done ?_
 try go_frame
 try dsimp only
 repeat ((fail_if_success with_reducible refine wp_reg (id:=1) ?_);first|go_values|go_skip|go_step|go_guarded|go_upon|go_in|go_back)
 with_reducible refine wp_reg (id:=1) ?_
 refine wpO_want rfl ?_
 go_simp
 refine wpO_want rfl ?_
 go_simp
 refine (clone_any g bv be V E y1 ((uh hg').ext (uh hP).extf)).mono ?_
 rintro _ y2 ⟨o,ov,oe,rfl,ho0,hxc,n1,n2,n3⟩
 have hsz:=(uh hP).keep.size
 have hb:=hide (show w.heap.size≤o∧w.heap.size≤ov∧w.heap.size≤oe by omega)
 have ho:=hide ho0
 refine ⟨_,rfl,?_⟩
 replace hP:=hide ((uh hP).ext hxc)
 clear hxc ho0 n1 n2 n3 hsz
 refine wpO_want rfl ?_
 go_simp
 refine wpO_done ?_
 try go_frame
 try dsimp only
 repeat ((fail_if_success with_reducible refine wp_reg (id:=2) ?_);first|go_values|go_skip|go_step|go_guarded|go_upon|go_in|go_back)
 with_reducible refine wp_reg (id:=2) ?_
 have q0:=(uh hP).cell 0 0 (v:=.int .i64 u) rfl rfl
 have q1:=(uh hP).cell 0 1 (v:=.int .i64 v) rfl rfl
 have hself:=Ext.refl y2
 iterate 6
  refine wpO_want rfl ?_
  go_simp
 clear q0 q1 hself
 refine wpO_want rfl ?_
 go_simp
 have hca:=apply_any o ov oe V E 3 u v 0 0 y2 (uh ho) (uh hok).1 (uh hok).2
 obtain ⟨hw9,hv9,he9⟩:=uh hcut
 have hw9:wrongR 3 u v 0 V E=0:=hw9
 have hv9:nxV 3 u v 0 0 V E=V:=hv9
 have he9:nxE 3 u v 0 0 V E=cutE (u,v) E:=he9
 rw [hw9,hv9,he9] at hca
 refine hca.mono ?_
 clear hca hw9 hv9 he9
 rintro _ y3 ⟨rfl,hg9,hk9⟩
 refine ⟨_,rfl,?_⟩
 replace hP:Hid (Sp w [] w [] [] [] y3):=hide ((Sp.new w).ext (ext_turnZ (uh hP).extf hk9 ⟨(uh hb).2.1,(uh hb).2.2⟩))
 have hf:=hide hg9
 clear hg9 hk9
 try go_frame
 refine wpO_done ?_
 try go_frame
 try dsimp only
 repeat ((fail_if_success with_reducible refine wp_reg (id:=3) ?_);first|go_values|go_skip|go_step|go_guarded|go_upon|go_in|go_back)
 with_reducible refine wp_reg (id:=3) ?_
 iterate 2
  refine wpO_want rfl ?_
  go_simp
 refine wpO_done ?_
 try go_frame
 go_wp2_with fail
 refine Sp.leaves0 ?_
 exact ⟨_,results_tmp (t:=4) rfl _ _ _,o,ov,oe,rfl,uh hf,(uh hP).extf,(uh hb).1,(uh hb).2.1,(uh hb).2.2⟩
theorem ids_eqS {V:List (Int×Thing)} {E:List ((Int×Int)×Thing)} {V2:List (Int×Thing)} {E2:List ((Int×Int)×Thing)} (hi:GInv V E) (hi2:GInv V2 E2) : eqS (vS V) (vS V2)=decide (V.map (·.1)=V2.map (·.1)):=by
 rw [Bool.eq_iff_iff,decide_eq_true_eq, ← toL_vS hi, ← toL_vS hi2]
 constructor
 ·intro h
  refine sorted_ext (toL_sorted _) (toL_sorted _) fun x=>?_
  rw [mem_toL',mem_toL']
  constructor
  ·rintro ⟨h1,h2,h3⟩
   exact ⟨h1,h2,by rw [← eqS_iff.1 h x.toNat (by omega)];exact h3⟩
  ·rintro ⟨h1,h2,h3⟩
   exact ⟨h1,h2,by rw [eqS_iff.1 h x.toNat (by omega)];exact h3⟩
 ·intro h
  exact eqS_iff.2 (same_bits fun x=>by rw [h])
theorem run_buildI1 {ρ:Operand→Value} {o:Oper} {x:Operand} {w:World} {z:Int} (ho:o.op=.buildSlice 42 1 #[(0,x)]) (hx:ρ x=.int .i64 z) : (execOp ρ o).run Tryz.prog w=.ok (.value (.slice (some ⟨w.heap.size,0,none⟩) 1 1)) (w.alloc (.cells #[.int .i64 z] 3)):=by
 unfold execOp
 simp only [ho]
 simp [go_sem,hx]
theorem all_next2 {α:Type} (p:α→Bool) (l:List α) {k:Nat} (h:k < l.length) : (l.take (k+1)).all p=((l.take k).all p && p l[k]):=by
 rw [List.take_succ_eq_append_getElem h,List.all_append,List.all_cons,List.all_nil,Bool.and_true]
theorem all_stop2 {α:Type} (p:α→Bool) (l:List α) {k:Nat} (h:k < l.length) (h2:p l[k]=false) : l.all p=false:=List.all_eq_false.2 ⟨l[k],List.getElem_mem h,by simp [h2]⟩
theorem asked_any (A2 B2:Option Addr) (V2:List (Int×Thing)) (E2:List ((Int×Int)×Thing)) (n2 cA2 cB2:Nat) (A1 B1:Option Addr) (V:List (Int×Thing)) (E:List ((Int×Int)×Thing)) (cA cB:Nat) (w:World) (hi:GInv V E) (hi2:GInv V2 E2) (hV:SlAt encV 3 w A1 V) (hV2:SlAt encV 3 w A2 V2) (hVl:V.length≤100) (hVl2:V2.length≤100) (hE:SlAt encE 4 w B1 E) (hE2:SlAt encE 4 w B2 E2) (hl:E.length≤4096) (hl2:n2≤4096) (hn2:n2=E2.length) :
  Calls Tryz.prog 41 #[.agg #[.slice A2 V2.length cA2,.slice B2 n2 cB2],.agg #[.slice A1 V.length cA,.slice B1 E.length cB]] w fun e w'=>e=.returned (.int .i64 (if okO V2 E2 V E then 0 else 3))∧Ext w w':=by
 obtain ⟨R,hR0⟩ : ∃ R:Int,R=if okO V2 E2 V E then 0 else 3:=⟨_,rfl⟩
 rw [← hR0]
 have hR:=hide hR0
 have hids:=hide (fun (W:World) (hW:Ext w W)=>ids25_any A1 B1 V E cA cB W (hV.ext hW) (show V.length≤4096 by omega))
 have hids2:=hide (fun (W:World) (hW:Ext w W)=>ids25_any A2 B2 V2 E2 cA2 cB2 W (hV2.ext hW) (show V2.length≤4096 by omega))
 rw [← hn2] at hids2
 obtain ⟨U,hU0⟩ : ∃ U,U=V.map (·.1):=⟨_,rfl⟩
 obtain ⟨U2,hU20⟩ : ∃ U,U=V2.map (·.1):=⟨_,rfl⟩
 have hUl:=hide (show U.length≤100 by rw [hU0,List.length_map];exact hVl)
 have hUl2:=hide (show U2.length≤100 by rw [hU20,List.length_map];exact hVl2)
 have heq:=hide (show eqS (vS V2) (vS V)=decide (U2=U) by rw [hU0,hU20];exact ids_eqS hi2 hi)
 rw [← hU0] at hids
 rw [← hU20] at hids2
 clear hR0 hU0 hU20 hV hV2 hVl hVl2
 have hi':=hide hi
 have hi2':=hide hi2
 have hE':=hide hE
 have hE2':=hide hE2
 have hl':=hide hl
 have hl2':=hide hl2
 have hn2':=hide hn2
 clear hi hi2 hE hE2 hl hl2 hn2
 have hP:=hide (Sp.new w)
 refine callsIn_wide.1 (callsIn_of_wp_marks (n:=0) Tryz.func41 rfl trivial (wpIn_wide.2 ?_))
 simp only [Tryz.ntmps41,List.size_toArray,List.length_cons,List.length_nil,Nat.reduceAdd,Nat.reduceSub,Array.replicate_succ,Array.replicate_zero,List.push_toArray,List.append_toArray,List.nil_append,List.cons_append]
 try dsimp only
 repeat ((fail_if_success with_reducible refine wp_reg (id:=0) ?_);first|go_values|go_skip|go_step|go_guarded|go_upon|go_in|go_back)
 with_reducible refine wp_reg (id:=0) ?_
 refine (uh hP).allocO 30 #[.slice A2 V2.length cA2,.slice B2 n2 cB2] rfl (run_box (v:=.agg #[.slice A2 V2.length cA2,.slice B2 n2 cB2]) rfl rfl) ?_
 intro r2 y1 hQ
 replace hP:=hide hQ
 clear hQ
 refine (uh hP).allocO 30 #[.slice A1 V.length cA,.slice B1 E.length cB] rfl (run_box (v:=.agg #[.slice A1 V.length cA,.slice B1 E.length cB]) rfl rfl) ?_
 intro r3 y2 hQ
 replace hP:=hide hQ
 clear hQ
 refine wpO_want rfl ?_
 go_simp
 refine wpO_done ?_
 try go_frame
 go_wp2_with fail
 obtain ⟨nU,hnU0⟩ : ∃ n,n=U.length:=⟨_,rfl⟩
 have hnU:=hide hnU0
 obtain ⟨nU2,hnU20⟩ : ∃ n,n=U2.length:=⟨_,rfl⟩
 have hnU2:=hide hnU20
 clear hnU0 hnU20
 have hself:=Keep.refl [] y2
 refine wp_regionK (P:=Tryz.prog) [] [0,2] [] 4 #[true,false,true,false,false,false] (by kernel_rfl) (by kernel_rfl) rfl (by rfl) ?_
 refine ql_want (v:=.agg #[.slice A2 V2.length cA2,.slice B2 n2 cB2]) rfl (by rfl) (fun W hW=>qUpon_ofX (run_load_agg (cs:=#[.slice A2 V2.length cA2,.slice B2 n2 cB2]) rfl rfl (by simp [go_sem]) (by simp [go_sem]) ((uh hP).wholeK 0 rfl hW (by simp)))) ?_
 go_frame
 refine ql_want (v:=.agg #[.slice A1 V.length cA,.slice B1 E.length cB]) rfl (by rfl) (fun W hW=>qUpon_ofX (run_load_agg (cs:=#[.slice A1 V.length cA,.slice B1 E.length cB]) rfl rfl (by simp [go_sem]) (by simp [go_sem]) ((uh hP).wholeK 1 rfl hW (by simp)))) ?_
 go_frame
 refine wpQL_nil (fun y3 hxq=>?_)
 have hK:=hide (hxq.keep [])
 replace hP:=hide ((uh hP).ext hxq)
 clear hxq
 clear hself
 refine lx_one (i:=1) (by kernel_rfl) rfl (by rfl) #[true,true,true,false,false,false] (by rfl) ?_
 have hca:=uh hids2 y3 (uh hP).extf
 unfold OwI at hca
 rw [← uh hnU2] at hca
 go_simp
 refine (hca).mono ?_
 rintro _ zy4 ⟨Aa,ca,rfl,ho,hxc⟩
 clear hca
 refine ⟨_,rfl,(uh hK).trans (hxc.keep _),fun y4 hxd=>?_⟩
 replace hP:=hide ((uh hP).ext (hxc.trans hxd))
 replace hK:=hide ((uh hK).trans ((hxc.trans hxd).keep _))
 have hsa:=hide ((own_at (enc:=encI) (xs:=U2) (by rw [uh hnU2] at ho;exact ho) (fun _=>rfl)).ext hxd)
 clear ho
 clear hxc hxd
 try go_frame
 refine lx_one (i:=3) (by kernel_rfl) rfl (by rfl) #[true,true,true,true,false,false] (by rfl) ?_
 have hca:=uh hids y4 (uh hP).extf
 unfold OwI at hca
 rw [← uh hnU] at hca
 go_simp
 refine (hca).mono ?_
 rintro _ zy5 ⟨Ab,cb,rfl,ho,hxc⟩
 clear hca
 refine ⟨_,rfl,(uh hK).trans (hxc.keep _),fun y5 hxd=>?_⟩
 replace hP:=hide ((uh hP).ext (hxc.trans hxd))
 replace hK:=hide ((uh hK).trans ((hxc.trans hxd).keep _))
 have hsb:=hide ((own_at (enc:=encI) (xs:=U) (by rw [uh hnU] at ho;exact ho) (fun _=>rfl)).ext hxd)
 replace hsa:=hide ((uh hsa).ext (hxc.trans hxd))
 clear ho
 clear hxc hxd
 try go_frame
 obtain ⟨q,hq0⟩ : ∃ q,q=decide (U2=U):=⟨_,rfl⟩
 have hq:=hide hq0
 clear hq0
 refine lx_rekeep (uh hK) [4,5] [] 0 2 #[true,true,true,true,false,false] #[true,true,true,true,true,true] (by kernel_rfl) rfl (by rfl) ?_
 clear hK
 refine ql_want (v:=.bool q) rfl (by rfl) (fun W hW=>?_) ?_
 ·go_simp
  refine (sameQ_any Aa Ab U2 U nU2 nU ca cb W ((uh hsa).ext hW.ext) ((uh hsb).ext hW.ext) (uh hnU2) (uh hnU) (by have:=uh hUl2;have:=uh hnU2;omega) (by have:=uh hUl;have:=uh hnU;omega)).mono ?_
  rw [← uh hq]
  rintro _ _ ⟨h1,h2⟩
  exact ⟨_,h1,rfl,h2⟩
 go_frame
 iterate 1
  refine ql_want (v:=?_) rfl (by rfl) (fun W hW=>?_) ?_
  rotate_left
  ·go_simp
   first | done | rfl
  go_frame
 refine wpQL_nil (fun y6 hxq=>?_)
 replace hP:=hide ((uh hP).ext hxq)
 clear hxq
 refine wpX_done (by kernel_rfl) ?_
 try go_frame
 cases q
 ·skip
  have hre:=hide (show R=3 by rw [uh hR];unfold okO;rw [uh heq, ← uh hq];rfl)
  go_wp2_with fail
  refine Sp.leaves0 ?_
  exact ⟨_,results_tmp (t:=4) rfl _ _ _,by rw [uh hre];rfl,(uh hP).extf⟩
 ·skip
  have hRa:=hide (show R=if E2.all (fun e=>hasE e.1.1 e.1.2 E) then 0 else 3 by rw [uh hR];unfold okO;rw [uh heq, ← uh hq,Bool.true_and])
  try dsimp only
  repeat ((fail_if_success with_reducible refine wp_reg (id:=3) ?_);first|go_values|go_skip|go_step|go_guarded|go_upon|go_in|go_back)
  with_reducible refine wp_reg (id:=3) ?_
  refine wpO_want rfl ?_
  go_simp
  refine wpO_done ?_
  try go_frame
  go_wp2_with fail
  have hEo:=hide ((uh hE').ext (uh hP).extf)
  have hE2o:=hide ((uh hE2').ext (uh hP).extf)
  have hb2:=hide ((uh hP).get 0 rfl)
  have hb3:=hide ((uh hP).get 1 rfl)
  have hxwo:=hide (uh hP).extf
  clear hP
  generalize y6=wo at *
  have hP:=hide (Sp.new wo)
  obtain ⟨I6_4,hI6_40⟩ : ∃ I:Nat→Act→World→Prop,I=fun fi a' wr=>∃ (i:Nat),a'.tmps.size=34∧a'.tmps.getD 2 undef=.pointer (some ⟨r2,0,none⟩)∧a'.tmps.getD 3 undef=.pointer (some ⟨r3,0,none⟩)∧a'.tmps.getD 5 undef=.int .i64 (i:Nat)∧a'.defers=[]∧i≤n2∧((E2.take i).all (fun e=>hasE e.1.1 e.1.2 E)=true)∧fi=n2-i∧Ext wo wr:=⟨_,rfl⟩
  have hI6_4:=hide hI6_40
  clear hI6_40
  refine wp_loop_ix I6_4 (n2-0) ?_ ?_
  ·rw [uh hI6_4];exact ⟨0,rfl,rfl,rfl,rfl,rfl,Nat.zero_le _,rfl,rfl,Ext.refl _⟩
  ·rintro fi ⟨tm,dfs⟩ wr hrel
   rw [uh hI6_4] at hrel
   obtain ⟨i,hsz,e2,e3,e5,hdf,hin,hal,hfm,hPx⟩:=hrel
   obtain ⟨us,rfl⟩ : ∃ us:Nat→Value,tm=#[us 0,us 1,us 2,us 3,us 4,us 5,us 6,us 7,us 8,us 9,us 10,us 11,us 12,us 13,us 14,us 15,us 16,us 17,us 18,us 19,us 20,us 21,us 22,us 23,us 24,us 25,us 26,us 27,us 28,us 29,us 30,us 31,us 32,us 33]:=⟨fun i=>tm.getD i undef,arr_fn hsz⟩
   have h2:us 2=.pointer (some ⟨r2,0,none⟩):=e2
   have h3:us 3=.pointer (some ⟨r3,0,none⟩):=e3
   have h5:us 5=.int .i64 (i:Nat):=e5
   have hdf2:dfs=[]:=hdf
   subst hdf2
   clear hdf hsz e2 e3 e5
   simp only [h2,h3,h5]
   clear h2 h3 h5
   clear hP
   have hxwi:=hide hPx
   clear hPx
   generalize wr=wi at *
   have hP:=hide (Sp.new wi)
   have hal':=hide hal
   have hfm':=hide hfm
   clear hal hfm
   have hb2i:=hide ((uh hb2).ext (uh hxwi))
   have hb3i:=hide ((uh hb3).ext (uh hxwi))
   by_cases hlt:i < n2
   ·skip
    have hil:(i:Int) < (n2:Int):=by omega
    have hi2:=hide hlt
    have hiE:i < E2.length:=by rw [← uh hn2'];exact hlt
    have hib:=hide (show (i:Int)≤4096 by have:=uh hl2';omega)
    obtain ⟨b9,o9,u,v,lab,wt,rfl,hxe,hld⟩:=((uh hE2o)).edge hiE
    have hld':=hide hld
    have hxe':=hide (Exists.intro hiE hxe:∃ h:i < E2.length,E2[i]=((u,v),(lab,wt)))
    clear hld hxe
    clear hlt hin hiE
    have q1:=(uh hb2i).cells 1 (v:=.slice (some ⟨b9,o9,none⟩) n2 cB2) rfl
    have hself:=Ext.refl wi
    try dsimp only
    repeat ((fail_if_success with_reducible refine wp_reg (id:=4) ?_);first|go_values|go_skip|go_step|go_guarded|go_upon|go_in|go_back)
    with_reducible refine wp_reg (id:=4) ?_
    iterate 5
     refine wpO_want rfl ?_
     go_simp
    clear q1 hself
    refine wpO_done ?_
    try go_frame
    clear hil
    go_wp2_with fail
    have hin3:(i:Int) < (n2:Int):=by have:=uh hi2;omega
    have hib3:=uh hib
    obtain ⟨j,hj0⟩ : ∃ j,j=hasE u v E:=⟨_,rfl⟩
    have hj:=hide hj0
    clear hj0
    have q1:=(uh hb2i).cells 1 (v:=.slice (some ⟨b9,o9,none⟩) n2 cB2) rfl
    replace q1:=fun W (hW:Keep [] wi W)=>q1 W hW.ext
    have hself:=Keep.refl [] wi
    have c0:∀ W,Keep [] wi W→W.cell? ⟨b9,o9+i*4,none⟩=some (.int .i64 u):=fun W hW=>uh hld' W (((uh hxwi).keep []).trans hW) 0 _ rfl
    have c1:∀ W,Keep [] wi W→W.cell? ⟨b9,o9+i*4+1,none⟩=some (.int .i64 v):=fun W hW=>uh hld' W (((uh hxwi).keep []).trans hW) 1 _ rfl
    refine wp_regionK (P:=Tryz.prog) [] [0,1,2,3,4,5,6,7,8,9,10,11,12,13,14] [] 0 #[true,true,true,true,true,true,true,true,true,true,true,true,true,true,true] (by kernel_rfl) (by kernel_rfl) rfl (by rfl) ?_
    refine ql_want (v:=.agg #[.slice A1 V.length cA,.slice B1 E.length cB]) rfl (by rfl) (fun W hW=>qUpon_ofX (run_load_agg (cs:=#[.slice A1 V.length cA,.slice B1 E.length cB]) rfl rfl (by simp [go_sem]) (by simp [go_sem]) (((uh hb3i).ext ((uh hP).extf.trans hW.ext)).whole))) ?_
    go_frame
    iterate 12
     refine ql_want (v:=?_) rfl (by rfl) (fun W hW=>?_) ?_
     rotate_left
     ·go_simp
      first | done | rfl
     go_frame
    refine ql_want (v:=.bool j) rfl (by rfl) (fun W hW=>?_) ?_
    ·go_simp
     refine (joined25_any A1 B1 V E cA cB u v W (((uh hEo).ext (uh hxwi)).ext ((uh hP).extf.trans hW.ext)) (uh hl')).mono ?_
     rw [← uh hj]
     rintro _ _ ⟨h1,h2⟩
     exact ⟨_,h1,rfl,h2⟩
    go_frame
    iterate 1
     refine ql_want (v:=?_) rfl (by rfl) (fun W hW=>?_) ?_
     rotate_left
     ·go_simp
      first | done | rfl
     go_frame
    refine wpQL_nil (fun y7 hxq=>?_)
    replace hP:=hide ((uh hP).ext hxq)
    clear hxq
    refine wpX_done (by kernel_rfl) ?_
    try go_frame
    clear q1 c0 c1 hself hin3
    cases j
    ·skip
     have hre:=hide (show R=3 by obtain ⟨h1,h2⟩:=uh hxe';rw [uh hRa,all_stop2 (fun e:(Int×Int)×Thing=>hasE e.1.1 e.1.2 E) E2 h1 (by rw [h2];exact (uh hj).symm)];rfl)
     go_wp2_with fail
     refine Sp.leaves0 ?_
     exact ⟨_,results_tmp (t:=4) rfl _ _ _,by rw [uh hre];rfl,(uh hxwo).trans ((uh hxwi).trans (uh hP).extf)⟩
    ·skip
     go_wp2_with fail
     refine ⟨n2-(i+1),?_,by have:=uh hfm';have:=uh hi2;omega⟩
     rw [uh hI6_4]
     exact ⟨i+1,(by first | rfl | trivial),(by first | rfl | trivial),(by first | rfl | trivial),(by first | rfl | (show _=Value.int _ _;go_num) | go_num),(by first | rfl | trivial),by have:=uh hi2;omega,(by obtain ⟨h1,h2⟩:=uh hxe';rw [all_next2 _ _ h1,uh hal',h2];exact (uh hj).symm),rfl,(uh hxwi).trans (uh hP).extf⟩
   ·skip
    have hil:¬ (i:Int) < (n2:Int):=by omega
    have hre:=hide (show R=0 by have h:=uh hal';rw [List.take_of_length_le (by rw [← uh hn2'];omega)] at h;rw [uh hRa,h];rfl)
    clear hlt hin
    have q1:=(uh hb2i).cells 1 (v:=.slice B2 n2 cB2) rfl
    have hself:=Ext.refl wi
    try dsimp only
    repeat ((fail_if_success with_reducible refine wp_reg (id:=4) ?_);first|go_values|go_skip|go_step|go_guarded|go_upon|go_in|go_back)
    with_reducible refine wp_reg (id:=4) ?_
    iterate 5
     refine wpO_want rfl ?_
     go_simp
    clear q1 hself
    refine wpO_done ?_
    try go_frame
    clear hil
    try dsimp only
    repeat ((fail_if_success with_reducible refine wp_reg (id:=8) ?_);first|go_values|go_skip|go_step|go_guarded|go_upon|go_in|go_back)
    with_reducible refine wp_reg (id:=8) ?_
    refine wpO_want rfl ?_
    go_simp
    refine wpO_done ?_
    try go_frame
    go_wp2_with fail
    refine Sp.leaves0 ?_
    exact ⟨_,results_tmp (t:=4) rfl _ _ _,by rw [uh hre];rfl,(uh hxwo).trans ((uh hxwi).trans (uh hP).extf)⟩
theorem more_any (A1 B1:Option Addr) (V:List (Int×Thing)) (E:List ((Int×Int)×Thing)) (cA cB:Nat) (A2 B2:Option Addr) (V2:List (Int×Thing)) (E2:List ((Int×Int)×Thing)) (n2 cA2 cB2:Nat) (w:World) (hE:SlAt encE 4 w B1 E) (hE2:SlAt encE 4 w B2 E2) (hl:E.length≤4096) (hl2:n2≤4096) (hn2:n2=E2.length) :
  Calls Tryz.prog 104 #[.agg #[.slice A1 V.length cA,.slice B1 E.length cB],.agg #[.slice A2 V2.length cA2,.slice B2 n2 cB2]] w (OwI w ((moreN E E2 E2.length).map fun j=>((j:Nat) : Int))):=by
 have hE':=hide hE
 have hE2':=hide hE2
 have hl':=hide hl
 have hl2':=hide hl2
 have hn2':=hide hn2
 clear hE hE2 hl hl2 hn2
 have hP:=hide (Sp.new w)
 refine callsIn_wide.1 (callsIn_of_wp_marks (n:=0) Tryz.func104 rfl trivial (wpIn_wide.2 ?_))
 simp only [Tryz.ntmps104,List.size_toArray,List.length_cons,List.length_nil,Nat.reduceAdd,Nat.reduceSub,Array.replicate_succ,Array.replicate_zero,List.push_toArray,List.append_toArray,List.nil_append,List.cons_append]
 try dsimp only
 repeat ((fail_if_success with_reducible refine wp_reg (id:=0) ?_);first|go_values|go_skip|go_step|go_guarded|go_upon|go_in|go_back)
 with_reducible refine wp_reg (id:=0) ?_
 refine (uh hP).allocO 30 #[.slice A1 V.length cA,.slice B1 E.length cB] rfl (run_box (v:=.agg #[.slice A1 V.length cA,.slice B1 E.length cB]) rfl rfl) ?_
 intro r2 y1 hQ
 replace hP:=hide hQ
 clear hQ
 refine (uh hP).allocO 30 #[.slice A2 V2.length cA2,.slice B2 n2 cB2] rfl (run_box (v:=.agg #[.slice A2 V2.length cA2,.slice B2 n2 cB2]) rfl rfl) ?_
 intro r3 y2 hQ
 replace hP:=hide hQ
 clear hQ
 refine wpO_want rfl ?_
 go_simp
 refine wpO_done ?_
 try go_frame
 try dsimp only
 repeat ((fail_if_success with_reducible refine wp_reg (id:=1) ?_);first|go_values|go_skip|go_step|go_guarded|go_upon|go_in|go_back)
 with_reducible refine wp_reg (id:=1) ?_
 replace hP:Hid (Sp w [] w [] [(r2,30,#[.slice A1 V.length cA,.slice B1 E.length cB]),(r3,30,#[.slice A2 V2.length cA2,.slice B2 n2 cB2])] [(3,1,.slice none 0 0,0,([] : List Int).flatMap encI)] y2):=hide ((uh hP).nil 3 1)
 refine wpO_want rfl ?_
 go_simp
 refine wpO_done ?_
 try go_frame
 try dsimp only
 repeat ((fail_if_success with_reducible refine wp_reg (id:=2) ?_);first|go_values|go_skip|go_step|go_guarded|go_upon|go_in|go_back)
 with_reducible refine wp_reg (id:=2) ?_
 refine wpO_want rfl ?_
 go_simp
 refine wpO_done ?_
 try go_frame
 go_wp2_with fail
 obtain ⟨I2_2,hI2_20⟩ : ∃ I:Nat→Act→World→Prop,I=fun fi a' wr=>∃ (i:Nat), ∃ (A5:Option Addr), ∃ (q:Nat), ∃ (c5:Nat), ∃ (xs:List Int),a'.tmps.size=34∧a'.tmps.getD 2 undef=.pointer (some ⟨r2,0,none⟩)∧a'.tmps.getD 3 undef=.pointer (some ⟨r3,0,none⟩)∧a'.tmps.getD 5 undef=.slice A5 q c5∧a'.tmps.getD 6 undef=.int .i64 (i:Nat)∧a'.defers=[]∧i≤n2∧q=xs.length∧((xs=(moreN E E2 i).map fun j=>((j:Nat) : Int)))∧Sp w [] w [] [(r2,30,#[.slice A1 V.length cA,.slice B1 E.length cB]),(r3,30,#[.slice A2 V2.length cA2,.slice B2 n2 cB2])] [(3,1,.slice A5 q c5,q,xs.flatMap encI)] wr∧fi=n2-i:=⟨_,rfl⟩
 have hI2_2:=hide hI2_20
 clear hI2_20
 refine wp_loop_ix I2_2 (n2-0) ?_ ?_
 ·rw [uh hI2_2];exact ⟨0,none,0,0,[],rfl,rfl,rfl,rfl,rfl,rfl,Nat.zero_le _,rfl,rfl,uh hP,rfl⟩
 ·rintro fi ⟨tm,dfs⟩ wr hrel
  rw [uh hI2_2] at hrel
  obtain ⟨i,A5,q,c5,xs,hsz,e2,e3,e5,e6,hdf,hin,hq,hxs,hPr,hfm⟩:=hrel
  obtain ⟨us,rfl⟩ : ∃ us:Nat→Value,tm=#[us 0,us 1,us 2,us 3,us 4,us 5,us 6,us 7,us 8,us 9,us 10,us 11,us 12,us 13,us 14,us 15,us 16,us 17,us 18,us 19,us 20,us 21,us 22,us 23,us 24,us 25,us 26,us 27,us 28,us 29,us 30,us 31,us 32,us 33]:=⟨fun i=>tm.getD i undef,arr_fn hsz⟩
  have h2:us 2=.pointer (some ⟨r2,0,none⟩):=e2
  have h3:us 3=.pointer (some ⟨r3,0,none⟩):=e3
  have h5:us 5=.slice A5 q c5:=e5
  have h6:us 6=.int .i64 (i:Nat):=e6
  have hdf2:dfs=[]:=hdf
  subst hdf2
  clear hdf hsz e2 e3 e5 e6
  simp only [h2,h3,h5,h6]
  clear h2 h3 h5 h6
  clear hP
  have hP:=hide hPr
  clear hPr
  have hq':=hide hq
  have hxs':=hide hxs
  have hfm':=hide hfm
  clear hq hxs hfm
  by_cases hlt:i < n2
  ·skip
   have hil:(i:Int) < (n2:Int):=by omega
   have hi2:=hide hlt
   have hiE:i < E2.length:=by rw [← uh hn2'];exact hlt
   have hib:=hide (show (i:Int)≤4096 by have:=uh hl2';omega)
   have hqb:=hide (show q≤4096 by rw [uh hq',uh hxs',List.length_map];exact Nat.le_trans (moreN_le _ _ _) (by have:=uh hl2';omega))
   have hiE2:=hide hiE
   have hnx:=hide (moreN_next E (uh hiE2))
   obtain ⟨b9,o9,u,v,lab,wt,rfl,hxe,hld⟩:=(((uh hE2').ext (uh hP).extf)).edge hiE
   have hld':=hide hld
   have hxe':=hide (Exists.intro hiE hxe:∃ h:i < E2.length,E2[i]=((u,v),(lab,wt)))
   clear hld hxe
   clear hlt hin hiE
   have q1:=(uh hP).cell 1 1 (v:=.slice (some ⟨b9,o9,none⟩) n2 cB2) rfl rfl
   have hself:=Ext.refl wr
   try dsimp only
   repeat ((fail_if_success with_reducible refine wp_reg (id:=3) ?_);first|go_values|go_skip|go_step|go_guarded|go_upon|go_in|go_back)
   with_reducible refine wp_reg (id:=3) ?_
   iterate 5
    refine wpO_want rfl ?_
    go_simp
   clear q1 hself
   refine wpO_done ?_
   try go_frame
   clear hil
   go_wp2_with fail
   have hin3:(i:Int) < (n2:Int):=by have:=uh hi2;omega
   have hib3:=uh hib
   obtain ⟨j,hj0⟩ : ∃ j,j=hasE u v E:=⟨_,rfl⟩
   have hj:=hide hj0
   clear hj0
   have q1:=(uh hP).cellK (S:=[]) 1 1 (v:=.slice (some ⟨b9,o9,none⟩) n2 cB2) rfl rfl (by simp)
   have hself:=Keep.refl [] wr
   have c0:∀ W,Keep [] wr W→W.cell? ⟨b9,o9+i*4,none⟩=some (.int .i64 u):=fun W hW=>uh hld' W hW 0 _ rfl
   have c1:∀ W,Keep [] wr W→W.cell? ⟨b9,o9+i*4+1,none⟩=some (.int .i64 v):=fun W hW=>uh hld' W hW 1 _ rfl
   refine wp_regionK (P:=Tryz.prog) [] [0,1,2,3,4,5,6,7,8,9,10,11,12,13,14] [] 0 #[true,true,true,true,true,true,true,true,true,true,true,true,true,true,true] (by kernel_rfl) (by kernel_rfl) rfl (by rfl) ?_
   refine ql_want (v:=.agg #[.slice A1 V.length cA,.slice B1 E.length cB]) rfl (by rfl) (fun W hW=>qUpon_ofX (run_load_agg (cs:=#[.slice A1 V.length cA,.slice B1 E.length cB]) rfl rfl (by simp [go_sem]) (by simp [go_sem]) ((uh hP).wholeK 0 rfl hW (by simp)))) ?_
   go_frame
   iterate 12
    refine ql_want (v:=?_) rfl (by rfl) (fun W hW=>?_) ?_
    rotate_left
    ·go_simp
     first | done | rfl
    go_frame
   refine ql_want (v:=.bool j) rfl (by rfl) (fun W hW=>?_) ?_
   ·go_simp
    refine (joined25_any A1 B1 V E cA cB u v W ((uh hE').ext ((uh hP).extf.trans hW.ext)) (uh hl')).mono ?_
    rw [← uh hj]
    rintro _ _ ⟨h1,h2⟩
    exact ⟨_,h1,rfl,h2⟩
   go_frame
   iterate 1
    refine ql_want (v:=?_) rfl (by rfl) (fun W hW=>?_) ?_
    rotate_left
    ·go_simp
     first | done | rfl
    go_frame
   refine wpQL_nil (fun y3 hxq=>?_)
   replace hP:=hide ((uh hP).ext hxq)
   clear hxq
   refine wpX_done (by kernel_rfl) ?_
   try go_frame
   clear q1 c0 c1 hself hin3
   cases j
   ·skip
    try dsimp only
    repeat ((fail_if_success with_reducible refine wp_reg (id:=6) ?_);first|go_values|go_skip|go_step|go_guarded|go_upon|go_in|go_back)
    with_reducible refine wp_reg (id:=6) ?_
    iterate 2
     refine wpO_want rfl ?_
     go_simp
    refine (uh hP).build1O 3 #[.int .i64 (i:Int)] rfl (run_buildI1 rfl rfl) ?_
    intro bt y4 hQ
    replace hP:=hide hQ
    clear hQ
    go_frame
    refine (uh hP).ap1O (enc:=encI) (T:=3) (ST:=42) 0 (v:=.slice A5 q c5) (m:=q) (xs:=xs) rfl rfl infoI Tryz.underlying42 one_encI (fun _=>rfl) (by decide) (by decide) rfl (i:Int) rfl rfl ((uh hP).get 2 rfl) (by have:=uh hqb;omega) ?_
    intro A6 cA6 y5 hQ
    replace hP:=hide hQ
    clear hQ
    try go_frame
    replace hP:Hid (Sp w [] w [] [(r2,30,#[.slice A1 V.length cA,.slice B1 E.length cB]),(r3,30,#[.slice A2 V2.length cA2,.slice (some ⟨b9,o9,none⟩) n2 cB2])] [(3,1,.slice A6 (q+1) cA6,q+1,(xs++[(i:Int)]).flatMap encI)] y5):=hide ((uh hP).sub (List.sublist_append_left _ ([(bt,3,#[.int .i64 (i:Int)])] : List Cl)) (List.Sublist.refl _))
    refine wpO_want rfl ?_
    go_simp
    refine wpO_done ?_
    try go_frame
    go_wp2_with fail
    refine ⟨n2-(i+1),?_,by have:=uh hfm';have:=uh hi2;omega⟩
    rw [uh hI2_2]
    exact ⟨i+1,A6,q+1,cA6,xs++[((i:Nat) : Int)],(by first | rfl | trivial),(by first | rfl | trivial),(by first | rfl | trivial),(by first | rfl | trivial),(by first | rfl | (show _=Value.int _ _;go_num) | go_num),(by first | rfl | trivial),by have:=uh hi2;omega,(by rw [List.length_append, ← uh hq'];rfl),(by obtain ⟨h1,h2⟩:=uh hxe';rw [uh hnx,h2,if_neg (by rw [← uh hj];simp),List.map_append, ← uh hxs'];rfl),uh hP,rfl⟩
   ·skip
    go_wp2_with fail
    refine ⟨n2-(i+1),?_,by have:=uh hfm';have:=uh hi2;omega⟩
    rw [uh hI2_2]
    exact ⟨i+1,A5,q,c5,xs,(by first | rfl | trivial),(by first | rfl | trivial),(by first | rfl | trivial),(by first | rfl | trivial),(by first | rfl | (show _=Value.int _ _;go_num) | go_num),(by first | rfl | trivial),by have:=uh hi2;omega,uh hq',(by obtain ⟨h1,h2⟩:=uh hxe';rw [uh hnx,h2,if_pos (by rw [← uh hj]),List.append_nil];exact uh hxs'),uh hP,rfl⟩
  ·skip
   have hil:¬ (i:Int) < (n2:Int):=by omega
   obtain rfl:i=E2.length:=by have:=uh hn2';omega
   clear hlt hin
   have q1:=(uh hP).cell 1 1 (v:=.slice B2 n2 cB2) rfl rfl
   have hself:=Ext.refl wr
   try dsimp only
   repeat ((fail_if_success with_reducible refine wp_reg (id:=3) ?_);first|go_values|go_skip|go_step|go_guarded|go_upon|go_in|go_back)
   with_reducible refine wp_reg (id:=3) ?_
   iterate 5
    refine wpO_want rfl ?_
    go_simp
   clear q1 hself
   refine wpO_done ?_
   try go_frame
   clear hil
   try dsimp only
   repeat ((fail_if_success with_reducible refine wp_reg (id:=7) ?_);first|go_values|go_skip|go_step|go_guarded|go_upon|go_in|go_back)
   with_reducible refine wp_reg (id:=7) ?_
   iterate 2
    refine wpO_want rfl ?_
    go_simp
   refine wpO_done ?_
   try go_frame
   go_wp2_with fail
   refine Sp.leaves0 ?_
   exact ⟨_,results_tmp (t:=4) rfl _ _ _,OwI.mk (by rw [← uh hxs'];exact uh hq') (by have h:=(uh hP).row 0 rfl;rw [uh hq',uh hxs'] at h;exact h) (Nat.le_refl _) (uh hP).extf⟩
theorem run_store_fld {P:Program} {ρ:Operand→Value} {o:Oper} {t:TypeId} {p x:Operand} {w:World} {b i:Nat} {cs cs':Array Value} {v:Value} {t0:TypeId} (ho:o.op=.store t p x) (hp:ρ p=.pointer (some ⟨b,i,none⟩)) (hx:ρ x=v) (hcl:v.cells=#[v]) (h1:v.oneCell'=true) (hs:(sizeOf t).run P w=.ok 1 w) (hb:Blk w b t0 cs) (hi:i < cs.size) (hc:cs.setIfInBounds i v=cs') : (execOp ρ o).run P w=.ok .skip (w.setRow b cs'):=by
 have hst:=run_storeCells_at (P:=P) b i t0 [v] 0 cs w hb (by simp;omega) (fun u hu=>by simp at hu;subst hu;exact h1)
 rw [Nat.add_zero] at hst
 have he:(cs.toList.take i++[v]++cs.toList.drop (i+1)).toArray=cs':=by
  rw [← hc]
  have:cs.toList.take i++[v]++cs.toList.drop (i+1)=cs.toList.set i v:=by
   rw [List.set_eq_take_append_cons_drop,if_pos (by simpa using hi)]
   simp
  rw [this]
  apply Array.ext'
  simp
 simp only [List.length_cons,List.length_nil,Nat.zero_add] at hst
 rw [he] at hst
 unfold execOp
 simp only [ho,hp,hx]
 simp [Instr.storeAt,Instr.sureAddr,storeVar,hs,hst,hcl,Result.andThen]
theorem rowIn {wf w W:World} {T0:List Nat} {ds:List Deferred} {L:List Cl} {Rs:List Rw} (_h:Sp wf T0 w ds L Rs W) (i:Nat) {T k n:Nat} {v:Value} {xs:List Value} (hi:Rs[i]? = some (T,k,v,n,xs)) (hk:k≠0:=by decide) : ∀ z∈v.ownBlock.toList,z∈stT L Rs:=fun z hz=>List.mem_append.2 (.inr (mem_rwT.2 ⟨_,List.mem_of_getElem? hi,by rw [rwB_slice hk];simpa using hz⟩))
theorem infoER:(Tryz.prog.info? 142).map (fun i=>(i.zero.map (·.cells.size),i.size,i.bytes))=some (some 4,4,32):=by kernel_rfl
theorem one_encER (x:(Int×Int)×Thing) : ∀ v∈encE x,v.oneCell'=true:=by intro v hv;simp [encE] at hv;rcases hv with rfl | rfl | rfl | rfl <;> rfl
theorem run_buildE {ρ:Operand→Value} {o:Oper} {x:Operand} {w:World} {u v lab wt:Int} (ho:o.op=.buildSlice 28 1 #[(0,x)]) (hx:ρ x=.agg #[.int .i64 u,.int .i64 v,.int .u8 lab,.int .i64 wt]) : (execOp ρ o).run Tryz.prog w=.ok (.value (.slice (some ⟨w.heap.size,0,none⟩) 1 1)) (w.alloc (.cells #[.int .i64 u,.int .i64 v,.int .u8 lab,.int .i64 wt] 142)):=by
 unfold execOp
 simp only [ho]
 simp [go_sem,hx]
def CuPost (A2:Option Addr) (nV cA2:Nat) (X:List ((Int×Int)×Thing)) (w:World) (e:Ending) (w':World) : Prop:=∃ B c,e=.returned (.agg #[.slice A2 nV cA2,.slice B X.length c])∧SlAt encE 4 w' B X∧Ext w w'
theorem CuPost.mk {A2 B:Option Addr} {nV cA2 n c:Nat} {X:List ((Int×Int)×Thing)} {w w':World} (hn:n=X.length) (h:SlAt encE 4 w' B X) (hx:Ext w w') : CuPost A2 nV cA2 X w (.returned (.agg #[.slice A2 nV cA2,.slice B n c])) w':=⟨B,c,by rw [hn],h,hx⟩
theorem erase_le {α:Type} (l:List α) (i:Nat) : (l.eraseIdx i).length≤l.length:=by
 rw [List.length_eraseIdx]
 split <;> omega
theorem cut25_any (A2 B2:Option Addr) (V2:List (Int×Thing)) (E2:List ((Int×Int)×Thing)) (n2 cA2 cB2:Nat) (k0:Nat) (w:World) (hE2:SlAt encE 4 w B2 E2) (hl2:n2≤4096) (hn2:n2=E2.length) :
  Calls Tryz.prog 105 #[.agg #[.slice A2 V2.length cA2,.slice B2 n2 cB2],.int .i64 (k0:Nat)] w (CuPost A2 V2.length cA2 (E2.eraseIdx k0) w):=by
 have hE2':=hide hE2
 have hl2':=hide hl2
 have hn2':=hide hn2
 clear hE2 hl2 hn2
 have hP:=hide (Sp.new w)
 refine callsIn_wide.1 (callsIn_of_wp_marks (n:=0) Tryz.func105 rfl trivial (wpIn_wide.2 ?_))
 simp only [Tryz.ntmps105,List.size_toArray,List.length_cons,List.length_nil,Nat.reduceAdd,Nat.reduceSub,Array.replicate_succ,Array.replicate_zero,List.push_toArray,List.append_toArray,List.nil_append,List.cons_append]
 try dsimp only
 repeat ((fail_if_success with_reducible refine wp_reg (id:=0) ?_);first|go_values|go_skip|go_step|go_guarded|go_upon|go_in|go_back)
 with_reducible refine wp_reg (id:=0) ?_
 refine (uh hP).allocO 30 #[.slice A2 V2.length cA2,.slice B2 n2 cB2] rfl (run_box (v:=.agg #[.slice A2 V2.length cA2,.slice B2 n2 cB2]) rfl rfl) ?_
 intro r2 y1 hQ
 replace hP:=hide hQ
 clear hQ
 refine (uh hP).allocO 30 #[.slice none 0 0,.slice none 0 0] rfl (by go_simp) ?_
 intro r4 y2 hQ
 replace hP:=hide hQ
 clear hQ
 refine wpO_done ?_
 try go_frame
 try dsimp only
 repeat ((fail_if_success with_reducible refine wp_reg (id:=1) ?_);first|go_values|go_skip|go_step|go_guarded|go_upon|go_in|go_back)
 with_reducible refine wp_reg (id:=1) ?_
 have q0:=(uh hP).cell 0 0 (v:=.slice A2 V2.length cA2) rfl rfl
 have hself:=Ext.refl y2
 iterate 3
  refine wpO_want rfl ?_
  go_simp
 clear q0 hself
 refine (uh hP).allocO 30 #[.slice none 0 0,.slice none 0 0] rfl (by go_simp) ?_
 intro r5 y3 hQ
 replace hP:=hide hQ
 clear hQ
 refine (uh hP).setO 2 #[.slice A2 V2.length cA2,.slice none 0 0] rfl rfl (fun hb=>run_store_row (v:=.agg #[.slice A2 V2.length cA2,.slice none 0 0]) rfl (by rfl) (by rfl) (by simp [go_sem]) hb rfl (fun u hu=>by simp [Value.cells] at hu;rcases hu with rfl | rfl <;> rfl)) ?_
 intro y4 hQ
 replace hP:=hide hQ
 clear hQ
 refine wpO_done ?_
 try go_frame
 replace hP:Hid (Sp w [] w [] [(r2,30,#[.slice A2 V2.length cA2,.slice B2 n2 cB2]),(r4,30,#[.slice none 0 0,.slice none 0 0]),(r5,30,#[.slice A2 V2.length cA2,.slice none 0 0])] [(142,4,.slice none 0 0,0,([] : List ((Int×Int)×Thing)).flatMap encE)] y4):=hide ((uh hP).nil 142 4)
 try dsimp only
 repeat ((fail_if_success with_reducible refine wp_reg (id:=2) ?_);first|go_values|go_skip|go_step|go_guarded|go_upon|go_in|go_back)
 with_reducible refine wp_reg (id:=2) ?_
 refine wpO_want rfl ?_
 go_simp
 refine wpO_done ?_
 try go_frame
 go_wp2_with fail
 obtain ⟨I4_2,hI4_20⟩ : ∃ I:Nat→Act→World→Prop,I=fun fi a' wr=>∃ (i:Nat), ∃ (A5:Option Addr), ∃ (q:Nat), ∃ (c5:Nat), ∃ (xs:List ((Int×Int)×Thing)),a'.tmps.size=31∧a'.tmps.getD 1 undef=.int .i64 (k0:Nat)∧a'.tmps.getD 2 undef=.pointer (some ⟨r2,0,none⟩)∧a'.tmps.getD 4 undef=.pointer (some ⟨r4,0,none⟩)∧a'.tmps.getD 5 undef=.pointer (some ⟨r5,0,none⟩)∧a'.tmps.getD 6 undef=.int .i64 (i:Nat)∧a'.defers=[]∧i≤n2∧q=xs.length∧xs=(E2.take i).eraseIdx k0∧Sp w [] w [] [(r2,30,#[.slice A2 V2.length cA2,.slice B2 n2 cB2]),(r4,30,#[.slice none 0 0,.slice none 0 0]),(r5,30,#[.slice A2 V2.length cA2,.slice A5 q c5])] [(142,4,.slice A5 q c5,q,xs.flatMap encE)] wr∧fi=n2-i:=⟨_,rfl⟩
 have hI4_2:=hide hI4_20
 clear hI4_20
 refine wp_loop_ix I4_2 (n2-0) ?_ ?_
 ·rw [uh hI4_2];exact ⟨0,none,0,0,[],rfl,rfl,rfl,rfl,rfl,rfl,rfl,Nat.zero_le _,rfl,rfl,uh hP,rfl⟩
 ·rintro fi ⟨tm,dfs⟩ wr hrel
  rw [uh hI4_2] at hrel
  obtain ⟨i,A5,q,c5,xs,hsz,e1,e2,e4,e5,e6,hdf,hin,hq,hxs,hPr,hfm⟩:=hrel
  obtain ⟨us,rfl⟩ : ∃ us:Nat→Value,tm=#[us 0,us 1,us 2,us 3,us 4,us 5,us 6,us 7,us 8,us 9,us 10,us 11,us 12,us 13,us 14,us 15,us 16,us 17,us 18,us 19,us 20,us 21,us 22,us 23,us 24,us 25,us 26,us 27,us 28,us 29,us 30]:=⟨fun i=>tm.getD i undef,arr_fn hsz⟩
  have h1:us 1=.int .i64 (k0:Nat):=e1
  have h2:us 2=.pointer (some ⟨r2,0,none⟩):=e2
  have h4:us 4=.pointer (some ⟨r4,0,none⟩):=e4
  have h5:us 5=.pointer (some ⟨r5,0,none⟩):=e5
  have h6:us 6=.int .i64 (i:Nat):=e6
  have hdf2:dfs=[]:=hdf
  subst hdf2
  clear hdf hsz e1 e2 e4 e5 e6
  simp only [h1,h2,h4,h5,h6]
  clear h1 h2 h4 h5 h6
  clear hP
  have hP:=hide hPr
  clear hPr
  have hq':=hide hq
  have hxs':=hide hxs
  have hfm':=hide hfm
  clear hq hxs hfm
  by_cases hlt:i < n2
  ·skip
   have hil:(i:Int) < (n2:Int):=by omega
   have hi2:=hide hlt
   have hiE:i < E2.length:=by rw [← uh hn2'];exact hlt
   have hib:=hide (show (i:Int)≤4096 by have:=uh hl2';omega)
   have hqb:=hide (show q≤4096 by rw [uh hq',uh hxs'];exact Nat.le_trans (erase_le _ _) (by rw [List.length_take];have:=uh hl2';omega))
   have hiE2:=hide hiE
   have hnx:=hide (cutI_next k0 (uh hiE2))
   obtain ⟨b9,o9,u,v,lab,wt,rfl,hxe,hld⟩:=((uh hE2')).edge hiE
   have hld':=hide hld
   have hxe':=hide (Exists.intro hiE hxe:∃ h:i < E2.length,E2[i]=((u,v),(lab,wt)))
   clear hld hxe
   have hld0:=hide (fun (W:World) (hW:Ext w W)=>uh hld' W (hW.keep []))
   clear hlt hin hiE
   have q1:=(uh hP).cell 0 1 (v:=.slice (some ⟨b9,o9,none⟩) n2 cB2) rfl rfl
   have hself:=Ext.refl wr
   try dsimp only
   repeat ((fail_if_success with_reducible refine wp_reg (id:=3) ?_);first|go_values|go_skip|go_step|go_guarded|go_upon|go_in|go_back)
   with_reducible refine wp_reg (id:=3) ?_
   iterate 5
    refine wpO_want rfl ?_
    go_simp
   clear q1 hself
   refine wpO_done ?_
   try go_frame
   clear hil
   have hib3:=uh hib
   by_cases hk:i=k0
   ·skip
    have hkk:((i:Int) != (k0:Int))=false:=by simp [hk]
    have hk':=hide hk
    clear hk
    try dsimp only
    repeat ((fail_if_success with_reducible refine wp_reg (id:=5) ?_);first|go_values|go_skip|go_step|go_guarded|go_upon|go_in|go_back)
    with_reducible refine wp_reg (id:=5) ?_
    iterate 3
     refine wpO_want rfl ?_
     go_simp
    refine wpO_done ?_
    try go_frame
    clear hkk
    go_wp2_with fail
    refine ⟨n2-(i+1),?_,by have:=uh hfm';have:=uh hi2;omega⟩
    rw [uh hI4_2]
    exact ⟨i+1,A5,q,c5,xs,(by first | rfl | trivial),(by first | rfl | trivial),(by first | rfl | trivial),(by first | rfl | trivial),(by first | rfl | trivial),(by first | rfl | (show _=Value.int _ _;go_num) | go_num),(by first | rfl | trivial),by have:=uh hi2;omega,uh hq',(by rw [uh hnx,if_pos (uh hk'),List.append_nil];exact uh hxs'),uh hP,rfl⟩
   ·skip
    have hkk:((i:Int) != (k0:Int))=true:=by simp;omega
    have hk':=hide hk
    clear hk
    try dsimp only
    repeat ((fail_if_success with_reducible refine wp_reg (id:=5) ?_);first|go_values|go_skip|go_step|go_guarded|go_upon|go_in|go_back)
    with_reducible refine wp_reg (id:=5) ?_
    iterate 3
     refine wpO_want rfl ?_
     go_simp
    refine wpO_done ?_
    try go_frame
    clear hkk
    go_wp2_with fail
    have hin3:(i:Int) < (n2:Int):=by have:=uh hi2;omega
    have ho2:r2 ∉ (Value.slice A5 q c5).ownBlock.toList:=(uh hP).ne_row 0 0 rfl rfl
    have ho5:r5 ∉ (Value.slice A5 q c5).ownBlock.toList:=(uh hP).ne_row 2 0 rfl rfl
    have hself:=Keep.refl (Value.slice A5 q c5).ownBlock.toList wr
    have q0:=(uh hP).cellK (S:=(Value.slice A5 q c5).ownBlock.toList) 2 1 (v:=.slice A5 q c5) rfl rfl ho5
    have q1:=(uh hP).cellK (S:=(Value.slice A5 q c5).ownBlock.toList) 0 1 (v:=.slice (some ⟨b9,o9,none⟩) n2 cB2) rfl rfl ho2
    have hwhole:=hide (fun (W:World) (hW:Keep (Value.slice A5 q c5).ownBlock.toList wr W)=>uh hld0 W ((uh hP).extf.of_new hW (fun z hz=>(uh hP).st.ge z (rowIn (uh hP) 0 rfl (by decide) z hz))))
    refine wp_regionK (P:=Tryz.prog) (Value.slice A5 q c5).ownBlock.toList [0,1,2,3,4,5,6] [10] 4 #[true,true,true,true,true,true,true,false,false,false,false] (by kernel_rfl) (by kernel_rfl) rfl (by rfl) ?_
    iterate 6
     refine ql_want (v:=?_) rfl (by rfl) (fun W hW=>?_) ?_
     rotate_left
     ·go_simp
      first | done | rfl
     go_frame
    refine ql_want (v:=.agg #[.int .i64 u,.int .i64 v,.int .u8 lab,.int .i64 wt]) rfl (by rfl) (fun W hW=>qUpon_ofX (run_load_agg (cs:=#[.int .i64 u,.int .i64 v,.int .u8 lab,.int .i64 wt]) rfl rfl (by simp [go_sem]) (by simp [go_sem]) (uh hwhole W hW))) ?_
    go_frame
    refine wpQL_nil (fun y5 hxq=>?_)
    have hK:=hide (hxq.keep (Value.slice A5 q c5).ownBlock.toList)
    replace hP:=hide ((uh hP).ext hxq)
    clear hxq
    clear q0 q1 ho2 ho5 hself hwhole hin3
    refine lx_one (i:=7) (by kernel_rfl) rfl (by rfl) #[true,true,true,true,true,true,true,true,false,false,false] (by rfl) ?_
    refine (uh hP).allocL (uh hK) (v:=fun b=>.slice (some ⟨b,0,none⟩) 1 1) 142 #[.int .i64 u,.int .i64 v,.int .u8 lab,.int .i64 wt] ?_ ?_
    ·exact run_buildE rfl rfl
    intro bn y6 hQ hK2 hg2
    replace hP:=hide hQ
    replace hK:=hide hK2
    have hge_bn:=hide hg2
    clear hQ hK2 hg2
    try go_frame
    refine lx_one (i:=8) (by kernel_rfl) rfl (by rfl) #[true,true,true,true,true,true,true,true,true,false,false] (by rfl) ?_
    refine (uh hP).ap1L (uh hK) (enc:=encE) (T:=142) (ST:=28) 0 (v:=.slice A5 q c5) (m:=q) (xs:=xs) rfl (fun z hz=>.inl hz) infoER Tryz.underlying28 one_encER (fun _=>rfl) (by decide) (by decide) rfl (((u,v),(lab,wt)) : (Int×Int)×Thing) rfl rfl ((uh hP).get 3 rfl) (by have:=uh hqb;omega) ?_
    intro A8 cA8 y7 hQ hK2 hg2
    replace hP:=hide hQ
    replace hK:=hide hK2
    have hge_A8:=hide hg2
    clear hQ hK2 hg2
    try go_frame
    refine lx_one (i:=9) (by kernel_rfl) rfl (by rfl) #[true,true,true,true,true,true,true,true,true,true,false] (by rfl) ?_
    refine (uh hP).valL (uh hK) (v:=.pointer (some ⟨r5,1,none⟩)) ?_ ?_
    ·go_simp
    intro y8 hQ hK2
    replace hP:=hide hQ
    replace hK:=hide hK2
    clear hQ hK2
    try go_frame
    refine (uh hP).setX 2 #[.slice A2 V2.length cA2,.slice A8 (q+1) cA8] rfl (j:=10) (by kernel_rfl) rfl (by rfl) #[true,true,true,true,true,true,true,true,true,true,true] (by rfl) rfl (fun hb=>run_store_fld (i:=1) (v:=.slice A8 (q+1) cA8) rfl rfl rfl rfl rfl (by simp [go_sem]) hb (by simp) rfl) ?_
    intro y9 hQ
    replace hP:=hide hQ
    clear hQ
    try go_frame
    refine wpX_done (by kernel_rfl) ?_
    try go_frame
    clear hK
    clear hge_bn hge_A8
    replace hP:Hid (Sp w [] w [] [(r2,30,#[.slice A2 V2.length cA2,.slice (some ⟨b9,o9,none⟩) n2 cB2]),(r4,30,#[.slice none 0 0,.slice none 0 0]),(r5,30,#[.slice A2 V2.length cA2,.slice A8 (q+1) cA8])] [(142,4,.slice A8 (q+1) cA8,q+1,(xs++[(((u,v),(lab,wt)) : (Int×Int)×Thing)]).flatMap encE)] y9):=hide ((uh hP).sub (List.sublist_append_left _ ([(bn,142,#[.int .i64 u,.int .i64 v,.int .u8 lab,.int .i64 wt])] : List Cl)) (List.Sublist.refl _))
    go_wp2_with fail
    refine ⟨n2-(i+1),?_,by have:=uh hfm';have:=uh hi2;omega⟩
    rw [uh hI4_2]
    exact ⟨i+1,A8,q+1,cA8,xs++[(((u,v),(lab,wt)) : (Int×Int)×Thing)],(by first | rfl | trivial),(by first | rfl | trivial),(by first | rfl | trivial),(by first | rfl | trivial),(by first | rfl | trivial),(by first | rfl | (show _=Value.int _ _;go_num) | go_num),(by first | rfl | trivial),by have:=uh hi2;omega,(by rw [List.length_append, ← uh hq'];rfl),(by obtain ⟨h1,h2⟩:=uh hxe';rw [uh hnx,if_neg (uh hk'),h2, ← uh hxs']),uh hP,rfl⟩
  ·skip
   have hil:¬ (i:Int) < (n2:Int):=by omega
   have hxe:=hide (show xs=E2.eraseIdx k0 by rw [uh hxs',List.take_of_length_le (by rw [← uh hn2'];omega)])
   clear hlt hin
   have q1:=(uh hP).cell 0 1 (v:=.slice B2 n2 cB2) rfl rfl
   have hself:=Ext.refl wr
   try dsimp only
   repeat ((fail_if_success with_reducible refine wp_reg (id:=3) ?_);first|go_values|go_skip|go_step|go_guarded|go_upon|go_in|go_back)
   with_reducible refine wp_reg (id:=3) ?_
   iterate 5
    refine wpO_want rfl ?_
    go_simp
   clear q1 hself
   refine wpO_done ?_
   try go_frame
   clear hil
   try dsimp only
   repeat ((fail_if_success with_reducible refine wp_reg (id:=7) ?_);first|go_values|go_skip|go_step|go_guarded|go_upon|go_in|go_back)
   with_reducible refine wp_reg (id:=7) ?_
   refine wpO_val rfl (run_load_agg (cs:=#[.slice A2 V2.length cA2,.slice A5 q c5]) rfl rfl (by simp [go_sem]) (by simp [go_sem]) ((uh hP).get 2 rfl).whole) ?_
   go_frame
   refine (uh hP).setO 1 #[.slice A2 V2.length cA2,.slice A5 q c5] rfl rfl (fun hb=>run_store_row (v:=.agg #[.slice A2 V2.length cA2,.slice A5 q c5]) rfl (by rfl) (by rfl) (by simp [go_sem]) hb rfl (fun u hu=>by simp [Value.cells] at hu;rcases hu with rfl | rfl <;> rfl)) ?_
   intro y5 hQ
   replace hP:=hide hQ
   clear hQ
   refine wpO_done ?_
   try go_frame
   go_wp2_with fail
   refine Sp.leaves0 ?_
   have h5:=(uh hP).get 1 rfl
   exact ⟨_,ret_cell1 (t:=4) rfl rfl (load_G _ r4 _ _ (h5.cell 0) (h5.cell 1)),CuPost.mk (by rw [← uh hxe];exact uh hq') (by rw [← uh hxe];exact own_at (enc:=encE) (by have h:=(uh hP).row 0 rfl;rw [uh hq'] at h;exact h) (fun _=>rfl)) (uh hP).extf⟩
theorem erase_inv {V:List (Int×Thing)} {E:List ((Int×Int)×Thing)} (hi:GInv V E) {j:Nat} (h:j < E.length) : GInv V (E.eraseIdx j):=by
 rw [cut_idx hi h]
 exact cut_inv hi _
theorem any_next {α:Type} (p:α→Bool) (l:List α) {k:Nat} (h:k < l.length) : (l.take (k+1)).any p=((l.take k).any p || p l[k]):=by
 rw [List.take_succ_eq_append_getElem h,List.any_append,List.any_cons,List.any_nil,Bool.or_false]
theorem any_hit {α:Type} (p:α→Bool) (l:List α) {k:Nat} (h:k < l.length) (h2:p l[k]=true) : l.any p=true:=List.any_eq_true.2 ⟨l[k],List.getElem_mem h,h2⟩
theorem least25_any (A1 B1:Option Addr) (V:List (Int×Thing)) (E:List ((Int×Int)×Thing)) (cA cB:Nat) (A2 B2:Option Addr) (V2:List (Int×Thing)) (E2:List ((Int×Int)×Thing)) (n2 cA2 cB2:Nat) (w:World) (hi2:GInv V2 E2) (hV2:SlAt encV 3 w A2 V2) (hVl2:V2.length≤100) (hE:SlAt encE 4 w B1 E) (hE2:SlAt encE 4 w B2 E2) (hl:E.length≤4096) (hl2:n2≤4096) (hn2:n2=E2.length) :
  Calls Tryz.prog 42 #[.agg #[.slice A1 V.length cA,.slice B1 E.length cB],.agg #[.slice A2 V2.length cA2,.slice B2 n2 cB2]] w fun e w'=>e=.returned (.bool (leastB V2 E E2))∧Ext w w':=by
 obtain ⟨NN,hNN0⟩ : ∃ N,N=moreN E E2 E2.length:=⟨_,rfl⟩
 have hNb:=hide (show ∀ j∈NN,j < E2.length from fun j hj=>by rw [hNN0] at hj;exact moreN_lt j hj)
 have hNl:=hide (show NN.length≤4096 by rw [hNN0];exact Nat.le_trans (moreN_le _ _ _) (by omega))
 have hch:=hide (fun (W:World) (hW:Ext w W)=>chordal25_any A2 B2 V2 E2 cA2 cB2 W hi2 (hV2.ext hW) hVl2 (hE2.ext hW) (show E2.length≤4096 by omega))
 rw [← hn2] at hch
 have hmore:=hide (fun (W:World) (hW:Ext w W)=>more_any A1 B1 V E cA cB A2 B2 V2 E2 n2 cA2 cB2 W (hE.ext hW) (hE2.ext hW) hl hl2 hn2)
 rw [← hNN0] at hmore
 have hcut:=hide (fun (k0:Nat) (W:World) (hW:Ext w W)=>cut25_any A2 B2 V2 E2 n2 cA2 cB2 k0 W (hE2.ext hW) hl2 hn2)
 have hch2:=hide (fun (j:Nat) (hj:j∈NN) (B3:Option Addr) (c3:Nat) (W:World) (hW:Ext w W) (h3:SlAt encE 4 W B3 (E2.eraseIdx j))=>chordal25_any A2 B3 V2 (E2.eraseIdx j) cA2 c3 W (erase_inv hi2 (uh hNb j hj)) (hV2.ext hW) hVl2 h3 (Nat.le_trans (erase_le _ _) (by omega)))
 obtain ⟨R,hR0⟩ : ∃ R,R=leastB V2 E E2:=⟨_,rfl⟩
 obtain ⟨q0,hq00⟩ : ∃ q,q=choB V2 E2:=⟨_,rfl⟩
 have hR:=hide (show R=(q0 && !NN.any fun j=>goN V2 E2 j) by rw [hR0,hq00,hNN0,any_more hi2];rfl)
 rw [← hR0]
 rw [← hq00] at hch
 obtain ⟨ML,hML0⟩ : ∃ M,M=NN.map fun j=>((j:Nat) : Int):=⟨_,rfl⟩
 rw [← hML0] at hmore
 have hML:=hide hML0
 obtain ⟨n5,hn50⟩ : ∃ n,n=ML.length:=⟨_,rfl⟩
 have hn5:=hide hn50
 have hn5N:=hide (show n5=NN.length by rw [hn50,hML0,List.length_map])
 clear hNN0 hR0 hq00 hML0 hn50
 have hi2':=hide hi2
 have hV2':=hide hV2
 have hVl2':=hide hVl2
 have hE':=hide hE
 have hE2':=hide hE2
 have hl':=hide hl
 have hl2':=hide hl2
 have hn2':=hide hn2
 clear hi2 hV2 hVl2 hE hE2 hl hl2 hn2
 have hP:=hide (Sp.new w)
 refine callsIn_wide.1 (callsIn_of_wp_marks (n:=0) Tryz.func42 rfl trivial (wpIn_wide.2 ?_))
 simp only [Tryz.ntmps42,List.size_toArray,List.length_cons,List.length_nil,Nat.reduceAdd,Nat.reduceSub,Array.replicate_succ,Array.replicate_zero,List.push_toArray,List.append_toArray,List.nil_append,List.cons_append]
 try dsimp only
 repeat ((fail_if_success with_reducible refine wp_reg (id:=0) ?_);first|go_values|go_skip|go_step|go_guarded|go_upon|go_in|go_back)
 with_reducible refine wp_reg (id:=0) ?_
 refine (uh hP).allocO 30 #[.slice A1 V.length cA,.slice B1 E.length cB] rfl (run_box (v:=.agg #[.slice A1 V.length cA,.slice B1 E.length cB]) rfl rfl) ?_
 intro r2 y1 hQ
 replace hP:=hide hQ
 clear hQ
 refine (uh hP).allocO 30 #[.slice A2 V2.length cA2,.slice B2 n2 cB2] rfl (run_box (v:=.agg #[.slice A2 V2.length cA2,.slice B2 n2 cB2]) rfl rfl) ?_
 intro r3 y2 hQ
 replace hP:=hide hQ
 clear hQ
 refine wpO_want rfl ?_
 go_simp
 refine wpO_done ?_
 try go_frame
 try dsimp only
 repeat ((fail_if_success with_reducible refine wp_reg (id:=1) ?_);first|go_values|go_skip|go_step|go_guarded|go_upon|go_in|go_back)
 with_reducible refine wp_reg (id:=1) ?_
 refine wpO_val rfl (run_load_agg (cs:=#[.slice A2 V2.length cA2,.slice B2 n2 cB2]) rfl rfl (by simp [go_sem]) (by simp [go_sem]) ((uh hP).get 1 rfl).whole) ?_
 go_frame
 refine wpO_want rfl ?_
 go_simp
 have hca:=uh hch y2 (uh hP).extf
 refine hca.mono ?_
 clear hca
 rintro _ y3 ⟨rfl,hxc⟩
 refine ⟨_,rfl,?_⟩
 replace hP:=hide ((uh hP).ext hxc)
 clear hxc
 try go_frame
 refine wpO_want rfl ?_
 go_simp
 refine wpO_done ?_
 try go_frame
 cases q0
 ·skip
  have hre:=hide (show R=false by rw [uh hR,Bool.false_and])
  go_wp2_with fail
  refine Sp.leaves0 ?_
  exact ⟨_,results_tmp (t:=4) rfl _ _ _,by rw [uh hre];rfl,(uh hP).extf⟩
 ·skip
  try dsimp only
  repeat ((fail_if_success with_reducible refine wp_reg (id:=3) ?_);first|go_values|go_skip|go_step|go_guarded|go_upon|go_in|go_back)
  with_reducible refine wp_reg (id:=3) ?_
  refine wpO_val rfl (run_load_agg (cs:=#[.slice A1 V.length cA,.slice B1 E.length cB]) rfl rfl (by simp [go_sem]) (by simp [go_sem]) ((uh hP).get 0 rfl).whole) ?_
  go_frame
  refine wpO_val rfl (run_load_agg (cs:=#[.slice A2 V2.length cA2,.slice B2 n2 cB2]) rfl rfl (by simp [go_sem]) (by simp [go_sem]) ((uh hP).get 1 rfl).whole) ?_
  go_frame
  refine wpO_want rfl ?_
  go_simp
  have hca:=uh hmore y3 (uh hP).extf
  unfold OwI at hca
  rw [← uh hn5] at hca
  refine hca.mono ?_
  clear hca
  rintro _ y4 ⟨A5,c5,rfl,ho,hxc⟩
  have hs5:=hide (own_at (enc:=encI) (xs:=ML) (by rw [uh hn5] at ho;exact ho) (fun _=>rfl))
  clear ho
  refine ⟨_,rfl,?_⟩
  replace hP:=hide ((uh hP).ext hxc)
  clear hxc
  try go_frame
  refine wpO_want rfl ?_
  go_simp
  refine wpO_done ?_
  try go_frame
  try dsimp only
  repeat ((fail_if_success with_reducible refine wp_reg (id:=4) ?_);first|go_values|go_skip|go_step|go_guarded|go_upon|go_in|go_back)
  with_reducible refine wp_reg (id:=4) ?_
  refine wpO_want rfl ?_
  go_simp
  refine wpO_done ?_
  try go_frame
  go_wp2_with fail
  have hb3:=hide ((uh hP).get 1 rfl)
  have hxwo:=hide (uh hP).extf
  clear hP
  generalize y4=wo at *
  have hP:=hide (Sp.new wo)
  obtain ⟨I4_4,hI4_40⟩ : ∃ I:Nat→Act→World→Prop,I=fun fi a' wr=>∃ (i:Nat),a'.tmps.size=26∧a'.tmps.getD 3 undef=.pointer (some ⟨r3,0,none⟩)∧a'.tmps.getD 5 undef=.slice A5 n5 c5∧a'.tmps.getD 6 undef=.int .i64 (i:Nat)∧a'.defers=[]∧i≤n5∧((NN.take i).any (fun j=>goN V2 E2 j)=false)∧fi=n5-i∧Ext wo wr:=⟨_,rfl⟩
  have hI4_4:=hide hI4_40
  clear hI4_40
  refine wp_loop_ix I4_4 (n5-0) ?_ ?_
  ·rw [uh hI4_4];exact ⟨0,rfl,rfl,rfl,rfl,rfl,Nat.zero_le _,rfl,rfl,Ext.refl _⟩
  ·rintro fi ⟨tm,dfs⟩ wr hrel
   rw [uh hI4_4] at hrel
   obtain ⟨i,hsz,e3,e5,e6,hdf,hin,hno,hfm,hPx⟩:=hrel
   obtain ⟨us,rfl⟩ : ∃ us:Nat→Value,tm=#[us 0,us 1,us 2,us 3,us 4,us 5,us 6,us 7,us 8,us 9,us 10,us 11,us 12,us 13,us 14,us 15,us 16,us 17,us 18,us 19,us 20,us 21,us 22,us 23,us 24,us 25]:=⟨fun i=>tm.getD i undef,arr_fn hsz⟩
   have h3:us 3=.pointer (some ⟨r3,0,none⟩):=e3
   have h5:us 5=.slice A5 n5 c5:=e5
   have h6:us 6=.int .i64 (i:Nat):=e6
   have hdf2:dfs=[]:=hdf
   subst hdf2
   clear hdf hsz e3 e5 e6
   simp only [h3,h5,h6]
   clear h3 h5 h6
   clear hP
   have hxwi:=hide hPx
   clear hPx
   generalize wr=wi at *
   have hP:=hide (Sp.new wi)
   have hno':=hide hno
   have hfm':=hide hfm
   clear hno hfm
   by_cases hlt:i < n5
   ·skip
    have hil:(i:Int) < (n5:Int):=by omega
    have hi3:=hide hlt
    have hiN:=hide (show i < NN.length by rw [← uh hn5N];exact hlt)
    have hiM:=hide (show i < ML.length by rw [← uh hn5];exact hlt)
    have hib:=hide (show (i:Int)≤4096 by have:=uh hNl;have:=uh hiN;omega)
    obtain ⟨j,hj0⟩ : ∃ j,j=NN[i]'(uh hiN):=⟨_,rfl⟩
    have hj:=hide hj0
    have hjm:=hide (show j∈NN by rw [hj0];exact List.getElem_mem _)
    have hMj:=hide (show ML[i]'(uh hiM)=((j:Nat) : Int) by
     have h:=uh hML
     subst h
     rw [List.getElem_map, ← hj0])
    obtain ⟨b9,o9,rfl,hcz⟩:=cellI (uh hs5) (uh hiM)
    clear hcz hlt hin hj0
    try dsimp only
    repeat ((fail_if_success with_reducible refine wp_reg (id:=5) ?_);first|go_values|go_skip|go_step|go_guarded|go_upon|go_in|go_back)
    with_reducible refine wp_reg (id:=5) ?_
    iterate 4
     refine wpO_want rfl ?_
     go_simp
    refine wpO_done ?_
    try go_frame
    clear hil
    go_wp2_with fail
    have hin3:(i:Int) < (n5:Int):=by have:=uh hi3;omega
    have hib3:=uh hib
    have c0:=slK ((uh hs5).ext (uh hxwi)) (S:=[]) (by simp) (uh hiM)
    rw [uh hMj] at c0
    have hself:=Keep.refl [] wi
    have hb3i:=hide ((uh hb3).ext (uh hxwi))
    refine wp_regionK (P:=Tryz.prog) [] [0,1,2,3,4] [] 2 #[true,true,true,true,true,false,false] (by kernel_rfl) (by kernel_rfl) rfl (by rfl) ?_
    refine ql_want (v:=.agg #[.slice A2 V2.length cA2,.slice B2 n2 cB2]) rfl (by rfl) (fun W hW=>qUpon_ofX (run_load_agg (cs:=#[.slice A2 V2.length cA2,.slice B2 n2 cB2]) rfl rfl (by simp [go_sem]) (by simp [go_sem]) (((uh hb3i).ext ((uh hP).extf.trans hW.ext)).whole))) ?_
    go_frame
    iterate 4
     refine ql_want (v:=?_) rfl (by rfl) (fun W hW=>?_) ?_
     rotate_left
     ·go_simp
      first | done | rfl
     go_frame
    refine wpQL_nil (fun y5 hxq=>?_)
    have hK:=hide (hxq.keep [])
    replace hP:=hide ((uh hP).ext hxq)
    clear hxq
    clear c0 hself hin3
    obtain ⟨n3,hn30⟩ : ∃ n,n=(E2.eraseIdx j).length:=⟨_,rfl⟩
    have hn3:=hide hn30
    obtain ⟨z,hz0⟩ : ∃ z,z=goN V2 E2 j:=⟨_,rfl⟩
    have hz:=hide hz0
    refine lx_one (i:=5) (by kernel_rfl) rfl (by rfl) #[true,true,true,true,true,true,false] (by rfl) ?_
    have hca:=uh hcut j y5 ((uh hxwo).trans ((uh hxwi).trans (uh hP).extf))
    unfold CuPost at hca
    rw [← hn30] at hca
    clear hn30 hz0
    go_simp
    refine (hca).mono ?_
    rintro _ zy6 ⟨B3,c3,rfl,hs0,hxc⟩
    clear hca
    refine ⟨_,rfl,(uh hK).trans (hxc.keep _),fun y6 hxd=>?_⟩
    replace hP:=hide ((uh hP).ext (hxc.trans hxd))
    replace hK:=hide ((uh hK).trans ((hxc.trans hxd).keep _))
    have hs3:=hide (hs0.ext hxd)
    clear hs0
    clear hxc hxd
    try go_frame
    refine lx_rekeep (uh hK) [6] [] 0 1 #[true,true,true,true,true,true,false] #[true,true,true,true,true,true,true] (by kernel_rfl) rfl (by rfl) ?_
    clear hK
    have hca9:=hide (show ∀ W,Ext y6 W→_ from fun W (hW:Ext y6 W)=>uh hch2 j (uh hjm) B3 c3 W ((uh hxwo).trans ((uh hxwi).trans ((uh hP).extf.trans hW))) ((uh hs3).ext hW))
    rw [← uh hn3,show choB V2 (E2.eraseIdx j)=z from (uh hz).symm] at hca9
    refine ql_want (v:=.bool z) rfl (by rfl) (fun W hW=>?_) ?_
    ·go_simp
     refine (uh hca9 W hW.ext).mono ?_
     rintro _ _ ⟨h1,h2⟩
     exact ⟨_,h1,rfl,h2⟩
    go_frame
    refine wpQL_nil (fun y7 hxq=>?_)
    replace hP:=hide ((uh hP).ext hxq)
    clear hxq
    refine wpX_done (by kernel_rfl) ?_
    try go_frame
    clear hca9
    cases z
    ·skip
     go_wp2_with fail
     refine ⟨n5-(i+1),?_,by have:=uh hfm';have:=uh hi3;omega⟩
     rw [uh hI4_4]
     exact ⟨i+1,(by first | rfl | trivial),(by first | rfl | trivial),(by first | rfl | trivial),(by first | rfl | (show _=Value.int _ _;go_num) | go_num),(by first | rfl | trivial),by have:=uh hi3;omega,(by rw [any_next _ _ (uh hiN),uh hno',Bool.false_or, ← uh hj];exact (uh hz).symm),rfl,(uh hxwi).trans (uh hP).extf⟩
    ·skip
     have hre:=hide (show R=false by rw [uh hR,any_hit (fun j=>goN V2 E2 j) NN (uh hiN) (by rw [← uh hj];exact (uh hz).symm)];rfl)
     go_wp2_with fail
     refine Sp.leaves0 ?_
     exact ⟨_,results_tmp (t:=4) rfl _ _ _,by rw [uh hre];rfl,(uh hxwo).trans ((uh hxwi).trans (uh hP).extf)⟩
   ·skip
    have hil:¬ (i:Int) < (n5:Int):=by omega
    have hre:=hide (show R=true by have h:=uh hno';rw [List.take_of_length_le (by rw [← uh hn5N];omega)] at h;rw [uh hR,h];rfl)
    clear hlt hin
    try dsimp only
    repeat ((fail_if_success with_reducible refine wp_reg (id:=5) ?_);first|go_values|go_skip|go_step|go_guarded|go_upon|go_in|go_back)
    with_reducible refine wp_reg (id:=5) ?_
    iterate 4
     refine wpO_want rfl ?_
     go_simp
    refine wpO_done ?_
    try go_frame
    clear hil
    try dsimp only
    repeat ((fail_if_success with_reducible refine wp_reg (id:=9) ?_);first|go_values|go_skip|go_step|go_guarded|go_upon|go_in|go_back)
    with_reducible refine wp_reg (id:=9) ?_
    refine wpO_want rfl ?_
    go_simp
    refine wpO_done ?_
    try go_frame
    go_wp2_with fail
    refine Sp.leaves0 ?_
    exact ⟨_,results_tmp (t:=4) rfl _ _ _,by rw [uh hre];rfl,(uh hxwo).trans ((uh hxwi).trans (uh hP).extf)⟩
theorem over_any (g bv be f fv fe:Nat) (V:List (Int×Thing)) (E:List ((Int×Int)×Thing)) (V2:List (Int×Thing)) (E2:List ((Int×Int)×Thing)) (w:World) (hg:IsG w g bv be V E) (hf:IsG w f fv fe V2 E2) :
  Calls Tryz.prog 98 #[.pointer (some ⟨g,0,none⟩),.pointer (some ⟨f,0,none⟩)] w (OvPost V E V2 E2 w):=by
 have hg':=hide hg
 have hf':=hide hf
 have hnE:=hide hg.nE
 have hnE2:=hide hf.nE
 clear hg hf
 have hP:=hide (Sp.new w)
 refine callsIn_wide.1 (callsIn_of_wp_marks (n:=0) Tryz.func98 rfl trivial (wpIn_wide.2 ?_))
 simp only [Tryz.ntmps98,List.size_toArray,List.length_cons,List.length_nil,Nat.reduceAdd,Nat.reduceSub,Array.replicate_succ,Array.replicate_zero,List.push_toArray,List.append_toArray,List.nil_append,List.cons_append]
 try dsimp only
 repeat ((fail_if_success with_reducible refine wp_reg (id:=0) ?_);first|go_values|go_skip|go_step|go_guarded|go_upon|go_in|go_back)
 with_reducible refine wp_reg (id:=0) ?_
 iterate 2
  refine wpO_want rfl ?_
  go_simp
 refine wpO_done ?_
 try go_frame
 try dsimp only
 repeat ((fail_if_success with_reducible refine wp_reg (id:=1) ?_);first|go_values|go_skip|go_step|go_guarded|go_upon|go_in|go_back)
 with_reducible refine wp_reg (id:=1) ?_
 iterate 6
  refine wpO_want rfl ?_
  go_simp
 refine wpO_done ?_
 try go_frame
 try dsimp only
 repeat ((fail_if_success with_reducible refine wp_reg (id:=3) ?_);first|go_values|go_skip|go_step|go_guarded|go_upon|go_in|go_back)
 with_reducible refine wp_reg (id:=3) ?_
 refine wpO_want rfl ?_
 go_simp
 refine wpO_want rfl ?_
 go_simp
 refine (vsetG (some ⟨g,0,none⟩) V E w ((GL.of (uh hg')).ext (uh hP).extf)).mono ?_
 rintro _ y1 ⟨rfl,hxc⟩
 refine ⟨_,rfl,?_⟩
 replace hP:=hide ((uh hP).ext hxc)
 clear hxc
 refine wpO_want rfl ?_
 go_simp
 refine wpO_want rfl ?_
 go_simp
 refine (vsetG (some ⟨f,0,none⟩) V2 E2 y1 ((GL.of (uh hf')).ext (uh hP).extf)).mono ?_
 rintro _ y2 ⟨rfl,hxc⟩
 refine ⟨_,rfl,?_⟩
 replace hP:=hide ((uh hP).ext hxc)
 clear hxc
 obtain ⟨q,hq⟩ : ∃ q,q=eqS (vS V) (vS V2):=⟨_,rfl⟩
 have hq':=hide hq
 refine wpO_val (v:=.bool (!q)) rfl (by rw [run_neq_Set (N:=vS V) (M:=vS V2) rfl rfl rfl, ← hq]) ?_
 try go_frame
 refine wpO_done ?_
 try go_frame
 clear hq
 cases q
 ·skip
  go_wp2_with fail
  refine Sp.leaves0 ?_
  exact ⟨_,results_tmp2 (t:=4) (u:=5) rfl _ _ _,.inl ⟨by unfold okO;rw [← uh hq'];rfl,rfl⟩,(uh hP).extf⟩
 ·skip
  try dsimp only
  repeat ((fail_if_success with_reducible refine wp_reg (id:=5) ?_);first|go_values|go_skip|go_step|go_guarded|go_upon|go_in|go_back)
  with_reducible refine wp_reg (id:=5) ?_
  refine wpO_want rfl ?_
  go_simp
  refine wpO_want rfl ?_
  go_simp
  refine (edges_rel g bv be V E y2 ((uh hg').ext (uh hP).extf)).mono ?_
  rintro _ y3 ⟨Aa,ca,rfl,ho,hxc⟩
  obtain ⟨na,hn0⟩ : ∃ n,n=E.length:=⟨_,rfl⟩
  rw [← hn0] at ho
  rw [← hn0]
  have hna:=hide hn0
  clear hn0
  refine ⟨_,rfl,?_⟩
  have hsa:=hide (show SlAt encE 4 y3 Aa E from own_at (enc:=encE) (by rw [uh hna] at ho;exact ho) (fun _=>rfl))
  replace hP:Hid (Sp w [] w [] [] [(61,4,.slice Aa na ca,na,E.flatMap encE)] y3):=hide ((uh hP).addRow hxc ho)
  clear hxc ho
  try go_frame
  iterate 2
   refine wpO_want rfl ?_
   go_simp
  refine wpO_done ?_
  try go_frame
  go_wp2_with fail
  obtain ⟨I3_4,hI3_40⟩ : ∃ I:Nat→Act→World→Prop,I=fun fi a' wr=>∃ (i:Nat),a'.tmps.size=73∧a'.tmps.getD 0 undef=.pointer (some ⟨g,0,none⟩)∧a'.tmps.getD 1 undef=.pointer (some ⟨f,0,none⟩)∧a'.tmps.getD 29 undef=.slice Aa na ca∧a'.tmps.getD 30 undef=.int .i64 (na:Nat)∧a'.tmps.getD 31 undef=.int .i64 (i:Nat)∧a'.defers=[]∧i≤na∧((E.take i).all (fun e=>hasE e.1.1 e.1.2 E2)=true)∧Sp w [] w [] [] [(61,4,.slice Aa na ca,na,E.flatMap encE)] wr∧fi=na-i:=⟨_,rfl⟩
  have hI3_4:=hide hI3_40
  clear hI3_40
  refine wp_loop_ix I3_4 (na-0) ?_ ?_
  ·rw [uh hI3_4];exact ⟨0,rfl,rfl,rfl,rfl,rfl,rfl,rfl,Nat.zero_le _,rfl,uh hP,rfl⟩
  ·rintro fi ⟨tm,dfs⟩ wr hrel
   rw [uh hI3_4] at hrel
   obtain ⟨i,hsz,e0,e1,e29,e30,e31,hdf,hin,hal,hPr,hfm⟩:=hrel
   obtain ⟨us,rfl⟩ : ∃ us:Nat→Value,tm=#[us 0,us 1,us 2,us 3,us 4,us 5,us 6,us 7,us 8,us 9,us 10,us 11,us 12,us 13,us 14,us 15,us 16,us 17,us 18,us 19,us 20,us 21,us 22,us 23,us 24,us 25,us 26,us 27,us 28,us 29,us 30,us 31,us 32,us 33,us 34,us 35,us 36,us 37,us 38,us 39,us 40,us 41,us 42,us 43,us 44,us 45,us 46,us 47,us 48,us 49,us 50,us 51,us 52,us 53,us 54,us 55,us 56,us 57,us 58,us 59,us 60,us 61,us 62,us 63,us 64,us 65,us 66,us 67,us 68,us 69,us 70,us 71,us 72]:=⟨fun i=>tm.getD i undef,arr_fn hsz⟩
   have h0:us 0=.pointer (some ⟨g,0,none⟩):=e0
   have h1:us 1=.pointer (some ⟨f,0,none⟩):=e1
   have h29:us 29=.slice Aa na ca:=e29
   have h30:us 30=.int .i64 (na:Nat):=e30
   have h31:us 31=.int .i64 (i:Nat):=e31
   have hdf2:dfs=[]:=hdf
   subst hdf2
   clear hdf hsz e0 e1 e29 e30 e31
   simp only [h0,h1,h29,h30,h31]
   clear h0 h1 h29 h30 h31
   clear hP
   have hP:=hide hPr
   have hsa:=hide (show SlAt encE 4 wr Aa E from own_at (enc:=encE) (by have h:=(uh hP).row 0 rfl;rw [uh hna] at h;exact h) (fun _=>rfl))
   have hfm':=hide hfm
   have hal':=hide hal
   clear hPr hfm hal
   by_cases hlt:i < na
   ·skip
    have hil:(i:Int) < (na:Int):=by omega
    have hlt':=hide hlt
    have hiE:i < E.length:=by rw [← uh hna];exact hlt
    have hib:(i:Int)≤4096:=by have:=uh hnE;have:=uh hna;omega
    obtain ⟨b9,o9,u,v,lab,wt,rfl,hxe,hld⟩:=(uh hsa).edge hiE
    have hld':=hide hld
    have hxe':=hide (Exists.intro hiE hxe:∃ h:i < E.length,E[i]=((u,v),(lab,wt)))
    clear hlt hin hld hxe hiE hsa
    try dsimp only
    repeat ((fail_if_success with_reducible refine wp_reg (id:=6) ?_);first|go_values|go_skip|go_step|go_guarded|go_upon|go_in|go_back)
    with_reducible refine wp_reg (id:=6) ?_
    refine wpO_want rfl ?_
    go_simp
    refine wpO_done ?_
    try go_frame
    try dsimp only
    repeat ((fail_if_success with_reducible refine wp_reg (id:=7) ?_);first|go_values|go_skip|go_step|go_guarded|go_upon|go_in|go_back)
    with_reducible refine wp_reg (id:=7) ?_
    refine wpO_want rfl ?_
    go_simp
    refine wpO_val (v:=.agg #[.int .i64 u,.int .i64 v,.int .u8 lab,.int .i64 wt]) rfl (load_EdZ rfl rfl (uh hld' _ (Keep.refl [] _))) ?_
    try go_frame
    refine (uh hP).allocO 61 #[.int .i64 0,.int .i64 0,.int .u8 0,.int .i64 0] rfl (by go_simp) ?_
    intro r7 y4 hQ
    replace hP:=hide hQ
    clear hQ
    refine (uh hP).setO 0 #[.int .i64 u,.int .i64 v,.int .u8 lab,.int .i64 wt] rfl rfl (fun hb=>run_store_row (v:=.agg #[.int .i64 u,.int .i64 v,.int .u8 lab,.int .i64 wt]) rfl (by rfl) (by rfl) (by simp [go_sem]) hb rfl (fun u hu=>by simp [Value.cells] at hu;rcases hu with rfl | rfl | rfl | rfl <;> rfl)) ?_
    intro y5 hQ
    replace hP:=hide hQ
    clear hQ
    refine wpO_done ?_
    try go_frame
    clear hil
    try dsimp only
    repeat ((fail_if_success with_reducible refine wp_reg (id:=8) ?_);first|go_values|go_skip|go_step|go_guarded|go_upon|go_in|go_back)
    with_reducible refine wp_reg (id:=8) ?_
    have q0:=(uh hP).cell 0 0 (v:=.int .i64 u) rfl rfl
    have q1:=(uh hP).cell 0 1 (v:=.int .i64 v) rfl rfl
    have hself:=Ext.refl y5
    iterate 5
     refine wpO_want rfl ?_
     go_simp
    clear q0 q1 hself
    refine wpO_want rfl ?_
    go_simp
    obtain ⟨qh,hqh⟩ : ∃ q,q=hasE u v E2:=⟨_,rfl⟩
    have hca:=edge_has f fv fe V2 E2 u v y5 ((uh hf').ext (uh hP).extf)
    rw [← hqh] at hca
    have hqh':=hide hqh
    clear hqh
    refine hca.mono ?_
    clear hca
    rintro _ y6 ⟨x0,x1,x2,x3,kk,rfl,hxc⟩
    refine ⟨_,rfl,?_⟩
    replace hP:=hide ((uh hP).ext hxc)
    clear hxc
    generalize htu0:Value.tuple _=tu
    have htu:=hide htu0
    clear htu0
    refine wpO_val rfl (run_move rfl rfl) ?_
    go_frame
    refine wpO_val rfl (run_extract (i:=0) (v:=.agg #[.int .i64 x0,.int .i64 x1,.int .u8 x2,.int .i64 x3]) rfl (uh htu).symm rfl) ?_
    go_frame
    refine wpO_val rfl (run_extract (i:=1) (v:=.int .i64 kk) rfl (uh htu).symm rfl) ?_
    go_frame
    refine wpO_val rfl (run_extract (i:=2) (v:=.bool qh) rfl (uh htu).symm rfl) ?_
    go_frame
    refine (uh hP).allocO 61 #[.int .i64 0,.int .i64 0,.int .u8 0,.int .i64 0] rfl (by go_simp) ?_
    intro r72 y7 hQ
    replace hP:=hide hQ
    clear hQ
    refine (uh hP).setO 1 #[.int .i64 x0,.int .i64 x1,.int .u8 x2,.int .i64 x3] rfl rfl (fun hb=>run_store_row (v:=.agg #[.int .i64 x0,.int .i64 x1,.int .u8 x2,.int .i64 x3]) rfl (by rfl) (by rfl) (by simp [go_sem]) hb rfl (fun u hu=>by simp [Value.cells] at hu;rcases hu with rfl | rfl | rfl | rfl <;> rfl)) ?_
    intro y8 hQ
    replace hP:=hide hQ
    clear hQ
    iterate 2
     refine wpO_want rfl ?_
     go_simp
    refine wpO_done ?_
    try go_frame
    clear htu
    replace hP:Hid (Sp w [] w [] [(r7,61,#[.int .i64 u,.int .i64 v,.int .u8 lab,.int .i64 wt])] [(61,4,.slice (some ⟨b9,o9,none⟩) na ca,na,E.flatMap encE)] y8):=hide ((uh hP).sub (List.sublist_append_left _ ([(r72,61,#[.int .i64 x0,.int .i64 x1,.int .u8 x2,.int .i64 x3])] : List Cl)) (List.Sublist.refl _))
    try dsimp only
    repeat ((fail_if_success with_reducible refine wp_reg (id:=9) ?_);first|go_values|go_skip|go_step|go_guarded|go_upon|go_in|go_back)
    with_reducible refine wp_reg (id:=9) ?_
    iterate 2
     refine wpO_want rfl ?_
     go_simp
    refine wpO_done ?_
    try go_frame
    cases qh
    ·skip
     have hst:=hide (show okO V E V2 E2=false by obtain ⟨h1,h2⟩:=uh hxe';unfold okO;rw [all_stop (fun e:(Int×Int)×Thing=>hasE e.1.1 e.1.2 E2) E h1 (by rw [h2];exact (uh hqh').symm),Bool.and_false])
     go_wp2_with fail
     refine Sp.leaves0 ?_
     exact ⟨_,results_tmp2 (t:=4) (u:=5) rfl _ _ _,.inl ⟨uh hst,rfl⟩,(uh hP).extf⟩
    ·skip
     replace hP:Hid (Sp w [] w [] [] [(61,4,.slice (some ⟨b9,o9,none⟩) na ca,na,E.flatMap encE)] y8):=hide ((uh hP).sub (List.sublist_append_left _ ([(r7,61,#[.int .i64 u,.int .i64 v,.int .u8 lab,.int .i64 wt])] : List Cl)) (List.Sublist.refl _))
     go_wp2_with fail
     refine ⟨na-(i+1),?_,by have:=uh hfm';have:=uh hlt';omega⟩
     rw [uh hI3_4]
     exact ⟨i+1,(by first | rfl | trivial),(by first | rfl | trivial),(by first | rfl | trivial),(by first | rfl | trivial),(by first | rfl | trivial),(by first | rfl | (show _=Value.int _ _;go_num) | go_num),(by first | rfl | trivial),by have:=uh hlt';omega,(by obtain ⟨h1,h2⟩:=uh hxe';rw [all_next _ _ h1,uh hal',h2];exact (uh hqh').symm),uh hP,rfl⟩
   ·skip
    have hil:¬ (i:Int) < (na:Int):=by omega
    have hok:=hide (show okO V E V2 E2=true by have h:=uh hal';rw [List.take_of_length_le (by rw [← uh hna];omega)] at h;unfold okO;rw [← uh hq',h];rfl)
    clear hlt hin hal'
    try dsimp only
    repeat ((fail_if_success with_reducible refine wp_reg (id:=6) ?_);first|go_values|go_skip|go_step|go_guarded|go_upon|go_in|go_back)
    with_reducible refine wp_reg (id:=6) ?_
    refine wpO_want rfl ?_
    go_simp
    refine wpO_done ?_
    try go_frame
    clear hil
    try dsimp only
    repeat ((fail_if_success with_reducible refine wp_reg (id:=12) ?_);first|go_values|go_skip|go_step|go_guarded|go_upon|go_in|go_back)
    with_reducible refine wp_reg (id:=12) ?_
    refine wpO_want rfl ?_
    go_simp
    refine wpO_done ?_
    try go_frame
    skip
    replace hP:Hid (Sp w [] w [] [] [(61,4,.slice Aa na ca,na,E.flatMap encE),(61,4,.slice none 0 0,0,([] : List ((Int×Int)×Thing)).flatMap encE)] wr):=hide ((uh hP).nil 61 4)
    try dsimp only
    repeat ((fail_if_success with_reducible refine wp_reg (id:=13) ?_);first|go_values|go_skip|go_step|go_guarded|go_upon|go_in|go_back)
    with_reducible refine wp_reg (id:=13) ?_
    refine wpO_want rfl ?_
    go_simp
    refine wpO_want rfl ?_
    go_simp
    refine (edges_rel f fv fe V2 E2 wr ((uh hf').ext (uh hP).extf)).mono ?_
    rintro _ y4 ⟨Am,cm,rfl,ho,hxc⟩
    obtain ⟨nm,hn0⟩ : ∃ n,n=E2.length:=⟨_,rfl⟩
    rw [← hn0] at ho
    rw [← hn0]
    have hnm:=hide hn0
    clear hn0
    refine ⟨_,rfl,?_⟩
    have hsm:=hide (show SlAt encE 4 y4 Am E2 from own_at (enc:=encE) (by rw [uh hnm] at ho;exact ho) (fun _=>rfl))
    replace hP:Hid (Sp w [] w [] [] [(61,4,.slice Aa na ca,na,E.flatMap encE),(61,4,.slice none 0 0,0,([] : List ((Int×Int)×Thing)).flatMap encE),(61,4,.slice Am nm cm,nm,E2.flatMap encE)] y4):=hide ((uh hP).addRow hxc ho)
    clear hxc ho
    try go_frame
    iterate 2
     refine wpO_want rfl ?_
     go_simp
    refine wpO_done ?_
    try go_frame
    go_wp2_with fail
    obtain ⟨I4_8,hI4_80⟩ : ∃ I:Nat→Act→World→Prop,I=fun fi a' wr=>∃ (i:Nat), ∃ (Al:Option Addr), ∃ (q:Nat), ∃ (cl:Nat),a'.tmps.size=73∧a'.tmps.getD 0 undef=.pointer (some ⟨g,0,none⟩)∧a'.tmps.getD 11 undef=.slice Al q cl∧a'.tmps.getD 49 undef=.slice Am nm cm∧a'.tmps.getD 50 undef=.int .i64 (nm:Nat)∧a'.tmps.getD 51 undef=.int .i64 (i:Nat)∧a'.defers=[]∧i≤nm∧q=(moreO E (E2.take i)).length∧Sp w [] w [] [] [(61,4,.slice Aa na ca,na,E.flatMap encE),(61,4,.slice Al q cl,q,(moreO E (E2.take i)).flatMap encE),(61,4,.slice Am nm cm,nm,E2.flatMap encE)] wr∧fi=nm-i:=⟨_,rfl⟩
    have hI4_8:=hide hI4_80
    clear hI4_80
    refine wp_loop_ix I4_8 (nm-0) ?_ ?_
    ·rw [uh hI4_8];exact ⟨0,none,0,0,rfl,rfl,rfl,rfl,rfl,rfl,rfl,Nat.zero_le _,rfl,uh hP,rfl⟩
    ·rintro fi ⟨tm,dfs⟩ wr hrel
     rw [uh hI4_8] at hrel
     obtain ⟨i,Al,q,cl,hsz,e0,e11,e49,e50,e51,hdf,hin,hq,hPr,hfm⟩:=hrel
     obtain ⟨us,rfl⟩ : ∃ us:Nat→Value,tm=#[us 0,us 1,us 2,us 3,us 4,us 5,us 6,us 7,us 8,us 9,us 10,us 11,us 12,us 13,us 14,us 15,us 16,us 17,us 18,us 19,us 20,us 21,us 22,us 23,us 24,us 25,us 26,us 27,us 28,us 29,us 30,us 31,us 32,us 33,us 34,us 35,us 36,us 37,us 38,us 39,us 40,us 41,us 42,us 43,us 44,us 45,us 46,us 47,us 48,us 49,us 50,us 51,us 52,us 53,us 54,us 55,us 56,us 57,us 58,us 59,us 60,us 61,us 62,us 63,us 64,us 65,us 66,us 67,us 68,us 69,us 70,us 71,us 72]:=⟨fun i=>tm.getD i undef,arr_fn hsz⟩
     have h0:us 0=.pointer (some ⟨g,0,none⟩):=e0
     have h11:us 11=.slice Al q cl:=e11
     have h49:us 49=.slice Am nm cm:=e49
     have h50:us 50=.int .i64 (nm:Nat):=e50
     have h51:us 51=.int .i64 (i:Nat):=e51
     have hdf2:dfs=[]:=hdf
     subst hdf2
     clear hdf hsz e0 e11 e49 e50 e51
     simp only [h0,h11,h49,h50,h51]
     clear h0 h11 h49 h50 h51
     clear hP hsm
     have hP:=hide hPr
     have hsm:=hide (show SlAt encE 4 wr Am E2 from own_at (enc:=encE) (by have h:=(uh hP).row 2 rfl;rw [uh hnm] at h;exact h) (fun _=>rfl))
     have hfm':=hide hfm
     have hq':=hide hq
     clear hPr hfm hq
     by_cases hlt:i < nm
     ·skip
      have hqb:=hide (show q≤4096 by rw [uh hq'];exact Nat.le_trans (List.length_filter_le _ _) (by rw [List.length_take];have:=uh hnE2;omega))
      obtain ⟨xs,hxs0⟩ : ∃ xs,xs=moreO E (E2.take i):=⟨_,rfl⟩
      rw [← hxs0] at hq' hP
      have hxs:=hide hxs0
      have hnx:=hide (show ∀ h:i < E2.length,moreO E (E2.take (i+1))=xs++(if (!hasE E2[i].1.1 E2[i].1.2 E)=true then [E2[i]] else []) from fun h=>by rw [hxs0];unfold moreO;rw [List.take_succ_eq_append_getElem h,List.filter_append,List.filter_cons,List.filter_nil])
      clear hxs0
      have hil:(i:Int) < (nm:Int):=by omega
      have hlt':=hide hlt
      have hiE:i < E2.length:=by rw [← uh hnm];exact hlt
      have hib:(i:Int)≤4096:=by have:=uh hnE2;have:=uh hnm;omega
      obtain ⟨b9,o9,u,v,lab,wt,rfl,hxe,hld⟩:=(uh hsm).edge hiE
      have hld':=hide hld
      have hxe':=hide (Exists.intro hiE hxe:∃ h:i < E2.length,E2[i]=((u,v),(lab,wt)))
      clear hlt hin hld hxe hiE hsm
      try dsimp only
      repeat ((fail_if_success with_reducible refine wp_reg (id:=14) ?_);first|go_values|go_skip|go_step|go_guarded|go_upon|go_in|go_back)
      with_reducible refine wp_reg (id:=14) ?_
      refine wpO_want rfl ?_
      go_simp
      refine wpO_done ?_
      try go_frame
      try dsimp only
      repeat ((fail_if_success with_reducible refine wp_reg (id:=15) ?_);first|go_values|go_skip|go_step|go_guarded|go_upon|go_in|go_back)
      with_reducible refine wp_reg (id:=15) ?_
      refine wpO_want rfl ?_
      go_simp
      refine wpO_val (v:=.agg #[.int .i64 u,.int .i64 v,.int .u8 lab,.int .i64 wt]) rfl (load_EdZ rfl rfl (uh hld' _ (Keep.refl [] _))) ?_
      try go_frame
      refine (uh hP).allocO 61 #[.int .i64 0,.int .i64 0,.int .u8 0,.int .i64 0] rfl (by go_simp) ?_
      intro r13 y5 hQ
      replace hP:=hide hQ
      clear hQ
      refine (uh hP).setO 0 #[.int .i64 u,.int .i64 v,.int .u8 lab,.int .i64 wt] rfl rfl (fun hb=>run_store_row (v:=.agg #[.int .i64 u,.int .i64 v,.int .u8 lab,.int .i64 wt]) rfl (by rfl) (by rfl) (by simp [go_sem]) hb rfl (fun u hu=>by simp [Value.cells] at hu;rcases hu with rfl | rfl | rfl | rfl <;> rfl)) ?_
      intro y6 hQ
      replace hP:=hide hQ
      clear hQ
      refine wpO_done ?_
      try go_frame
      clear hil
      try dsimp only
      repeat ((fail_if_success with_reducible refine wp_reg (id:=16) ?_);first|go_values|go_skip|go_step|go_guarded|go_upon|go_in|go_back)
      with_reducible refine wp_reg (id:=16) ?_
      have q0:=(uh hP).cell 0 0 (v:=.int .i64 u) rfl rfl
      have q1:=(uh hP).cell 0 1 (v:=.int .i64 v) rfl rfl
      have hself:=Ext.refl y6
      iterate 5
       refine wpO_want rfl ?_
       go_simp
      clear q0 q1 hself
      refine wpO_want rfl ?_
      go_simp
      obtain ⟨qh,hqh⟩ : ∃ q,q=hasE u v E:=⟨_,rfl⟩
      have hca:=edge_has g bv be V E u v y6 ((uh hg').ext (uh hP).extf)
      rw [← hqh] at hca
      have hqh':=hide hqh
      clear hqh
      refine hca.mono ?_
      clear hca
      rintro _ y7 ⟨x0,x1,x2,x3,kk,rfl,hxc⟩
      refine ⟨_,rfl,?_⟩
      replace hP:=hide ((uh hP).ext hxc)
      clear hxc
      generalize htu0:Value.tuple _=tu
      have htu:=hide htu0
      clear htu0
      refine wpO_val rfl (run_move rfl rfl) ?_
      go_frame
      refine wpO_val rfl (run_extract (i:=0) (v:=.agg #[.int .i64 x0,.int .i64 x1,.int .u8 x2,.int .i64 x3]) rfl (uh htu).symm rfl) ?_
      go_frame
      refine wpO_val rfl (run_extract (i:=1) (v:=.int .i64 kk) rfl (uh htu).symm rfl) ?_
      go_frame
      refine wpO_val rfl (run_extract (i:=2) (v:=.bool qh) rfl (uh htu).symm rfl) ?_
      go_frame
      refine (uh hP).allocO 61 #[.int .i64 0,.int .i64 0,.int .u8 0,.int .i64 0] rfl (by go_simp) ?_
      intro r132 y8 hQ
      replace hP:=hide hQ
      clear hQ
      refine (uh hP).setO 1 #[.int .i64 x0,.int .i64 x1,.int .u8 x2,.int .i64 x3] rfl rfl (fun hb=>run_store_row (v:=.agg #[.int .i64 x0,.int .i64 x1,.int .u8 x2,.int .i64 x3]) rfl (by rfl) (by rfl) (by simp [go_sem]) hb rfl (fun u hu=>by simp [Value.cells] at hu;rcases hu with rfl | rfl | rfl | rfl <;> rfl)) ?_
      intro y9 hQ
      replace hP:=hide hQ
      clear hQ
      iterate 2
       refine wpO_want rfl ?_
       go_simp
      refine wpO_done ?_
      try go_frame
      clear htu
      replace hP:Hid (Sp w [] w [] [(r13,61,#[.int .i64 u,.int .i64 v,.int .u8 lab,.int .i64 wt])] [(61,4,.slice Aa na ca,na,E.flatMap encE),(61,4,.slice Al q cl,q,xs.flatMap encE),(61,4,.slice (some ⟨b9,o9,none⟩) nm cm,nm,E2.flatMap encE)] y9):=hide ((uh hP).sub (List.sublist_append_left _ ([(r132,61,#[.int .i64 x0,.int .i64 x1,.int .u8 x2,.int .i64 x3])] : List Cl)) (List.Sublist.refl _))
      try dsimp only
      repeat ((fail_if_success with_reducible refine wp_reg (id:=17) ?_);first|go_values|go_skip|go_step|go_guarded|go_upon|go_in|go_back)
      with_reducible refine wp_reg (id:=17) ?_
      iterate 2
       refine wpO_want rfl ?_
       go_simp
      refine wpO_done ?_
      try go_frame
      cases qh
      ·skip
       have hnx2:=hide (show moreO E (E2.take (i+1))=xs++[((u,v),(lab,wt))] by obtain ⟨h1,h2⟩:=uh hxe';rw [uh hnx h1,h2,if_pos (by rw [← uh hqh'];rfl)])
       try dsimp only
       repeat ((fail_if_success with_reducible refine wp_reg (id:=18) ?_);first|go_values|go_skip|go_step|go_guarded|go_upon|go_in|go_back)
       with_reducible refine wp_reg (id:=18) ?_
       refine wpO_want rfl ?_
       go_simp
       refine wpO_val (v:=.agg #[.int .i64 u,.int .i64 v,.int .u8 lab,.int .i64 wt]) rfl (run_load_agg (cs:=#[.int .i64 u,.int .i64 v,.int .u8 lab,.int .i64 wt]) rfl rfl (by simp [go_sem]) (by simp [go_sem]) ((uh hP).get 0 rfl).whole) ?_
       go_frame
       refine (uh hP).build1O 61 #[.int .i64 u,.int .i64 v,.int .u8 lab,.int .i64 wt] rfl (by go_simp) ?_
       intro bn y10 hQ
       replace hP:=hide hQ
       clear hQ
       try go_frame
       refine (uh hP).ap1O (enc:=encE) (T:=61) (ST:=57) 1 (v:=.slice Al q cl) (m:=q) (xs:=xs) rfl rfl infoE Tryz.underlying57 one_encE (fun _=>rfl) (by decide) (by decide) rfl (((u,v),(lab,wt)) : (Int×Int)×Thing) rfl rfl ((uh hP).get 1 rfl) (by have:=uh hqb;omega) ?_
       intro A4 cA4 y11 hQ
       replace hP:=hide hQ
       clear hQ
       try go_frame
       replace hP:Hid (Sp w [] w [] [(r13,61,#[.int .i64 u,.int .i64 v,.int .u8 lab,.int .i64 wt])] [(61,4,.slice Aa na ca,na,E.flatMap encE),(61,4,.slice A4 (q+1) cA4,q+1,(xs++[(((u,v),(lab,wt)) : (Int×Int)×Thing)]).flatMap encE),(61,4,.slice (some ⟨b9,o9,none⟩) nm cm,nm,E2.flatMap encE)] y11):=hide ((uh hP).sub (List.sublist_append_left _ ([(bn,61,#[.int .i64 u,.int .i64 v,.int .u8 lab,.int .i64 wt])] : List Cl)) (List.Sublist.refl _))
       refine wpO_want rfl ?_
       go_simp
       refine wpO_done ?_
       try go_frame
       replace hP:Hid (Sp w [] w [] [] [(61,4,.slice Aa na ca,na,E.flatMap encE),(61,4,.slice A4 (q+1) cA4,q+1,(xs++[(((u,v),(lab,wt)) : (Int×Int)×Thing)]).flatMap encE),(61,4,.slice (some ⟨b9,o9,none⟩) nm cm,nm,E2.flatMap encE)] y11):=hide ((uh hP).sub (List.sublist_append_left _ ([(r13,61,#[.int .i64 u,.int .i64 v,.int .u8 lab,.int .i64 wt])] : List Cl)) (List.Sublist.refl _))
       go_wp2_with fail
       refine ⟨nm-(i+1),?_,by have:=uh hfm';have:=uh hlt';omega⟩
       rw [uh hI4_8]
       exact ⟨i+1,A4,q+1,cA4,(by first | rfl | trivial),(by first | rfl | trivial),(by first | rfl | trivial),(by first | rfl | trivial),(by first | rfl | trivial),(by first | rfl | (show _=Value.int _ _;go_num) | go_num),(by first | rfl | trivial),by have:=uh hlt';omega,(by rw [uh hnx2,List.length_append, ← uh hq'];rfl),(by rw [uh hnx2];exact uh hP),rfl⟩
      ·skip
       have hnx2:=hide (show moreO E (E2.take (i+1))=xs by obtain ⟨h1,h2⟩:=uh hxe';rw [uh hnx h1,h2,if_neg (by rw [← uh hqh'];simp),List.append_nil])
       replace hP:Hid (Sp w [] w [] [] [(61,4,.slice Aa na ca,na,E.flatMap encE),(61,4,.slice Al q cl,q,xs.flatMap encE),(61,4,.slice (some ⟨b9,o9,none⟩) nm cm,nm,E2.flatMap encE)] y9):=hide ((uh hP).sub (List.sublist_append_left _ ([(r13,61,#[.int .i64 u,.int .i64 v,.int .u8 lab,.int .i64 wt])] : List Cl)) (List.Sublist.refl _))
       go_wp2_with fail
       refine ⟨nm-(i+1),?_,by have:=uh hfm';have:=uh hlt';omega⟩
       rw [uh hI4_8]
       exact ⟨i+1,Al,q,cl,(by first | rfl | trivial),(by first | rfl | trivial),(by first | rfl | trivial),(by first | rfl | trivial),(by first | rfl | trivial),(by first | rfl | (show _=Value.int _ _;go_num) | go_num),(by first | rfl | trivial),by have:=uh hlt';omega,(by rw [uh hnx2];exact uh hq'),(by rw [uh hnx2];exact uh hP),rfl⟩
     ·skip
      have hil:¬ (i:Int) < (nm:Int):=by omega
      have hte:=hide (show E2.take i=E2 from List.take_of_length_le (by rw [← uh hnm];omega))
      clear hlt hin
      try dsimp only
      repeat ((fail_if_success with_reducible refine wp_reg (id:=14) ?_);first|go_values|go_skip|go_step|go_guarded|go_upon|go_in|go_back)
      with_reducible refine wp_reg (id:=14) ?_
      refine wpO_want rfl ?_
      go_simp
      refine wpO_done ?_
      try go_frame
      clear hil
      try dsimp only
      repeat ((fail_if_success with_reducible refine wp_reg (id:=20) ?_);first|go_values|go_skip|go_step|go_guarded|go_upon|go_in|go_back)
      with_reducible refine wp_reg (id:=20) ?_
      iterate 3
       refine wpO_want rfl ?_
       go_simp
      refine wpO_done ?_
      try go_frame
      go_wp2_with fail
      refine Sp.leaves0 ?_
      exact ⟨_,results_tmp2 (t:=4) (u:=5) rfl _ _ _,.inr ⟨uh hok,Al,q,cl,rfl,by rw [uh hq',uh hte],by have h:=(uh hP).row 1 rfl;rw [uh hte] at h;exact h⟩,(uh hP).extf⟩
structure PrE (w:World) (g:Nat) (lb:Array Value) (L:List ((Int×Int)×Thing)) (f:(Int×Int)×Thing→Bool) : Prop where
 enters:∀ args w,(callFunc g args).run Tryz.prog w=.ok (.enter g args) w
 calls:∀ (W:World) (e:(Int×Int)×Thing),Ext w W→e∈L→Calls Tryz.prog g (#[(.agg #[.int .i64 e.1.1,.int .i64 e.1.2,.int .u8 e.2.1,.int .i64 e.2.2])]++lb) W fun x w'=>x=.returned (.bool (f e))∧Ext W w'
theorem posI_any {α:Type} (p:α→Bool) (l:List α) : decide (0≤posI p l)=l.any p:=by
 rcases posI_cases p l with ⟨h1,h2⟩ | ⟨i,h1,h2,h3⟩
 ·rw [h1,List.any_eq_false.2 (fun x hx=>by rw [h2 x hx];simp)]
  rfl
 ·rw [h2,List.any_eq_true.2 ⟨l[i],List.getElem_mem h1,h3⟩]
  simp
theorem indexE_any (A:Option Addr) (L:List ((Int×Int)×Thing)) (n cA g:Nat) (lb:Array Value) (f:(Int×Int)×Thing→Bool) (w:World) (hL:SlAt encE 4 w A L) (hn:n=L.length) (hl:n≤4096) (hf:PrE w g lb L f) :
  Calls Tryz.prog 154 #[.slice A n cA,.func (.func g) #[] lb] w fun e w'=>e=.returned (.int .i64 (posI f L))∧Ext w w':=by
 have hL':=hide hL
 have hn':=hide hn
 have hl':=hide hl
 clear hL hn hl
 have hen:=hf.enters
 have hf':=hide hf
 clear hf
 obtain ⟨R,hR0⟩ : ∃ R,R=posI f L:=⟨_,rfl⟩
 rw [← hR0]
 have hR:=hide hR0
 clear hR0
 have hP:=hide (Sp.new w)
 refine callsIn_wide.1 (callsIn_of_wp_marks (n:=0) Tryz.func154 rfl trivial (wpIn_wide.2 ?_))
 simp only [Tryz.ntmps154,List.size_toArray,List.length_cons,List.length_nil,Nat.reduceAdd,Nat.reduceSub,Array.replicate_succ,Array.replicate_zero,List.push_toArray,List.append_toArray,List.nil_append,List.cons_append]
 try dsimp only
 repeat ((fail_if_success with_reducible refine wp_reg (id:=1) ?_);first|go_values|go_skip|go_step|go_guarded|go_upon|go_in|go_back)
 with_reducible refine wp_reg (id:=1) ?_
 iterate 3
  refine wpO_want rfl ?_
  go_simp
 refine wpO_done ?_
 try go_frame
 go_wp2_with fail
 obtain ⟨I0_2,hI0_20⟩ : ∃ I:Nat→Act→World→Prop,I=fun fi a' wr=>∃ (i:Nat),a'.tmps.size=19∧a'.tmps.getD 0 undef=.slice A n cA∧a'.tmps.getD 1 undef=.func (.func g) #[] lb∧a'.tmps.getD 7 undef=.int .i64 (n:Nat)∧a'.tmps.getD 8 undef=.int .i64 (i:Nat)∧a'.defers=[]∧i≤n∧(∀ j (h:j < L.length),j < i→f L[j]=false)∧Sp w [] w [] [] [] wr∧fi=n-i:=⟨_,rfl⟩
 have hI0_2:=hide hI0_20
 clear hI0_20
 refine wp_loop_ix I0_2 (n-0) ?_ ?_
 ·rw [uh hI0_2];exact ⟨0,rfl,rfl,rfl,rfl,rfl,rfl,Nat.zero_le _,(fun j h h2=>absurd h2 (Nat.not_lt_zero _)),uh hP,rfl⟩
 ·rintro fi ⟨tm,dfs⟩ wr hrel
  rw [uh hI0_2] at hrel
  obtain ⟨i,hsz,e0,e1,e7,e8,hdf,hin,hno,hPr,hfm⟩:=hrel
  obtain ⟨us,rfl⟩ : ∃ us:Nat→Value,tm=#[us 0,us 1,us 2,us 3,us 4,us 5,us 6,us 7,us 8,us 9,us 10,us 11,us 12,us 13,us 14,us 15,us 16,us 17,us 18]:=⟨fun i=>tm.getD i undef,arr_fn hsz⟩
  have h0:us 0=.slice A n cA:=e0
  have h1:us 1=.func (.func g) #[] lb:=e1
  have h7:us 7=.int .i64 (n:Nat):=e7
  have h8:us 8=.int .i64 (i:Nat):=e8
  have hdf2:dfs=[]:=hdf
  subst hdf2
  clear hdf hsz e0 e1 e7 e8
  simp only [h0,h1,h7,h8]
  clear h0 h1 h7 h8
  clear hP
  have hP:=hide hPr
  have hfm':=hide hfm
  have hno':=hide hno
  clear hPr hfm hno
  by_cases hlt:i < n
  ·skip
   have hil:(i:Int) < (n:Int):=by omega
   have hi2:=hide hlt
   have hiL:i < L.length:=by rw [← uh hn'];exact hlt
   have hib:(i:Int)≤4096:=by have:=uh hl';omega
   obtain ⟨b9,o9,u,v,lab,wt,rfl,hxe,hld⟩:=(uh hL').edge hiL
   have hld':=hide hld
   have hxe':=hide (Exists.intro hiL hxe:∃ h:i < L.length,L[i]=((u,v),(lab,wt)))
   have hmem:=hide (show (((u,v),(lab,wt)) : (Int×Int)×Thing)∈L by rw [← hxe];exact List.getElem_mem hiL)
   clear hlt hin hld hxe hiL
   try dsimp only
   repeat ((fail_if_success with_reducible refine wp_reg (id:=2) ?_);first|go_values|go_skip|go_step|go_guarded|go_upon|go_in|go_back)
   with_reducible refine wp_reg (id:=2) ?_
   refine wpO_want rfl ?_
   go_simp
   refine wpO_done ?_
   try go_frame
   try dsimp only
   repeat ((fail_if_success with_reducible refine wp_reg (id:=3) ?_);first|go_values|go_skip|go_step|go_guarded|go_upon|go_in|go_back)
   with_reducible refine wp_reg (id:=3) ?_
   iterate 2
    refine wpO_want rfl ?_
    go_simp
   refine wpO_done ?_
   try go_frame
   try dsimp only
   repeat ((fail_if_success with_reducible refine wp_reg (id:=4) ?_);first|go_values|go_skip|go_step|go_guarded|go_upon|go_in|go_back)
   with_reducible refine wp_reg (id:=4) ?_
   iterate 4
    refine wpO_want rfl ?_
    go_simp
   refine wpO_val (v:=.agg #[.int .i64 u,.int .i64 v,.int .u8 lab,.int .i64 wt]) rfl (load_EdZ rfl rfl (uh hld' _ ((uh hP).extf.keep []))) ?_
   try go_frame
   refine wpO_want rfl ?_
   go_simp
   obtain ⟨q,hq0⟩ : ∃ q,q=f ((u,v),(lab,wt)):=⟨_,rfl⟩
   have hq:=hide hq0
   have hca:=(uh hf').calls wr ((u,v),(lab,wt)) (uh hP).extf (uh hmem)
   rw [← hq0] at hca
   clear hq0
   refine hca.mono ?_
   clear hca
   rintro _ y1 ⟨rfl,hxc⟩
   refine ⟨_,rfl,?_⟩
   replace hP:=hide ((uh hP).ext hxc)
   clear hxc
   try go_frame
   refine wpO_done ?_
   try go_frame
   clear hil
   cases q
   ·skip
    go_wp2_with fail
    refine ⟨n-(i+1),?_,by have:=uh hfm';have:=uh hi2;omega⟩
    rw [uh hI0_2]
    exact ⟨i+1,(by first | rfl | trivial),(by first | rfl | trivial),(by first | rfl | trivial),(by first | rfl | trivial),(by first | rfl | (show _=Value.int _ _;go_num) | go_num),(by first | rfl | trivial),by have:=uh hi2;omega,(fun j h h2=>by by_cases hj:j=i;(subst hj;obtain ⟨h3,h4⟩:=uh hxe';rw [h4];exact (uh hq).symm);exact uh hno' j h (by omega)),uh hP,rfl⟩
   ·skip
    have hre:=hide (show R=(i:Int) by obtain ⟨h3,h4⟩:=uh hxe';rw [uh hR];exact posI_hit h3 (by rw [h4];exact (uh hq).symm) fun j hj=>uh hno' j (by omega) hj)
    go_wp2_with fail
    refine Sp.leaves0 ?_
    exact ⟨_,results_tmp (t:=4) rfl _ _ _,by rw [uh hre];rfl,(uh hP).extf⟩
  ·skip
   have hil:¬ (i:Int) < (n:Int):=by omega
   have hre:=hide (show R = -1 by rw [uh hR];exact posI_miss fun j hj=>uh hno' j hj (by have:=uh hn';omega))
   clear hlt hin
   try dsimp only
   repeat ((fail_if_success with_reducible refine wp_reg (id:=2) ?_);first|go_values|go_skip|go_step|go_guarded|go_upon|go_in|go_back)
   with_reducible refine wp_reg (id:=2) ?_
   refine wpO_want rfl ?_
   go_simp
   refine wpO_done ?_
   try go_frame
   clear hil
   go_wp2_with fail
   refine Sp.leaves0 ?_
   exact ⟨_,results_tmp (t:=4) rfl _ _ _,by rw [uh hre];rfl,(uh hP).extf⟩
theorem containsE_any (A:Option Addr) (L:List ((Int×Int)×Thing)) (n cA g:Nat) (lb:Array Value) (f:(Int×Int)×Thing→Bool) (w:World) (hL:SlAt encE 4 w A L) (hn:n=L.length) (hl:n≤4096) (hf:PrE w g lb L f) :
  Calls Tryz.prog 100 #[.slice A n cA,.func (.func g) #[] lb] w fun e w'=>e=.returned (.bool (L.any f))∧Ext w w':=by
 have hca:=indexE_any A L n cA g lb f w hL hn hl hf
 have hany:=posI_any f L
 obtain ⟨R,hR0⟩ : ∃ R,R=posI f L:=⟨_,rfl⟩
 rw [← hR0] at hca hany
 obtain ⟨q,hq0⟩ : ∃ q,q=L.any f:=⟨_,rfl⟩
 rw [← hq0] at hany ⊢
 have hge:decide (R ≥ 0)=q:=hany
 have hca':=hide hca
 clear hca hR0 hq0 hL hn hl hf
 have hP:=hide (Sp.new w)
 refine callsIn_wide.1 (callsIn_of_wp_marks (n:=0) Tryz.func100 rfl trivial (wpIn_wide.2 ?_))
 simp only [Tryz.ntmps100,List.size_toArray,List.length_cons,List.length_nil,Nat.reduceAdd,Nat.reduceSub,Array.replicate_succ,Array.replicate_zero,List.push_toArray,List.append_toArray,List.nil_append,List.cons_append]
 try dsimp only
 repeat ((fail_if_success with_reducible refine wp_reg (id:=1) ?_);first|go_values|go_skip|go_step|go_guarded|go_upon|go_in|go_back)
 with_reducible refine wp_reg (id:=1) ?_
 iterate 2
  refine wpO_want rfl ?_
  go_simp
 refine wpO_want rfl ?_
 go_simp
 refine (uh hca').mono ?_
 rintro _ y1 ⟨rfl,hxc⟩
 refine ⟨_,rfl,?_⟩
 replace hP:=hide ((uh hP).ext hxc)
 clear hxc
 iterate 2
  refine wpO_want rfl ?_
  go_simp
 refine wpO_done ?_
 try go_frame
 go_wp2_with fail
 refine Sp.leaves0 ?_
 exact ⟨_,results_tmp (t:=4) rfl _ _ _,by first | rfl | (rw [hge];rfl) | (rw [hany];rfl),(uh hP).extf⟩
theorem isMin1_any (f fv fe r3:Nat) (V2:List (Int×Thing)) (E2:List ((Int×Int)×Thing)) (e:(Int×Int)×Thing) (w:World) (hf:IsG w f fv fe V2 E2) (hT:Tab w) (hb:Blk w r3 26 #[.pointer (some ⟨f,0,none⟩)]) (he:e∈E2) :
  Calls Tryz.prog 101 #[(.agg #[.int .i64 e.1.1,.int .i64 e.1.2,.int .u8 e.2.1,.int .i64 e.2.2]),.pointer (some ⟨r3,0,none⟩)] w fun x w'=>x=.returned (.bool (choB V2 (cutE e.1 E2)))∧Ext w w':=by
 obtain ⟨⟨u,v⟩,lab,wt⟩:=e
 dsimp only
 have hmem:=hide (show (u,v)∈E2.map (·.1) from List.mem_map.2 ⟨_,he,rfl⟩)
 obtain ⟨q,hq0⟩ : ∃ q,q=choB V2 (cutE (u,v) E2):=⟨_,rfl⟩
 rw [← hq0]
 have hq:=hide hq0
 clear hq0 he
 have hf':=hide hf
 have hT':=hide hT
 have hb':=hide hb
 clear hf hT hb
 have hP:=hide (Sp.new w)
 refine callsIn_wide.1 (callsIn_of_wp_marks (n:=0) Tryz.func101 rfl trivial (wpIn_wide.2 ?_))
 simp only [Tryz.ntmps101,List.size_toArray,List.length_cons,List.length_nil,Nat.reduceAdd,Nat.reduceSub,Array.replicate_succ,Array.replicate_zero,List.push_toArray,List.append_toArray,List.nil_append,List.cons_append]
 try dsimp only
 repeat ((fail_if_success with_reducible refine wp_reg (id:=0) ?_);first|go_values|go_skip|go_step|go_guarded|go_upon|go_in|go_back)
 with_reducible refine wp_reg (id:=0) ?_
 refine (uh hP).allocO 61 #[.int .i64 u,.int .i64 v,.int .u8 lab,.int .i64 wt] rfl (run_box (v:=.agg #[.int .i64 u,.int .i64 v,.int .u8 lab,.int .i64 wt]) rfl rfl) ?_
 intro r2 y1 hQ
 replace hP:=hide hQ
 clear hQ
 refine wpO_want rfl ?_
 go_simp
 refine wpO_done ?_
 try go_frame
 try dsimp only
 repeat ((fail_if_success with_reducible refine wp_reg (id:=1) ?_);first|go_values|go_skip|go_step|go_guarded|go_upon|go_in|go_back)
 with_reducible refine wp_reg (id:=1) ?_
 refine wpO_val rfl (load_V (v:=.pointer (some ⟨f,0,none⟩)) rfl rfl (by simp [go_sem]) (((uh hb').ext (uh hP).extf).cell 0)) ?_
 go_frame
 refine wpO_val (v:=.agg #[.int .i64 u,.int .i64 v,.int .u8 lab,.int .i64 wt]) rfl (run_load_agg (cs:=#[.int .i64 u,.int .i64 v,.int .u8 lab,.int .i64 wt]) rfl rfl (by simp [go_sem]) (by simp [go_sem]) ((uh hP).get 0 rfl).whole) ?_
 go_frame
 refine wpO_want rfl ?_
 go_simp
 refine (withoutE_any f fv fe V2 E2 u v lab wt y1 ((uh hf').ext (uh hP).extf) (uh hmem)).mono ?_
 rintro _ y2 ⟨o,ov,oe,rfl,ho0,hxc,_,_,_⟩
 have ho:=hide ho0
 refine ⟨_,rfl,?_⟩
 replace hP:=hide ((uh hP).ext hxc)
 clear ho0 hxc
 try go_frame
 refine wpO_want rfl ?_
 go_simp
 have hca:=chordal_any (some ⟨o,0,none⟩) V2 (cutE (u,v) E2) y2 (GL.of (uh ho)) ((uh hT').ext (uh hP).extf)
 rw [← uh hq] at hca
 refine hca.mono ?_
 clear hca
 rintro _ y3 ⟨rfl,hxc⟩
 refine ⟨_,rfl,?_⟩
 replace hP:=hide ((uh hP).ext hxc)
 clear hxc
 try go_frame
 refine wpO_want rfl ?_
 go_simp
 refine wpO_done ?_
 try go_frame
 go_wp2_with fail
 refine Sp.leaves0 ?_
 exact ⟨_,results_tmp (t:=3) rfl _ _ _,rfl,(uh hP).extf⟩
theorem isMin_any (g bv be f fv fe:Nat) (V:List (Int×Thing)) (E:List ((Int×Int)×Thing)) (V2:List (Int×Thing)) (E2:List ((Int×Int)×Thing)) (w:World) (hg:IsG w g bv be V E) (hf:IsG w f fv fe V2 E2) (hT:Tab w) :
  Calls Tryz.prog 40 #[.pointer (some ⟨g,0,none⟩),.pointer (some ⟨f,0,none⟩)] w fun e w'=>e=.returned (.tuple #[.bool (isMin V E V2 E2).1,.int .i64 (isMin V E V2 E2).2])∧Ext w w':=by
 obtain ⟨R,hR0⟩ : ∃ R,R=isMin V E V2 E2:=⟨_,rfl⟩
 rw [← hR0]
 have hR:=hide hR0
 have hml:=hide (show (moreO E E2).length≤4096 from Nat.le_trans (List.length_filter_le _ _) hf.nE)
 have hms:=hide (show ∀ e∈moreO E E2,e∈E2 from fun e he=>(List.mem_filter.1 he).1)
 clear hR0
 have hg':=hide hg
 have hf':=hide hf
 have hT':=hide hT
 clear hg hf hT
 have hP:=hide (Sp.new w)
 refine callsIn_wide.1 (callsIn_of_wp_marks (n:=0) Tryz.func40 rfl trivial (wpIn_wide.2 ?_))
 simp only [Tryz.ntmps40,List.size_toArray,List.length_cons,List.length_nil,Nat.reduceAdd,Nat.reduceSub,Array.replicate_succ,Array.replicate_zero,List.push_toArray,List.append_toArray,List.nil_append,List.cons_append]
 try dsimp only
 repeat ((fail_if_success with_reducible refine wp_reg (id:=0) ?_);first|go_values|go_skip|go_step|go_guarded|go_upon|go_in|go_back)
 with_reducible refine wp_reg (id:=0) ?_
 refine (uh hP).allocO 26 #[.pointer (some ⟨f,0,none⟩)] rfl (run_box (v:=.pointer (some ⟨f,0,none⟩)) rfl rfl) ?_
 intro r3 y1 hQ
 replace hP:=hide hQ
 clear hQ
 iterate 2
  refine wpO_want rfl ?_
  go_simp
 refine wpO_done ?_
 try go_frame
 try dsimp only
 repeat ((fail_if_success with_reducible refine wp_reg (id:=1) ?_);first|go_values|go_skip|go_step|go_guarded|go_upon|go_in|go_back)
 with_reducible refine wp_reg (id:=1) ?_
 refine wpO_want rfl ?_
 go_simp
 refine wpO_val rfl (load_V (v:=.pointer (some ⟨f,0,none⟩)) rfl rfl (by simp [go_sem]) (((uh hP).get 0 rfl).cell 0)) ?_
 go_frame
 refine wpO_want rfl ?_
 go_simp
 have hca:=over_any g bv be f fv fe V E V2 E2 y1 ((uh hg').ext (uh hP).extf) ((uh hf').ext (uh hP).extf)
 unfold OvPost at hca
 refine hca.mono ?_
 clear hca
 rintro _ y2 ⟨⟨hno,rfl⟩ | ⟨hok,Al,n,c,rfl,hn0,ho⟩,hxc⟩
 ·skip
  have hre:=hide (show R=(false,3) by rw [uh hR];unfold isMin;rw [hno];rfl)
  refine ⟨_,rfl,?_⟩
  replace hP:=hide ((uh hP).ext hxc)
  clear hxc hno
  generalize htu0:Value.tuple _=tu
  have htu:=hide htu0
  clear htu0
  refine wpO_val rfl (run_move rfl rfl) ?_
  go_frame
  refine wpO_val rfl (run_extract (i:=0) (v:=.slice none 0 0) rfl (uh htu).symm rfl) ?_
  go_frame
  refine wpO_val rfl (run_extract (i:=1) (v:=.int .i64 3) rfl (uh htu).symm rfl) ?_
  go_frame
  iterate 2
   refine wpO_want rfl ?_
   go_simp
  refine wpO_done ?_
  try go_frame
  clear htu
  try dsimp only
  repeat ((fail_if_success with_reducible refine wp_reg (id:=2) ?_);first|go_values|go_skip|go_step|go_guarded|go_upon|go_in|go_back)
  with_reducible refine wp_reg (id:=2) ?_
  iterate 3
   refine wpO_want rfl ?_
   go_simp
  refine wpO_out (by rfl) ?_
  go_frame
  refine wpO_out (by rfl) ?_
  go_frame
  refine wpO_out (by rfl) ?_
  go_frame
  refine wpO_want rfl ?_
  go_simp
  refine wpO_done ?_
  try go_frame
  go_wp2_with fail
  refine Sp.leaves0 ?_
  rw [uh hre]
  exact ⟨_,results_tmp2 (t:=4) (u:=5) rfl _ _ _,rfl,(uh hP).extf⟩
 ·skip
  have hok':=hide hok
  have hn:=hide hn0
  have hsl:=hide (show SlAt encE 4 y2 Al (moreO E E2) from own_at (enc:=encE) (by rw [hn0] at ho;exact ho) (fun _=>rfl))
  refine ⟨_,rfl,?_⟩
  replace hP:=hide ((uh hP).ext hxc)
  clear hxc hok hn0 ho
  generalize htu0:Value.tuple _=tu
  have htu:=hide htu0
  clear htu0
  refine wpO_val rfl (run_move rfl rfl) ?_
  go_frame
  refine wpO_val rfl (run_extract (i:=0) (v:=.slice Al n c) rfl (uh htu).symm rfl) ?_
  go_frame
  refine wpO_val rfl (run_extract (i:=1) (v:=.int .i64 0) rfl (uh htu).symm rfl) ?_
  go_frame
  iterate 2
   refine wpO_want rfl ?_
   go_simp
  refine wpO_done ?_
  try go_frame
  clear htu
  try dsimp only
  repeat ((fail_if_success with_reducible refine wp_reg (id:=2) ?_);first|go_values|go_skip|go_step|go_guarded|go_upon|go_in|go_back)
  with_reducible refine wp_reg (id:=2) ?_
  iterate 3
   refine wpO_want rfl ?_
   go_simp
  refine wpO_val rfl (load_V (v:=.pointer (some ⟨f,0,none⟩)) rfl rfl (by simp [go_sem]) (((uh hP).get 0 rfl).cell 0)) ?_
  go_frame
  refine wpO_want rfl ?_
  go_simp
  obtain ⟨q,hq0⟩ : ∃ q,q=choB V2 E2:=⟨_,rfl⟩
  have hq:=hide hq0
  have hca:=chordal_any (some ⟨f,0,none⟩) V2 E2 y2 (GL.of ((uh hf').ext (uh hP).extf)) ((uh hT').ext (uh hP).extf)
  rw [← hq0] at hca
  clear hq0
  refine hca.mono ?_
  clear hca
  rintro _ y3 ⟨rfl,hxc⟩
  refine ⟨_,rfl,?_⟩
  replace hP:=hide ((uh hP).ext hxc)
  replace hsl:=hide ((uh hsl).ext hxc)
  clear hxc
  try go_frame
  iterate 2
   refine wpO_want rfl ?_
   go_simp
  refine wpO_done ?_
  try go_frame
  cases q
  ·skip
   have hre:=hide (show R=(false,0) by rw [uh hR];unfold isMin leastB;rw [if_pos (uh hok'), ← uh hq];rfl)
   go_wp2_with fail
   refine Sp.leaves0 ?_
   rw [uh hre]
   exact ⟨_,results_tmp2 (t:=4) (u:=5) rfl _ _ _,rfl,(uh hP).extf⟩
  ·skip
   try dsimp only
   repeat ((fail_if_success with_reducible refine wp_reg (id:=4) ?_);first|go_values|go_skip|go_step|go_guarded|go_upon|go_in|go_back)
   with_reducible refine wp_reg (id:=4) ?_
   iterate 2
    refine wpO_want rfl ?_
    go_simp
   refine wpO_want rfl ?_
   go_simp
   obtain ⟨z,hz0⟩ : ∃ z,z=(moreO E E2).any fun e=>choB V2 (cutE e.1 E2):=⟨_,rfl⟩
   have hre:=hide (show R=(!z,0) by rw [uh hR];unfold isMin leastB;rw [if_pos (uh hok'), ← uh hq, ← hz0];rfl)
   have hca:=containsE_any Al (moreO E E2) n c 101 #[.pointer (some ⟨r3,0,none⟩)] (fun e=>choB V2 (cutE e.1 E2)) y3 (uh hsl) (uh hn) (by rw [uh hn];exact uh hml) { enters:=Go.Proofs.enters_of Tryz.func101 (by kernel_rfl) rfl,calls:=fun W e hW he=>isMin1_any f fv fe r3 V2 E2 e W ((uh hf').ext ((uh hP).extf.trans hW)) ((uh hT').ext ((uh hP).extf.trans hW)) (((uh hP).get 0 rfl).ext hW) (uh hms e he) }
   rw [← hz0] at hca
   clear hz0
   refine hca.mono ?_
   clear hca
   rintro _ y4 ⟨rfl,hxc⟩
   refine ⟨_,rfl,?_⟩
   replace hP:=hide ((uh hP).ext hxc)
   clear hxc
   try go_frame
   iterate 3
    refine wpO_want rfl ?_
    go_simp
   refine wpO_done ?_
   try go_frame
   go_wp2_with fail
   refine Sp.leaves0 ?_
   rw [uh hre]
   exact ⟨_,results_tmp2 (t:=4) (u:=5) rfl _ _ _,rfl,(uh hP).extf⟩
theorem triangulationIsMinimal_walk (A:Option Addr) (L:List Ed) (cL:Nat) (A9:Option Addr) (L2:List Ed) (cL2:Nat) (w:World) (hL:SlAt encD 5 w A L) (hL2:SlAt encD 5 w A9 L2) (hT:Tab w) :
  Calls Tryz.prog 9 #[.slice A L.length cL,.slice A9 L2.length cL2] w fun e w'=>e=.returned (.bool true)∧Ext w w':=by
 have hL':=hide hL
 have hL2':=hide hL2
 have hT':=hide hT
 have hi:=hide (mdS_inv L)
 have hi2:=hide (mdS_inv L2)
 clear hL hL2 hT
 have hP:=hide (Sp.new w)
 refine callsIn_wide.1 (callsIn_of_wp_marks (n:=0) Tryz.func9 rfl trivial (wpIn_wide.2 ?_))
 simp only [Tryz.ntmps9,List.size_toArray,List.length_cons,List.length_nil,Nat.reduceAdd,Nat.reduceSub,Array.replicate_succ,Array.replicate_zero,List.push_toArray,List.append_toArray,List.nil_append,List.cons_append]
 try dsimp only
 repeat ((fail_if_success with_reducible refine wp_reg (id:=1) ?_);first|go_values|go_skip|go_step|go_guarded|go_upon|go_in|go_back)
 with_reducible refine wp_reg (id:=1) ?_
 refine wpO_val rfl (run_move rfl rfl) ?_
 go_frame
 refine wpO_want rfl ?_
 go_simp
 have hca:=begun25_any A L cL w ((uh hL').ext (uh hP).extf)
 generalize mdS L=S at *
 obtain ⟨V,E⟩:=S
 try dsimp only at hi hca ⊢
 refine hca.mono ?_
 clear hca
 rintro _ y1 ⟨g,bv,be,A1,B1,cA,cB,rfl,hg0,hs0,he0,hxc⟩
 refine ⟨_,rfl,?_⟩
 replace hP:=hide ((uh hP).ext hxc)
 have hg:=hide hg0
 have hsV:=hide hs0
 have hsE:=hide he0
 obtain ⟨q,hq⟩ : ∃ q,q=decide ((V.length:Int)≤9):=⟨_,rfl⟩
 rw [← hq]
 have hq':=hide hq
 have hnV:=hide hg0.nV
 have hnE:=hide hg0.nE
 clear hxc hg0 hs0 he0 hq
 generalize htu0:Value.tuple _=tu
 have htu:=hide htu0
 clear htu0
 refine wpO_val rfl (run_move rfl rfl) ?_
 go_frame
 refine wpO_val rfl (run_extract (i:=0) (v:=.pointer (some ⟨g,0,none⟩)) rfl (uh htu).symm rfl) ?_
 go_frame
 refine wpO_val rfl (run_extract (i:=1) (v:=.agg #[.slice A1 V.length cA,.slice B1 E.length cB]) rfl (uh htu).symm rfl) ?_
 go_frame
 refine wpO_val rfl (run_extract (i:=2) (v:=.bool q) rfl (uh htu).symm rfl) ?_
 go_frame
 refine (uh hP).allocT 30 #[.slice none 0 0,.slice none 0 0] rfl (by go_simp) ?_
 intro r6 y2 hQ hxa hga
 replace hP:=hide hQ
 clear hQ
 try go_frame
 refine wpO_want rfl ?_
 go_simp
 refine (uh hP).setT 0 #[.slice A1 V.length cA,.slice B1 E.length cB] rfl rfl (fun hb=>run_store_row (v:=.agg #[.slice A1 V.length cA,.slice B1 E.length cB]) rfl (by rfl) (by rfl) (by simp [go_sem]) hb rfl (fun u hu=>by simp [Value.cells] at hu;rcases hu with rfl | rfl <;> rfl)) ?_
 intro y3 hQ hkq
 replace hP:=hide hQ
 have hxs:=hxa.of_new hkq (fun x hx=>by rw [List.mem_singleton] at hx;rw [hx];exact hga)
 clear hQ hkq hxa hga
 try go_frame
 replace hg:=hide ((uh hg).ext (hxs))
 replace hsV:=hide ((uh hsV).ext (hxs))
 replace hsE:=hide ((uh hsE).ext (hxs))
 clear hxs
 refine wpO_want rfl ?_
 go_simp
 refine wpO_done ?_
 try go_frame
 clear htu
 try dsimp only
 repeat ((fail_if_success with_reducible refine wp_reg (id:=2) ?_);first|go_values|go_skip|go_step|go_guarded|go_upon|go_in|go_back)
 with_reducible refine wp_reg (id:=2) ?_
 refine wpO_val rfl (run_move rfl rfl) ?_
 go_frame
 refine wpO_want rfl ?_
 go_simp
 have hca:=begun25_any A9 L2 cL2 y3 ((uh hL2').ext (uh hP).extf)
 generalize mdS L2=S2 at *
 obtain ⟨V2,E2⟩:=S2
 try dsimp only at hi2 hca ⊢
 refine hca.mono ?_
 clear hca
 rintro _ y4 ⟨g2,bv2,be2,A12,B12,cA2,cB2,rfl,hg0,hs0,he0,hxc⟩
 refine ⟨_,rfl,?_⟩
 replace hP:=hide ((uh hP).ext hxc)
 replace hg:=hide ((uh hg).ext (hxc))
 replace hsV:=hide ((uh hsV).ext (hxc))
 replace hsE:=hide ((uh hsE).ext (hxc))
 have hg2:=hide hg0
 have hsV2:=hide hs0
 have hsE2:=hide he0
 obtain ⟨q2,hq⟩ : ∃ q,q=decide ((V2.length:Int)≤9):=⟨_,rfl⟩
 rw [← hq]
 have hq2':=hide hq
 have hnV2:=hide hg0.nV
 have hnE2:=hide hg0.nE
 clear hxc hg0 hs0 he0 hq
 generalize htu0:Value.tuple _=tu
 have htu:=hide htu0
 clear htu0
 refine wpO_val rfl (run_move rfl rfl) ?_
 go_frame
 refine wpO_val rfl (run_extract (i:=0) (v:=.pointer (some ⟨g2,0,none⟩)) rfl (uh htu).symm rfl) ?_
 go_frame
 refine wpO_val rfl (run_extract (i:=1) (v:=.agg #[.slice A12 V2.length cA2,.slice B12 E2.length cB2]) rfl (uh htu).symm rfl) ?_
 go_frame
 refine wpO_val rfl (run_extract (i:=2) (v:=.bool q2) rfl (uh htu).symm rfl) ?_
 go_frame
 refine (uh hP).allocT 30 #[.slice none 0 0,.slice none 0 0] rfl (by go_simp) ?_
 intro r9 y5 hQ hxa hga
 replace hP:=hide hQ
 clear hQ
 try go_frame
 refine wpO_want rfl ?_
 go_simp
 refine (uh hP).setT 1 #[.slice A12 V2.length cA2,.slice B12 E2.length cB2] rfl rfl (fun hb=>run_store_row (v:=.agg #[.slice A12 V2.length cA2,.slice B12 E2.length cB2]) rfl (by rfl) (by rfl) (by simp [go_sem]) hb rfl (fun u hu=>by simp [Value.cells] at hu;rcases hu with rfl | rfl <;> rfl)) ?_
 intro y6 hQ hkq
 replace hP:=hide hQ
 have hxs:=hxa.of_new hkq (fun x hx=>by rw [List.mem_singleton] at hx;rw [hx];exact hga)
 clear hQ hkq hxa hga
 try go_frame
 replace hg:=hide ((uh hg).ext (hxs))
 replace hsV:=hide ((uh hsV).ext (hxs))
 replace hsE:=hide ((uh hsE).ext (hxs))
 replace hg2:=hide ((uh hg2).ext (hxs))
 replace hsV2:=hide ((uh hsV2).ext (hxs))
 replace hsE2:=hide ((uh hsE2).ext (hxs))
 clear hxs
 refine wpO_want rfl ?_
 go_simp
 refine wpO_done ?_
 try go_frame
 clear htu
 cases q
 ·skip
  try dsimp only
  repeat ((fail_if_success with_reducible refine wp_reg (id:=3) ?_);first|go_values|go_skip|go_step|go_guarded|go_upon|go_in|go_back)
  with_reducible refine wp_reg (id:=3) ?_
  iterate 3
   refine wpO_want rfl ?_
   go_simp
  refine wpO_out (by rfl) ?_
  go_frame
  refine wpO_out (by rfl) ?_
  go_frame
  refine wpO_want rfl ?_
  go_simp
  refine wpO_done ?_
  try go_frame
  try dsimp only
  repeat ((fail_if_success with_reducible refine wp_reg (id:=4) ?_);first|go_values|go_skip|go_step|go_guarded|go_upon|go_in|go_back)
  with_reducible refine wp_reg (id:=4) ?_
  refine wpO_want rfl ?_
  go_simp
  refine (known25_any _ ((uh hT').ext (uh hP).extf)).mono ?_
  rintro _ y7 ⟨rfl,hxc⟩
  refine ⟨_,rfl,?_⟩
  replace hP:=hide ((uh hP).ext hxc)
  clear hxc
  refine wpO_want rfl ?_
  go_simp
  refine wpO_done ?_
  try go_frame
  go_wp2_with fail
  refine Sp.leaves0 ?_
  exact ⟨_,results_tmp rfl _ _ _,rfl,(uh hP).extf⟩
 ·skip
  try dsimp only
  repeat ((fail_if_success with_reducible refine wp_reg (id:=3) ?_);first|go_values|go_skip|go_step|go_guarded|go_upon|go_in|go_back)
  with_reducible refine wp_reg (id:=3) ?_
  iterate 6
   refine wpO_want rfl ?_
   go_simp
  refine wpO_done ?_
  try go_frame
  cases q2
  ·skip
   try dsimp only
   repeat ((fail_if_success with_reducible refine wp_reg (id:=4) ?_);first|go_values|go_skip|go_step|go_guarded|go_upon|go_in|go_back)
   with_reducible refine wp_reg (id:=4) ?_
   refine wpO_want rfl ?_
   go_simp
   refine (known25_any _ ((uh hT').ext (uh hP).extf)).mono ?_
   rintro _ y7 ⟨rfl,hxc⟩
   refine ⟨_,rfl,?_⟩
   replace hP:=hide ((uh hP).ext hxc)
   clear hxc
   refine wpO_want rfl ?_
   go_simp
   refine wpO_done ?_
   try go_frame
   go_wp2_with fail
   refine Sp.leaves0 ?_
   exact ⟨_,results_tmp rfl _ _ _,rfl,(uh hP).extf⟩
  ·skip
   have hV:=hide (show V.length≤9 by have h:=uh hq';have:=of_decide_eq_true h.symm;omega)
   have hV2:=hide (show V2.length≤9 by have h:=uh hq2';have:=of_decide_eq_true h.symm;omega)
   clear hq' hq2'
   have hnE9:=hide hnE
   have hnE29:=hide hnE2
   clear hnV hnE hnV2 hnE2
   obtain ⟨ok,hok0⟩ : ∃ q,q=okO V E V2 E2:=⟨_,rfl⟩
   obtain ⟨lb,hlb0⟩ : ∃ q,q=leastB V2 E E2:=⟨_,rfl⟩
   have hmin:=hide (show isMin V E V2 E2=if ok then (lb,0) else (false,3) by rw [hok0,hlb0];rfl)
   have hok9:=hide hok0
   have hlb:=hide hlb0
   clear hok0 hlb0
   cases ok
   ·skip
    have hok:=hide (show okO V E V2 E2=false from (uh hok9).symm)
    try dsimp only
    repeat ((fail_if_success with_reducible refine wp_reg (id:=5) ?_);first|go_values|go_skip|go_step|go_guarded|go_upon|go_in|go_back)
    with_reducible refine wp_reg (id:=5) ?_
    iterate 2
     refine wpO_want rfl ?_
     go_simp
    refine wpO_want rfl ?_
    go_simp
    have hca:=isMin_any g bv be g2 bv2 be2 V E V2 E2 y6 (uh hg) (uh hg2) ((uh hT').ext (uh hP).extf)
    rw [show isMin V E V2 E2=(false,3) from uh hmin] at hca
    try dsimp only at hca
    refine hca.mono ?_
    clear hca
    rintro _ y7 ⟨rfl,hxc⟩
    refine ⟨_,rfl,?_⟩
    replace hP:=hide ((uh hP).ext hxc)
    replace hg:=hide ((uh hg).ext (hxc))
    replace hsV:=hide ((uh hsV).ext (hxc))
    replace hsE:=hide ((uh hsE).ext (hxc))
    replace hg2:=hide ((uh hg2).ext (hxc))
    replace hsV2:=hide ((uh hsV2).ext (hxc))
    replace hsE2:=hide ((uh hsE2).ext (hxc))
    clear hxc
    try go_frame
    generalize htu0:Value.tuple _=tu
    have htu:=hide htu0
    clear htu0
    refine wpO_val rfl (run_move rfl rfl) ?_
    go_frame
    refine wpO_val rfl (run_extract (i:=0) (v:=.bool false) rfl (uh htu).symm rfl) ?_
    go_frame
    refine wpO_val rfl (run_extract (i:=1) (v:=.int .i64 3) rfl (uh htu).symm rfl) ?_
    go_frame
    iterate 2
     refine wpO_want rfl ?_
     go_simp
    refine wpO_done ?_
    try go_frame
    clear htu
    try dsimp only
    repeat ((fail_if_success with_reducible refine wp_reg (id:=6) ?_);first|go_values|go_skip|go_step|go_guarded|go_upon|go_in|go_back)
    with_reducible refine wp_reg (id:=6) ?_
    refine wpO_val rfl (run_load_agg (cs:=#[.slice A1 V.length cA,.slice B1 E.length cB]) rfl rfl (by simp [go_sem]) (by simp [go_sem]) ((uh hP).get 0 rfl).whole) ?_
    go_frame
    refine wpO_val rfl (run_load_agg (cs:=#[.slice A12 V2.length cA2,.slice B12 E2.length cB2]) rfl rfl (by simp [go_sem]) (by simp [go_sem]) ((uh hP).get 1 rfl).whole) ?_
    go_frame
    refine wpO_want rfl ?_
    go_simp
    have hca:=asked_any A1 B1 V E E.length cA cB A12 B12 V2 E2 cA2 cB2 y7 (uh hi2) (uh hi) (uh hsV2) (uh hsV) (by have:=uh hV2;omega) (by have:=uh hV;omega) (uh hsE2) (uh hsE) (uh hnE29) (uh hnE9) rfl
    rw [uh hok] at hca
    refine hca.mono ?_
    clear hca
    rintro _ y8 ⟨rfl,hxc⟩
    refine ⟨_,rfl,?_⟩
    replace hP:=hide ((uh hP).ext hxc)
    replace hg:=hide ((uh hg).ext (hxc))
    replace hsV:=hide ((uh hsV).ext (hxc))
    replace hsE:=hide ((uh hsE).ext (hxc))
    replace hg2:=hide ((uh hg2).ext (hxc))
    replace hsV2:=hide ((uh hsV2).ext (hxc))
    replace hsE2:=hide ((uh hsE2).ext (hxc))
    clear hxc
    try go_frame
    refine wpO_want rfl ?_
    go_simp
    refine wpO_done ?_
    try go_frame
    try dsimp only
    repeat ((fail_if_success with_reducible refine wp_reg (id:=7) ?_);first|go_values|go_skip|go_step|go_guarded|go_upon|go_in|go_back)
    with_reducible refine wp_reg (id:=7) ?_
    iterate 2
     refine wpO_want rfl ?_
     go_simp
    refine wpO_done ?_
    try go_frame
    try dsimp only
    repeat ((fail_if_success with_reducible refine wp_reg (id:=8) ?_);first|go_values|go_skip|go_step|go_guarded|go_upon|go_in|go_back)
    with_reducible refine wp_reg (id:=8) ?_
    refine wpO_want rfl ?_
    go_simp
    have hca:=known25_any y8 ((uh hT').ext (uh hP).extf)
    refine hca.mono ?_
    clear hca
    rintro _ y9 ⟨rfl,hxc⟩
    refine ⟨_,rfl,?_⟩
    replace hP:=hide ((uh hP).ext hxc)
    replace hg:=hide ((uh hg).ext (hxc))
    replace hsV:=hide ((uh hsV).ext (hxc))
    replace hsE:=hide ((uh hsE).ext (hxc))
    replace hg2:=hide ((uh hg2).ext (hxc))
    replace hsV2:=hide ((uh hsV2).ext (hxc))
    replace hsE2:=hide ((uh hsE2).ext (hxc))
    clear hxc
    try go_frame
    iterate 10
     refine wpO_want rfl ?_
     go_simp
    refine wpO_done ?_
    try go_frame
    go_wp2_with fail
    refine Sp.leaves0 ?_
    exact ⟨_,results_tmp (t:=4) rfl _ _ _,rfl,(uh hP).extf⟩
   ·skip
    have hok:=hide (show okO V E V2 E2=true from (uh hok9).symm)
    try dsimp only
    repeat ((fail_if_success with_reducible refine wp_reg (id:=5) ?_);first|go_values|go_skip|go_step|go_guarded|go_upon|go_in|go_back)
    with_reducible refine wp_reg (id:=5) ?_
    iterate 2
     refine wpO_want rfl ?_
     go_simp
    refine wpO_want rfl ?_
    go_simp
    have hca:=isMin_any g bv be g2 bv2 be2 V E V2 E2 y6 (uh hg) (uh hg2) ((uh hT').ext (uh hP).extf)
    rw [show isMin V E V2 E2=(lb,0) from uh hmin] at hca
    try dsimp only at hca
    refine hca.mono ?_
    clear hca
    rintro _ y7 ⟨rfl,hxc⟩
    refine ⟨_,rfl,?_⟩
    replace hP:=hide ((uh hP).ext hxc)
    replace hg:=hide ((uh hg).ext (hxc))
    replace hsV:=hide ((uh hsV).ext (hxc))
    replace hsE:=hide ((uh hsE).ext (hxc))
    replace hg2:=hide ((uh hg2).ext (hxc))
    replace hsV2:=hide ((uh hsV2).ext (hxc))
    replace hsE2:=hide ((uh hsE2).ext (hxc))
    clear hxc
    try go_frame
    generalize htu0:Value.tuple _=tu
    have htu:=hide htu0
    clear htu0
    refine wpO_val rfl (run_move rfl rfl) ?_
    go_frame
    refine wpO_val rfl (run_extract (i:=0) (v:=.bool lb) rfl (uh htu).symm rfl) ?_
    go_frame
    refine wpO_val rfl (run_extract (i:=1) (v:=.int .i64 0) rfl (uh htu).symm rfl) ?_
    go_frame
    iterate 2
     refine wpO_want rfl ?_
     go_simp
    refine wpO_done ?_
    try go_frame
    clear htu
    try dsimp only
    repeat ((fail_if_success with_reducible refine wp_reg (id:=6) ?_);first|go_values|go_skip|go_step|go_guarded|go_upon|go_in|go_back)
    with_reducible refine wp_reg (id:=6) ?_
    refine wpO_val rfl (run_load_agg (cs:=#[.slice A1 V.length cA,.slice B1 E.length cB]) rfl rfl (by simp [go_sem]) (by simp [go_sem]) ((uh hP).get 0 rfl).whole) ?_
    go_frame
    refine wpO_val rfl (run_load_agg (cs:=#[.slice A12 V2.length cA2,.slice B12 E2.length cB2]) rfl rfl (by simp [go_sem]) (by simp [go_sem]) ((uh hP).get 1 rfl).whole) ?_
    go_frame
    refine wpO_want rfl ?_
    go_simp
    have hca:=asked_any A1 B1 V E E.length cA cB A12 B12 V2 E2 cA2 cB2 y7 (uh hi2) (uh hi) (uh hsV2) (uh hsV) (by have:=uh hV2;omega) (by have:=uh hV;omega) (uh hsE2) (uh hsE) (uh hnE29) (uh hnE9) rfl
    rw [uh hok] at hca
    refine hca.mono ?_
    clear hca
    rintro _ y8 ⟨rfl,hxc⟩
    refine ⟨_,rfl,?_⟩
    replace hP:=hide ((uh hP).ext hxc)
    replace hg:=hide ((uh hg).ext (hxc))
    replace hsV:=hide ((uh hsV).ext (hxc))
    replace hsE:=hide ((uh hsE).ext (hxc))
    replace hg2:=hide ((uh hg2).ext (hxc))
    replace hsV2:=hide ((uh hsV2).ext (hxc))
    replace hsE2:=hide ((uh hsE2).ext (hxc))
    clear hxc
    try go_frame
    refine wpO_want rfl ?_
    go_simp
    refine wpO_done ?_
    try go_frame
    try dsimp only
    repeat ((fail_if_success with_reducible refine wp_reg (id:=7) ?_);first|go_values|go_skip|go_step|go_guarded|go_upon|go_in|go_back)
    with_reducible refine wp_reg (id:=7) ?_
    iterate 2
     refine wpO_want rfl ?_
     go_simp
    refine wpO_done ?_
    try go_frame
    try dsimp only
    repeat ((fail_if_success with_reducible refine wp_reg (id:=9) ?_);first|go_values|go_skip|go_step|go_guarded|go_upon|go_in|go_back)
    with_reducible refine wp_reg (id:=9) ?_
    refine wpO_want rfl ?_
    go_simp
    have hca:=known25_any y8 ((uh hT').ext (uh hP).extf)
    refine hca.mono ?_
    clear hca
    rintro _ y9 ⟨rfl,hxc⟩
    refine ⟨_,rfl,?_⟩
    replace hP:=hide ((uh hP).ext hxc)
    replace hg:=hide ((uh hg).ext (hxc))
    replace hsV:=hide ((uh hsV).ext (hxc))
    replace hsE:=hide ((uh hsE).ext (hxc))
    replace hg2:=hide ((uh hg2).ext (hxc))
    replace hsV2:=hide ((uh hsV2).ext (hxc))
    replace hsE2:=hide ((uh hsE2).ext (hxc))
    clear hxc
    try go_frame
    iterate 6
     refine wpO_want rfl ?_
     go_simp
    refine wpO_val rfl (run_load_agg (cs:=#[.slice A1 V.length cA,.slice B1 E.length cB]) rfl rfl (by simp [go_sem]) (by simp [go_sem]) ((uh hP).get 0 rfl).whole) ?_
    go_frame
    refine wpO_val rfl (run_load_agg (cs:=#[.slice A12 V2.length cA2,.slice B12 E2.length cB2]) rfl rfl (by simp [go_sem]) (by simp [go_sem]) ((uh hP).get 1 rfl).whole) ?_
    go_frame
    refine wpO_want rfl ?_
    go_simp
    have hca:=least25_any A1 B1 V E cA cB A12 B12 V2 E2 E2.length cA2 cB2 y9 (uh hi2) (uh hsV2) (by have:=uh hV2;omega) (uh hsE) (uh hsE2) (uh hnE9) (uh hnE29) rfl
    rw [← uh hlb] at hca
    refine hca.mono ?_
    clear hca
    rintro _ y10 ⟨rfl,hxc⟩
    refine ⟨_,rfl,?_⟩
    replace hP:=hide ((uh hP).ext hxc)
    replace hg:=hide ((uh hg).ext (hxc))
    replace hsV:=hide ((uh hsV).ext (hxc))
    replace hsE:=hide ((uh hsE).ext (hxc))
    replace hg2:=hide ((uh hg2).ext (hxc))
    replace hsV2:=hide ((uh hsV2).ext (hxc))
    replace hsE2:=hide ((uh hsE2).ext (hxc))
    clear hxc
    try go_frame
    have hbb:(lb == lb)=true:=by cases lb <;> rfl
    iterate 3
     refine wpO_want rfl ?_
     go_simp
    refine wpO_done ?_
    try go_frame
    go_wp2_with fail
    refine Sp.leaves0 ?_
    exact ⟨_,results_tmp (t:=4) rfl _ _ _,rfl,(uh hP).extf⟩
end Go.Proofs.YtmokciekndllpaaGreatDoor
