/- Parts of a proof, laid together. Each part says its own conditions. -/
import Derived.Test.YtmokciekndllpaaGreatDoorC5
import Derived.Test.YtmokciekndllpaaGreatDoorRows
import Derived.Deep.Slices
import Derived.Deep.Fields
import Derived.ChangeSame
import Derived.OpenShut
import Derived.Test.YtmokciekndllpaaGreatDoorC13
import Derived.Test.YtmokciekndllpaaGreatDoorC14
import Derived.Test.YtmokciekndllpaaGreatDoorC15
import Derived.Test.YtmokciekndllpaaGreatDoorC17
import Derived.Test.YtmokciekndllpaaGreatDoorC18
import Derived.Test.YtmokciekndllpaaGreatDoorC19
import Derived.Test.YtmokciekndllpaaGreatDoorC10
import Derived.Test.YtmokciekndllpaaGreatDoorC25
import Derived.Test.YtmokciekndllpaaGreatDoorC16
import Derived.Test.YtmokciekndllpaaGreatDoorC20
import Derived.Test.YtmokciekndllpaaGreatDoorC34
import Derived.Test.YtmokciekndllpaaGreatDoorC35
import Derived.Test.YtmokciekndllpaaGreatDoorC38
set_option maxRecDepth 100000
set_option maxHeartbeats 16000000
namespace Go.Proofs.YtmokciekndllpaaGreatDoor
open Go Go.RowKit
theorem uh {p : Prop} (h : Hid p) : p := unhide h
end Go.Proofs.YtmokciekndllpaaGreatDoor
namespace Go.Proofs.YtmokciekndllpaaGreatDoor
open Go Go.RowKit Go.ChangeShapes Go.WideShapes Go.Deep
section
variable {H:Type} {enc:TypeId×Value→H} {P:Program} {w:World} {base:Nat} {spare:Nat→Bool} {held:Bool}
theorem open_slice_fields {t e:TypeId} {fs:Array Field} {fuel:Nat} {cs:List Value} {x:DataW H×List MemPlace} (ht:P.underlying t=some (.slice e)) (he:P.underlying e=some (.struct fs))
  (hone:oneCellFields P fs=true) (hC:P.cellsOf e=fs.size) (h:DataW.trod enc P w base spare held fuel t cs=some x) :
  cs=[.slice none 0 0] ∨
  ∃ (a:Addr) (len cap n:Nat),cs=[.slice (some a) len cap]∧len≤cap∧cap≤maxLen ∧
   ∀ i,i < len → ∀ (j:Nat) (f:Field),fs[j]? = some f → ∃ (v:Value) (y:DataW H×List MemPlace),w.cell? (a.add (i*fs.size+j))=some v∧DataW.trod enc P w base spare held n f.type [v]=some y:=by
 rcases open_slice ht h with h0 | ⟨a,len,cap,m,n,D,Pl,hcs,hb,hl,hm,hmm,hx,hi⟩
 ·exact .inl h0.1
 ·cases n with
  | zero =>
   refine .inr ⟨a,len,cap,0,hcs,hl,hm,fun i hil=>?_⟩
   have hle:len≤m:=by rw [hmm];split <;> omega
   obtain ⟨cs',hc,ht'⟩:=hi i (by omega)
   cases ht'
  | succ n =>
   refine .inr ⟨a,len,cap,n,hcs,hl,hm,fun i hil j f hj=>?_⟩
   have hle:len≤m:=by rw [hmm];split <;> omega
   obtain ⟨cs',hc,ht'⟩:=hi i (by omega)
   rw [hC] at hc
   obtain ⟨ys,n',hn',hy,hlen,hyl,hf⟩:=DataW.trod_struct he ht'
   obtain rfl:n'=n:=by omega
   obtain ⟨_,hcl,hat⟩:=World.cells?_some hc
   obtain ⟨ho,hk⟩:=hone_of hone j f hj
   have hjl:j < fs.size:=(Array.getElem?_eq_some_iff.1 hj).1
   have hcell:=hat j hjl
   have hv:cs'[j]? = some (cs'[j]'(by omega)):=List.getElem?_eq_getElem (by omega)
   have h1:=hf j f hj
   rw [ho,hk] at h1
   have hone':(cs'.drop j).take 1=[cs'[j]'(by omega)]:=by
    rw [List.drop_eq_getElem_cons (by omega)]
    rfl
   rw [hone'] at h1
   have hys:ys[j]? = some (ys[j]'(by omega)):=List.getElem?_eq_getElem (by omega)
   refine ⟨_,_,?_,h1.trans hys⟩
   rw [← Go.Deep.add_add,hcell,hv]
end
theorem slAt_of {α:Type} [Inhabited α] {enc:α→List Value} {k:Nat} {w:World} {a:Addr} {len:Nat} {p:α→Prop} (h0:∀ x, ∃ u:Value,(enc x)[0]? = some u)
  (h:∀ i,i < len → ∃ x:α,(∀ j u,(enc x)[j]? = some u→w.cell? (a.add (i*k+j))=some u)∧p x) : ∃ L:List α,L.length=len∧SlAt enc k w (some a) L ∧ ∀ x∈L,p x:=by
 obtain ⟨f,hf⟩:=choose_lt h
 refine ⟨(List.range len).map f,by simp,fun hne=>?_,fun x hx=>?_⟩
 ·have hpos:0 < len:=by
   rcases Nat.eq_zero_or_pos len with h | h
   ·subst h;simp at hne
   ·exact h
  obtain ⟨u,hu⟩:=h0 (f 0)
  have hc:=(hf 0 hpos).1 0 u hu
  obtain ⟨b,off,spot⟩:=a
  have hspot:spot=none:=by simpa [Addr.add] using World.cell?_spot hc
  subst hspot
  have hlt:=World.block_lt_of_cell? w _ hc
  refine ⟨b,off,rfl,by simpa [Addr.add] using hlt,fun i x hx j u hu=>?_⟩
  rw [List.getElem?_map] at hx
  obtain ⟨i',hi',rfl⟩:=Option.map_eq_some_iff.1 hx
  obtain ⟨hil,rfl⟩:=List.getElem?_eq_some_iff.1 hi'
  simp only [List.getElem_range] at hu
  have:=(hf i (by simpa using hil)).1 j u hu
  unfold Addr.add at this
  split at this
  ·rename_i hz
   rw [show off+i*k+j=off by omega]
   exact this
  ·rw [show off+i*k+j=off+(i*k+j) by omega]
   exact this
 ·obtain ⟨i,hi,rfl⟩:=List.mem_map.1 hx
  exact (hf i (List.mem_range.1 hi)).2
def okD (d:Ed) : Prop:=i64ok d.1∧i64ok d.2.1∧i64ok d.2.2.1∧i64ok d.2.2.2.2
theorem i64_of_wf {n:Int} (h:(Lit.int .i64 n).wf=true) : i64ok n:=by
 have:=Go.bounds_i64 h
 unfold i64ok
 omega
section
variable {H:Type} {enc:TypeId×Value→H} {w:World} {base:Nat} {spare:Nat→Bool} {held:Bool} {fuel:Nat} {x:DataW H×List MemPlace} {a:Option Addr} {len cap:Nat}
theorem open_edits (h:DataW.trod enc Tryz.prog w base spare held fuel 22 [.slice a len cap]=some x) : ∃ L:List Ed,L.length=len∧SlAt encD 5 w a L∧(∀ d∈L,okD d)∧len≤9223372036854775807∧len≤cap:=by
 rcases open_slice_fields Tryz.underlying22 Tryz.underlying63 (by kernel_rfl) (by kernel_rfl) h with h0 | ⟨a',len',cap',n,hcs,hl,hm,hf⟩
 ·simp at h0
  obtain ⟨rfl,rfl,rfl⟩:=h0
  exact ⟨[],rfl,SlAt.nil,by simp,by omega,by omega⟩
 ·simp at hcs
  obtain ⟨rfl,rfl,rfl⟩:=hcs
  obtain ⟨L,h1,h2,h3⟩:=slAt_of (α:=Ed) (enc:=encD) (k:=5) (w:=w) (a:=a') (len:=len) (p:=okD) (fun x=>⟨_,rfl⟩) (fun i hi=>by
   obtain ⟨v0,y0,c0,r0⟩:=hf i hi 0 _ rfl
   obtain ⟨v1,y1,c1,r1⟩:=hf i hi 1 _ rfl
   obtain ⟨v2,y2,c2,r2⟩:=hf i hi 2 _ rfl
   obtain ⟨v3,y3,c3,r3⟩:=hf i hi 3 _ rfl
   obtain ⟨v4,y4,c4,r4⟩:=hf i hi 4 _ rfl
   obtain ⟨n0,e0,_,w0⟩:=DataW.trod_int Tryz.underlying3 r0
   obtain ⟨n1,e1,_,w1⟩:=DataW.trod_int Tryz.underlying3 r1
   obtain ⟨n2,e2,_,w2⟩:=DataW.trod_int Tryz.underlying3 r2
   obtain ⟨n3,e3,_,w3⟩:=DataW.trod_int Tryz.underlying5 r3
   obtain ⟨n4,e4,_,w4⟩:=DataW.trod_int Tryz.underlying3 r4
   simp at e0 e1 e2 e3 e4
   subst e0 e1 e2 e3 e4
   refine ⟨(n0,n1,n2,n3,n4),fun j u hu=>?_,i64_of_wf w0,i64_of_wf w1,i64_of_wf w2,i64_of_wf w4⟩
   match j,hu with
   | 0,hu=>simp [encD] at hu;subst hu;exact c0
   | 1,hu=>simp [encD] at hu;subst hu;exact c1
   | 2,hu=>simp [encD] at hu;subst hu;exact c2
   | 3,hu=>simp [encD] at hu;subst hu;exact c3
   | 4,hu=>simp [encD] at hu;subst hu;exact c4)
  exact ⟨L,h1,h2,h3,by unfold maxLen at hm;omega,hl⟩
end
end Go.Proofs.YtmokciekndllpaaGreatDoor
namespace Go.Proofs.YtmokciekndllpaaGreatDoor
open Go Go.RowKit
theorem app_step2 {α:Type} {enc:α→List Value} {wI wr w2 w':World} {base T k n:Nat} {v:Value} {xs:List α} (hx:Ext wI wr) (hown:wr.ownsRow base T k v n (xs.flatMap enc)) (hx2:Ext wr w2) (hg:w2.grownBy w' v.ownBlock) (hb:wI.heap.size≤base) : Ext wI w' :=
 (hx.trans hx2).grown hg hb (own_ext hown hx2)
end Go.Proofs.YtmokciekndllpaaGreatDoor
namespace Go.Proofs.YtmokciekndllpaaGreatDoor
open Go Go.RowKit Go.Shelf
section
variable {b:Nat} {L:List Cl} {Rs:List Rw} {W W':World}
end
section
variable {wf:World} {T0:List Nat} {w W W':World} {ds:List Deferred} {L L':List Cl} {Rs Rs':List Rw}
end
section
variable {P:Program}
end
section
variable {P:Program} {C:World→Prop} {safe:Nat→Bool} {Q:Act→World→Prop} {l:List Oper} {n i:Nat} {o:Oper} {listed:Array Bool} {a:Act} {W w':World} {v:Value}
end
section
variable {α:Type} {enc:α→List Value} {T ST:TypeId} {kk byt:Nat} {C:World→Prop} {safe:Nat→Bool} {Q:Act→World→Prop} {l:List Oper} {n i:Nat} {o:Oper} {s x:Operand} {listed:Array Bool} {a:Act} {W:World}
end
section
variable {P:Program} {wf:World} {T0:List Nat} {w W:World} {ds:List Deferred} {L:List Cl} {Rs:List Rw} {l:List Oper} {K:Act→World→Prop} {r:List Oper} {o:Oper} {a:Act}
variable {C:World→Prop} {safe:Nat→Bool} {Q:Act→World→Prop} {n j:Nat} {listed:Array Bool} {S:List Nat} {w1:World}
end
section
variable {α:Type} {enc:α→List Value} {T ST:TypeId} {kk byt:Nat} {l:List Oper} {s x:Operand} {o:Oper} {a:Act} {W w wf:World} {T0:List Nat} {ds:List Deferred} {L:List Cl} {Rs:List Rw}
end
theorem Sp.toRow {wf:World} {T0:List Nat} {w W:World} {ds:List Deferred} {L:List Cl} {Rs:List Rw} {b t n:Nat} {cs:Array Value} (h:Sp wf T0 w ds (L++[(b,t,cs)]) Rs W) (hn:cs.size=n) (h0:n≤100) : Sp wf T0 w ds L (Rs++[(t,1,.slice (some ⟨b,0,none⟩) n n,n,cs.toList)]) W:=by
 have hT:(stT L (Rs++[(t,1,.slice (some ⟨b,0,none⟩) n n,n,cs.toList)])).Perm (stT (L++[(b,t,cs)]) Rs):=by
  unfold stT rwT
  rw [List.flatMap_append,List.map_append,List.append_assoc]
  refine List.Perm.append_left _ ?_
  simp only [List.flatMap_cons,List.flatMap_nil,List.append_nil,rwB_slice (show (1:Nat)≠0 by decide),Value.ownBlock,Option.toList,List.map_cons,List.map_nil]
  exact List.perm_append_comm
 have hb:Blk W b t cs:=h.st.cells (b,t,cs) (by simp)
 refine h.step (Keep.refl [] W) (by simp) ⟨fun e he=>h.st.cells e (by simp [he]),fun r hr=>?_,hT.nodup_iff.2 h.st.nd,fun x hx=>h.st.ge x (hT.mem_iff.1 hx)⟩ (fun x hx=>.inl (hT.mem_iff.1 hx))
 rcases List.mem_append.1 hr with hr | hr
 ·exact h.st.rows r hr
 ·rw [List.mem_singleton] at hr
  subst hr
  refine (RowIs.slice (by decide)).2 ?_
  exact ⟨by simp [hn],.inr ⟨b,n,cs,rfl,h.st.ge b (by unfold stT;simp),hb,Nat.le_refl _,by unfold maxLen;omega,by simpa using hn,by rw [Nat.mul_one, ← hn];exact List.take_of_length_le (by simp)⟩⟩
section
variable {κ τ:Type} {ek:κ→Value} {ev:τ→Value} {ok:κ→Prop}
end
section
variable {κ τ:Type} {ek:κ→Value} {ev:τ→Value} {ok:κ→Prop} {P:Program} {kt et t T:TypeId} {wf:World} {T0:List Nat} {w W:World} {ds:List Deferred} {L:List Cl} {Rs:List Rw} {l:List Oper} {K:Act→World→Prop} {r:List Oper} {o:Oper} {a:Act} {mb n:Nat} {m:List (κ×τ)}
variable [DecidableEq κ]
end
section
variable {α:Type} {enc:α→List Value} {T ST:TypeId} {kk byt:Nat} {l:List Oper} {s x:Operand} {o:Oper} {a:Act} {W w wf:World} {T0:List Nat} {ds:List Deferred} {L:List Cl} {Rs:List Rw}
theorem Sp.apAO {K:Act→World→Prop} {r:List Oper} (h:Sp wf T0 w ds L Rs W) (i:Nat) {v:Value} {m:Nat} {xs:List α} (hi:Rs[i]? = some (T,kk,v,m,xs.flatMap enc)) (hw:Region.wanted o (yielded l.toArray a.tmps)=true) (hi0:(Tryz.prog.info? T).map (fun i=>(i.zero.map (·.cells.size),i.size,i.bytes))=some (some kk,kk,byt)) (hu:Tryz.prog.underlying ST=some (.slice T)) (hone:∀ x, ∀ v∈enc x,v.oneCell'=true) (hlen:∀ x,(enc x).length=kk) (hk:0 < kk) (hby:byt≤1000)
  (ho:o.op=.call { callee:=.builtin .append,args:=#[s,x],argTypes:=#[ST,ST] }) (ys:List α) {my c:Nat} {A:Option Addr} (hs:a.eval s=v) (hx:a.eval x=.slice A my c) (hm:ys.length=my) (hsrc:SlAt enc kk W A ys) (hl:m+my≤100000000)
  (hk2:∀ A' c' W',Sp wf T0 w ds L (Rs.set i (T,kk,.slice A' (m+my) c',m+my,(xs++ys).flatMap enc)) W'→wpO Tryz.prog l K r (a.put o.dst (.slice A' (m+my) c')) W') : wpO Tryz.prog l K (o::r) a W :=
 wpO_apA hw hi0 hu hone hlen hk hby ho ys hs hx hm hsrc (h.row i hi (by omega)) hl h.size fun A' c' w' h1 h2 h3=>hk2 A' c' w' (h.push i (by omega) hi (Ext.refl W) h1 h2 h3)
variable {S:List Nat} {w1:World} {safe:Nat→Bool} {q:Prop} {Q:Act→World→Prop} {n:Nat} {li:Array Bool}
end
section
variable {P:Program} {l:List Oper} {o:Oper} {a:Act} {W w wf:World} {T0:List Nat} {ds:List Deferred} {L:List Cl} {Rs:List Rw} {S:List Nat} {w1:World} {safe:Nat→Bool} {q:Prop} {Q:Act→World→Prop} {n:Nat} {li:Array Bool}
end
section
variable {P:Program} {C:World→Prop} {safe:Nat→Bool} {Q:Act→World→Prop}
end
theorem slK {w:World} {b off:Nat} {L:List Int} {S:List Nat} (h:SlAt encI 1 w (some ⟨b,off,none⟩) L) (hb:b ∉ S) {i:Nat} (hi:i < L.length) : ∀ W,Keep S w W→W.cell? ⟨b,off+i,none⟩=some (.int .i64 L[i]):=by
 intro W hk
 obtain ⟨b',off',e,hc⟩:=atI (h.keepS hk (fun b2 o2 e hm=>by injection e with e;injection e with e1 e2;subst e1;exact hb hm)) hi
 injection e with e
 injection e with e1 e2
 subst e1
 subst e2
 exact hc W (Ext.refl W)
theorem slE {w:World} {b off:Nat} {L:List Int} (h:SlAt encI 1 w (some ⟨b,off,none⟩) L) {i:Nat} (hi:i < L.length) : ∀ W,Ext w W→W.cell? ⟨b,off+i,none⟩=some (.int .i64 L[i]):=fun W hW=>slK h (S:=[]) (by simp) hi W (hW.keep [])
section
variable {P:Program} {C:World→Prop} {safe:Nat→Bool} {Q:Act→World→Prop} {l:List Oper} {r:List Oper} {K:Act→World→Prop} {o:Oper} {a:Act} {W w wf:World} {T0:List Nat} {ds:List Deferred} {L:List Cl} {Rs:List Rw} {n j:Nat} {li:Array Bool}
end
end Go.Proofs.YtmokciekndllpaaGreatDoor
namespace Go.Proofs.YtmokciekndllpaaGreatDoor
theorem toK_next (N k:Nat) : toK N (k+1)=if N.testBit k=true then toK N k++[(k:Int)] else toK N k:=by
 unfold toK
 rw [List.range_succ,List.filter_append,List.map_append]
 cases hb:N.testBit k <;> simp [hb]
end Go.Proofs.YtmokciekndllpaaGreatDoor
namespace Go.Proofs.YtmokciekndllpaaGreatDoor
open Go
theorem or_len {N M:Nat} (hd:∀ x∈toL M,x ∉ toL N) : (toL N).length+(toL M).length≤(toL (N ||| M)).length:=by
 have:=len_le_sub (toL N++toL M) (toL (N ||| M)) (List.nodup_append.2 ⟨toL_nodup N,toL_nodup M,fun a ha b hb e=>hd b hb (e ▸ ha)⟩) (fun x hx=>mem_or.2 (by simpa using hx))
 simpa using this
end Go.Proofs.YtmokciekndllpaaGreatDoor
namespace Go.Proofs.YtmokciekndllpaaGreatDoor
open Go Go.RowKit
attribute [local go_sem] qUpon lUpon
def OwI (w:World) (xs:List Int) (e:Ending) (w':World) : Prop:=∃ A' c',e=.returned (.slice A' xs.length c')∧w'.ownsRow w.heap.size 3 1 (.slice A' xs.length c') xs.length (xs.flatMap encI)∧Ext w w'
theorem OwI.mk {w w':World} {xs:List Int} {A':Option Addr} {n c' b:Nat} (hn:n=xs.length) (h1:w'.ownsRow b 3 1 (.slice A' xs.length c') xs.length (xs.flatMap encI)) (hb:w.heap.size≤b) (h2:Ext w w') : OwI w xs (.returned (.slice A' n c')) w':=⟨A',c',by rw [hn],own_base_le h1 hb,h2⟩
theorem joined25_any (A B:Option Addr) (V:List (Int×Thing)) (E:List ((Int×Int)×Thing)) (cA cB:Nat) (u v:Int) (w:World) (hE:SlAt encE 4 w B E) (hl:E.length≤4096) :
  Calls Tryz.prog 73 #[.agg #[.slice A V.length cA,.slice B E.length cB],.int .i64 u,.int .i64 v] w fun e w'=>e=.returned (.bool (hasE u v E))∧Ext w w':=by
 have hx1:=hide (ext_self1 w (.cells #[.slice A V.length cA,.slice B E.length cB] 30))
 have hE':=hide hE
 clear hE
 go_enter Tryz.func73,Tryz.ntmps73
 go_wp2_with fail
 refine (redge_any A B E V.length cA cB u v _ ((uh hE').ext (uh hx1)) hl).mono ?_
 rintro e w2 ⟨rfl,hx2⟩
 have hq:hasE u v E=decide (0≤posI (isE u v) E):=rfl
 generalize posI (isE u v) E=p at *
 have hq':=hide hq
 have hx3:=hide ((uh hx1).trans hx2)
 clear hx2 hq
 go_wp2_with fail
 go_ret
 exact ⟨by rw [uh hq'];rfl,uh hx3⟩
theorem cellI {w:World} {A:Option Addr} {L:List Int} (h:SlAt encI 1 w A L) {k:Nat} (hk:k < L.length) : ∃ b off,A=some ⟨b,off,none⟩ ∧ ∀ W,Ext w W→W.cell? ⟨b,off+k,none⟩=some (.int .i64 L[k]):=by
 obtain ⟨b,off,rfl,hc⟩:=atI h hk
 exact ⟨b,off,rfl,hc⟩
end Go.Proofs.YtmokciekndllpaaGreatDoor
namespace Go.Proofs.YtmokciekndllpaaGreatDoor
open Go Go.RowKit Go.Shelf
attribute [local go_sem] qUpon lUpon
section
variable {P:Program} {wf:World} {T0:List Nat} {w W:World} {ds:List Deferred} {L:List Cl} {Rs:List Rw} {l:List Oper} {K:Act→World→Prop} {r:List Oper} {o:Oper} {a:Act}
theorem Sp.allocVO (h:Sp wf T0 w ds L Rs W) {v:Nat→Value} (t:TypeId) (cs:Array Value) (hw:Region.wanted o (yielded l.toArray a.tmps)=true) (hrun:(execOp a.eval o).run P W=.ok (.value (v W.heap.size)) (W.alloc (.cells cs t)))
  (hk:∀ b W',Sp wf T0 w ds (L++[(b,t,cs)]) Rs W'→wpO P l K r (a.put o.dst (v b)) W') : wpO P l K (o::r) a W:=wpO_val hw hrun (hk _ _ (h.alloc t cs))
end
end Go.Proofs.YtmokciekndllpaaGreatDoor
namespace Go.Proofs.YtmokciekndllpaaGreatDoor
open Go Go.RowKit Go.Shelf
attribute [local go_sem] qUpon lUpon
attribute [local irreducible] wpO wpX wpQL
theorem mem_take_next {L:List Int} {k:Nat} (h:k < L.length) (x:Int) : x∈L.take (k+1)↔x∈L.take k∨x=L[k]:=by
 rw [List.take_succ_eq_append_getElem h,List.mem_append,List.mem_singleton]
theorem run_buildR {ρ:Operand→Value} {o:Oper} {x:Operand} {w:World} {z:Int} (ho:o.op=.buildSlice 43 1 #[(0,x)]) (hx:ρ x=.int .i64 z) : (execOp ρ o).run Tryz.prog w=.ok (.value (.slice (some ⟨w.heap.size,0,none⟩) 1 1)) (w.alloc (.cells #[.int .i64 z] 3)):=by
 unfold execOp
 simp only [ho]
 simp [go_sem,hx]
def SlO (w:World) (A:Option Addr) (c:Nat) (L xs:List Int) (e:Ending) (w':World) : Prop:=∃ A' c',e=.returned (.slice A' xs.length c')∧SlAt encI 1 w' A' xs∧Ext w w'∧(A'=A∧c'=c∧xs=L∨w'.ownsRow w.heap.size 3 1 (.slice A' xs.length c') xs.length (xs.flatMap encI))
theorem SlO.same {w w':World} {xs:List Int} {A:Option Addr} {n c:Nat} (hn:n=xs.length) (h1:SlAt encI 1 w' A xs) (h2:Ext w w') : SlO w A c xs xs (.returned (.slice A n c)) w':=⟨A,c,by rw [hn],h1,h2,.inl ⟨rfl,rfl,rfl⟩⟩
theorem SlO.own {w w':World} {L xs:List Int} {A A':Option Addr} {n c c':Nat} (hn:n=xs.length) (h1:w'.ownsRow w.heap.size 3 1 (.slice A' xs.length c') xs.length (xs.flatMap encI)) (h2:Ext w w') : SlO w A c L xs (.returned (.slice A' n c')) w':=⟨A',c',by rw [hn],own_at (enc:=encI) h1 (fun _=>rfl),h2,.inr h1⟩
theorem run_build0 {ρ:Operand→Value} {o:Oper} {w:World} (ho:o.op=.buildSlice 43 0 #[]) : (execOp ρ o).run Tryz.prog w=.ok (.value (.slice (some ⟨w.heap.size,0,none⟩) 0 0)) (w.alloc (.cells #[] 3)):=by
 unfold execOp
 simp only [ho]
 simp [go_sem]
theorem hasQ_any (A:Option Addr) (L:List Int) (n cL:Nat) (x:Int) (w:World) (hL:SlAt encI 1 w A L) (hn:n=L.length) (hl:n≤100000) :
  Calls Tryz.prog 90 #[.slice A n cL,.int .i64 x] w fun e w'=>e=.returned (.bool (decide (x∈L)))∧Ext w w':=by
 have hL':=hide hL
 have hn':=hide hn
 have hl':=hide hl
 clear hL hn hl
 have hP:=hide (Sp.new w)
 refine callsIn_wide.1 (callsIn_of_wp_marks (n:=0) Tryz.func90 rfl trivial (wpIn_wide.2 ?_))
 simp only [Tryz.ntmps90,List.size_toArray,List.length_cons,List.length_nil,Nat.reduceAdd,Nat.reduceSub,Array.replicate_succ,Array.replicate_zero,List.push_toArray,List.append_toArray,List.nil_append,List.cons_append]
 try dsimp only
 repeat ((fail_if_success with_reducible refine wp_reg (id:=1) ?_);first|go_values|go_skip|go_step|go_guarded|go_upon|go_in|go_back)
 with_reducible refine wp_reg (id:=1) ?_
 refine wpO_want rfl ?_
 go_simp
 refine wpO_done ?_
 try go_frame
 go_wp2_with fail
 obtain ⟨I0_2,hI0_20⟩ : ∃ I:Nat→Act→World→Prop,I=fun fi a' wr=>∃ (k:Nat),a'.tmps.size=18∧a'.tmps.getD 0 undef=.slice A n cL∧a'.tmps.getD 1 undef=.int .i64 x∧a'.tmps.getD 5 undef=.int .i64 (k:Nat)∧a'.defers=[]∧k≤n ∧ ¬ x∈L.take k∧Sp w [] w [] [] [] wr∧fi=n-k:=⟨_,rfl⟩
 have hI0_2:=hide hI0_20
 clear hI0_20
 refine wp_loop_ix I0_2 (n-0) ?_ ?_
 ·rw [uh hI0_2];exact ⟨0,rfl,rfl,rfl,rfl,rfl,Nat.zero_le _,by simp,uh hP,rfl⟩
 ·rintro fi ⟨tm,dfs⟩ wr hrel
  rw [uh hI0_2] at hrel
  obtain ⟨k,hsz,e0,e1,e5,hdf,hk,hno,hPr,hfm⟩:=hrel
  obtain ⟨us,rfl⟩ : ∃ us:Nat→Value,tm=#[us 0,us 1,us 2,us 3,us 4,us 5,us 6,us 7,us 8,us 9,us 10,us 11,us 12,us 13,us 14,us 15,us 16,us 17]:=⟨fun i=>tm.getD i undef,arr_fn hsz⟩
  have h0:us 0=.slice A n cL:=e0
  have h1:us 1=.int .i64 x:=e1
  have h5:us 5=.int .i64 (k:Nat):=e5
  have hdf2:dfs=[]:=hdf
  subst hdf2
  clear hdf hsz e0 e1 e5
  simp only [h0,h1,h5]
  clear h0 h1 h5
  clear hP
  have hP:=hide hPr
  have hno':=hide hno
  have hfm':=hide hfm
  clear hPr hno hfm
  by_cases hlt:k < n
  ·have hil:(k:Int) < (n:Int):=by omega
   have hk2:=hide hlt
   have hkL:k < L.length:=by have:=uh hn';omega
   have hkb:(k:Int)≤100000:=by have:=uh hl';omega
   clear hk hlt
   obtain ⟨b0,o0,rfl,hcz⟩:=cellI (uh hL') hkL
   clear hcz
   obtain ⟨y,hy⟩ : ∃ y,y=L[k]:=⟨_,rfl⟩
   have c0:=slE ((uh hL').ext (uh hP).extf) hkL
   rw [← hy] at c0
   have hy':=hide hy
   clear hy
   have hself:=Ext.refl wr
   try dsimp only
   repeat ((fail_if_success with_reducible refine wp_reg (id:=2) ?_);first|go_values|go_skip|go_step|go_guarded|go_upon|go_in|go_back)
   with_reducible refine wp_reg (id:=2) ?_
   iterate 4
    refine wpO_want rfl ?_
    go_simp
   refine wpO_done ?_
   try go_frame
   by_cases hyx:y=x
   ·subst hyx
    try dsimp only
    repeat ((fail_if_success with_reducible refine wp_reg (id:=4) ?_);first|go_values|go_skip|go_step|go_guarded|go_upon|go_in|go_back)
    with_reducible refine wp_reg (id:=4) ?_
    iterate 6
     refine wpO_want rfl ?_
     go_simp
    refine wpO_done ?_
    try go_frame
    clear c0 hself
    go_wp2_with fail
    refine Sp.leaves0 ?_
    exact ⟨_,results_tmp (t:=4) rfl _ _ _,congrArg (fun b=>Ending.returned (Value.bool b)) (decide_eq_true (by rw [uh hy'];exact List.getElem_mem _)).symm,(uh hP).extf⟩
   ·have hyq:(y == x)=false:=by simp [hyx]
    replace hyx:=hide hyx
    try dsimp only
    repeat ((fail_if_success with_reducible refine wp_reg (id:=4) ?_);first|go_values|go_skip|go_step|go_guarded|go_upon|go_in|go_back)
    with_reducible refine wp_reg (id:=4) ?_
    iterate 6
     refine wpO_want rfl ?_
     go_simp
    refine wpO_done ?_
    try go_frame
    clear c0 hself hyq
    go_wp2_with fail
    have h1:=uh hk2
    refine ⟨n-(k+1),?_,by have:=uh hfm';omega⟩
    rw [uh hI0_2]
    exact ⟨k+1,(by first | rfl | trivial),(by first | rfl | trivial),(by first | rfl | trivial),(by first | rfl | (show _=Value.int _ _;go_num) | go_num),(by first | rfl | trivial),by omega,(by rw [mem_take_next (by assumption), ← uh hy'];rintro (h | h);exact uh hno' h;exact uh hyx h.symm),uh hP,rfl⟩
  ·have hil:¬ (k:Int) < (n:Int):=by omega
   have hno2:=hide (show ¬ x∈L by have h:=uh hno';rwa [List.take_of_length_le (by have:=uh hn';omega)] at h)
   clear hlt hk
   try dsimp only
   repeat ((fail_if_success with_reducible refine wp_reg (id:=2) ?_);first|go_values|go_skip|go_step|go_guarded|go_upon|go_in|go_back)
   with_reducible refine wp_reg (id:=2) ?_
   iterate 4
    refine wpO_want rfl ?_
    go_simp
   refine wpO_done ?_
   try go_frame
   go_wp2_with fail
   refine Sp.leaves0 ?_
   exact ⟨_,results_tmp (t:=4) rfl _ _ _,congrArg (fun b=>Ending.returned (Value.bool b)) (decide_eq_false (uh hno2)).symm,(uh hP).extf⟩
def andR (L M:List Int) : List Int:=L.filter fun x=>decide (x∈M)
theorem andR_next (L M:List Int) {k:Nat} (h:k < L.length) : andR (L.take (k+1)) M=andR (L.take k) M++(if decide (L[k]∈M)=true then [L[k]] else []):=by
 rw [List.take_succ_eq_append_getElem h]
 unfold andR
 rw [List.filter_append,List.filter_cons,List.filter_nil]
theorem andR_le (L M:List Int) : (andR L M).length≤L.length:=List.length_filter_le _ _
theorem andQ_any (A B:Option Addr) (L M:List Int) (n m cL cM:Nat) (w:World) (hL:SlAt encI 1 w A L) (hM:SlAt encI 1 w B M) (hn:n=L.length) (hm:m=M.length) (hl:n≤100000) (hl2:m≤100000) :
  Calls Tryz.prog 63 #[.slice A n cL,.slice B m cM] w (OwI w (andR L M)):=by
 have hL':=hide hL
 have hM':=hide hM
 have hn':=hide hn
 have hm':=hide hm
 have hl':=hide hl
 have hl2':=hide hl2
 clear hL hn hl hM hm hl2
 have hP:=hide (Sp.new w)
 refine callsIn_wide.1 (callsIn_of_wp_marks (n:=0) Tryz.func63 rfl trivial (wpIn_wide.2 ?_))
 simp only [Tryz.ntmps63,List.size_toArray,List.length_cons,List.length_nil,Nat.reduceAdd,Nat.reduceSub,Array.replicate_succ,Array.replicate_zero,List.push_toArray,List.append_toArray,List.nil_append,List.cons_append]
 try dsimp only
 repeat ((fail_if_success with_reducible refine wp_reg (id:=1) ?_);first|go_values|go_skip|go_step|go_guarded|go_upon|go_in|go_back)
 with_reducible refine wp_reg (id:=1) ?_
 refine (uh hP).allocVO (v:=fun b=>.slice (some ⟨b,0,none⟩) 0 0) 3 #[] rfl (run_build0 rfl) ?_
 intro be y1 hQ
 replace hP:=hide hQ
 clear hQ
 go_frame
 replace hP:Hid (Sp w [] w [] [] [(3,1,.slice (some ⟨be,0,none⟩) 0 0,0,[])] y1):=hide (Sp.toRow (L:=[]) (b:=be) (t:=3) (n:=0) (cs:=#[]) (uh hP) rfl (by decide))
 refine wpO_want rfl ?_
 go_simp
 refine wpO_done ?_
 try go_frame
 try dsimp only
 repeat ((fail_if_success with_reducible refine wp_reg (id:=2) ?_);first|go_values|go_skip|go_step|go_guarded|go_upon|go_in|go_back)
 with_reducible refine wp_reg (id:=2) ?_
 refine wpO_want rfl ?_
 go_simp
 refine wpO_done ?_
 try go_frame
 go_wp2_with fail
 obtain ⟨I1_2,hI1_20⟩ : ∃ I:Nat→Act→World→Prop,I=fun fi a' wr=>∃ (k:Nat), ∃ (A5:Option Addr), ∃ (q:Nat), ∃ (c5:Nat), ∃ (xs:List Int),a'.tmps.size=28∧a'.tmps.getD 0 undef=.slice A n cL∧a'.tmps.getD 1 undef=.slice B m cM∧a'.tmps.getD 5 undef=.slice A5 q c5∧a'.tmps.getD 6 undef=.int .i64 (k:Nat)∧a'.defers=[]∧k≤n∧q=xs.length∧xs=andR (L.take k) M∧Sp w [] w [] [] [(3,1,.slice A5 q c5,q,xs.flatMap encI)] wr∧fi=n-k:=⟨_,rfl⟩
 have hI1_2:=hide hI1_20
 clear hI1_20
 refine wp_loop_ix I1_2 (n-0) ?_ ?_
 ·rw [uh hI1_2];exact ⟨0,some ⟨be,0,none⟩,0,0,[],rfl,rfl,rfl,rfl,rfl,rfl,Nat.zero_le _,rfl,rfl,uh hP,rfl⟩
 ·rintro fi ⟨tm,dfs⟩ wr hrel
  rw [uh hI1_2] at hrel
  obtain ⟨k,A5,q,c5,xs,hsz,e0,e1,e5,e6,hdf,hk,hq,hxs,hPr,hfm⟩:=hrel
  obtain ⟨us,rfl⟩ : ∃ us:Nat→Value,tm=#[us 0,us 1,us 2,us 3,us 4,us 5,us 6,us 7,us 8,us 9,us 10,us 11,us 12,us 13,us 14,us 15,us 16,us 17,us 18,us 19,us 20,us 21,us 22,us 23,us 24,us 25,us 26,us 27]:=⟨fun i=>tm.getD i undef,arr_fn hsz⟩
  have h0:us 0=.slice A n cL:=e0
  have h1:us 1=.slice B m cM:=e1
  have h5:us 5=.slice A5 q c5:=e5
  have h6:us 6=.int .i64 (k:Nat):=e6
  have hdf2:dfs=[]:=hdf
  subst hdf2
  clear hdf hsz e0 e1 e5 e6
  simp only [h0,h1,h5,h6]
  clear h0 h1 h5 h6
  clear hP
  have hP:=hide hPr
  have hq':=hide hq
  have hxs':=hide hxs
  have hfm':=hide hfm
  have hqb:=hide (show q≤100000 by rw [hq,hxs];exact Nat.le_trans (andR_le _ _) (by rw [List.length_take];have:=uh hl';omega))
  clear hPr hq hxs hfm
  by_cases hlt:k < n
  ·have hil:(k:Int) < (n:Int):=by omega
   have hk2:=hide hlt
   have hkL:k < L.length:=by have:=uh hn';omega
   have hkb:(k:Int)≤100000:=by have:=uh hl';omega
   have hnx:=andR_next L M hkL
   rw [← uh hxs'] at hnx
   clear hk hlt hxs'
   obtain ⟨b0,o0,rfl,hcz⟩:=cellI (uh hL') hkL
   clear hcz
   obtain ⟨y,hy⟩ : ∃ y,y=L[k]:=⟨_,rfl⟩
   have c0:=slE ((uh hL').ext (uh hP).extf) hkL
   rw [← hy] at c0
   have hy':=hide hy
   clear hy
   have hself:=Ext.refl wr
   rw [← uh hy'] at hnx
   obtain ⟨j,hj⟩ : ∃ j,j=decide (y∈M):=⟨_,rfl⟩
   rw [← hj] at hnx
   have hj':=hide hj
   have hnx':=hide hnx
   clear hj hnx
   try dsimp only
   repeat ((fail_if_success with_reducible refine wp_reg (id:=3) ?_);first|go_values|go_skip|go_step|go_guarded|go_upon|go_in|go_back)
   with_reducible refine wp_reg (id:=3) ?_
   iterate 4
    refine wpO_want rfl ?_
    go_simp
   refine wpO_done ?_
   try go_frame
   try dsimp only
   repeat ((fail_if_success with_reducible refine wp_reg (id:=5) ?_);first|go_values|go_skip|go_step|go_guarded|go_upon|go_in|go_back)
   with_reducible refine wp_reg (id:=5) ?_
   iterate 5
    refine wpO_want rfl ?_
    go_simp
   refine wpO_want rfl ?_
   go_simp
   have hca:=hasQ_any B M m cM y wr ((uh hM').ext (uh hP).extf) (uh hm') (uh hl2')
   rw [← uh hj'] at hca
   clear c0 hself
   refine (hca).mono ?_
   rintro _ y2 ⟨rfl,hxc⟩
   clear hca
   refine ⟨_,rfl,?_⟩
   replace hP:=hide ((uh hP).ext hxc)
   clear hxc
   refine wpO_done ?_
   try go_frame
   cases j with
   | false =>
    go_wp2_with fail
    have h1:=uh hk2
    refine ⟨n-(k+1),?_,by have:=uh hfm';omega⟩
    rw [uh hI1_2]
    exact ⟨k+1,A5,q,c5,xs,(by first | rfl | trivial),(by first | rfl | trivial),(by first | rfl | trivial),(by first | rfl | trivial),(by first | rfl | (show _=Value.int _ _;go_num) | go_num),(by first | rfl | trivial),by omega,uh hq',by rw [uh hnx'];simp,uh hP,rfl⟩
   | true =>
    have c0:=slE ((uh hL').ext (uh hP).extf) hkL
    rw [← uh hy'] at c0
    have hself:=Ext.refl y2
    try dsimp only
    repeat ((fail_if_success with_reducible refine wp_reg (id:=6) ?_);first|go_values|go_skip|go_step|go_guarded|go_upon|go_in|go_back)
    with_reducible refine wp_reg (id:=6) ?_
    iterate 5
     refine wpO_want rfl ?_
     go_simp
    clear c0 hself
    refine (uh hP).build1O 3 #[.int .i64 y] rfl (run_buildR rfl rfl) ?_
    intro bt y3 hQ
    replace hP:=hide hQ
    clear hQ
    go_frame
    refine (uh hP).ap1O (enc:=encI) (T:=3) (ST:=43) 0 (v:=.slice A5 q c5) (m:=q) (xs:=xs) rfl rfl infoI Tryz.underlying43 one_encI (fun _=>rfl) (by decide) (by decide) rfl y rfl rfl ((uh hP).get 0 rfl) (by have:=uh hqb;omega) ?_
    intro A6 cA6 y4 hQ
    replace hP:=hide hQ
    clear hQ
    try go_frame
    replace hP:Hid (Sp w [] w [] [] [(3,1,.slice A6 (q+1) cA6,q+1,(xs++[y]).flatMap encI)] y4):=hide ((uh hP).sub (List.sublist_append_left _ ([(bt,3,#[.int .i64 y])] : List Cl)) (List.Sublist.refl _))
    refine wpO_want rfl ?_
    go_simp
    refine wpO_done ?_
    try go_frame
    go_wp2_with fail
    have h1:=uh hk2
    refine ⟨n-(k+1),?_,by have:=uh hfm';omega⟩
    rw [uh hI1_2]
    exact ⟨k+1,A6,q+1,cA6,xs++[y],(by first | rfl | trivial),(by first | rfl | trivial),(by first | rfl | trivial),(by first | rfl | trivial),(by first | rfl | (show _=Value.int _ _;go_num) | go_num),(by first | rfl | trivial),by omega,by rw [List.length_append, ← uh hq'];rfl,by rw [uh hnx'];simp,uh hP,rfl⟩
  ·have hil:¬ (k:Int) < (n:Int):=by omega
   have hxe:=hide (show xs=andR L M by rw [uh hxs',List.take_of_length_le (by have:=uh hn';omega)])
   clear hlt hk hxs'
   try dsimp only
   repeat ((fail_if_success with_reducible refine wp_reg (id:=3) ?_);first|go_values|go_skip|go_step|go_guarded|go_upon|go_in|go_back)
   with_reducible refine wp_reg (id:=3) ?_
   iterate 4
    refine wpO_want rfl ?_
    go_simp
   refine wpO_done ?_
   try go_frame
   go_wp2_with fail
   refine Sp.leaves0 ?_
   exact ⟨_,results_tmp (t:=4) rfl _ _ _,OwI.mk (by rw [← uh hxe];exact uh hq') (by have h:=(uh hP).row 0 rfl;rw [uh hq',uh hxe] at h;exact h) (Nat.le_refl _) (uh hP).extf⟩
def withQ (L:List Int) (x:Int) : List Int:=if x < 0∨1023 < x∨x∈L then L else L.takeWhile (fun y=>decide (y≤x))++x::L.dropWhile fun y=>decide (y≤x)
def insK2 (x:Int) (L:List Int) : List Int:=L.takeWhile (fun y=>decide (y≤x))++(if L.dropWhile (fun y=>decide (y≤x))=[] then [] else x::L.dropWhile fun y=>decide (y≤x))
def pastQ (x:Int) (L:List Int) : Bool:=!(L.dropWhile fun y=>decide (y≤x)).isEmpty
theorem dropWhile_snoc (p:Int→Bool) : ∀ (L:List Int) (y:Int),(L++[y]).dropWhile p=if L.dropWhile p=[] then (if p y=true then [] else [y]) else L.dropWhile p++[y]
 | [],y=>by simp only [List.nil_append,List.dropWhile];cases p y <;> simp
 | a::L,y=>by
  by_cases h:p a=true
  ·simp only [List.cons_append,List.dropWhile_cons,h,if_true];exact dropWhile_snoc p L y
  ·simp [h]
theorem takeWhile_snoc (p:Int→Bool) : ∀ (L:List Int) (y:Int),(L++[y]).takeWhile p=if L.dropWhile p=[]∧p y=true then L++[y] else L.takeWhile p
 | [],y=>by simp only [List.nil_append,List.takeWhile];cases p y <;> simp
 | a::L,y=>by
  by_cases h:p a=true
  ·simp only [List.cons_append,List.takeWhile_cons,List.dropWhile_cons,h,if_true]
   rw [takeWhile_snoc p L y]
   split <;> rfl
  ·simp [h]
theorem takeWhile_all {p:Int→Bool} {L:List Int} (h:L.dropWhile p=[]) : L.takeWhile p=L:=by
 have:=List.takeWhile_append_dropWhile (p:=p) (l:=L)
 rw [h,List.append_nil] at this
 exact this
theorem insK2_next (x y:Int) (L:List Int) : insK2 x (L++[y])=(if pastQ x L=false∧x < y then insK2 x L++[x] else insK2 x L)++[y]:=by
 unfold insK2 pastQ
 rw [dropWhile_snoc,takeWhile_snoc]
 by_cases h:L.dropWhile (fun y=>decide (y≤x))=[]
 ·have hT:=takeWhile_all h
  by_cases hy:y≤x
  ·simp [h,hT,hy,Int.not_lt.2 hy]
  ·simp [h,hT,hy,Int.not_le.1 hy]
 ·have he:(L.dropWhile fun y=>decide (y≤x)).isEmpty=false:=by simpa using h
  simp [h,he]
theorem pastQ_next (x y:Int) (L:List Int) : pastQ x (L++[y])=(pastQ x L || decide (x < y)):=by
 unfold pastQ
 rw [dropWhile_snoc]
 by_cases h:L.dropWhile (fun y=>decide (y≤x))=[]
 ·rw [if_pos h,h]
  by_cases hy:y≤x
  ·rw [if_pos (by simpa using hy),decide_eq_false (by omega)];rfl
  ·rw [if_neg (by simpa using hy),decide_eq_true (by omega)];rfl
 ·rw [if_neg h]
  have he:(L.dropWhile fun y=>decide (y≤x)).isEmpty=false:=by simpa using h
  rw [he]
  simp
theorem insK2_end (x:Int) (L:List Int) : (if pastQ x L=true then insK2 x L else insK2 x L++[x])=L.takeWhile (fun y=>decide (y≤x))++x::L.dropWhile fun y=>decide (y≤x):=by
 unfold insK2 pastQ
 by_cases h:L.dropWhile (fun y=>decide (y≤x))=[]
 ·rw [h];simp
 ·have he:(L.dropWhile fun y=>decide (y≤x)).isEmpty=false:=by simpa using h
  rw [he]
  simp [h]
theorem insK2_le (x:Int) (L:List Int) : (insK2 x L).length≤L.length+1:=by
 unfold insK2
 have h:=List.takeWhile_append_dropWhile (p:=fun y=>decide (y≤x)) (l:=L)
 have h2:=congrArg List.length h
 rw [List.length_append] at h2 ⊢
 split
 ·simp;omega
 ·rw [List.length_cons];omega
theorem withQ_any (A:Option Addr) (L:List Int) (n cL:Nat) (x:Int) (w:World) (hL:SlAt encI 1 w A L) (hn:n=L.length) (hl:n≤100000) :
  Calls Tryz.prog 118 #[.slice A n cL,.int .i64 x] w (SlO w A cL L (withQ L x)):=by
 have hL':=hide hL
 have hn':=hide hn
 have hl':=hide hl
 clear hL hn hl
 have hP:=hide (Sp.new w)
 refine callsIn_wide.1 (callsIn_of_wp_marks (n:=0) Tryz.func118 rfl trivial (wpIn_wide.2 ?_))
 simp only [Tryz.ntmps118,List.size_toArray,List.length_cons,List.length_nil,Nat.reduceAdd,Nat.reduceSub,Array.replicate_succ,Array.replicate_zero,List.push_toArray,List.append_toArray,List.nil_append,List.cons_append]
 by_cases h1:x < 0
 ·skip
  have hsame:=hide (show withQ L x=L by unfold withQ;rw [if_pos (.inl h1)])
  try dsimp only
  repeat ((fail_if_success with_reducible refine wp_reg (id:=1) ?_);first|go_values|go_skip|go_step|go_guarded|go_upon|go_in|go_back)
  with_reducible refine wp_reg (id:=1) ?_
  iterate 3
   refine wpO_want rfl ?_
   go_simp
  refine wpO_out (by rfl) ?_
  go_frame
  refine wpO_out (by rfl) ?_
  go_frame
  iterate 2
   refine wpO_want rfl ?_
   go_simp
  refine wpO_out (by rfl) ?_
  go_frame
  refine wpO_out (by rfl) ?_
  go_frame
  refine wpO_out (by rfl) ?_
  go_frame
  refine wpO_want rfl ?_
  go_simp
  refine wpO_done ?_
  try go_frame
  go_wp2_with fail
  refine Sp.leaves0 ?_
  exact ⟨_,results_tmp (t:=4) rfl _ _ _,by rw [uh hsame];exact SlO.same (uh hn') ((uh hL').ext (uh hP).extf) (uh hP).extf⟩
 ·skip
  by_cases h2:1023 < x
  ·skip
   have hsame:=hide (show withQ L x=L by unfold withQ;rw [if_pos (.inr (.inl h2))])
   have h3:x > 1023:=h2
   try dsimp only
   repeat ((fail_if_success with_reducible refine wp_reg (id:=1) ?_);first|go_values|go_skip|go_step|go_guarded|go_upon|go_in|go_back)
   with_reducible refine wp_reg (id:=1) ?_
   iterate 7
    refine wpO_want rfl ?_
    go_simp
   refine wpO_out (by rfl) ?_
   go_frame
   refine wpO_out (by rfl) ?_
   go_frame
   refine wpO_out (by rfl) ?_
   go_frame
   refine wpO_want rfl ?_
   go_simp
   refine wpO_done ?_
   try go_frame
   go_wp2_with fail
   refine Sp.leaves0 ?_
   exact ⟨_,results_tmp (t:=4) rfl _ _ _,by rw [uh hsame];exact SlO.same (uh hn') ((uh hL').ext (uh hP).extf) (uh hP).extf⟩
  ·skip
   have h3:¬ x > 1023:=h2
   obtain ⟨q,hq⟩ : ∃ q,q=decide (x∈L):=⟨_,rfl⟩
   have hq':=hide hq
   have h12:=hide (show ¬ x < 0 ∧ ¬ 1023 < x from ⟨h1,h2⟩)
   clear hq
   try dsimp only
   repeat ((fail_if_success with_reducible refine wp_reg (id:=1) ?_);first|go_values|go_skip|go_step|go_guarded|go_upon|go_in|go_back)
   with_reducible refine wp_reg (id:=1) ?_
   iterate 9
    refine wpO_want rfl ?_
    go_simp
   refine wpO_want rfl ?_
   go_simp
   have hca:=hasQ_any A L n cL x w ((uh hL').ext (uh hP).extf) (uh hn') (uh hl')
   rw [← uh hq'] at hca
   refine (hca).mono ?_
   rintro _ y1 ⟨rfl,hxc⟩
   clear hca
   refine ⟨_,rfl,?_⟩
   replace hP:=hide ((uh hP).ext hxc)
   clear hxc
   refine wpO_want rfl ?_
   go_simp
   refine wpO_done ?_
   try go_frame
   clear h1 h2 h3
   cases q with
   | true =>
    have hsame:=hide (show withQ L x=L by unfold withQ;rw [if_pos (.inr (.inr (of_decide_eq_true (uh hq').symm)))])
    go_wp2_with fail
    refine Sp.leaves0 ?_
    exact ⟨_,results_tmp (t:=4) rfl _ _ _,by rw [uh hsame];exact SlO.same (uh hn') ((uh hL').ext (uh hP).extf) (uh hP).extf⟩
   | false =>
    have hdiff:=hide (show withQ L x=if pastQ x L=true then insK2 x L else insK2 x L++[x] by rw [insK2_end];unfold withQ;rw [if_neg];rintro (h | h | h);exact (uh h12).1 h;exact (uh h12).2 h;exact of_decide_eq_false (uh hq').symm h)
    try dsimp only
    repeat ((fail_if_success with_reducible refine wp_reg (id:=3) ?_);first|go_values|go_skip|go_step|go_guarded|go_upon|go_in|go_back)
    with_reducible refine wp_reg (id:=3) ?_
    refine (uh hP).allocVO (v:=fun b=>.slice (some ⟨b,0,none⟩) 0 0) 3 #[] rfl (run_build0 rfl) ?_
    intro be y2 hQ
    replace hP:=hide hQ
    clear hQ
    go_frame
    replace hP:Hid (Sp w [] w [] [] [(3,1,.slice (some ⟨be,0,none⟩) 0 0,0,[])] y2):=hide (Sp.toRow (L:=[]) (b:=be) (t:=3) (n:=0) (cs:=#[]) (uh hP) rfl (by decide))
    refine wpO_want rfl ?_
    go_simp
    refine wpO_done ?_
    try go_frame
    try dsimp only
    repeat ((fail_if_success with_reducible refine wp_reg (id:=4) ?_);first|go_values|go_skip|go_step|go_guarded|go_upon|go_in|go_back)
    with_reducible refine wp_reg (id:=4) ?_
    refine wpO_want rfl ?_
    go_simp
    refine wpO_done ?_
    try go_frame
    try dsimp only
    repeat ((fail_if_success with_reducible refine wp_reg (id:=5) ?_);first|go_values|go_skip|go_step|go_guarded|go_upon|go_in|go_back)
    with_reducible refine wp_reg (id:=5) ?_
    refine wpO_want rfl ?_
    go_simp
    refine wpO_done ?_
    try go_frame
    go_wp2_with fail
    obtain ⟨I2_8,hI2_80⟩ : ∃ I:Nat→Act→World→Prop,I=fun fi a' wr=>∃ (k:Nat), ∃ (A5:Option Addr), ∃ (q:Nat), ∃ (c5:Nat), ∃ (xs:List Int), ∃ (dn:Bool),a'.tmps.size=55∧a'.tmps.getD 0 undef=.slice A n cL∧a'.tmps.getD 1 undef=.int .i64 x∧a'.tmps.getD 5 undef=.slice A5 q c5∧a'.tmps.getD 6 undef=.bool dn∧a'.tmps.getD 7 undef=.int .i64 (k:Nat)∧a'.defers=[]∧k≤n∧q=xs.length∧xs=insK2 x (L.take k)∧dn=pastQ x (L.take k)∧Sp w [] w [] [] [(3,1,.slice A5 q c5,q,xs.flatMap encI)] wr∧fi=n-k:=⟨_,rfl⟩
    have hI2_8:=hide hI2_80
    clear hI2_80
    refine wp_loop_ix I2_8 (n-0) ?_ ?_
    ·rw [uh hI2_8];exact ⟨0,some ⟨be,0,none⟩,0,0,[],false,rfl,rfl,rfl,rfl,rfl,rfl,rfl,Nat.zero_le _,rfl,rfl,rfl,uh hP,rfl⟩
    ·rintro fi ⟨tm,dfs⟩ wr hrel
     rw [uh hI2_8] at hrel
     obtain ⟨k,A5,q,c5,xs,dn,hsz,e0,e1,e5,e6,e7,hdf,hk,hq,hxs,hdn,hPr,hfm⟩:=hrel
     obtain ⟨us,rfl⟩ : ∃ us:Nat→Value,tm=#[us 0,us 1,us 2,us 3,us 4,us 5,us 6,us 7,us 8,us 9,us 10,us 11,us 12,us 13,us 14,us 15,us 16,us 17,us 18,us 19,us 20,us 21,us 22,us 23,us 24,us 25,us 26,us 27,us 28,us 29,us 30,us 31,us 32,us 33,us 34,us 35,us 36,us 37,us 38,us 39,us 40,us 41,us 42,us 43,us 44,us 45,us 46,us 47,us 48,us 49,us 50,us 51,us 52,us 53,us 54]:=⟨fun i=>tm.getD i undef,arr_fn hsz⟩
     have h0:us 0=.slice A n cL:=e0
     have h1:us 1=.int .i64 x:=e1
     have h5:us 5=.slice A5 q c5:=e5
     have h6:us 6=.bool dn:=e6
     have h7:us 7=.int .i64 (k:Nat):=e7
     have hdf2:dfs=[]:=hdf
     subst hdf2
     clear hdf hsz e0 e1 e5 e6 e7
     simp only [h0,h1,h5,h6,h7]
     clear h0 h1 h5 h6 h7
     clear hP
     have hP:=hide hPr
     have hqq:=hide hq
     have hxs':=hide hxs
     have hdn':=hide hdn
     have hfm':=hide hfm
     have hqb:=hide (show q≤100001 by rw [hq,hxs];exact Nat.le_trans (insK2_le _ _) (by rw [List.length_take];have:=uh hl';omega))
     clear hPr hq hxs hdn hfm
     by_cases hlt:k < n
     ·have hil:(k:Int) < (n:Int):=by omega
      have hk2:=hide hlt
      have hkL:k < L.length:=by have:=uh hn';omega
      have hkb:(k:Int)≤100000:=by have:=uh hl';omega
      have hst:=List.take_succ_eq_append_getElem hkL
      clear hk hlt
      obtain ⟨b0,o0,rfl,hcz⟩:=cellI (uh hL') hkL
      clear hcz
      obtain ⟨y,hy⟩ : ∃ y,y=L[k]:=⟨_,rfl⟩
      have c0:=slE ((uh hL').ext (uh hP).extf) hkL
      rw [← hy] at c0
      have hy':=hide hy
      clear hy
      have hself:=Ext.refl wr
      rw [← uh hy'] at hst
      have hnx:=insK2_next x y (L.take k)
      have hpx:=pastQ_next x y (L.take k)
      rw [← hst, ← uh hxs', ← uh hdn'] at hnx
      rw [← hst, ← uh hdn'] at hpx
      have hnx':=hide hnx
      have hpx':=hide hpx
      clear hst hnx hpx
      try dsimp only
      repeat ((fail_if_success with_reducible refine wp_reg (id:=6) ?_);first|go_values|go_skip|go_step|go_guarded|go_upon|go_in|go_back)
      with_reducible refine wp_reg (id:=6) ?_
      iterate 4
       refine wpO_want rfl ?_
       go_simp
      refine wpO_done ?_
      try go_frame
      cases dn with
      | true =>
       try dsimp only
       repeat ((fail_if_success with_reducible refine wp_reg (id:=8) ?_);first|go_values|go_skip|go_step|go_guarded|go_upon|go_in|go_back)
       with_reducible refine wp_reg (id:=8) ?_
       iterate 3
        refine wpO_want rfl ?_
        go_simp
       refine wpO_out (by rfl) ?_
       go_frame
       refine wpO_out (by rfl) ?_
       go_frame
       refine wpO_out (by rfl) ?_
       go_frame
       refine wpO_out (by rfl) ?_
       go_frame
       refine wpO_out (by rfl) ?_
       go_frame
       refine wpO_out (by rfl) ?_
       go_frame
       refine wpO_want rfl ?_
       go_simp
       refine wpO_done ?_
       try go_frame
       try dsimp only
       repeat ((fail_if_success with_reducible refine wp_reg (id:=11) ?_);first|go_values|go_skip|go_step|go_guarded|go_upon|go_in|go_back)
       with_reducible refine wp_reg (id:=11) ?_
       iterate 5
        refine wpO_want rfl ?_
        go_simp
       clear c0 hself
       refine (uh hP).build1O 3 #[.int .i64 y] rfl (run_buildR rfl rfl) ?_
       intro bt y3 hQ
       replace hP:=hide hQ
       clear hQ
       go_frame
       refine (uh hP).ap1O (enc:=encI) (T:=3) (ST:=43) 0 (v:=.slice A5 q c5) (m:=q) (xs:=xs) rfl rfl infoI Tryz.underlying43 one_encI (fun _=>rfl) (by decide) (by decide) rfl y rfl rfl ((uh hP).get 0 rfl) (by have:=uh hqb;omega) ?_
       intro A6 cA6 y4 hQ
       replace hP:=hide hQ
       clear hQ
       try go_frame
       replace hP:Hid (Sp w [] w [] [] [(3,1,.slice A6 (q+1) cA6,q+1,(xs++[y]).flatMap encI)] y4):=hide ((uh hP).sub (List.sublist_append_left _ ([(bt,3,#[.int .i64 y])] : List Cl)) (List.Sublist.refl _))
       refine wpO_want rfl ?_
       go_simp
       refine wpO_done ?_
       try go_frame
       go_wp2_with fail
       have h1:=uh hk2
       refine ⟨n-(k+1),?_,by have:=uh hfm';omega⟩
       rw [uh hI2_8]
       exact ⟨k+1,A6,q+1,cA6,xs++[y],true,(by first | rfl | trivial),(by first | rfl | trivial),(by first | rfl | trivial),(by first | rfl | trivial),(by first | rfl | trivial),(by first | rfl | (show _=Value.int _ _;go_num) | go_num),(by first | rfl | trivial),by omega,by rw [List.length_append, ← uh hqq];rfl,by rw [uh hnx',if_neg (by simp)],by rw [uh hpx'];rfl,uh hP,rfl⟩
      | false =>
       by_cases hxy:x < y
       ·have hyx:y > x:=hxy
        replace hxy:=hide hxy
        try dsimp only
        repeat ((fail_if_success with_reducible refine wp_reg (id:=8) ?_);first|go_values|go_skip|go_step|go_guarded|go_upon|go_in|go_back)
        with_reducible refine wp_reg (id:=8) ?_
        iterate 10
         refine wpO_want rfl ?_
         go_simp
        refine wpO_done ?_
        try go_frame
        clear c0 hself hyx
        try dsimp only
        repeat ((fail_if_success with_reducible refine wp_reg (id:=9) ?_);first|go_values|go_skip|go_step|go_guarded|go_upon|go_in|go_back)
        with_reducible refine wp_reg (id:=9) ?_
        iterate 2
         refine wpO_want rfl ?_
         go_simp
        refine (uh hP).build1O 3 #[.int .i64 x] rfl (run_buildR rfl rfl) ?_
        intro bt y3 hQ
        replace hP:=hide hQ
        clear hQ
        go_frame
        refine (uh hP).ap1O (enc:=encI) (T:=3) (ST:=43) 0 (v:=.slice A5 q c5) (m:=q) (xs:=xs) rfl rfl infoI Tryz.underlying43 one_encI (fun _=>rfl) (by decide) (by decide) rfl x rfl rfl ((uh hP).get 0 rfl) (by have:=uh hqb;omega) ?_
        intro A6 cA6 y4 hQ
        replace hP:=hide hQ
        clear hQ
        try go_frame
        replace hP:Hid (Sp w [] w [] [] [(3,1,.slice A6 (q+1) cA6,q+1,(xs++[x]).flatMap encI)] y4):=hide ((uh hP).sub (List.sublist_append_left _ ([(bt,3,#[.int .i64 x])] : List Cl)) (List.Sublist.refl _))
        refine wpO_want rfl ?_
        go_simp
        refine wpO_done ?_
        try go_frame
        try dsimp only
        repeat ((fail_if_success with_reducible refine wp_reg (id:=10) ?_);first|go_values|go_skip|go_step|go_guarded|go_upon|go_in|go_back)
        with_reducible refine wp_reg (id:=10) ?_
        refine wpO_want rfl ?_
        go_simp
        refine wpO_done ?_
        try go_frame
        have c0:=slE ((uh hL').ext (uh hP).extf) hkL
        rw [← uh hy'] at c0
        have hself:=Ext.refl y4
        try dsimp only
        repeat ((fail_if_success with_reducible refine wp_reg (id:=11) ?_);first|go_values|go_skip|go_step|go_guarded|go_upon|go_in|go_back)
        with_reducible refine wp_reg (id:=11) ?_
        iterate 5
         refine wpO_want rfl ?_
         go_simp
        clear c0 hself
        refine (uh hP).build1O 3 #[.int .i64 y] rfl (run_buildR rfl rfl) ?_
        intro bt y5 hQ
        replace hP:=hide hQ
        clear hQ
        go_frame
        refine (uh hP).ap1O (enc:=encI) (T:=3) (ST:=43) 0 (v:=.slice A6 (q+1) cA6) (m:=q+1) (xs:=(xs++[x])) rfl rfl infoI Tryz.underlying43 one_encI (fun _=>rfl) (by decide) (by decide) rfl y rfl rfl ((uh hP).get 0 rfl) (by have:=uh hqb;omega) ?_
        intro A7 cA7 y6 hQ
        replace hP:=hide hQ
        clear hQ
        try go_frame
        replace hP:Hid (Sp w [] w [] [] [(3,1,.slice A7 (q+1+1) cA7,q+1+1,((xs++[x])++[y]).flatMap encI)] y6):=hide ((uh hP).sub (List.sublist_append_left _ ([(bt,3,#[.int .i64 y])] : List Cl)) (List.Sublist.refl _))
        refine wpO_want rfl ?_
        go_simp
        refine wpO_done ?_
        try go_frame
        go_wp2_with fail
        have h1:=uh hk2
        refine ⟨n-(k+1),?_,by have:=uh hfm';omega⟩
        rw [uh hI2_8]
        exact ⟨k+1,A7,q+1+1,cA7,xs++[x]++[y],true,(by first | rfl | trivial),(by first | rfl | trivial),(by first | rfl | trivial),(by first | rfl | trivial),(by first | rfl | trivial),(by first | rfl | (show _=Value.int _ _;go_num) | go_num),(by first | rfl | trivial),by omega,by rw [List.length_append,List.length_append, ← uh hqq];rfl,by rw [uh hnx',if_pos (by simp;exact uh hxy)],by rw [uh hpx',decide_eq_true (uh hxy)];rfl,uh hP,rfl⟩
       ·have hyx:¬ y > x:=hxy
        replace hxy:=hide hxy
        try dsimp only
        repeat ((fail_if_success with_reducible refine wp_reg (id:=8) ?_);first|go_values|go_skip|go_step|go_guarded|go_upon|go_in|go_back)
        with_reducible refine wp_reg (id:=8) ?_
        iterate 10
         refine wpO_want rfl ?_
         go_simp
        refine wpO_done ?_
        try go_frame
        clear hyx
        try dsimp only
        repeat ((fail_if_success with_reducible refine wp_reg (id:=11) ?_);first|go_values|go_skip|go_step|go_guarded|go_upon|go_in|go_back)
        with_reducible refine wp_reg (id:=11) ?_
        iterate 5
         refine wpO_want rfl ?_
         go_simp
        clear c0 hself
        refine (uh hP).build1O 3 #[.int .i64 y] rfl (run_buildR rfl rfl) ?_
        intro bt y3 hQ
        replace hP:=hide hQ
        clear hQ
        go_frame
        refine (uh hP).ap1O (enc:=encI) (T:=3) (ST:=43) 0 (v:=.slice A5 q c5) (m:=q) (xs:=xs) rfl rfl infoI Tryz.underlying43 one_encI (fun _=>rfl) (by decide) (by decide) rfl y rfl rfl ((uh hP).get 0 rfl) (by have:=uh hqb;omega) ?_
        intro A6 cA6 y4 hQ
        replace hP:=hide hQ
        clear hQ
        try go_frame
        replace hP:Hid (Sp w [] w [] [] [(3,1,.slice A6 (q+1) cA6,q+1,(xs++[y]).flatMap encI)] y4):=hide ((uh hP).sub (List.sublist_append_left _ ([(bt,3,#[.int .i64 y])] : List Cl)) (List.Sublist.refl _))
        refine wpO_want rfl ?_
        go_simp
        refine wpO_done ?_
        try go_frame
        go_wp2_with fail
        have h1:=uh hk2
        refine ⟨n-(k+1),?_,by have:=uh hfm';omega⟩
        rw [uh hI2_8]
        exact ⟨k+1,A6,q+1,cA6,xs++[y],false,(by first | rfl | trivial),(by first | rfl | trivial),(by first | rfl | trivial),(by first | rfl | trivial),(by first | rfl | trivial),(by first | rfl | (show _=Value.int _ _;go_num) | go_num),(by first | rfl | trivial),by omega,by rw [List.length_append, ← uh hqq];rfl,by rw [uh hnx',if_neg (fun h=>by have:=uh hxy;omega)],by rw [uh hpx',decide_eq_false (by have:=uh hxy;omega)];rfl,uh hP,rfl⟩
     ·have hil:¬ (k:Int) < (n:Int):=by omega
      have htk:L.take k=L:=List.take_of_length_le (by have:=uh hn';omega)
      have hxe:=hide (show xs=insK2 x L by rw [uh hxs',htk])
      have hde:=hide (show dn=pastQ x L by rw [uh hdn',htk])
      clear hlt hk hxs' hdn' htk
      try dsimp only
      repeat ((fail_if_success with_reducible refine wp_reg (id:=6) ?_);first|go_values|go_skip|go_step|go_guarded|go_upon|go_in|go_back)
      with_reducible refine wp_reg (id:=6) ?_
      iterate 4
       refine wpO_want rfl ?_
       go_simp
      refine wpO_done ?_
      try go_frame
      cases dn with
      | true =>
       try dsimp only
       repeat ((fail_if_success with_reducible refine wp_reg (id:=12) ?_);first|go_values|go_skip|go_step|go_guarded|go_upon|go_in|go_back)
       with_reducible refine wp_reg (id:=12) ?_
       iterate 2
        refine wpO_want rfl ?_
        go_simp
       refine wpO_done ?_
       try go_frame
       go_wp2_with fail
       refine Sp.leaves0 ?_
       exact ⟨_,results_tmp (t:=4) rfl _ _ _,by rw [uh hdiff, ← uh hde, ← uh hxe];exact SlO.own (uh hqq) (by have h:=(uh hP).row 0 rfl;rw [uh hqq] at h;exact h) (uh hP).extf⟩
      | false =>
       try dsimp only
       repeat ((fail_if_success with_reducible refine wp_reg (id:=12) ?_);first|go_values|go_skip|go_step|go_guarded|go_upon|go_in|go_back)
       with_reducible refine wp_reg (id:=12) ?_
       iterate 2
        refine wpO_want rfl ?_
        go_simp
       refine wpO_done ?_
       try go_frame
       try dsimp only
       repeat ((fail_if_success with_reducible refine wp_reg (id:=13) ?_);first|go_values|go_skip|go_step|go_guarded|go_upon|go_in|go_back)
       with_reducible refine wp_reg (id:=13) ?_
       iterate 2
        refine wpO_want rfl ?_
        go_simp
       refine (uh hP).build1O 3 #[.int .i64 x] rfl (run_buildR rfl rfl) ?_
       intro bt y3 hQ
       replace hP:=hide hQ
       clear hQ
       go_frame
       refine (uh hP).ap1O (enc:=encI) (T:=3) (ST:=43) 0 (v:=.slice A5 q c5) (m:=q) (xs:=xs) rfl rfl infoI Tryz.underlying43 one_encI (fun _=>rfl) (by decide) (by decide) rfl x rfl rfl ((uh hP).get 0 rfl) (by have:=uh hqb;omega) ?_
       intro A6 cA6 y4 hQ
       replace hP:=hide hQ
       clear hQ
       try go_frame
       replace hP:Hid (Sp w [] w [] [] [(3,1,.slice A6 (q+1) cA6,q+1,(xs++[x]).flatMap encI)] y4):=hide ((uh hP).sub (List.sublist_append_left _ ([(bt,3,#[.int .i64 x])] : List Cl)) (List.Sublist.refl _))
       refine wpO_want rfl ?_
       go_simp
       refine wpO_done ?_
       try go_frame
       go_wp2_with fail
       have hl6:q+1=(xs++[x]).length:=by rw [List.length_append, ← uh hqq];rfl
       refine Sp.leaves0 ?_
       exact ⟨_,results_tmp (t:=4) rfl _ _ _,by rw [uh hdiff, ← uh hde, ← uh hxe];exact SlO.own hl6 (by have h:=(uh hP).row 0 rfl;rw [hl6] at h;exact h) (uh hP).extf⟩
end Go.Proofs.YtmokciekndllpaaGreatDoor
namespace Go.Proofs.YtmokciekndllpaaGreatDoor
open Go Go.RowKit Go.Shelf
section
variable {V:List (Int×Thing)} {E:List ((Int×Int)×Thing)}
theorem dw_gt {x:Int}:∀ {L:List Int},L.Pairwise (· < ·) → ∀ y∈L.dropWhile (fun y=>decide (y≤x)),x < y
 | [],_,y,h=>by simp at h
 | a::L,hs,y,h=>by
  obtain ⟨h1,h2⟩:=List.pairwise_cons.1 hs
  rw [List.dropWhile_cons] at h
  split at h
  ·exact dw_gt h2 y h
  ·rename_i hh
   have hlt:x < a:=by simpa using hh
   rcases List.mem_cons.1 h with rfl | h
   ·exact hlt
   ·have:=h1 y h
    omega
theorem tw_le {x:Int}:∀ {L:List Int}, ∀ y∈L.takeWhile (fun y=>decide (y≤x)),y≤x
 | [],y,h=>by simp at h
 | a::L,y,h=>by
  rw [List.takeWhile_cons] at h
  split at h
  ·rename_i hh
   rcases List.mem_cons.1 h with rfl | h
   ·simpa using hh
   ·exact tw_le y h
  ·simp at h
theorem mem_withQ {L:List Int} {x y:Int} (hx:0≤x∧x < 1024) : y∈withQ L x↔y=x∨y∈L:=by
 unfold withQ
 by_cases h:x∈L
 ·rw [if_pos (.inr (.inr h))]
  constructor
  ·exact .inr
  ·rintro (rfl | h1)
   ·exact h
   ·exact h1
 ·rw [if_neg (by rintro (h1 | h1 | h1);omega;omega;exact h h1),List.mem_append,List.mem_cons]
  constructor
  ·rintro (h1 | h1 | h1)
   ·exact .inr ((List.takeWhile_sublist _).subset h1)
   ·exact .inl h1
   ·exact .inr ((List.dropWhile_sublist _).subset h1)
  ·rintro (h1 | h1)
   ·exact .inr (.inl h1)
   ·rw [← List.takeWhile_append_dropWhile (p:=fun y=>decide (y≤x)) (l:=L),List.mem_append] at h1
    exact h1.imp id .inr
theorem withQ_sorted {L:List Int} (hs:L.Pairwise (· < ·)) (x:Int) : (withQ L x).Pairwise (· < ·):=by
 unfold withQ
 split
 ·exact hs
 ·rename_i h
  have hx:x ∉ L:=fun hm=>h (.inr (.inr hm))
  refine List.pairwise_append.2 ⟨hs.sublist (List.takeWhile_sublist _),List.pairwise_cons.2 ⟨dw_gt hs,hs.sublist (List.dropWhile_sublist _)⟩,fun a ha b hb=>?_⟩
  have h1:=tw_le a ha
  have h2:a≠x:=fun e=>hx (by rw [← e];exact (List.takeWhile_sublist _).subset ha)
  rcases List.mem_cons.1 hb with rfl | hb
  ·omega
  ·have:=dw_gt hs b hb
   omega
def minusQ (L M:List Int) : List Int:=L.filter fun x=>decide (x ∉ M)
theorem minusQ_next (L M:List Int) {k:Nat} (h:k < L.length) : minusQ (L.take (k+1)) M=minusQ (L.take k) M++(if decide (L[k]∈M)=true then [] else [L[k]]):=by
 unfold minusQ
 rw [List.take_succ_eq_append_getElem h,List.filter_append,List.filter_cons,List.filter_nil]
 by_cases hm:L[k]∈M
 ·rw [if_neg (by simpa using hm),if_pos (by simpa using hm)]
 ·rw [if_pos (by simpa using hm),if_neg (by simpa using hm)]
theorem minusQ_le (L M:List Int) : (minusQ L M).length≤L.length:=List.length_filter_le _ _
theorem minusQ_toL (N M:Nat) : minusQ (toL N) (toL M)=toL (minusS N M) :=
 sorted_ext ((toL_sorted _).filter _) (toL_sorted _) fun x=>by rw [mem_minus,minusQ,List.mem_filter,decide_eq_true_eq]
theorem andQ_toL (N M:Nat) : andR (toL N) (toL M)=toL (N &&& M) :=
 sorted_ext ((toL_sorted _).filter _) (toL_sorted _) fun x=>by rw [mem_and,andR,List.mem_filter,decide_eq_true_eq]
theorem subS_minus {N M:Nat}:subS N M=decide ((toL (minusS N M)).length=0):=by
 rw [Bool.eq_iff_iff,subS_iff,decide_eq_true_eq,List.length_eq_zero_iff,List.eq_nil_iff_forall_not_mem]
 constructor
 ·intro h x hx
  obtain ⟨h1,h2⟩:=mem_minus.1 hx
  exact h2 (h x h1)
 ·intro h x hx
  exact Classical.byContradiction fun h1=>h x (mem_minus.2 ⟨hx,h1⟩)
def inF (E:List ((Int×Int)×Thing)) (a:Int) (M L:List Int) : List Int:=M.foldl (fun nx b=>if hasE a b E=true then withQ nx b else nx) L
theorem inF_next (a:Int) {M:List Int} (L:List Int) {k:Nat} (h:k < M.length) : inF E a (M.take (k+1)) L=if hasE a M[k] E=true then withQ (inF E a (M.take k) L) M[k] else inF E a (M.take k) L:=by
 rw [List.take_succ_eq_append_getElem h]
 unfold inF
 rw [List.foldl_append]
 rfl
theorem inF_at {a:Int}:∀ {M L:List Int},(∀ x∈M,0≤x∧x < 1024)→L.Pairwise (· < ·)→(inF E a M L).Pairwise (· < ·) ∧ ∀ y,y∈inF E a M L↔y∈L∨y∈M∧hasE a y E=true
 | [],L,_,hs=>⟨hs,fun y=>by simp [inF]⟩
 | b::M,L,hM,hs=>by
  have hb:=hM b (by simp)
  by_cases h:hasE a b E=true
  ·obtain ⟨h1,h2⟩:=inF_at (M:=M) (fun x hx=>hM x (by simp [hx])) (withQ_sorted hs b)
   have he:inF E a (b::M) L=inF E a M (withQ L b):=by
    unfold inF
    rw [List.foldl_cons,if_pos h]
   rw [he]
   refine ⟨h1,fun y=>?_⟩
   rw [h2,mem_withQ hb,List.mem_cons]
   constructor
   ·rintro ((rfl | h3) | ⟨h3,h4⟩)
    ·exact .inr ⟨.inl rfl,h⟩
    ·exact .inl h3
    ·exact .inr ⟨.inr h3,h4⟩
   ·rintro (h3 | ⟨rfl | h3,h4⟩)
    ·exact .inl (.inr h3)
    ·exact .inl (.inl rfl)
    ·exact .inr ⟨h3,h4⟩
  ·obtain ⟨h1,h2⟩:=inF_at (M:=M) (fun x hx=>hM x (by simp [hx])) hs
   have he:inF E a (b::M) L=inF E a M L:=by
    unfold inF
    rw [List.foldl_cons,if_neg h]
   rw [he]
   refine ⟨h1,fun y=>?_⟩
   rw [h2,List.mem_cons]
   constructor
   ·rintro (h3 | ⟨h3,h4⟩)
    ·exact .inl h3
    ·exact .inr ⟨.inr h3,h4⟩
   ·rintro (h3 | ⟨rfl | h3,h4⟩)
    ·exact .inl h3
    ·exact absurd h4 h
    ·exact .inr ⟨h3,h4⟩
def grR (E:List ((Int×Int)×Thing)) (P M L:List Int) : List Int:=P.foldl (fun nx a=>inF E a M nx) L
theorem grR_next {P:List Int} (M L:List Int) {k:Nat} (h:k < P.length) : grR E (P.take (k+1)) M L=inF E P[k] M (grR E (P.take k) M L):=by
 rw [List.take_succ_eq_append_getElem h]
 unfold grR
 rw [List.foldl_append]
 rfl
theorem grR_at:∀ {P M L:List Int},(∀ x∈M,0≤x∧x < 1024)→L.Pairwise (· < ·)→(grR E P M L).Pairwise (· < ·) ∧ ∀ y,y∈grR E P M L↔y∈L∨y∈M ∧ ∃ a∈P,hasE a y E=true
 | [],M,L,_,hs=>⟨hs,fun y=>by simp [grR]⟩
 | a::P,M,L,hM,hs=>by
  obtain ⟨h1,h2⟩:=inF_at (E:=E) (a:=a) hM hs
  obtain ⟨h3,h4⟩:=grR_at (P:=P) hM h1
  refine ⟨h3,fun y=>?_⟩
  show y∈grR E P M (inF E a M L)↔_
  rw [h4,h2]
  constructor
  ·rintro ((h5 | ⟨h5,h6⟩) | ⟨h5,b,h6,h7⟩)
   ·exact .inl h5
   ·exact .inr ⟨h5,a,by simp,h6⟩
   ·exact .inr ⟨h5,b,by simp [h6],h7⟩
  ·rintro (h5 | ⟨h5,b,h6,h7⟩)
   ·exact .inl (.inl h5)
   ·rcases List.mem_cons.1 h6 with rfl | h6
    ·exact .inl (.inr ⟨h5,h7⟩)
    ·exact .inr ⟨h5,b,h6,h7⟩
theorem gr_toL (hi:GInv V E) (P R:Nat) : grR E (toL P) (toL R) (toL P)=toL (P ||| (besS E P &&& R)):=by
 obtain ⟨h1,h2⟩:=grR_at (E:=E) (P:=toL P) (M:=toL R) (L:=toL P) (fun x hx=>toL_rng hx) (toL_sorted _)
 refine sorted_ext h1 (toL_sorted _) fun x=>?_
 rw [h2,mem_or,mem_and,mem_bes hi]
 constructor
 ·rintro (h | ⟨h,a,h3,h4⟩)
  ·exact .inl h
  ·by_cases hp:x∈toL P
   ·exact .inl hp
   ·exact .inr ⟨⟨hp,a,h3,h4⟩,h⟩
 ·rintro (h | ⟨⟨_,a,h3,h4⟩,h⟩)
  ·exact .inl h
  ·exact .inr ⟨h,a,h3,h4⟩
theorem or_nil {P X:Nat} (h:¬ anyB X=true) : toL (P ||| X)=toL P:=by
 have h0:toL X=[]:=Classical.byContradiction fun e=>h (anyB_iff.2 e)
 refine sorted_ext (toL_sorted _) (toL_sorted _) fun x=>?_
 rw [mem_or,h0]
 simp
theorem gr_len (hi:GInv V E) {P R X:Nat} (hX:X=besS E P &&& R) : (toL (P ||| X)).length=(toL P).length ↔ ¬ anyB X=true:=by
 constructor
 ·intro h ha
  have h1:=or_len (N:=P) (M:=X) fun x hx=>by
   rw [hX] at hx
   exact ((mem_bes hi).1 (mem_and.1 hx).1).1
  have h2:0 < (toL X).length:=List.length_pos_iff.2 (anyB_iff.1 ha)
  omega
 ·intro h
  rw [or_nil h]
theorem toL_one {x:Int} (hx:0≤x∧x < 1024) : toL (fromS [x])=[x] :=
 sorted_ext (toL_sorted _) (List.pairwise_singleton _ _) fun y=>by
  rw [mem_fromS]
  exact ⟨fun h=>h.1,fun h=>⟨h,by rw [List.mem_singleton.1 h];exact hx⟩⟩
theorem toL_first {N:Nat} {L:List Int} (hL:L=toL N) (_h:anyB N=true) (hl:0 < L.length) : L[0]=minV N:=by
 unfold minV
 rw [← hL]
 clear hL _h
 cases L with
 | nil=>simp at hl
 | cons x r=>rfl
theorem anyB_len {N:Nat}:anyB N=decide (0 < (toL N).length):=by
 rw [Bool.eq_iff_iff,anyB_iff,decide_eq_true_eq,List.length_pos_iff]
def hitB (E:List ((Int×Int)×Thing)) (x:Int) (P:List Int) : Bool:=P.any fun y=>hasE x y E
def fulB (E:List ((Int×Int)×Thing)) (S P:List Int) : Bool:=S.all fun x=>hitB E x P
theorem ful_eq (hi:GInv V E) {S p:Nat} (hd:∀ x∈toL p,x ∉ toL S) : fulB E (toL (S &&& vS V)) (toL p)=subS (S &&& vS V) (besS E p):=by
 rw [Bool.eq_iff_iff,subS_iff]
 unfold fulB hitB
 rw [List.all_eq_true]
 refine forall_congr' fun x=>forall_congr' fun hx=>?_
 have h1:=(mem_and.1 hx).1
 rw [List.any_eq_true,mem_bes hi]
 constructor
 ·rintro ⟨y,h2,h3⟩
  exact ⟨fun h4=>hd x h4 h1,y,h2,hasE_symm h3⟩
 ·rintro ⟨_,y,h2,h3⟩
  exact ⟨y,h2,hasE_symm h3⟩
theorem part_dis (hi:GInv V E) {S p:Nat} (hp:p∈partS V E S) : ∀ x∈toL p,x ∉ toL S:=fun x hx=>by
 obtain ⟨c,hc,h1⟩:=(part_of hi S).all p hp
 exact ((h1 x).1 hx).2.1.2
theorem full_eq (hi:GInv V E) (S:Nat) : fullS V E S=(partS V E S).filter fun p=>fulB E (toL (S &&& vS V)) (toL p):=by
 unfold fullS
 refine List.filter_congr fun p hp=>?_
 rw [ful_eq hi (part_dis hi hp)]
theorem fulB_next (S P:List Int) {k:Nat} (h:k < S.length) : fulB E (S.take (k+1)) P=(fulB E (S.take k) P && hitB E S[k] P):=by
 unfold fulB
 rw [List.take_succ_eq_append_getElem h,List.all_append,List.all_cons,List.all_nil,Bool.and_true]
theorem hitB_next (x:Int) (P:List Int) {k:Nat} (h:k < P.length) : hitB E x (P.take (k+1))=(hitB E x (P.take k) || hasE x P[k] E):=by
 unfold hitB
 rw [List.take_succ_eq_append_getElem h,List.any_append,List.any_cons,List.any_nil,Bool.or_false]
theorem sub_fix (hi:GInv V E) {K:List Int} (h1:K.Sublist (V.map (·.1))) : toL (fromS K)=K:=by
 refine sorted_ext (toL_sorted _) ((sv_map.1 hi.sv).sublist h1) fun x=>?_
 rw [mem_fromS]
 exact ⟨fun h=>h.1,fun h=>⟨h,ids_rng hi (h1.subset h)⟩⟩
theorem map_fix {l:List (List Int)} {f:List Int→List Int} (h:∀ K∈l,f K=K) : l.map f=l:=by
 induction l with
 | nil=>rfl
 | cons a l ih=>rw [List.map_cons,h a (by simp),ih fun K hK=>h K (by simp [hK])]
theorem sep_toL (hi:GInv V E) : (sepL V E).map toL=(subsR (V.map (·.1))).filter fun K=>isepS V E (fromS K):=by
 unfold sepL
 have h:∀ K∈subsR (V.map (·.1)),toL (fromS K)=K:=fun K hK=>sub_fix hi ((mem_subsR _).1 hK)
 generalize subsR (V.map (·.1))=l at h
 rw [List.filter_map,List.map_map]
 exact map_fix fun K hK=>(Function.comp_apply).trans (h K (List.mem_filter.1 hK).1)
end
end Go.Proofs.YtmokciekndllpaaGreatDoor
namespace Go.Proofs.YtmokciekndllpaaGreatDoor
open Go Go.RowKit Go.Shelf
attribute [local go_sem] qUpon lUpon
attribute [local irreducible] wpO wpX wpQL
def cmpR:List Int→List Int→Int
 | x::xs,y::ys=>if y < x then 1 else if x < y then -1 else cmpR xs ys
 | _::_,[]=>1
 | [],_::_=>-1
 | [],[]=>0
theorem cmpR_zero:∀ {a b:List Int},cmpR a b=0↔a=b
 | x::xs,y::ys=>by
  unfold cmpR
  by_cases h1:y < x
  ·rw [if_pos h1]
   simp
   omega
  ·rw [if_neg h1]
   by_cases h2:x < y
   ·rw [if_pos h2]
    simp
    omega
   ·rw [if_neg h2,cmpR_zero]
    simp
    omega
 | _::_,[]=>by simp [cmpR]
 | [],_::_=>by simp [cmpR]
 | [],[]=>by simp [cmpR]
def cmpQ (L M:List Int) : Int:=cmpR L.reverse M.reverse
theorem cmpQ_zero {L M:List Int}:cmpQ L M=0↔L=M:=by
 unfold cmpQ
 rw [cmpR_zero,List.reverse_inj]
theorem rev_take {L:List Int} {p:Nat} (h:p < L.length) : (L.take (p+1)).reverse=L[p]::(L.take p).reverse:=by
 rw [List.take_succ_eq_append_getElem h,List.reverse_append]
 rfl
theorem minusQ_any (A B:Option Addr) (L M:List Int) (n m cL cM:Nat) (w:World) (hL:SlAt encI 1 w A L) (hM:SlAt encI 1 w B M) (hn:n=L.length) (hm:m=M.length) (hl:n≤100000) (hl2:m≤100000) :
  Calls Tryz.prog 71 #[.slice A n cL,.slice B m cM] w (OwI w (minusQ L M)):=by
 have hL':=hide hL
 have hM':=hide hM
 have hn':=hide hn
 have hm':=hide hm
 have hl':=hide hl
 have hl2':=hide hl2
 clear hL hM hn hm hl hl2
 have hP:=hide (Sp.new w)
 refine callsIn_wide.1 (callsIn_of_wp_marks (n:=0) Tryz.func71 rfl trivial (wpIn_wide.2 ?_))
 simp only [Tryz.ntmps71,List.size_toArray,List.length_cons,List.length_nil,Nat.reduceAdd,Nat.reduceSub,Array.replicate_succ,Array.replicate_zero,List.push_toArray,List.append_toArray,List.nil_append,List.cons_append]
 try dsimp only
 repeat ((fail_if_success with_reducible refine wp_reg (id:=1) ?_);first|go_values|go_skip|go_step|go_guarded|go_upon|go_in|go_back)
 with_reducible refine wp_reg (id:=1) ?_
 refine (uh hP).allocVO (v:=fun b=>.slice (some ⟨b,0,none⟩) 0 0) 3 #[] rfl (run_build0 rfl) ?_
 intro be y1 hQ
 replace hP:=hide hQ
 clear hQ
 go_frame
 replace hP:Hid (Sp w [] w [] [] [(3,1,.slice (some ⟨be,0,none⟩) 0 0,0,[])] y1):=hide (Sp.toRow (L:=[]) (b:=be) (t:=3) (n:=0) (cs:=#[]) (uh hP) rfl (by decide))
 refine wpO_want rfl ?_
 go_simp
 refine wpO_done ?_
 try go_frame
 try dsimp only
 repeat ((fail_if_success with_reducible refine wp_reg (id:=2) ?_);first|go_values|go_skip|go_step|go_guarded|go_upon|go_in|go_back)
 with_reducible refine wp_reg (id:=2) ?_
 refine wpO_want rfl ?_
 go_simp
 refine wpO_done ?_
 try go_frame
 go_wp2_with fail
 obtain ⟨I1_2,hI1_20⟩ : ∃ I:Nat→Act→World→Prop,I=fun fi a' wr=>∃ (k:Nat), ∃ (A5:Option Addr), ∃ (q:Nat), ∃ (c5:Nat), ∃ (xs:List Int),a'.tmps.size=29∧a'.tmps.getD 0 undef=.slice A n cL∧a'.tmps.getD 1 undef=.slice B m cM∧a'.tmps.getD 5 undef=.slice A5 q c5∧a'.tmps.getD 6 undef=.int .i64 (k:Nat)∧a'.defers=[]∧k≤n∧q=xs.length∧xs=minusQ (L.take k) M∧Sp w [] w [] [] [(3,1,.slice A5 q c5,q,xs.flatMap encI)] wr∧fi=n-k:=⟨_,rfl⟩
 have hI1_2:=hide hI1_20
 clear hI1_20
 refine wp_loop_ix I1_2 (n-0) ?_ ?_
 ·rw [uh hI1_2];exact ⟨0,some ⟨be,0,none⟩,0,0,[],rfl,rfl,rfl,rfl,rfl,rfl,Nat.zero_le _,rfl,rfl,uh hP,rfl⟩
 ·rintro fi ⟨tm,dfs⟩ wr hrel
  rw [uh hI1_2] at hrel
  obtain ⟨k,A5,q,c5,xs,hsz,e0,e1,e5,e6,hdf,hk,hq,hxs,hPr,hfm⟩:=hrel
  obtain ⟨us,rfl⟩ : ∃ us:Nat→Value,tm=#[us 0,us 1,us 2,us 3,us 4,us 5,us 6,us 7,us 8,us 9,us 10,us 11,us 12,us 13,us 14,us 15,us 16,us 17,us 18,us 19,us 20,us 21,us 22,us 23,us 24,us 25,us 26,us 27,us 28]:=⟨fun i=>tm.getD i undef,arr_fn hsz⟩
  have h0:us 0=.slice A n cL:=e0
  have h1:us 1=.slice B m cM:=e1
  have h5:us 5=.slice A5 q c5:=e5
  have h6:us 6=.int .i64 (k:Nat):=e6
  have hdf2:dfs=[]:=hdf
  subst hdf2
  clear hdf hsz e0 e1 e5 e6
  simp only [h0,h1,h5,h6]
  clear h0 h1 h5 h6
  clear hP
  have hP:=hide hPr
  have hq':=hide hq
  have hxs':=hide hxs
  have hfm':=hide hfm
  have hqb:=hide (show q≤100000 by rw [hq,hxs];exact Nat.le_trans (minusQ_le _ _) (by rw [List.length_take];have:=uh hl';omega))
  clear hPr hq hxs hfm
  by_cases hlt:k < n
  ·skip
   have hil:(k:Int) < (n:Int):=by omega
   have hk2:=hide hlt
   have hkL:k < L.length:=by have:=uh hn';omega
   have hkb:(k:Int)≤100000:=by have:=uh hl';omega
   have hnx:=minusQ_next L M hkL
   rw [← uh hxs'] at hnx
   clear hk hlt hxs'
   obtain ⟨b0,o0,rfl,hcz⟩:=cellI (uh hL') hkL
   clear hcz
   obtain ⟨y,hy⟩ : ∃ y,y=L[k]:=⟨_,rfl⟩
   have c0:=slE ((uh hL').ext (uh hP).extf) hkL
   rw [← hy] at c0
   have hy':=hide hy
   clear hy
   have hself:=Ext.refl wr
   rw [← uh hy'] at hnx
   try dsimp only
   repeat ((fail_if_success with_reducible refine wp_reg (id:=3) ?_);first|go_values|go_skip|go_step|go_guarded|go_upon|go_in|go_back)
   with_reducible refine wp_reg (id:=3) ?_
   iterate 4
    refine wpO_want rfl ?_
    go_simp
   refine wpO_done ?_
   try go_frame
   obtain ⟨j,hj⟩ : ∃ j,j=decide (y∈M):=⟨_,rfl⟩
   rw [← hj] at hnx
   have hj':=hide hj
   have hnx':=hide hnx
   clear hj hnx
   try dsimp only
   repeat ((fail_if_success with_reducible refine wp_reg (id:=5) ?_);first|go_values|go_skip|go_step|go_guarded|go_upon|go_in|go_back)
   with_reducible refine wp_reg (id:=5) ?_
   iterate 5
    refine wpO_want rfl ?_
    go_simp
   refine wpO_want rfl ?_
   go_simp
   have hca:=hasQ_any B M m cM y wr ((uh hM').ext (uh hP).extf) (uh hm') (uh hl2')
   rw [← uh hj'] at hca
   clear c0 hself
   refine hca.mono ?_
   clear hca
   rintro _ y2 ⟨rfl,hxc⟩
   refine ⟨_,rfl,?_⟩
   replace hP:=hide ((uh hP).ext hxc)
   clear hxc
   refine wpO_want rfl ?_
   go_simp
   refine wpO_done ?_
   try go_frame
   cases j
   ·skip
    have c0:=slE ((uh hL').ext (uh hP).extf) hkL
    rw [← uh hy'] at c0
    have hself:=Ext.refl y2
    try dsimp only
    repeat ((fail_if_success with_reducible refine wp_reg (id:=6) ?_);first|go_values|go_skip|go_step|go_guarded|go_upon|go_in|go_back)
    with_reducible refine wp_reg (id:=6) ?_
    iterate 5
     refine wpO_want rfl ?_
     go_simp
    clear c0 hself
    refine (uh hP).build1O 3 #[.int .i64 y] rfl (run_buildR rfl rfl) ?_
    intro bt y3 hQ
    replace hP:=hide hQ
    clear hQ
    go_frame
    refine (uh hP).ap1O (enc:=encI) (T:=3) (ST:=43) 0 (v:=.slice A5 q c5) (m:=q) (xs:=xs) rfl rfl infoI Tryz.underlying43 one_encI (fun _=>rfl) (by decide) (by decide) rfl y rfl rfl ((uh hP).get 0 rfl) (by have:=uh hqb;omega) ?_
    intro A6 cA6 y4 hQ
    replace hP:=hide hQ
    clear hQ
    try go_frame
    replace hP:Hid (Sp w [] w [] [] [(3,1,.slice A6 (q+1) cA6,q+1,(xs++[y]).flatMap encI)] y4):=hide ((uh hP).sub (List.sublist_append_left _ ([(bt,3,#[.int .i64 y])] : List Cl)) (List.Sublist.refl _))
    refine wpO_want rfl ?_
    go_simp
    refine wpO_done ?_
    try go_frame
    go_wp2_with fail
    have h1:=uh hk2
    refine ⟨n-(k+1),?_,by have:=uh hfm';omega⟩
    rw [uh hI1_2]
    exact ⟨k+1,A6,q+1,cA6,xs++[y],(by first | rfl | trivial),(by first | rfl | trivial),(by first | rfl | trivial),(by first | rfl | trivial),(by first | rfl | (show _=Value.int _ _;go_num) | go_num),(by first | rfl | trivial),by omega,(by rw [List.length_append, ← uh hq'];rfl),(by rw [uh hnx'];simp),uh hP,rfl⟩
   ·skip
    go_wp2_with fail
    have h1:=uh hk2
    refine ⟨n-(k+1),?_,by have:=uh hfm';omega⟩
    rw [uh hI1_2]
    exact ⟨k+1,A5,q,c5,xs,(by first | rfl | trivial),(by first | rfl | trivial),(by first | rfl | trivial),(by first | rfl | trivial),(by first | rfl | (show _=Value.int _ _;go_num) | go_num),(by first | rfl | trivial),by omega,(uh hq'),(by rw [uh hnx'];simp),uh hP,rfl⟩
  ·skip
   have hil:¬ (k:Int) < (n:Int):=by omega
   have hxe:=hide (show xs=minusQ L M by rw [uh hxs',List.take_of_length_le (by have:=uh hn';omega)])
   clear hlt hk hxs'
   try dsimp only
   repeat ((fail_if_success with_reducible refine wp_reg (id:=3) ?_);first|go_values|go_skip|go_step|go_guarded|go_upon|go_in|go_back)
   with_reducible refine wp_reg (id:=3) ?_
   iterate 4
    refine wpO_want rfl ?_
    go_simp
   refine wpO_done ?_
   try go_frame
   go_wp2_with fail
   refine Sp.leaves0 ?_
   exact ⟨_,results_tmp (t:=4) rfl _ _ _,OwI.mk (by rw [← uh hxe];exact uh hq') (by have h:=(uh hP).row 0 rfl;rw [uh hq',uh hxe] at h;exact h) (Nat.le_refl _) (uh hP).extf⟩
theorem withinQ_any (A B:Option Addr) (L M:List Int) (n m cL cM:Nat) (w:World) (hL:SlAt encI 1 w A L) (hM:SlAt encI 1 w B M) (hn:n=L.length) (hm:m=M.length) (hl:n≤100000) (hl2:m≤100000) :
  Calls Tryz.prog 74 #[.slice A n cL,.slice B m cM] w fun e w'=>e=.returned (.bool (decide ((minusQ L M).length=0)))∧Ext w w':=by
 have hca:=minusQ_any A B L M n m cL cM w hL hM hn hm hl hl2
 unfold OwI at hca
 obtain ⟨q,hq⟩ : ∃ q,q=(minusQ L M).length:=⟨_,rfl⟩
 rw [← hq] at hca ⊢
 obtain ⟨z,hz⟩ : ∃ z,z=decide (q=0):=⟨_,rfl⟩
 rw [← hz]
 have hqz:((q:Int) == 0)=z:=by rw [hz];by_cases h:q=0 <;> simp [h]
 have hca':=hide hca
 clear hL hM hn hm hl hl2 hca hq hz
 have hP:=hide (Sp.new w)
 refine callsIn_wide.1 (callsIn_of_wp_marks (n:=0) Tryz.func74 rfl trivial (wpIn_wide.2 ?_))
 simp only [Tryz.ntmps74,List.size_toArray,List.length_cons,List.length_nil,Nat.reduceAdd,Nat.reduceSub,Array.replicate_succ,Array.replicate_zero,List.push_toArray,List.append_toArray,List.nil_append,List.cons_append]
 try dsimp only
 repeat ((fail_if_success with_reducible refine wp_reg (id:=1) ?_);first|go_values|go_skip|go_step|go_guarded|go_upon|go_in|go_back)
 with_reducible refine wp_reg (id:=1) ?_
 iterate 2
  refine wpO_want rfl ?_
  go_simp
 refine wpO_want rfl ?_
 go_simp
 refine (uh hca').mono ?_
 rintro _ y1 ⟨A1,c1,rfl,ho,hxc⟩
 clear ho
 refine ⟨_,rfl,?_⟩
 replace hP:=hide ((uh hP).ext hxc)
 clear hxc
 iterate 3
  refine wpO_want rfl ?_
  go_simp
 refine wpO_done ?_
 try go_frame
 go_wp2_with fail
 refine Sp.leaves0 ?_
 exact ⟨_,results_tmp (t:=4) rfl _ _ _,by first | rfl | rw [hqz],(uh hP).extf⟩
theorem sub_len {l U:List Int} (h:l.Pairwise (· < ·)) (hs:∀ x∈l,x∈U) : l.length≤U.length:=len_le_sub l U (h.imp fun {_ _} h=>by omega) hs
theorem inF_okU {E:List ((Int×Int)×Thing)} {a:Int} {M L U:List Int} (hU:∀ x∈U,0≤x∧x < 1024) (hL:L.Pairwise (· < ·)) (hLU:∀ x∈L,x∈U) (hMU:∀ x∈M,x∈U) : (inF E a M L).Pairwise (· < ·) ∧ ∀ x∈inF E a M L,x∈U:=by
 obtain ⟨h1,h2⟩:=inF_at (E:=E) (a:=a) (M:=M) (fun x hx=>hU x (hMU x hx)) hL
 refine ⟨h1,fun x hx=>?_⟩
 rcases (h2 x).1 hx with h | h
 ·exact hLU x h
 ·exact hMU x h.1
theorem grR_okU {E:List ((Int×Int)×Thing)} {P M L U:List Int} (hU:∀ x∈U,0≤x∧x < 1024) (hL:L.Pairwise (· < ·)) (hLU:∀ x∈L,x∈U) (hMU:∀ x∈M,x∈U) : (grR E P M L).Pairwise (· < ·) ∧ ∀ x∈grR E P M L,x∈U:=by
 obtain ⟨h1,h2⟩:=grR_at (E:=E) (P:=P) (M:=M) (fun x hx=>hU x (hMU x hx)) hL
 refine ⟨h1,fun x hx=>?_⟩
 rcases (h2 x).1 hx with h | h
 ·exact hLU x h
 ·exact hMU x h.1
def OrO (B:Nat) (C:Option Addr) (cC:Nat) (L0:List Int) (W:World) (A:Option Addr) (n c:Nat) (xs:List Int) : Prop:=A=C∧c=cC∧xs=L0∨W.ownsRow B 3 1 (.slice A n c) n (xs.flatMap encI)
theorem OrO.ext {B:Nat} {C:Option Addr} {cC:Nat} {L0:List Int} {W W':World} {A:Option Addr} {n c:Nat} {xs:List Int} (h:OrO B C cC L0 W A n c xs) (hx:Ext W W') : OrO B C cC L0 W' A n c xs:=h.imp id fun h=>own_ext h hx
theorem OrO.next {B:Nat} {C:Option Addr} {cC:Nat} {L0:List Int} {W W':World} {A A':Option Addr} {n c n' c':Nat} {xs ys:List Int} (h:OrO B C cC L0 W A n c xs) (hx:Ext W W') (hB:B≤W.heap.size) (hn:n=xs.length) (hn':n'=ys.length) (h2:A'=A∧c'=c∧ys=xs∨W'.ownsRow W.heap.size 3 1 (.slice A' ys.length c') ys.length (ys.flatMap encI)) : OrO B C cC L0 W' A' n' c' ys:=by
 rcases h2 with ⟨rfl,rfl,rfl⟩ | h2
 ·have e:n'=n:=by omega
  rw [e]
  exact h.ext hx
 ·rw [hn']
  exact .inr (own_base_le h2 hB)
theorem SlO_of {w w':World} {A A':Option Addr} {c n c':Nat} {L xs:List Int} (hn:n=xs.length) (h1:SlAt encI 1 w' A' xs) (h2:OrO w.heap.size A c L w' A' n c' xs) (hx:Ext w w') : SlO w A c L xs (.returned (.slice A' n c')) w':=by
 subst hn
 exact ⟨A',c',rfl,h1,hx,h2⟩
theorem GrI.start {_V:List (Int×Thing)} {E:List ((Int×Int)×Thing)} (N P:Nat) : GrI E N (growS E 1100 P N) 1100 P:=⟨rfl,filt_len N P⟩
theorem ids25_any (A1 B1:Option Addr) (V:List (Int×Thing)) (E:List ((Int×Int)×Thing)) (cA cB:Nat) (w:World) (hV:SlAt encV 3 w A1 V) (hl:V.length≤4096) :
  Calls Tryz.prog 60 #[.agg #[.slice A1 V.length cA,.slice B1 E.length cB]] w (OwI w (V.map (·.1))):=by
 have hV':=hide hV
 have hl':=hide hl
 clear hV hl
 obtain ⟨n,hn0⟩ : ∃ n,n=V.length:=⟨_,rfl⟩
 rw [← hn0]
 have hn':=hide hn0
 have hnb:=hide (show n≤4096 by rw [hn0];exact uh hl')
 clear hn0
 have hP:=hide (Sp.new w)
 refine callsIn_wide.1 (callsIn_of_wp_marks (n:=0) Tryz.func60 rfl trivial (wpIn_wide.2 ?_))
 simp only [Tryz.ntmps60,List.size_toArray,List.length_cons,List.length_nil,Nat.reduceAdd,Nat.reduceSub,Array.replicate_succ,Array.replicate_zero,List.push_toArray,List.append_toArray,List.nil_append,List.cons_append]
 try dsimp only
 repeat ((fail_if_success with_reducible refine wp_reg (id:=0) ?_);first|go_values|go_skip|go_step|go_guarded|go_upon|go_in|go_back)
 with_reducible refine wp_reg (id:=0) ?_
 refine (uh hP).allocO 30 #[.slice A1 n cA,.slice B1 E.length cB] rfl (run_box (v:=.agg #[.slice A1 n cA,.slice B1 E.length cB]) rfl rfl) ?_
 intro r1 y1 hQ
 replace hP:=hide hQ
 clear hQ
 refine wpO_want rfl ?_
 go_simp
 refine wpO_done ?_
 try go_frame
 try dsimp only
 repeat ((fail_if_success with_reducible refine wp_reg (id:=1) ?_);first|go_values|go_skip|go_step|go_guarded|go_upon|go_in|go_back)
 with_reducible refine wp_reg (id:=1) ?_
 refine (uh hP).allocVO (v:=fun b=>.slice (some ⟨b,0,none⟩) 0 0) 3 #[] rfl (run_build0 rfl) ?_
 intro be y2 hQ
 replace hP:=hide hQ
 clear hQ
 go_frame
 replace hP:Hid (Sp w [] w [] [(r1,30,#[.slice A1 n cA,.slice B1 E.length cB])] [(3,1,.slice (some ⟨be,0,none⟩) 0 0,0,[])] y2):=hide (Sp.toRow (L:=[(r1,30,#[.slice A1 n cA,.slice B1 E.length cB])]) (b:=be) (t:=3) (n:=0) (cs:=#[]) (uh hP) rfl (by decide))
 refine wpO_want rfl ?_
 go_simp
 refine wpO_done ?_
 try go_frame
 try dsimp only
 repeat ((fail_if_success with_reducible refine wp_reg (id:=2) ?_);first|go_values|go_skip|go_step|go_guarded|go_upon|go_in|go_back)
 with_reducible refine wp_reg (id:=2) ?_
 refine wpO_want rfl ?_
 go_simp
 refine wpO_done ?_
 try go_frame
 go_wp2_with fail
 obtain ⟨I2_2,hI2_20⟩ : ∃ I:Nat→Act→World→Prop,I=fun fi a' wr=>∃ (k:Nat), ∃ (A5:Option Addr), ∃ (q:Nat), ∃ (c5:Nat), ∃ (xs:List Int),a'.tmps.size=23∧a'.tmps.getD 1 undef=.pointer (some ⟨r1,0,none⟩)∧a'.tmps.getD 3 undef=.slice A5 q c5∧a'.tmps.getD 4 undef=.int .i64 (k:Nat)∧a'.defers=[]∧k≤n∧q=xs.length∧xs=(V.take k).map (·.1)∧Sp w [] w [] [(r1,30,#[.slice A1 n cA,.slice B1 E.length cB])] [(3,1,.slice A5 q c5,q,xs.flatMap encI)] wr∧fi=n-k:=⟨_,rfl⟩
 have hI2_2:=hide hI2_20
 clear hI2_20
 refine wp_loop_ix I2_2 (n-0) ?_ ?_
 ·rw [uh hI2_2];exact ⟨0,some ⟨be,0,none⟩,0,0,[],rfl,rfl,rfl,rfl,rfl,Nat.zero_le _,rfl,rfl,uh hP,rfl⟩
 ·rintro fi ⟨tm,dfs⟩ wr hrel
  rw [uh hI2_2] at hrel
  obtain ⟨k,A5,q,c5,xs,hsz,e1,e3,e4,hdf,hk,hq,hxs,hPr,hfm⟩:=hrel
  obtain ⟨us,rfl⟩ : ∃ us:Nat→Value,tm=#[us 0,us 1,us 2,us 3,us 4,us 5,us 6,us 7,us 8,us 9,us 10,us 11,us 12,us 13,us 14,us 15,us 16,us 17,us 18,us 19,us 20,us 21,us 22]:=⟨fun i=>tm.getD i undef,arr_fn hsz⟩
  have h1:us 1=.pointer (some ⟨r1,0,none⟩):=e1
  have h3:us 3=.slice A5 q c5:=e3
  have h4:us 4=.int .i64 (k:Nat):=e4
  have hdf2:dfs=[]:=hdf
  subst hdf2
  clear hdf hsz e1 e3 e4
  simp only [h1,h3,h4]
  clear h1 h3 h4
  clear hP
  have hP:=hide hPr
  have hq':=hide hq
  have hxs':=hide hxs
  have hfm':=hide hfm
  have hqb:=hide (show q≤4096 by rw [hq,hxs,List.length_map,List.length_take];have:=uh hnb;omega)
  clear hPr hq hxs hfm
  by_cases hlt:k < n
  ·skip
   have hil:(k:Int) < (n:Int):=by omega
   have hk2:=hide hlt
   have hkV:k < V.length:=by rw [← uh hn'];exact hlt
   have hkb:(k:Int)≤4096:=by have:=uh hnb;omega
   have hnx:=hide (show (V.take (k+1)).map (·.1)=xs++[V[k].1] by rw [List.take_succ_eq_append_getElem hkV,List.map_append,uh hxs'];rfl)
   clear hk hlt
   have q0:=(uh hP).cell 0 0 (v:=.slice A1 n cA) rfl rfl
   have hself:=Ext.refl wr
   try dsimp only
   repeat ((fail_if_success with_reducible refine wp_reg (id:=3) ?_);first|go_values|go_skip|go_step|go_guarded|go_upon|go_in|go_back)
   with_reducible refine wp_reg (id:=3) ?_
   iterate 5
    refine wpO_want rfl ?_
    go_simp
   clear q0 hself
   refine wpO_done ?_
   try go_frame
   clear hil
   have hkn:(k:Int) < (n:Int):=by have:=uh hk2;omega
   obtain ⟨b9,o9,rfl,c0,c1,c2⟩:=atV ((uh hV').ext (uh hP).extf) hkV
   clear c1 c2
   generalize V[k].1=y at *
   clear hkV
   have q0:=(uh hP).cell 0 0 (v:=.slice (some ⟨b9,o9,none⟩) n cA) rfl rfl
   have hself:=Ext.refl wr
   try dsimp only
   repeat ((fail_if_success with_reducible refine wp_reg (id:=5) ?_);first|go_values|go_skip|go_step|go_guarded|go_upon|go_in|go_back)
   with_reducible refine wp_reg (id:=5) ?_
   iterate 7
    refine wpO_want rfl ?_
    go_simp
   clear q0 c0 hself
   refine (uh hP).build1O 3 #[.int .i64 y] rfl (run_buildR rfl rfl) ?_
   intro bt y3 hQ
   replace hP:=hide hQ
   clear hQ
   go_frame
   refine (uh hP).ap1O (enc:=encI) (T:=3) (ST:=43) 0 (v:=.slice A5 q c5) (m:=q) (xs:=xs) rfl rfl infoI Tryz.underlying43 one_encI (fun _=>rfl) (by decide) (by decide) rfl y rfl rfl ((uh hP).get 1 rfl) (by have:=uh hqb;omega) ?_
   intro A6 cA6 y4 hQ
   replace hP:=hide hQ
   clear hQ
   try go_frame
   replace hP:Hid (Sp w [] w [] [(r1,30,#[.slice (some ⟨b9,o9,none⟩) n cA,.slice B1 E.length cB])] [(3,1,.slice A6 (q+1) cA6,q+1,(xs++[y]).flatMap encI)] y4):=hide ((uh hP).sub (List.sublist_append_left _ ([(bt,3,#[.int .i64 y])] : List Cl)) (List.Sublist.refl _))
   refine wpO_want rfl ?_
   go_simp
   refine wpO_done ?_
   try go_frame
   clear hkn
   go_wp2_with fail
   have h1:=uh hk2
   refine ⟨n-(k+1),?_,by have:=uh hfm';omega⟩
   rw [uh hI2_2]
   exact ⟨k+1,A6,q+1,cA6,xs++[y],(by first | rfl | trivial),(by first | rfl | trivial),(by first | rfl | trivial),(by first | rfl | (show _=Value.int _ _;go_num) | go_num),(by first | rfl | trivial),by omega,(by rw [List.length_append, ← uh hq'];rfl),(uh hnx).symm,uh hP,rfl⟩
  ·skip
   have hil:¬ (k:Int) < (n:Int):=by omega
   have hxe:=hide (show xs=V.map (·.1) by rw [uh hxs',List.take_of_length_le (by rw [← uh hn'];omega)])
   clear hlt hk hxs'
   have q0:=(uh hP).cell 0 0 (v:=.slice A1 n cA) rfl rfl
   have hself:=Ext.refl wr
   try dsimp only
   repeat ((fail_if_success with_reducible refine wp_reg (id:=3) ?_);first|go_values|go_skip|go_step|go_guarded|go_upon|go_in|go_back)
   with_reducible refine wp_reg (id:=3) ?_
   iterate 5
    refine wpO_want rfl ?_
    go_simp
   clear q0 hself
   refine wpO_done ?_
   try go_frame
   clear hil
   try dsimp only
   repeat ((fail_if_success with_reducible refine wp_reg (id:=6) ?_);first|go_values|go_skip|go_step|go_guarded|go_upon|go_in|go_back)
   with_reducible refine wp_reg (id:=6) ?_
   iterate 2
    refine wpO_want rfl ?_
    go_simp
   refine wpO_done ?_
   try go_frame
   go_wp2_with fail
   refine Sp.leaves0 ?_
   exact ⟨_,results_tmp (t:=2) rfl _ _ _,OwI.mk (by rw [← uh hxe];exact uh hq') (by have h:=(uh hP).row 0 rfl;rw [uh hq',uh hxe] at h;exact h) (Nat.le_refl _) (uh hP).extf⟩
theorem grown_any (A1 B1:Option Addr) (V:List (Int×Thing)) (E:List ((Int×Int)×Thing)) (cA cB:Nat) (C D:Option Addr) (P0 R0 n0 m cC cD:Nat) (U:List Int) (w:World) (hi:GInv V E) (hE:SlAt encE 4 w B1 E) (hl:E.length≤4096) (hC:SlAt encI 1 w C (toL P0)) (hD:SlAt encI 1 w D (toL R0)) (hn:n0=(toL P0).length) (hm:m=(toL R0).length) (hU:∀ x∈U,0≤x∧x < 1024) (hUl:U.length≤100) (hPU:∀ x∈toL P0,x∈U) (hRU:∀ x∈toL R0,x∈U) :
  Calls Tryz.prog 72 #[.agg #[.slice A1 V.length cA,.slice B1 E.length cB],.slice C n0 cC,.slice D m cD] w (SlO w C cC (toL P0) (toL (growS E 1100 P0 R0))):=by
 obtain ⟨PF,hPF⟩ : ∃ PF,PF=growS E 1100 P0 R0:=⟨_,rfl⟩
 have hgr:=hide (show GrI E R0 PF 1100 P0 by rw [hPF];exact GrI.start (_V:=V) R0 P0)
 obtain ⟨L0,hL0⟩ : ∃ L,L=toL P0:=⟨_,rfl⟩
 obtain ⟨M,hM0⟩ : ∃ M,M=toL R0:=⟨_,rfl⟩
 obtain ⟨Q,hQ0⟩ : ∃ Q,Q=toL PF:=⟨_,rfl⟩
 rw [← hPF, ← hQ0, ← hL0]
 rw [← hL0] at hC hn hPU
 rw [← hM0] at hD hm hRU
 have hL0':=hide hL0
 have hM0':=hide hM0
 have hQ0':=hide hQ0
 have hmb:=hide (show m≤100 by rw [hm,hM0];exact Nat.le_trans (sub_len (toL_sorted _) (by rw [← hM0];exact hRU)) hUl)
 obtain ⟨B,hB0⟩ : ∃ B,B=w.heap.size:=⟨_,rfl⟩
 have hB:=hide hB0
 clear hB0
 clear hPF hL0 hM0 hQ0
 have hi':=hide hi
 have hE':=hide hE
 have hl':=hide hl
 have hC':=hide hC
 have hD':=hide hD
 have hn':=hide hn
 have hm':=hide hm
 have hU':=hide hU
 have hUl':=hide hUl
 have hPU':=hide hPU
 have hRU':=hide hRU
 clear hi hE hl hC hD hn hm hU hUl hPU hRU
 have hP:=hide (Sp.new w)
 refine callsIn_wide.1 (callsIn_of_wp_marks (n:=0) Tryz.func72 rfl trivial (wpIn_wide.2 ?_))
 simp only [Tryz.ntmps72,List.size_toArray,List.length_cons,List.length_nil,Nat.reduceAdd,Nat.reduceSub,Array.replicate_succ,Array.replicate_zero,List.push_toArray,List.append_toArray,List.nil_append,List.cons_append]
 try dsimp only
 repeat ((fail_if_success with_reducible refine wp_reg (id:=0) ?_);first|go_values|go_skip|go_step|go_guarded|go_upon|go_in|go_back)
 with_reducible refine wp_reg (id:=0) ?_
 refine (uh hP).allocO 30 #[.slice A1 V.length cA,.slice B1 E.length cB] rfl (run_box (v:=.agg #[.slice A1 V.length cA,.slice B1 E.length cB]) rfl rfl) ?_
 intro r3 y1 hQ
 replace hP:=hide hQ
 clear hQ
 refine wpO_want rfl ?_
 go_simp
 refine wpO_done ?_
 try go_frame
 try dsimp only
 repeat ((fail_if_success with_reducible refine wp_reg (id:=1) ?_);first|go_values|go_skip|go_step|go_guarded|go_upon|go_in|go_back)
 with_reducible refine wp_reg (id:=1) ?_
 iterate 2
  refine wpO_want rfl ?_
  go_simp
 refine wpO_done ?_
 try go_frame
 go_wp2_with fail
 have hb3:=hide ((uh hP).get 0 rfl)
 have hbs0:=hide (uh hP).extf
 clear hP
 generalize y1=wb at *
 have hP:=hide (Sp.new wb)
 have hCb:=hide ((uh hC').ext (uh hbs0))
 have hDb:=hide ((uh hD').ext (uh hbs0))
 have hEb:=hide ((uh hE').ext (uh hbs0))
 clear hC' hD' hE'
 obtain ⟨I1_2,hI1_20⟩ : ∃ I:Nat→Act→World→Prop,I=fun fi a' wr=>∃ (P:Nat), ∃ (n7:Nat), ∃ (c7:Nat), ∃ (A7:Option Addr), ∃ (L:List Int),a'.tmps.size=48∧a'.tmps.getD 2 undef=.slice D m cD∧a'.tmps.getD 3 undef=.pointer (some ⟨r3,0,none⟩)∧a'.tmps.getD 7 undef=.slice A7 n7 c7∧a'.defers=[]∧L=toL P∧n7=L.length∧GrI E R0 PF fi P∧(∀ x∈L,x∈U)∧SlAt encI 1 wr A7 L∧OrO B C cC L0 wr A7 n7 c7 L∧Ext wb wr:=⟨_,rfl⟩
 have hI1_2:=hide hI1_20
 clear hI1_20
 refine wp_loop_ix I1_2 (1100) ?_ ?_
 ·rw [uh hI1_2];exact ⟨P0,n0,cC,C,L0,rfl,rfl,rfl,rfl,rfl,uh hL0',uh hn',uh hgr,uh hPU',uh hCb,.inl ⟨rfl,rfl,rfl⟩,Ext.refl _⟩
 ·rintro fi ⟨tm,dfs⟩ wr hrel
  rw [uh hI1_2] at hrel
  obtain ⟨P,n7,c7,A7,L,hsz,e2,e3,e7,hdf,hL,hn7,hG,hLU,hs7,ho7,hPx⟩:=hrel
  obtain ⟨us,rfl⟩ : ∃ us:Nat→Value,tm=#[us 0,us 1,us 2,us 3,us 4,us 5,us 6,us 7,us 8,us 9,us 10,us 11,us 12,us 13,us 14,us 15,us 16,us 17,us 18,us 19,us 20,us 21,us 22,us 23,us 24,us 25,us 26,us 27,us 28,us 29,us 30,us 31,us 32,us 33,us 34,us 35,us 36,us 37,us 38,us 39,us 40,us 41,us 42,us 43,us 44,us 45,us 46,us 47]:=⟨fun i=>tm.getD i undef,arr_fn hsz⟩
  have h2:us 2=.slice D m cD:=e2
  have h3:us 3=.pointer (some ⟨r3,0,none⟩):=e3
  have h7:us 7=.slice A7 n7 c7:=e7
  have hdf2:dfs=[]:=hdf
  subst hdf2
  clear hdf hsz e2 e3 e7
  simp only [h2,h3,h7]
  clear h2 h3 h7
  clear hP
  have hxwo:=hide hPx
  clear hPx
  generalize wr=wo at *
  have hP:=hide (Sp.new wo)
  have hL':=hide hL
  have hn7':=hide hn7
  have hG':=hide hG
  have hLU':=hide hLU
  have hs7':=hide hs7
  have ho7':=hide ho7
  clear hL hn7 hG hLU hs7 ho7
  have hsrt:=hide (show L.Pairwise (· < ·) by rw [uh hL'];exact toL_sorted _)
  have hn7b:=hide (show n7≤100 by rw [uh hn7'];exact Nat.le_trans (sub_len (uh hsrt) (uh hLU')) (uh hUl'))
  have hDo:=hide ((uh hDb).ext (uh hxwo))
  have hEo:=hide ((uh hEb).ext (uh hxwo))
  have hb3o:=hide ((uh hb3).ext (uh hxwo))
  try dsimp only
  repeat ((fail_if_success with_reducible refine wp_reg (id:=2) ?_);first|go_values|go_skip|go_step|go_guarded|go_upon|go_in|go_back)
  with_reducible refine wp_reg (id:=2) ?_
  iterate 2
   refine wpO_want rfl ?_
   go_simp
  refine wpO_done ?_
  try go_frame
  try dsimp only
  repeat ((fail_if_success with_reducible refine wp_reg (id:=3) ?_);first|go_values|go_skip|go_step|go_guarded|go_upon|go_in|go_back)
  with_reducible refine wp_reg (id:=3) ?_
  refine wpO_want rfl ?_
  go_simp
  refine wpO_done ?_
  try go_frame
  go_wp2_with fail
  obtain ⟨I1_4,hI1_40⟩ : ∃ I:Nat→Act→World→Prop,I=fun f2 a' wr=>∃ (i:Nat), ∃ (n8:Nat), ∃ (c8:Nat), ∃ (A8:Option Addr), ∃ (xs:List Int),a'.tmps.size=48∧a'.tmps.getD 2 undef=.slice D m cD∧a'.tmps.getD 3 undef=.pointer (some ⟨r3,0,none⟩)∧a'.tmps.getD 7 undef=.slice A7 n7 c7∧a'.tmps.getD 8 undef=.slice A8 n8 c8∧a'.tmps.getD 9 undef=.int .i64 (i:Nat)∧a'.defers=[]∧i≤n7∧n8=xs.length∧xs=grR E (L.take i) M L∧SlAt encI 1 wr A8 xs∧OrO B C cC L0 wr A8 n8 c8 xs∧f2=n7-i∧Ext wo wr:=⟨_,rfl⟩
  have hI1_4:=hide hI1_40
  clear hI1_40
  refine wp_loop_ix I1_4 (n7-0) ?_ ?_
  ·rw [uh hI1_4];exact ⟨0,n7,c7,A7,L,rfl,rfl,rfl,rfl,rfl,rfl,rfl,Nat.zero_le _,uh hn7',rfl,uh hs7',uh ho7',rfl,Ext.refl _⟩
  ·rintro f2 ⟨tm,dfs⟩ wr hrel
   rw [uh hI1_4] at hrel
   obtain ⟨i,n8,c8,A8,xs,hsz,e2,e3,e7,e8,e9,hdf,hin,hn8,hxs,hs8,ho8,hfm,hPx⟩:=hrel
   obtain ⟨us,rfl⟩ : ∃ us:Nat→Value,tm=#[us 0,us 1,us 2,us 3,us 4,us 5,us 6,us 7,us 8,us 9,us 10,us 11,us 12,us 13,us 14,us 15,us 16,us 17,us 18,us 19,us 20,us 21,us 22,us 23,us 24,us 25,us 26,us 27,us 28,us 29,us 30,us 31,us 32,us 33,us 34,us 35,us 36,us 37,us 38,us 39,us 40,us 41,us 42,us 43,us 44,us 45,us 46,us 47]:=⟨fun i=>tm.getD i undef,arr_fn hsz⟩
   have h2:us 2=.slice D m cD:=e2
   have h3:us 3=.pointer (some ⟨r3,0,none⟩):=e3
   have h7:us 7=.slice A7 n7 c7:=e7
   have h8:us 8=.slice A8 n8 c8:=e8
   have h9:us 9=.int .i64 (i:Nat):=e9
   have hdf2:dfs=[]:=hdf
   subst hdf2
   clear hdf hsz e2 e3 e7 e8 e9
   simp only [h2,h3,h7,h8,h9]
   clear h2 h3 h7 h8 h9
   clear hP
   have hxwi:=hide hPx
   clear hPx
   generalize wr=wi at *
   have hP:=hide (Sp.new wi)
   have hn8':=hide hn8
   have hxs':=hide hxs
   have hs8':=hide hs8
   have ho8':=hide ho8
   have hfm':=hide hfm
   clear hn8 hxs hs8 ho8 hfm
   have hin':=hide hin
   by_cases hlt:i < n7
   ·skip
    have hil:(i:Int) < (n7:Int):=by omega
    have hlt':=hide hlt
    have hiL:=hide (show i < L.length by rw [← uh hn7'];exact hlt)
    have hib:=hide (show (i:Int)≤100 by have:=uh hn7b;omega)
    clear hlt hin
    try dsimp only
    repeat ((fail_if_success with_reducible refine wp_reg (id:=4) ?_);first|go_values|go_skip|go_step|go_guarded|go_upon|go_in|go_back)
    with_reducible refine wp_reg (id:=4) ?_
    iterate 4
     refine wpO_want rfl ?_
     go_simp
    refine wpO_done ?_
    try go_frame
    clear hil
    try dsimp only
    repeat ((fail_if_success with_reducible refine wp_reg (id:=6) ?_);first|go_values|go_skip|go_step|go_guarded|go_upon|go_in|go_back)
    with_reducible refine wp_reg (id:=6) ?_
    refine wpO_want rfl ?_
    go_simp
    refine wpO_done ?_
    try go_frame
    go_wp2_with fail
    obtain ⟨y,hy0⟩ : ∃ y,y=L[i]'(uh hiL):=⟨_,rfl⟩
    have hy':=hide hy0
    clear hy0
    have hokX:=hide (show xs.Pairwise (· < ·) ∧ ∀ x∈xs,x∈U by rw [uh hxs'];exact grR_okU (uh hU') (uh hsrt) (uh hLU') (uh hRU'))
    obtain ⟨I1_8,hI1_80⟩ : ∃ I:Nat→Act→World→Prop,I=fun f3 a' wr=>∃ (k:Nat), ∃ (n9:Nat), ∃ (c9:Nat), ∃ (A9:Option Addr), ∃ (ys:List Int),a'.tmps.size=48∧a'.tmps.getD 2 undef=.slice D m cD∧a'.tmps.getD 3 undef=.pointer (some ⟨r3,0,none⟩)∧a'.tmps.getD 7 undef=.slice A7 n7 c7∧a'.tmps.getD 8 undef=.slice A9 n9 c9∧a'.tmps.getD 9 undef=.int .i64 (i:Nat)∧a'.tmps.getD 10 undef=.int .i64 (k:Nat)∧a'.defers=[]∧k≤m∧n9=ys.length∧ys=inF E y (M.take k) xs∧SlAt encI 1 wr A9 ys∧OrO B C cC L0 wr A9 n9 c9 ys∧f3=m-k∧Ext wi wr:=⟨_,rfl⟩
    have hI1_8:=hide hI1_80
    clear hI1_80
    refine wp_loop_ix I1_8 (m-0) ?_ ?_
    ·rw [uh hI1_8];exact ⟨0,n8,c8,A8,xs,rfl,rfl,rfl,rfl,rfl,rfl,rfl,rfl,Nat.zero_le _,uh hn8',rfl,uh hs8',uh ho8',rfl,Ext.refl _⟩
    ·rintro f3 ⟨tm,dfs⟩ wr hrel
     rw [uh hI1_8] at hrel
     obtain ⟨k,n9,c9,A9,ys,hsz,e2,e3,e7,e8,e9,e10,hdf,hkm,hn9,hys,hs9,ho9,hfk,hPx⟩:=hrel
     obtain ⟨us,rfl⟩ : ∃ us:Nat→Value,tm=#[us 0,us 1,us 2,us 3,us 4,us 5,us 6,us 7,us 8,us 9,us 10,us 11,us 12,us 13,us 14,us 15,us 16,us 17,us 18,us 19,us 20,us 21,us 22,us 23,us 24,us 25,us 26,us 27,us 28,us 29,us 30,us 31,us 32,us 33,us 34,us 35,us 36,us 37,us 38,us 39,us 40,us 41,us 42,us 43,us 44,us 45,us 46,us 47]:=⟨fun i=>tm.getD i undef,arr_fn hsz⟩
     have h2:us 2=.slice D m cD:=e2
     have h3:us 3=.pointer (some ⟨r3,0,none⟩):=e3
     have h7:us 7=.slice A7 n7 c7:=e7
     have h8:us 8=.slice A9 n9 c9:=e8
     have h9:us 9=.int .i64 (i:Nat):=e9
     have h10:us 10=.int .i64 (k:Nat):=e10
     have hdf2:dfs=[]:=hdf
     subst hdf2
     clear hdf hsz e2 e3 e7 e8 e9 e10
     simp only [h2,h3,h7,h8,h9,h10]
     clear h2 h3 h7 h8 h9 h10
     clear hP
     have hxwk:=hide hPx
     clear hPx
     generalize wr=wk at *
     have hP:=hide (Sp.new wk)
     have hn9':=hide hn9
     have hys':=hide hys
     have hs9':=hide hs9
     have ho9':=hide ho9
     have hfk':=hide hfk
     clear hn9 hys hs9 ho9 hfk
     have hkm':=hide hkm
     have hxok:=hide ((uh hxwi).trans (uh hxwk))
     have hs7k:=hide ((uh hs7').ext (uh hxok))
     have hDk:=hide ((uh hDo).ext (uh hxok))
     have hEk:=hide ((uh hEo).ext (uh hxok))
     have hb3k:=hide ((uh hb3o).ext (uh hxok))
     by_cases hlt:k < m
     ·skip
      have hil2:(k:Int) < (m:Int):=by omega
      have hlt2:=hide hlt
      have hkM:k < M.length:=by rw [← uh hm'];exact hlt
      have hkb:(k:Int)≤100:=by have:=uh hmb;omega
      have hib2:=uh hib
      have hokY:=hide (show ys.Pairwise (· < ·) ∧ ∀ x∈ys,x∈U by rw [uh hys'];exact inF_okU (uh hU') (uh hokX).1 (uh hokX).2 fun x hx=>uh hRU' x (List.mem_of_mem_take hx))
      have hn9b:=hide (show n9≤100 by rw [uh hn9'];exact Nat.le_trans (sub_len (uh hokY).1 (uh hokY).2) (uh hUl'))
      have hnx0:=inF_next (E:=E) y xs hkM
      obtain ⟨b0,o0,rfl,hcz⟩:=cellI (uh hs7') (uh hiL)
      clear hcz
      obtain ⟨b1,o1,rfl,hcz⟩:=cellI (uh hDk) hkM
      clear hcz
      have c0:=slK (uh hs7k) (S:=[]) (by simp) (uh hiL)
      have c1:=slK (uh hDk) (S:=[]) (by simp) hkM
      rw [← uh hy'] at c0
      have hkM':=hide hkM
      obtain ⟨z,hz0⟩ : ∃ z,z=M[k]'(uh hkM'):=⟨_,rfl⟩
      rw [← hz0] at c1 hnx0
      have hz':=hide hz0
      have hzU:=hide (show z∈U by rw [hz0];exact uh hRU' _ (List.getElem_mem hkM))
      have hself:=Keep.refl [] wk
      obtain ⟨qj,hqj⟩ : ∃ q,q=hasE y z E:=⟨_,rfl⟩
      rw [← hqj, ← uh hys'] at hnx0
      have hqj':=hide hqj
      have hnx:=hide hnx0
      clear hlt hkm hz0 hqj hnx0
      try dsimp only
      repeat ((fail_if_success with_reducible refine wp_reg (id:=7) ?_);first|go_values|go_skip|go_step|go_guarded|go_upon|go_in|go_back)
      with_reducible refine wp_reg (id:=7) ?_
      iterate 4
       refine wpO_want rfl ?_
       go_simp
      refine wpO_done ?_
      try go_frame
      clear hil2
      go_wp2_with fail
      have hin3:(i:Int) < (n7:Int):=by have:=uh hlt';omega
      have hkm3:(k:Int) < (m:Int):=by have:=uh hlt2;omega
      refine wp_regionK (P:=Tryz.prog) [] [0,1,2,3,4,5,6,7,8,9] [] 0 #[true,true,true,true,true,true,true,true,true,true] (by kernel_rfl) (by kernel_rfl) rfl (by rfl) ?_
      refine ql_want (v:=.agg #[.slice A1 V.length cA,.slice B1 E.length cB]) rfl (by rfl) (fun W hW=>qUpon_ofX (run_load_agg (cs:=#[.slice A1 V.length cA,.slice B1 E.length cB]) rfl rfl (by simp [go_sem]) (by simp [go_sem]) (((uh hb3k).ext ((uh hP).extf.trans hW.ext)).whole))) ?_
      go_frame
      iterate 8
       refine ql_want (v:=?_) rfl (by rfl) (fun W hW=>?_) ?_
       rotate_left
       ·go_simp
        first | done | rfl
       go_frame
      refine ql_want (v:=.bool qj) rfl (by rfl) (fun W hW=>?_) ?_
      ·go_simp
       refine (joined25_any A1 B1 V E cA cB y z W ((uh hEk).ext ((uh hP).extf.trans hW.ext)) (uh hl')).mono ?_
       rw [← uh hqj']
       rintro _ _ ⟨h1,h2⟩
       exact ⟨_,h1,rfl,h2⟩
      go_frame
      refine wpQL_nil (fun y2 hxq=>?_)
      replace hP:=hide ((uh hP).ext hxq)
      clear hxq
      refine wpX_done (by kernel_rfl) ?_
      try go_frame
      clear c0 c1 hself hin3 hkm3
      cases qj
      ·skip
       clear hib2
       go_wp2_with fail
       refine ⟨m-(k+1),?_,by have:=uh hfk';have:=uh hlt2;omega⟩
       rw [uh hI1_8]
       exact ⟨k+1,n9,c9,A9,ys,(by first | rfl | trivial),(by first | rfl | trivial),(by first | rfl | trivial),(by first | rfl | trivial),(by first | rfl | trivial),(by first | rfl | trivial),(by first | rfl | (show _=Value.int _ _;go_num) | go_num),(by first | rfl | trivial),by have:=uh hlt2;omega,uh hn9',(by rw [uh hnx,if_neg (by simp)]),(uh hs9').ext (uh hP).extf,(uh ho9').ext (uh hP).extf,rfl,(uh hxwk).trans (uh hP).extf⟩
      ·skip
       have c1:=slE ((uh hDk).ext (uh hP).extf) (uh hkM')
       rw [← uh hz'] at c1
       have hkm3:(k:Int) < (m:Int):=by have:=uh hlt2;omega
       have hself:=Ext.refl y2
       try dsimp only
       repeat ((fail_if_success with_reducible refine wp_reg (id:=10) ?_);first|go_values|go_skip|go_step|go_guarded|go_upon|go_in|go_back)
       with_reducible refine wp_reg (id:=10) ?_
       iterate 5
        refine wpO_want rfl ?_
        go_simp
       clear c1 hself hkm3
       refine wpO_want rfl ?_
       go_simp
       obtain ⟨zs,hzs0⟩ : ∃ zs,zs=withQ ys z:=⟨_,rfl⟩
       have hzs:=hide hzs0
       clear hzs0
       have hca:=withQ_any A9 ys n9 c9 z y2 ((uh hs9').ext (uh hP).extf) (uh hn9') (by have:=uh hn9b;omega)
       unfold SlO at hca
       rw [← uh hzs] at hca
       refine hca.mono ?_
       clear hca
       rintro _ y3 ⟨A10,c10,rfl,hs0,hxc,ho0⟩
       have ho10:=hide (((uh ho9').ext (uh hP).extf).next hxc (by rw [uh hB];exact Nat.le_trans (Below.size (uh hbs0)) (Nat.le_trans (Below.size (uh hxwo)) (Nat.le_trans (Below.size (uh hxok)) (Below.size (uh hP).extf)))) (uh hn9') rfl ho0)
       clear ho0
       obtain ⟨n10,hn10⟩ : ∃ n,n=zs.length:=⟨_,rfl⟩
       rw [← hn10]
       rw [← hn10] at ho10
       have hn10':=hide hn10
       have hs10:=hide hs0
       clear hn10 hs0
       refine ⟨_,rfl,?_⟩
       replace hP:=hide ((uh hP).ext hxc)
       clear hxc
       try go_frame
       refine wpO_want rfl ?_
       go_simp
       refine wpO_done ?_
       try go_frame
       clear hib2
       go_wp2_with fail
       refine ⟨m-(k+1),?_,by have:=uh hfk';have:=uh hlt2;omega⟩
       rw [uh hI1_8]
       exact ⟨k+1,n10,c10,A10,zs,(by first | rfl | trivial),(by first | rfl | trivial),(by first | rfl | trivial),(by first | rfl | trivial),(by first | rfl | trivial),(by first | rfl | trivial),(by first | rfl | (show _=Value.int _ _;go_num) | go_num),(by first | rfl | trivial),by have:=uh hlt2;omega,uh hn10',(by rw [uh hnx];simpa using uh hzs),uh hs10,uh ho10,rfl,(uh hxwk).trans (uh hP).extf⟩
     ·skip
      have hil2:¬ (k:Int) < (m:Int):=by omega
      have hye:=hide (show ys=grR E (L.take (i+1)) M L by rw [uh hys',List.take_of_length_le (by rw [← uh hm'];omega),grR_next M L (uh hiL), ← uh hy',uh hxs'])
      have hib2:=uh hib
      clear hlt hkm
      try dsimp only
      repeat ((fail_if_success with_reducible refine wp_reg (id:=7) ?_);first|go_values|go_skip|go_step|go_guarded|go_upon|go_in|go_back)
      with_reducible refine wp_reg (id:=7) ?_
      iterate 4
       refine wpO_want rfl ?_
       go_simp
      refine wpO_done ?_
      try go_frame
      clear hil2
      go_wp2_with fail
      refine ⟨n7-(i+1),?_,by have:=uh hfm';have:=uh hlt';omega⟩
      rw [uh hI1_4]
      exact ⟨i+1,n9,c9,A9,ys,(by first | rfl | trivial),(by first | rfl | trivial),(by first | rfl | trivial),(by first | rfl | trivial),(by first | rfl | trivial),(by first | rfl | (show _=Value.int _ _;go_num) | go_num),(by first | rfl | trivial),by have:=uh hlt';omega,uh hn9',uh hye,uh hs9',uh ho9',rfl,(uh hxwi).trans (uh hxwk)⟩
   ·skip
    have hil:¬ (i:Int) < (n7:Int):=by omega
    obtain ⟨X,hX0⟩ : ∃ X,X=besS E P &&& R0:=⟨_,rfl⟩
    have hX:=hide hX0
    have hxe:=hide (show xs=toL (P ||| X) by rw [uh hxs',List.take_of_length_le (by rw [← uh hn7'];omega),uh hL',uh hM0',hX0];exact gr_toL (uh hi') P R0)
    have hle:=hide (show (n8=n7 ↔ ¬ anyB X=true) by rw [uh hn8',uh hn7',uh hxe,uh hL'];exact gr_len (uh hi') hX0)
    have hok8:=hide (show ∀ x∈xs,x∈U by rw [uh hxs'];exact (grR_okU (uh hU') (uh hsrt) (uh hLU') (uh hRU')).2)
    clear hlt hin hX0
    try dsimp only
    repeat ((fail_if_success with_reducible refine wp_reg (id:=4) ?_);first|go_values|go_skip|go_step|go_guarded|go_upon|go_in|go_back)
    with_reducible refine wp_reg (id:=4) ?_
    iterate 4
     refine wpO_want rfl ?_
     go_simp
    refine wpO_done ?_
    try go_frame
    clear hil
    by_cases hany:anyB X=true
    ·skip
     have hne:((n8:Int) == (n7:Int))=false:=by
      have h:¬ n8=n7:=fun h=>(uh hle).1 h hany
      simp only [beq_eq_false_iff_ne,ne_eq,Int.ofNat_inj]
      exact h
     have hany':=hide hany
     clear hany
     try dsimp only
     repeat ((fail_if_success with_reducible refine wp_reg (id:=11) ?_);first|go_values|go_skip|go_step|go_guarded|go_upon|go_in|go_back)
     with_reducible refine wp_reg (id:=11) ?_
     iterate 5
      refine wpO_want rfl ?_
      go_simp
     refine wpO_done ?_
     try go_frame
     clear hne
     try dsimp only
     repeat ((fail_if_success with_reducible refine wp_reg (id:=13) ?_);first|go_values|go_skip|go_step|go_guarded|go_upon|go_in|go_back)
     with_reducible refine wp_reg (id:=13) ?_
     iterate 2
      refine wpO_want rfl ?_
      go_simp
     refine wpO_done ?_
     try go_frame
     go_wp2_with fail
     obtain ⟨f',hf',hG2⟩:=GrI.next (uh hi') (uh hG') (uh hX) (uh hany')
     refine ⟨f',?_,by omega⟩
     rw [uh hI1_2]
     exact ⟨P ||| X,n8,c8,A8,xs,(by first | rfl | trivial),(by first | rfl | trivial),(by first | rfl | trivial),(by first | rfl | trivial),(by first | rfl | trivial),uh hxe,uh hn8',hG2,uh hok8,(uh hs8').ext (uh hP).extf,(uh ho8').ext (uh hP).extf,(uh hxwo).trans ((uh hxwi).trans (uh hP).extf)⟩
    ·skip
     have hne:((n8:Int) == (n7:Int))=true:=by
      have h:n8=n7:=(uh hle).2 hany
      simp [h]
     have hre:=hide (show L=Q by rw [uh hL',uh hQ0',GrI.done (uh hG') (uh hX) hany])
     clear hany
     try dsimp only
     repeat ((fail_if_success with_reducible refine wp_reg (id:=11) ?_);first|go_values|go_skip|go_step|go_guarded|go_upon|go_in|go_back)
     with_reducible refine wp_reg (id:=11) ?_
     iterate 5
      refine wpO_want rfl ?_
      go_simp
     refine wpO_done ?_
     try go_frame
     clear hne
     try dsimp only
     repeat ((fail_if_success with_reducible refine wp_reg (id:=12) ?_);first|go_values|go_skip|go_step|go_guarded|go_upon|go_in|go_back)
     with_reducible refine wp_reg (id:=12) ?_
     iterate 2
      refine wpO_want rfl ?_
      go_simp
     refine wpO_done ?_
     try go_frame
     go_wp2_with fail
     refine Sp.leaves0 ?_
     exact ⟨_,results_tmp (t:=6) rfl _ _ _,SlO_of (by rw [← uh hre];exact uh hn7') (by rw [← uh hre];exact ((uh hs7').ext (uh hxwi)).ext (uh hP).extf) (by rw [← uh hre, ← uh hB];exact ((uh ho7').ext (uh hxwi)).ext (uh hP).extf) ((uh hbs0).trans ((uh hxwo).trans ((uh hxwi).trans (uh hP).extf)))⟩
abbrev Sl:=Option Addr×Nat×Nat
def encSl (p:Sl) : List Value:=[.slice p.1 p.2.1 p.2.2]
theorem one_encSl (p:Sl) : ∀ v∈encSl p,v.oneCell'=true:=by intro v hv;simp [encSl] at hv;subst hv;rfl
theorem infoR:(Tryz.prog.info? 43).map (fun i=>(i.zero.map (·.cells.size),i.size,i.bytes))=some (some 1,1,24):=by kernel_rfl
def SSAt (w:World) (A:Option Addr) (KK:List (List Int)) : Prop:=∃ ps:List Sl,ps.length=KK.length∧SlAt encSl 1 w A ps ∧ ∀ (i:Nat) (h:i < ps.length) (h2:i < KK.length),ps[i].2.1=KK[i].length∧SlAt encI 1 w ps[i].1 KK[i]
theorem SSAt.ext {w w':World} {A:Option Addr} {KK:List (List Int)} (h:SSAt w A KK) (hx:Ext w w') : SSAt w' A KK:=by
 obtain ⟨ps,h1,h2,h3⟩:=h
 exact ⟨ps,h1,h2.ext hx,fun i a b=>⟨(h3 i a b).1,(h3 i a b).2.ext hx⟩⟩
theorem atSl {w:World} {A:Option Addr} {ps:List Sl} (h:SlAt encSl 1 w A ps) {i:Nat} (hi:i < ps.length) : ∃ b off,A=some ⟨b,off,none⟩∧b < w.heap.size ∧ ∀ S W,Keep S w W→b ∉ S→W.cell? ⟨b,off+i,none⟩=some (.slice ps[i].1 ps[i].2.1 ps[i].2.2):=by
 obtain ⟨b,off,hA,hlt,hc⟩:=h (fun e=>by rw [e] at hi;simp at hi)
 refine ⟨b,off,hA,hlt,fun S W hk hn=>?_⟩
 rw [World.cell?_of_block (hk.block b hlt hn)]
 have:=hc i _ (List.getElem?_eq_getElem hi) 0 (.slice ps[i].1 ps[i].2.1 ps[i].2.2) rfl
 rw [show off+i*1+0=off+i by omega] at this
 exact this
theorem SSAt.get {w:World} {A:Option Addr} {KK:List (List Int)} (h:SSAt w A KK) (hne:0 < KK.length) : ∃ b off,A=some ⟨b,off,none⟩ ∧ ∀ (i:Nat) (_:i < KK.length), ∃ a c,(∀ S W,Keep S w W→b ∉ S→W.cell? ⟨b,off+i,none⟩=some (.slice a KK[i].length c))∧SlAt encI 1 w a KK[i]:=by
 obtain ⟨ps,h1,h2,h3⟩:=h
 obtain ⟨b,off,hA,hlt,hc⟩:=h2 (fun e=>by rw [e] at h1;simp at h1;omega)
 refine ⟨b,off,hA,fun i hi=>?_⟩
 have hi2:i < ps.length:=by rw [h1];exact hi
 obtain ⟨h4,h5⟩:=h3 i hi2 hi
 refine ⟨ps[i].1,ps[i].2.2,fun S W hk hn=>?_,h5⟩
 rw [World.cell?_of_block (hk.block b hlt hn), ← h4]
 have:=hc i _ (List.getElem?_eq_getElem hi2) 0 (.slice ps[i].1 ps[i].2.1 ps[i].2.2) rfl
 rw [show off+i*1+0=off+i by omega] at this
 exact this
def SsPost (w:World) (KK:List (List Int)) (e:Ending) (w':World) : Prop:=∃ A c,e=.returned (.slice A KK.length c)∧SSAt w' A KK∧Ext w w'
theorem SsPost.mk {w w':World} {KK:List (List Int)} {A:Option Addr} {n c:Nat} (hn:n=KK.length) (h1:SSAt w' A KK) (h2:Ext w w') : SsPost w KK (.returned (.slice A n c)) w':=⟨A,c,by rw [hn],h1,h2⟩
def rowJ (p:Sl×List Int) : Rw:=(3,1,.slice p.1.1 p.1.2.1 p.1.2.2,p.1.2.1,p.2.flatMap encI)
theorem get_tail {α:Type} (a x:α) (l:List α) : (a::(l++[x]))[l.length+1]? = some x:=by simp
theorem set_tail {α:Type} (a x y:α) (l:List α) : (a::(l++[x])).set (l.length+1) y=a::(l++[y]):=by simp
section
variable {wf w W:World} {T0:List Nat} {ds:List Deferred} {L:List Cl} {v:Value} {n:Nat} {J:List (Sl×List Int)} {tl:List Rw} {T:TypeId}
theorem Sp.joinJ {p:Sl×List Int} (h:Sp wf T0 w ds L ((T,1,v,n,(J.map (·.1)++[p.1]).flatMap encSl)::(J.map rowJ++[rowJ p])) W) : Sp wf T0 w ds L ((T,1,v,n,((J++[p]).map (·.1)).flatMap encSl)::((J++[p]).map rowJ)) W:=by
 rw [List.map_append,List.map_append]
 exact h
theorem Sp.atJ (h:Sp wf T0 w ds L ((T,1,v,n,(J.map (·.1)).flatMap encSl)::(J.map rowJ++tl)) W) {k:Nat} (hk:k < J.length) (hl:J[k].1.2.1=J[k].2.length) : SlAt encI 1 W J[k].1.1 J[k].2:=by
 have h1:=h.row (k+1) (T:=3) (k:=1) (v:=.slice J[k].1.1 J[k].1.2.1 J[k].1.2.2) (n:=J[k].1.2.1) (xs:=J[k].2.flatMap encI) (by
  rw [List.getElem?_cons_succ,List.getElem?_append_left (by rw [List.length_map];exact hk),List.getElem?_map,List.getElem?_eq_getElem hk];rfl)
 rw [hl] at h1
 exact own_at (enc:=encI) h1 (fun _=>rfl)
theorem Sp.ss (h:Sp wf T0 w ds L ((T,1,v,n,(J.map (·.1)).flatMap encSl)::(J.map rowJ++tl)) W) (hl:∀ p∈J,p.1.2.1=p.2.length) {A:Option Addr} {c:Nat} (hv:v=.slice A n c) (hn:n=J.length) : SSAt W A (J.map (·.2)):=by
 subst hv
 refine ⟨J.map (·.1),by rw [List.length_map,List.length_map],?_,fun i hi h2=>?_⟩
 ·have h1:=h.row 0 rfl
  rw [hn, ← List.length_map (f:=fun p:Sl×List Int=>p.1)] at h1
  exact own_at (enc:=encSl) h1 (fun _=>rfl)
 ·have hi':i < J.length:=by simpa using hi
  have hli:=hl J[i] (List.getElem_mem hi')
  simp only [List.getElem_map]
  exact ⟨hli,h.atJ hi' hli⟩
end
theorem run_buildSl {ρ:Operand→Value} {o:Oper} {x:Operand} {w:World} {a:Option Addr} {n c:Nat} (ho:o.op=.buildSlice 38 1 #[(0,x)]) (hx:ρ x=.slice a n c) : (execOp ρ o).run Tryz.prog w=.ok (.value (.slice (some ⟨w.heap.size,0,none⟩) 1 1)) (w.alloc (.cells #[.slice a n c] 43)):=by
 unfold execOp
 simp only [ho]
 simp [go_sem,hx]
theorem subs_next (L:List Int) {i:Nat} (h:i < L.length) : subsR (L.take (i+1))=subsR (L.take i)++(subsR (L.take i)).map fun K=>K++[L[i]]:=by
 rw [List.take_succ_eq_append_getElem h,subsR_snoc]
theorem map_next {α β:Type} (f:α→β) (P:List α) {k:Nat} (h:k < P.length) : (P.take (k+1)).map f=(P.take k).map f++[f P[k]]:=by
 rw [List.take_succ_eq_append_getElem h,List.map_append];rfl
theorem subs_small (L:List Int) {i:Nat} (h:L.length≤12) : (subsR (L.take i)).length≤4096:=by
 rw [subsR_len,List.length_take]
 exact Nat.le_trans (Nat.pow_le_pow_right (by decide) (show min i L.length≤12 by omega)) (by decide)
theorem subs_mem_len {L:List Int} {i:Nat} {K:List Int} (hL:L.length≤12) (h:K∈subsR (L.take i)) : K.length≤12:=by
 have:=((mem_subsR _).1 h).length_le
 rw [List.length_take] at this
 omega
theorem subsQ_any (A:Option Addr) (L:List Int) (n cL:Nat) (w:World) (hL:SlAt encI 1 w A L) (hn:n=L.length) (hl:n≤12) :
  Calls Tryz.prog 59 #[.slice A n cL] w (SsPost w (subsR L)):=by
 have hL':=hide hL
 have hn':=hide hn
 have hl':=hide hl
 have hsm:=hide (fun i:Nat=>subs_small L (i:=i) (by omega))
 clear hL hn hl
 have hP:=hide (Sp.new w)
 refine callsIn_wide.1 (callsIn_of_wp_marks (n:=0) Tryz.func59 rfl trivial (wpIn_wide.2 ?_))
 simp only [Tryz.ntmps59,List.size_toArray,List.length_cons,List.length_nil,Nat.reduceAdd,Nat.reduceSub,Array.replicate_succ,Array.replicate_zero,List.push_toArray,List.append_toArray,List.nil_append,List.cons_append]
 try dsimp only
 repeat ((fail_if_success with_reducible refine wp_reg (id:=1) ?_);first|go_values|go_skip|go_step|go_guarded|go_upon|go_in|go_back)
 with_reducible refine wp_reg (id:=1) ?_
 refine (uh hP).allocVO (v:=fun b=>.slice (some ⟨b,0,none⟩) 0 0) 3 #[] rfl (run_build0 rfl) ?_
 intro be y1 hQ
 replace hP:=hide hQ
 clear hQ
 go_frame
 refine (uh hP).allocVO (v:=fun b=>.slice (some ⟨b,0,none⟩) 1 1) 43 #[.slice (some ⟨be,0,none⟩) 0 0] rfl (run_buildSl rfl rfl) ?_
 intro bo y2 hQ
 replace hP:=hide hQ
 clear hQ
 go_frame
 refine wpO_want rfl ?_
 go_simp
 refine wpO_done ?_
 try go_frame
 replace hP:Hid (Sp w [] w [] [(be,3,#[])] [(43,1,.slice (some ⟨bo,0,none⟩) 1 1,1,[.slice (some ⟨be,0,none⟩) 0 0])] y2):=hide (Sp.toRow (L:=[(be,3,#[])]) (b:=bo) (t:=43) (n:=1) (cs:=#[.slice (some ⟨be,0,none⟩) 0 0]) (uh hP) rfl (by decide))
 replace hP:Hid (Sp w [] w [] [] [(43,1,.slice (some ⟨bo,0,none⟩) 1 1,1,[.slice (some ⟨be,0,none⟩) 0 0]),(3,1,.slice (some ⟨be,0,none⟩) 0 0,0,[])] y2):=hide (Sp.toRow (L:=[]) (b:=be) (t:=3) (n:=0) (cs:=#[]) (uh hP) rfl (by decide))
 have hPJ:=hide (show Sp w [] w [] [] ((43,1,.slice (some ⟨bo,0,none⟩) 1 1,1,(([((some ⟨be,0,none⟩,0,0),[])] : List (Sl×List Int)).map (·.1)).flatMap encSl)::(([((some ⟨be,0,none⟩,0,0),[])] : List (Sl×List Int)).map rowJ)) y2 from uh hP)
 replace hP:=hPJ
 clear hPJ
 try dsimp only
 repeat ((fail_if_success with_reducible refine wp_reg (id:=2) ?_);first|go_values|go_skip|go_step|go_guarded|go_upon|go_in|go_back)
 with_reducible refine wp_reg (id:=2) ?_
 refine wpO_want rfl ?_
 go_simp
 refine wpO_done ?_
 try go_frame
 go_wp2_with fail
 obtain ⟨I2_2,hI2_20⟩ : ∃ I:Nat→Act→World→Prop,I=fun fi a' wr=>∃ (i:Nat), ∃ (A3:Option Addr), ∃ (q:Nat), ∃ (c3:Nat), ∃ (J:List (Sl×List Int)),a'.tmps.size=40∧a'.tmps.getD 0 undef=.slice A n cL∧a'.tmps.getD 3 undef=.slice A3 q c3∧a'.tmps.getD 4 undef=.int .i64 (i:Nat)∧a'.defers=[]∧i≤n∧q=J.length∧J.map (·.2)=subsR (L.take i)∧(∀ p∈J,p.1.2.1=p.2.length)∧Sp w [] w [] [] ((43,1,.slice A3 q c3,q,(J.map (·.1)).flatMap encSl)::(J.map rowJ)) wr∧fi=n-i:=⟨_,rfl⟩
 have hI2_2:=hide hI2_20
 clear hI2_20
 refine wp_loop_ix I2_2 (n-0) ?_ ?_
 ·rw [uh hI2_2];exact ⟨0,some ⟨bo,0,none⟩,1,1,[((some ⟨be,0,none⟩,0,0),[])],rfl,rfl,rfl,rfl,rfl,Nat.zero_le _,rfl,rfl,(fun p hp=>by rw [List.mem_singleton] at hp;subst hp;rfl),uh hP,rfl⟩
 ·rintro fi ⟨tm,dfs⟩ wr hrel
  rw [uh hI2_2] at hrel
  obtain ⟨i,A3,q,c3,J,hsz,e0,e3,e4,hdf,hi,hq,hJ,hJl,hPr,hfm⟩:=hrel
  obtain ⟨us,rfl⟩ : ∃ us:Nat→Value,tm=#[us 0,us 1,us 2,us 3,us 4,us 5,us 6,us 7,us 8,us 9,us 10,us 11,us 12,us 13,us 14,us 15,us 16,us 17,us 18,us 19,us 20,us 21,us 22,us 23,us 24,us 25,us 26,us 27,us 28,us 29,us 30,us 31,us 32,us 33,us 34,us 35,us 36,us 37,us 38,us 39]:=⟨fun i=>tm.getD i undef,arr_fn hsz⟩
  have h0:us 0=.slice A n cL:=e0
  have h3:us 3=.slice A3 q c3:=e3
  have h4:us 4=.int .i64 (i:Nat):=e4
  have hdf2:dfs=[]:=hdf
  subst hdf2
  clear hdf hsz e0 e3 e4
  simp only [h0,h3,h4]
  clear h0 h3 h4
  clear hP
  have hP:=hide hPr
  have hq':=hide hq
  have hJ':=hide hJ
  have hJl':=hide hJl
  have hfm':=hide hfm
  have hqb:=hide (show q≤4096 by have h:=uh hsm i;rw [← hJ,List.length_map] at h;omega)
  clear hPr hq hJ hJl hfm
  by_cases hlt:i < n
  ·have hil:(i:Int) < (n:Int):=by omega
   have hi2:=hide hlt
   have hiL:i < L.length:=by have:=uh hn';omega
   have hib:(i:Int)≤12:=by have:=uh hl';omega
   have hnx:=subs_next L hiL
   obtain ⟨b0,o0,rfl,hcz⟩:=cellI (uh hL') hiL
   clear hcz
   obtain ⟨y,hy⟩ : ∃ y,y=L[i]:=⟨_,rfl⟩
   rw [← hy] at hnx
   have hy':=hide hy
   obtain ⟨PP,hPP⟩ : ∃ P,P=subsR (L.take i):=⟨_,rfl⟩
   have hPl:=hide (show ∀ K∈PP,K.length≤12 from fun K hK=>subs_mem_len (L:=L) (i:=i) (by have:=uh hl';have:=uh hn';omega) (by rw [← hPP];exact hK))
   rw [← hPP] at hnx hJ'
   have hnx':=hide hnx
   have hqP:=hide (show q=PP.length by rw [uh hq', ← uh hJ',List.length_map])
   clear hy hPP hnx hlt hi
   try dsimp only
   repeat ((fail_if_success with_reducible refine wp_reg (id:=3) ?_);first|go_values|go_skip|go_step|go_guarded|go_upon|go_in|go_back)
   with_reducible refine wp_reg (id:=3) ?_
   iterate 4
    refine wpO_want rfl ?_
    go_simp
   refine wpO_done ?_
   try go_frame
   try dsimp only
   repeat ((fail_if_success with_reducible refine wp_reg (id:=5) ?_);first|go_values|go_skip|go_step|go_guarded|go_upon|go_in|go_back)
   with_reducible refine wp_reg (id:=5) ?_
   iterate 3
    refine wpO_want rfl ?_
    go_simp
   refine wpO_done ?_
   try go_frame
   try dsimp only
   repeat ((fail_if_success with_reducible refine wp_reg (id:=6) ?_);first|go_values|go_skip|go_step|go_guarded|go_upon|go_in|go_back)
   with_reducible refine wp_reg (id:=6) ?_
   refine wpO_want rfl ?_
   go_simp
   refine wpO_done ?_
   try go_frame
   go_wp2_with fail
   obtain ⟨q0,hq0⟩ : ∃ q0,q0=q:=⟨_,rfl⟩
   have hJ0:=hide (show J.map (·.2)=PP++(PP.take 0).map fun K=>K++[y] by rw [uh hJ'];simp)
   have hqq:=hide (show q=q0+0 by omega)
   have hqP0:=hide (show q0=PP.length by rw [hq0];exact uh hqP)
   have hq0b:=hide (show q0≤4096 by rw [hq0];exact uh hqb)
   have e5:(Value.int .i64 (q:Int))=.int .i64 (q0:Int):=by rw [hq0]
   try rw [e5]
   clear e5 hq0 hqP hq' hJ' hqb
   obtain ⟨I2_6,hI2_60⟩ : ∃ I:Nat→Act→World→Prop,I=fun fk a' wr=>∃ (k:Nat), ∃ (A3:Option Addr), ∃ (q:Nat), ∃ (c3:Nat), ∃ (J:List (Sl×List Int)),a'.tmps.size=40∧a'.tmps.getD 0 undef=.slice (some ⟨b0,o0,none⟩) n cL∧a'.tmps.getD 3 undef=.slice A3 q c3∧a'.tmps.getD 4 undef=.int .i64 (i:Nat)∧a'.tmps.getD 5 undef=.int .i64 (q0:Nat)∧a'.tmps.getD 6 undef=.int .i64 (k:Nat)∧a'.defers=[]∧k≤q0∧q=q0+k∧(J.map (·.2)=PP++(PP.take k).map fun K=>K++[y])∧(∀ p∈J,p.1.2.1=p.2.length)∧Sp w [] w [] [] ((43,1,.slice A3 q c3,q,(J.map (·.1)).flatMap encSl)::(J.map rowJ)) wr∧fk=q0-k:=⟨_,rfl⟩
   have hI2_6:=hide hI2_60
   clear hI2_60
   refine wp_loop_ix I2_6 (q0-0) ?_ ?_
   ·rw [uh hI2_6];exact ⟨0,A3,q,c3,J,rfl,rfl,rfl,rfl,rfl,rfl,rfl,Nat.zero_le _,uh hqq,uh hJ0,uh hJl',uh hP,rfl⟩
   ·rintro fk ⟨tm,dfs⟩ wr hrel
    rw [uh hI2_6] at hrel
    obtain ⟨k,A3,q,c3,J,hsz,e0,e3,e4,e5,e6,hdf,hk,hq,hJ,hJl,hPr,hfk⟩:=hrel
    obtain ⟨us,rfl⟩ : ∃ us:Nat→Value,tm=#[us 0,us 1,us 2,us 3,us 4,us 5,us 6,us 7,us 8,us 9,us 10,us 11,us 12,us 13,us 14,us 15,us 16,us 17,us 18,us 19,us 20,us 21,us 22,us 23,us 24,us 25,us 26,us 27,us 28,us 29,us 30,us 31,us 32,us 33,us 34,us 35,us 36,us 37,us 38,us 39]:=⟨fun i=>tm.getD i undef,arr_fn hsz⟩
    have h0:us 0=.slice (some ⟨b0,o0,none⟩) n cL:=e0
    have h3:us 3=.slice A3 q c3:=e3
    have h4:us 4=.int .i64 (i:Nat):=e4
    have h5:us 5=.int .i64 (q0:Nat):=e5
    have h6:us 6=.int .i64 (k:Nat):=e6
    have hdf2:dfs=[]:=hdf
    subst hdf2
    clear hdf hsz e0 e3 e4 e5 e6
    simp only [h0,h3,h4,h5,h6]
    clear h0 h3 h4 h5 h6
    clear hP hqq hJ0 hJl'
    have hP:=hide hPr
    have hq':=hide hq
    have hJ':=hide hJ
    have hJl':=hide hJl
    have hfk':=hide hfk
    clear hPr hq hJ hJl hfk
    by_cases hlt:k < q0
    ·have hil2:(k:Int) < (q0:Int):=by omega
     have hk2:=hide hlt
     have hkP:k < PP.length:=by have:=uh hqP0;omega
     have hJlen:=hide (show J.length=q by have h:=congrArg List.length (uh hJ');rw [List.length_map,List.length_append,List.length_map,List.length_take] at h;have:=uh hqP0;have:=uh hq';omega)
     have hkJ:k < J.length:=by have:=uh hJlen;have:=uh hq';omega
     have hkb:(k:Int)≤4096:=by have:=uh hq0b;omega
     have hkq:(k:Int) < (q:Int):=by have:=uh hq';omega
     have hqb:q≤8192:=by have:=uh hq';have:=uh hq0b;omega
     have hJk2:J[k].2=PP[k]:=by
      have h:=congrArg (fun l:List (List Int)=>l[k]?) (uh hJ')
      change (J.map (·.2))[k]? = (PP++(PP.take k).map fun K=>K++[y])[k]? at h
      rw [List.getElem?_map,List.getElem?_eq_getElem hkJ,List.getElem?_append_left hkP,List.getElem?_eq_getElem hkP] at h
      exact Option.some.inj h
     have hmn:=map_next (fun K=>K++[y]) PP hkP
     have hlK:=uh hJl' J[k] (List.getElem_mem hkJ)
     clear hk hlt
     try dsimp only
     repeat ((fail_if_success with_reducible refine wp_reg (id:=7) ?_);first|go_values|go_skip|go_step|go_guarded|go_upon|go_in|go_back)
     with_reducible refine wp_reg (id:=7) ?_
     iterate 3
      refine wpO_want rfl ?_
      go_simp
     refine wpO_done ?_
     try go_frame
     try dsimp only
     repeat ((fail_if_success with_reducible refine wp_reg (id:=9) ?_);first|go_values|go_skip|go_step|go_guarded|go_upon|go_in|go_back)
     with_reducible refine wp_reg (id:=9) ?_
     refine (uh hP).allocVO (v:=fun b=>.slice (some ⟨b,0,none⟩) 0 0) 3 #[] rfl (run_build0 rfl) ?_
     intro be2 y3 hQ
     replace hP:=hide hQ
     clear hQ
     go_frame
     replace hP:Hid (Sp w [] w [] [] ((43,1,.slice A3 q c3,q,(J.map (·.1)).flatMap encSl)::(J.map rowJ++[(3,1,.slice (some ⟨be2,0,none⟩) 0 0,0,[])])) y3):=hide (Sp.toRow (L:=[]) (b:=be2) (t:=3) (n:=0) (cs:=#[]) (uh hP) rfl (by decide))
     have hsl:=hide (show SlAt encSl 1 y3 A3 (J.map (·.1)) from own_at (enc:=encSl) (by have h:=(uh hP).row 0 rfl;rw [show q=(J.map (·.1)).length by rw [List.length_map];exact (uh hJlen).symm] at h;exact h) (fun _=>rfl))
     obtain ⟨b3,o3,rfl,hb3,hcell⟩:=atSl (uh hsl) (i:=k) (by rw [List.length_map];exact hkJ)
     simp only [List.getElem_map] at hcell
     have hKs:=hide (Sp.atJ (uh hP) hkJ hlK)
     obtain ⟨⟨⟨ak,nk,ck⟩,Kk⟩,hpk⟩ : ∃ p,p=J[k]:=⟨_,rfl⟩
     rw [← hpk] at hcell hKs hJk2 hlK
     dsimp only at hcell hKs hJk2 hlK
     rw [← hJk2] at hmn
     have hmn':=hide hmn
     have hnk:=hide hlK
     have hnkb:nk≤12:=by rw [hlK,hJk2];exact uh hPl _ (List.getElem_mem hkP)
     have c1:=hcell [] _ (Keep.refl _ _) (by simp)
     clear hpk hJk2 hmn hlK hsl hcell hb3 hkP hkJ
     iterate 4
      refine wpO_want rfl ?_
      go_simp
     clear c1
     refine (uh hP).apAO (enc:=encI) (T:=3) (ST:=43) ((J.map rowJ).length+1) (v:=.slice (some ⟨be2,0,none⟩) 0 0) (m:=0) (xs:=([] : List Int)) (get_tail _ _ _) rfl infoI Tryz.underlying43 one_encI (fun _=>rfl) (by decide) (by decide) rfl Kk rfl rfl (uh hnk).symm (uh hKs) (by omega) ?_
     intro A7 cA7 y4 hQ
     rw [set_tail] at hQ
     obtain ⟨n7,hnv⟩ : ∃ n,n=0+nk:=⟨_,rfl⟩
     rw [← hnv] at hQ ⊢
     have hn7:=hide hnv
     clear hnv
     replace hP:=hide hQ
     clear hQ
     go_frame
     refine wpO_want rfl ?_
     go_simp
     refine wpO_done ?_
     try go_frame
     clear hKs
     have c0:=slE ((uh hL').ext (uh hP).extf) hiL
     rw [← uh hy'] at c0
     have hself:=Ext.refl y4
     try dsimp only
     repeat ((fail_if_success with_reducible refine wp_reg (id:=10) ?_);first|go_values|go_skip|go_step|go_guarded|go_upon|go_in|go_back)
     with_reducible refine wp_reg (id:=10) ?_
     iterate 6
      refine wpO_want rfl ?_
      go_simp
     clear c0 hself
     refine (uh hP).build1O 3 #[.int .i64 y] rfl (run_buildR rfl rfl) ?_
     intro bt y5 hQ
     replace hP:=hide hQ
     clear hQ
     go_frame
     refine (uh hP).ap1O (enc:=encI) (T:=3) (ST:=43) ((J.map rowJ).length+1) (v:=.slice A7 n7 cA7) (m:=n7) (xs:=[]++Kk) (get_tail _ _ _) rfl infoI Tryz.underlying43 one_encI (fun _=>rfl) (by decide) (by decide) rfl y rfl rfl ((uh hP).get 0 rfl) (by have:=uh hn7;omega) ?_
     intro A8 cA8 y6 hQ
     rw [set_tail] at hQ
     obtain ⟨n8,hnv⟩ : ∃ n,n=n7+1:=⟨_,rfl⟩
     rw [← hnv] at hQ ⊢
     have hn8:=hide hnv
     clear hnv
     replace hP:=hide hQ
     clear hQ
     go_frame
     replace hP:Hid (Sp w [] w [] [] ((43,1,.slice (some ⟨b3,o3,none⟩) q c3,q,(J.map (·.1)).flatMap encSl)::(J.map rowJ++[(3,1,.slice A8 n8 cA8,n8,(([]++Kk)++[y]).flatMap encI)])) y6):=hide ((uh hP).sub (List.sublist_append_left _ ([(bt,3,#[.int .i64 y])] : List Cl)) (List.Sublist.refl _))
     refine (uh hP).build1O 43 #[.slice A8 n8 cA8] rfl (run_buildSl rfl rfl) ?_
     intro bs y7 hQ
     replace hP:=hide hQ
     clear hQ
     go_frame
     refine (uh hP).ap1O (enc:=encSl) (T:=43) (ST:=38) 0 (v:=.slice (some ⟨b3,o3,none⟩) q c3) (m:=q) (xs:=J.map (·.1)) rfl rfl infoR Tryz.underlying38 one_encSl (fun _=>rfl) (by decide) (by decide) rfl (A8,n8,cA8) rfl rfl ((uh hP).get 0 rfl) (by omega) ?_
     intro A9 cA9 y8 hQ
     replace hP:=hide hQ
     clear hQ
     go_frame
     replace hP:Hid (Sp w [] w [] [] ((43,1,.slice A9 (q+1) cA9,q+1,((J.map fun p:Sl×List Int=>p.1)++[((A8,n8,cA8) : Sl)]).flatMap encSl)::(J.map rowJ++[(3,1,.slice A8 n8 cA8,n8,(([]++Kk)++[y]).flatMap encI)])) y8):=hide ((uh hP).sub (List.sublist_append_left _ ([(bs,43,#[.slice A8 n8 cA8])] : List Cl)) (List.Sublist.refl _))
     replace hP:Hid (Sp w [] w [] [] ((43,1,.slice A9 (q+1) cA9,q+1,((J++[(((A8,n8,cA8),([]++Kk)++[y]) : Sl×List Int)]).map (·.1)).flatMap encSl)::((J++[(((A8,n8,cA8),([]++Kk)++[y]) : Sl×List Int)]).map rowJ)) y8):=hide ((uh hP).joinJ (p:=((A8,n8,cA8),([]++Kk)++[y])))
     refine wpO_want rfl ?_
     go_simp
     refine wpO_done ?_
     try go_frame
     go_wp2_with fail
     have h1:=uh hk2
     have h2:=uh hq'
     refine ⟨q0-(k+1),?_,by have:=uh hfk';omega⟩
     rw [uh hI2_6]
     exact ⟨k+1,A9,q+1,cA9,J++[((A8,n8,cA8),([]++Kk)++[y])],(by first | rfl | trivial),(by first | rfl | trivial),(by first | rfl | trivial),(by first | rfl | trivial),(by first | rfl | trivial),(by first | rfl | (show _=Value.int _ _;go_num) | go_num),(by first | rfl | trivial),by omega,by omega,(by rw [List.map_append,uh hJ',uh hmn',List.append_assoc];rfl),(fun p hp=>by rcases List.mem_append.1 hp with hp | hp;exact uh hJl' p hp;rw [List.mem_singleton] at hp;subst hp;show n8=_;rw [uh hn8,uh hn7,uh hnk];simp),uh hP,rfl⟩
    ·have hil2:¬ (k:Int) < (q0:Int):=by omega
     obtain rfl:k=q0:=by omega
     have hJn:=hide (show J.map (·.2)=subsR (L.take (i+1)) by rw [uh hJ',uh hnx',List.take_of_length_le (by rw [uh hqP0];exact Nat.le_refl _)])
     have hqJ:=hide (show q=J.length by have h:=congrArg List.length (uh hJ');rw [List.length_map,List.length_append,List.length_map,List.length_take] at h;have:=uh hqP0;have:=uh hq';omega)
     clear hlt hk
     try dsimp only
     repeat ((fail_if_success with_reducible refine wp_reg (id:=7) ?_);first|go_values|go_skip|go_step|go_guarded|go_upon|go_in|go_back)
     with_reducible refine wp_reg (id:=7) ?_
     iterate 3
      refine wpO_want rfl ?_
      go_simp
     refine wpO_done ?_
     try go_frame
     go_wp2_with fail
     have h1:=uh hi2
     refine ⟨n-(i+1),?_,by have:=uh hfm';omega⟩
     rw [uh hI2_2]
     exact ⟨i+1,A3,q,c3,J,(by first | rfl | trivial),(by first | rfl | trivial),(by first | rfl | trivial),(by first | rfl | (show _=Value.int _ _;go_num) | go_num),(by first | rfl | trivial),by omega,uh hqJ,uh hJn,uh hJl',uh hP,rfl⟩
  ·have hil:¬ (i:Int) < (n:Int):=by omega
   have hJe:=hide (show J.map (·.2)=subsR L by rw [uh hJ',List.take_of_length_le (by have:=uh hn';omega)])
   clear hlt hi hJ'
   try dsimp only
   repeat ((fail_if_success with_reducible refine wp_reg (id:=3) ?_);first|go_values|go_skip|go_step|go_guarded|go_upon|go_in|go_back)
   with_reducible refine wp_reg (id:=3) ?_
   iterate 4
    refine wpO_want rfl ?_
    go_simp
   refine wpO_done ?_
   try go_frame
   go_wp2_with fail
   refine Sp.leaves0 ?_
   rw [← uh hJe]
   exact ⟨_,results_tmp (t:=2) rfl _ _ _,SsPost.mk (by rw [List.length_map];exact uh hq') (Sp.ss (tl:=[]) (by rw [List.append_nil];exact uh hP) (uh hJl') rfl (uh hq')) (uh hP).extf⟩
theorem cmpQ_any (A B:Option Addr) (L M:List Int) (n m cL cM:Nat) (w:World) (hL:SlAt encI 1 w A L) (hM:SlAt encI 1 w B M) (hn:n=L.length) (hm:m=M.length) (hl:n≤100000) (hl2:m≤100000) :
  Calls Tryz.prog 114 #[.slice A n cL,.slice B m cM] w fun e w'=>e=.returned (.int .i64 (cmpQ L M))∧Ext w w':=by
 have hL':=hide hL
 have hM':=hide hM
 have hn':=hide hn
 have hm':=hide hm
 have hl':=hide hl
 have hl2':=hide hl2
 clear hL hM hn hm hl hl2
 obtain ⟨R,hR0⟩ : ∃ R,R=cmpQ L M:=⟨_,rfl⟩
 rw [← hR0]
 have hR:=hide hR0
 clear hR0
 have hwn:IntKind.i64.wrap ((n:Int)-1)=(n:Int)-1:=by have:=uh hl';rw [IntWalk.i64_in _ (by omega)]
 have hwm:IntKind.i64.wrap ((m:Int)-1)=(m:Int)-1:=by have:=uh hl2';rw [IntWalk.i64_in _ (by omega)]
 have hP:=hide (Sp.new w)
 refine callsIn_wide.1 (callsIn_of_wp_marks (n:=0) Tryz.func114 rfl trivial (wpIn_wide.2 ?_))
 simp only [Tryz.ntmps114,List.size_toArray,List.length_cons,List.length_nil,Nat.reduceAdd,Nat.reduceSub,Array.replicate_succ,Array.replicate_zero,List.push_toArray,List.append_toArray,List.nil_append,List.cons_append]
 try dsimp only
 repeat ((fail_if_success with_reducible refine wp_reg (id:=1) ?_);first|go_values|go_skip|go_step|go_guarded|go_upon|go_in|go_back)
 with_reducible refine wp_reg (id:=1) ?_
 iterate 8
  refine wpO_want rfl ?_
  go_simp
 refine wpO_done ?_
 try go_frame
 clear hwn hwm
 go_wp2_with fail
 obtain ⟨I0_2,hI0_20⟩ : ∃ I:Nat→Act→World→Prop,I=fun fi a' wr=>∃ (p:Nat), ∃ (q:Nat), ∃ (a:Int), ∃ (b:Int),a'.tmps.size=45∧a'.tmps.getD 0 undef=.slice A n cL∧a'.tmps.getD 1 undef=.slice B m cM∧a'.tmps.getD 5 undef=.int .i64 a∧a'.tmps.getD 6 undef=.int .i64 b∧a'.defers=[]∧p≤n∧q≤m∧a=(p:Int)-1∧b=(q:Int)-1∧cmpR (L.take p).reverse (M.take q).reverse=R∧Sp w [] w [] [] [] wr∧fi=p:=⟨_,rfl⟩
 have hI0_2:=hide hI0_20
 clear hI0_20
 refine wp_loop_ix I0_2 (n) ?_ ?_
 ·rw [uh hI0_2];exact ⟨n,m,(n:Int)-1,(m:Int)-1,rfl,rfl,rfl,rfl,rfl,rfl,Nat.le_refl _,Nat.le_refl _,rfl,rfl,(by rw [List.take_of_length_le (by rw [uh hn'];exact Nat.le_refl _),List.take_of_length_le (by rw [uh hm'];exact Nat.le_refl _)];exact (uh hR).symm),uh hP,rfl⟩
 ·rintro fi ⟨tm,dfs⟩ wr hrel
  rw [uh hI0_2] at hrel
  obtain ⟨p,q,a,b,hsz,e0,e1,e5,e6,hdf,hp,hq,ha,hb,hc,hPr,hfm⟩:=hrel
  obtain ⟨us,rfl⟩ : ∃ us:Nat→Value,tm=#[us 0,us 1,us 2,us 3,us 4,us 5,us 6,us 7,us 8,us 9,us 10,us 11,us 12,us 13,us 14,us 15,us 16,us 17,us 18,us 19,us 20,us 21,us 22,us 23,us 24,us 25,us 26,us 27,us 28,us 29,us 30,us 31,us 32,us 33,us 34,us 35,us 36,us 37,us 38,us 39,us 40,us 41,us 42,us 43,us 44]:=⟨fun i=>tm.getD i undef,arr_fn hsz⟩
  have h0:us 0=.slice A n cL:=e0
  have h1:us 1=.slice B m cM:=e1
  have h5:us 5=.int .i64 a:=e5
  have h6:us 6=.int .i64 b:=e6
  have hdf2:dfs=[]:=hdf
  subst hdf2
  clear hdf hsz e0 e1 e5 e6
  simp only [h0,h1,h5,h6]
  clear h0 h1 h5 h6
  clear hP
  have hP:=hide hPr
  have hfm':=hide hfm
  have hc':=hide hc
  have ha':=hide ha
  have hb':=hide hb
  have hp':=hide hp
  have hq':=hide hq
  clear hPr hfm hc
  by_cases hpp:0 < p
  ·skip
   have hag:a ≥ 0:=by omega
   by_cases hqq:0 < q
   ·skip
    have hbg:b ≥ 0:=by omega
    have hpq:=hide (And.intro hpp hqq)
    clear ha hb hp hq hpp hqq
    try dsimp only
    repeat ((fail_if_success with_reducible refine wp_reg (id:=2) ?_);first|go_values|go_skip|go_step|go_guarded|go_upon|go_in|go_back)
    with_reducible refine wp_reg (id:=2) ?_
    iterate 6
     refine wpO_want rfl ?_
     go_simp
    refine wpO_done ?_
    try go_frame
    clear hag hbg
    go_wp2_with fail
    obtain ⟨p',hp9⟩ : ∃ p',p=p'+1:=⟨p-1,by have:=(uh hpq).1;omega⟩
    obtain ⟨q',hq9⟩ : ∃ q',q=q'+1:=⟨q-1,by have:=(uh hpq).2;omega⟩
    have ha9:a=(p':Int):=by have:=uh ha';omega
    have hb9:b=(q':Int):=by have:=uh hb';omega
    subst ha9 hb9 hp9 hq9
    have hpL:p' < L.length:=by have:=uh hp';have:=uh hn';omega
    have hqL:q' < M.length:=by have:=uh hq';have:=uh hm';omega
    have hpb:(p':Int)≤100000:=by have:=uh hp';have:=uh hl';omega
    have hqb:(q':Int)≤100000:=by have:=uh hq';have:=uh hl2';omega
    have hpn:(p':Int) < (n:Int):=by have:=uh hp';omega
    have hqn:(q':Int) < (m:Int):=by have:=uh hq';omega
    have hst:=uh hc'
    rw [rev_take hpL,rev_take hqL] at hst
    unfold cmpR at hst
    obtain ⟨b0,o0,rfl,hcz⟩:=cellI (uh hL') hpL
    clear hcz
    obtain ⟨b1,o1,rfl,hcz⟩:=cellI (uh hM') hqL
    clear hcz
    obtain ⟨y,hy⟩ : ∃ y,y=L[p']:=⟨_,rfl⟩
    obtain ⟨z,hz⟩ : ∃ z,z=M[q']:=⟨_,rfl⟩
    have c0:=slK ((uh hL').ext (uh hP).extf) (S:=[]) (by simp) hpL
    have c1:=slK ((uh hM').ext (uh hP).extf) (S:=[]) (by simp) hqL
    rw [← hy] at c0 hst
    rw [← hz] at c1 hst
    have hst':=hide hst
    have hk:=hide (And.intro (show SlAt encI 1 wr _ L from (uh hL').ext (uh hP).extf) (show SlAt encI 1 wr _ M from (uh hM').ext (uh hP).extf))
    have hself:=Keep.refl [] wr
    have hyz:=hide (And.intro hy hz)
    clear hst hy hz
    refine wp_regionK (P:=Tryz.prog) [] [0,1,2,3,4,5,6,7,8] [] 0 #[true,true,true,true,true,true,true,true,true] (by kernel_rfl) (by kernel_rfl) rfl (by rfl) ?_
    iterate 9
     refine ql_want (v:=?_) rfl (by rfl) (fun W hW=>?_) ?_
     rotate_left
     ·go_simp
      first | done | rfl
     go_frame
    refine wpQL_nil (fun y1 hxq=>?_)
    replace hP:=hide ((uh hP).ext hxq)
    clear hxq
    refine wpX_done (by kernel_rfl) ?_
    try go_frame
    clear c0 c1 hself
    by_cases h1:z < y
    ·skip
     have h1':y > z:=h1
     have hre:=hide (show R=1 by have h:=uh hst';rw [if_pos h1] at h;exact h.symm)
     clear h1
     go_wp2_with fail
     refine Sp.leaves0 ?_
     exact ⟨_,results_tmp (t:=4) rfl _ _ _,by rw [uh hre];rfl,(uh hP).extf⟩
    ·skip
     have h1':¬ y > z:=h1
     replace h1:=hide h1
     go_wp2_with fail
     have c0:=slK ((uh hL').ext (uh hP).extf) (S:=[]) (by simp) hpL
     have c1:=slK ((uh hM').ext (uh hP).extf) (S:=[]) (by simp) hqL
     rw [← (uh hyz).1] at c0
     rw [← (uh hyz).2] at c1
     have hself:=Keep.refl [] y1
     clear h1'
     refine wp_regionK (P:=Tryz.prog) [] [0,1,2,3,4,5,6,7,8] [] 0 #[true,true,true,true,true,true,true,true,true] (by kernel_rfl) (by kernel_rfl) rfl (by rfl) ?_
     iterate 9
      refine ql_want (v:=?_) rfl (by rfl) (fun W hW=>?_) ?_
      rotate_left
      ·go_simp
       first | done | rfl
      go_frame
     refine wpQL_nil (fun y2 hxq=>?_)
     replace hP:=hide ((uh hP).ext hxq)
     clear hxq
     refine wpX_done (by kernel_rfl) ?_
     try go_frame
     clear c0 c1 hself
     by_cases h2:y < z
     ·skip
      have hre:=hide (show R = -1 by have h:=uh hst';rw [if_neg (by have:=uh h1;omega),if_pos h2] at h;exact h.symm)
      go_wp2_with fail
      refine Sp.leaves0 ?_
      exact ⟨_,results_tmp (t:=4) rfl _ _ _,by rw [uh hre];rfl,(uh hP).extf⟩
     ·skip
      have hnx:=hide (show cmpR (L.take p').reverse (M.take q').reverse=R by have h:=uh hst';rw [if_neg (by have:=uh h1;omega),if_neg h2] at h;exact h)
      have hwp:IntKind.i64.wrap ((p':Int)-1)=(p':Int)-1:=by rw [IntWalk.i64_in _ (by omega)]
      have hwq:IntKind.i64.wrap ((q':Int)-1)=(q':Int)-1:=by rw [IntWalk.i64_in _ (by omega)]
      clear hpn hqn hpb hqb
      go_wp2_with fail
      refine ⟨p',?_,by have:=uh hfm';omega⟩
      rw [uh hI0_2]
      exact ⟨p',q',(p':Int)-1,(q':Int)-1,(by first | rfl | trivial),(by first | rfl | trivial),(by first | rfl | trivial),(by first | rfl | trivial),(by first | rfl | trivial),(by first | rfl | trivial),by have:=uh hp';omega,by have:=uh hq';omega,rfl,rfl,uh hnx,uh hP,rfl⟩
   ·skip
    have hbg:¬ b ≥ 0:=by omega
    have hre:=hide (show R=1 by
     have h:=uh hc'
     obtain ⟨p',rfl⟩ : ∃ p',p=p'+1:=⟨p-1,by omega⟩
     obtain rfl:q=0:=by omega
     rw [rev_take (by have:=uh hn';omega),List.take_zero,List.reverse_nil] at h
     exact h.symm)
    clear ha hb hp hq hpp hqq
    try dsimp only
    repeat ((fail_if_success with_reducible refine wp_reg (id:=2) ?_);first|go_values|go_skip|go_step|go_guarded|go_upon|go_in|go_back)
    with_reducible refine wp_reg (id:=2) ?_
    iterate 6
     refine wpO_want rfl ?_
     go_simp
    refine wpO_done ?_
    try go_frame
    go_wp2_with fail
    refine Sp.leaves0 ?_
    exact ⟨_,results_tmp (t:=4) rfl _ _ _,by rw [uh hre];rfl,(uh hP).extf⟩
  ·skip
   have hag:¬ a ≥ 0:=by omega
   by_cases hqq:0 < q
   ·skip
    have hbg:b ≥ 0:=by omega
    have hre:=hide (show R = -1 by
     have h:=uh hc'
     obtain ⟨q',rfl⟩ : ∃ q',q=q'+1:=⟨q-1,by omega⟩
     obtain rfl:p=0:=by omega
     rw [rev_take (L:=M) (by have:=uh hm';omega),List.take_zero,List.reverse_nil] at h
     exact h.symm)
    clear ha hb hp hq hpp hqq
    try dsimp only
    repeat ((fail_if_success with_reducible refine wp_reg (id:=2) ?_);first|go_values|go_skip|go_step|go_guarded|go_upon|go_in|go_back)
    with_reducible refine wp_reg (id:=2) ?_
    iterate 3
     refine wpO_want rfl ?_
     go_simp
    refine wpO_out (by rfl) ?_
    go_frame
    refine wpO_out (by rfl) ?_
    go_frame
    refine wpO_want rfl ?_
    go_simp
    refine wpO_done ?_
    try go_frame
    go_wp2_with fail
    refine Sp.leaves0 ?_
    exact ⟨_,results_tmp (t:=4) rfl _ _ _,by rw [uh hre];rfl,(uh hP).extf⟩
   ·skip
    have hbg:¬ b ≥ 0:=by omega
    have hre:=hide (show R=0 by
     have h:=uh hc'
     obtain rfl:q=0:=by omega
     obtain rfl:p=0:=by omega
     rw [List.take_zero,List.take_zero,List.reverse_nil] at h
     exact h.symm)
    clear ha hb hp hq hpp hqq
    try dsimp only
    repeat ((fail_if_success with_reducible refine wp_reg (id:=2) ?_);first|go_values|go_skip|go_step|go_guarded|go_upon|go_in|go_back)
    with_reducible refine wp_reg (id:=2) ?_
    iterate 3
     refine wpO_want rfl ?_
     go_simp
    refine wpO_out (by rfl) ?_
    go_frame
    refine wpO_out (by rfl) ?_
    go_frame
    refine wpO_want rfl ?_
    go_simp
    refine wpO_done ?_
    try go_frame
    go_wp2_with fail
    refine Sp.leaves0 ?_
    exact ⟨_,results_tmp (t:=4) rfl _ _ _,by rw [uh hre];rfl,(uh hP).extf⟩
def SlsOk (W:World) (ps:List Sl) (KK:List (List Int)) : Prop:=ps.length=KK.length ∧ ∀ (i:Nat) (h:i < ps.length) (h2:i < KK.length),ps[i].2.1=KK[i].length∧SlAt encI 1 W ps[i].1 KK[i]
theorem SlsOk.snoc {W:World} {ps:List Sl} {KK:List (List Int)} (h:SlsOk W ps KK) {p:Sl} {K:List Int} (h1:p.2.1=K.length) (h2:SlAt encI 1 W p.1 K) : SlsOk W (ps++[p]) (KK++[K]):=by
 refine ⟨by rw [List.length_append,List.length_append,h.1];rfl,fun i hi hi2=>?_⟩
 by_cases hl:i < ps.length
 ·rw [List.getElem_append_left hl,List.getElem_append_left (by rw [← h.1];exact hl)]
  exact h.2 i hl (by rw [← h.1];exact hl)
 ·rw [List.getElem_append_right (by omega),List.getElem_append_right (by rw [← h.1];omega)]
  simp only [List.getElem_singleton]
  exact ⟨h1,h2⟩
theorem SlsOk.ss {W W':World} {ps:List Sl} {KK:List (List Int)} {A:Option Addr} (h:SlsOk W ps KK) (hx:Ext W W') (hs:SlAt encSl 1 W' A ps) : SSAt W' A KK:=⟨ps,h.1,hs,fun i a b=>⟨(h.2 i a b).1,(h.2 i a b).2.ext hx⟩⟩
theorem filt_next {α:Type} (p:α→Bool) (l:List α) {k:Nat} (h:k < l.length) : (l.take (k+1)).filter p=(l.take k).filter p++(if p l[k]=true then [l[k]] else []):=by
 rw [List.take_succ_eq_append_getElem h,List.filter_append,List.filter_cons,List.filter_nil]
theorem SSAt.at1 {w:World} {A:Option Addr} {KK:List (List Int)} (h:SSAt w A KK) {i:Nat} (hi:i < KK.length) : ∃ b off a c n,A=some ⟨b,off,none⟩∧n=KK[i].length∧(∀ W,Keep [] w W→W.cell? ⟨b,off+i,none⟩=some (.slice a n c))∧SlAt encI 1 w a KK[i]:=by
 obtain ⟨b,off,hA,hc⟩:=h.get (by omega)
 obtain ⟨a,c,h1,h2⟩:=hc i hi
 exact ⟨b,off,a,c,_,hA,rfl,fun W hW=>h1 [] W hW (by simp),h2⟩
theorem cmpLists_same (A B:Option Addr) (KK:List (List Int)) (n cA cB:Nat) (w:World) (hA:SSAt w A KK) (hB:SSAt w B KK) (hn:n=KK.length) (hl:n≤100000) (hk:∀ K∈KK,K.length≤100000) :
  Calls Tryz.prog 64 #[.slice A n cA,.slice B n cB] w fun e w'=>e=.returned (.int .i64 0)∧Ext w w':=by
 have hA':=hide hA
 have hB':=hide hB
 have hn':=hide hn
 have hl':=hide hl
 have hk':=hide hk
 clear hA hB hn hl hk
 have hP:=hide (Sp.new w)
 refine callsIn_wide.1 (callsIn_of_wp_marks (n:=0) Tryz.func64 rfl trivial (wpIn_wide.2 ?_))
 simp only [Tryz.ntmps64,List.size_toArray,List.length_cons,List.length_nil,Nat.reduceAdd,Nat.reduceSub,Array.replicate_succ,Array.replicate_zero,List.push_toArray,List.append_toArray,List.nil_append,List.cons_append]
 try dsimp only
 repeat ((fail_if_success with_reducible refine wp_reg (id:=1) ?_);first|go_values|go_skip|go_step|go_guarded|go_upon|go_in|go_back)
 with_reducible refine wp_reg (id:=1) ?_
 refine wpO_want rfl ?_
 go_simp
 refine wpO_done ?_
 try go_frame
 go_wp2_with fail
 obtain ⟨I0_2,hI0_20⟩ : ∃ I:Nat→Act→World→Prop,I=fun fi a' wr=>∃ (i:Nat),a'.tmps.size=41∧a'.tmps.getD 0 undef=.slice A n cA∧a'.tmps.getD 1 undef=.slice B n cB∧a'.tmps.getD 5 undef=.int .i64 (i:Nat)∧a'.defers=[]∧i≤n∧Sp w [] w [] [] [] wr∧fi=n-i:=⟨_,rfl⟩
 have hI0_2:=hide hI0_20
 clear hI0_20
 refine wp_loop_ix I0_2 (n-0) ?_ ?_
 ·rw [uh hI0_2];exact ⟨0,rfl,rfl,rfl,rfl,rfl,Nat.zero_le _,uh hP,rfl⟩
 ·rintro fi ⟨tm,dfs⟩ wr hrel
  rw [uh hI0_2] at hrel
  obtain ⟨i,hsz,e0,e1,e5,hdf,hin,hPr,hfm⟩:=hrel
  obtain ⟨us,rfl⟩ : ∃ us:Nat→Value,tm=#[us 0,us 1,us 2,us 3,us 4,us 5,us 6,us 7,us 8,us 9,us 10,us 11,us 12,us 13,us 14,us 15,us 16,us 17,us 18,us 19,us 20,us 21,us 22,us 23,us 24,us 25,us 26,us 27,us 28,us 29,us 30,us 31,us 32,us 33,us 34,us 35,us 36,us 37,us 38,us 39,us 40]:=⟨fun i=>tm.getD i undef,arr_fn hsz⟩
  have h0:us 0=.slice A n cA:=e0
  have h1:us 1=.slice B n cB:=e1
  have h5:us 5=.int .i64 (i:Nat):=e5
  have hdf2:dfs=[]:=hdf
  subst hdf2
  clear hdf hsz e0 e1 e5
  simp only [h0,h1,h5]
  clear h0 h1 h5
  clear hP
  have hP:=hide hPr
  have hfm':=hide hfm
  clear hPr hfm
  by_cases hlt:i < n
  ·skip
   have hil:(i:Int) < (n:Int):=by omega
   have hlt':=hide hlt
   have hiK:i < KK.length:=by rw [← uh hn'];exact hlt
   have hib:(i:Int)≤100000:=by have:=uh hl';omega
   clear hlt hin
   try dsimp only
   repeat ((fail_if_success with_reducible refine wp_reg (id:=2) ?_);first|go_values|go_skip|go_step|go_guarded|go_upon|go_in|go_back)
   with_reducible refine wp_reg (id:=2) ?_
   iterate 10
    refine wpO_want rfl ?_
    go_simp
   refine wpO_done ?_
   try go_frame
   go_wp2_with fail
   obtain ⟨b0,o0,a0,k0,m0,rfl,hm0,c0,hs0⟩:=((uh hA').ext (uh hP).extf).at1 hiK
   obtain ⟨b1,o1,a1,k1,m1,rfl,hm1,c1,hs1⟩:=((uh hB').ext (uh hP).extf).at1 hiK
   obtain rfl:m1=m0:=by omega
   have hKb:=uh hk' _ (List.getElem_mem hiK)
   rw [← hm0] at hKb
   generalize KK[i]=K at *
   have hs0':=hide hs0
   have hs1':=hide hs1
   have hm0':=hide hm0
   have hKb':=hide hKb
   have hself:=Keep.refl [] wr
   clear hm0 hm1 hs0 hs1 hKb hiK
   refine wp_regionK (P:=Tryz.prog) [] [0,1,2,3,4,5,6,7,8,9] [] 0 #[true,true,true,true,true,true,true,true,true,true] (by kernel_rfl) (by kernel_rfl) rfl (by rfl) ?_
   iterate 8
    refine ql_want (v:=?_) rfl (by rfl) (fun W hW=>?_) ?_
    rotate_left
    ·go_simp
     first | done | rfl
    go_frame
   refine ql_want (v:=.int .i64 0) rfl (by rfl) (fun W hW=>?_) ?_
   ·go_simp
    refine (cmpQ_any a0 a1 K K m1 m1 k0 k1 W ((uh hs0').ext hW.ext) ((uh hs1').ext hW.ext) (uh hm0') (uh hm0') (uh hKb') (uh hKb')).mono ?_
    rw [cmpQ_zero.2 rfl]
    rintro _ _ ⟨h1,h2⟩
    exact ⟨_,h1,rfl,h2⟩
   go_frame
   iterate 1
    refine ql_want (v:=?_) rfl (by rfl) (fun W hW=>?_) ?_
    rotate_left
    ·go_simp
     first | done | rfl
    go_frame
   refine wpQL_nil (fun y1 hxq=>?_)
   replace hP:=hide ((uh hP).ext hxq)
   clear hxq
   refine wpX_done (by kernel_rfl) ?_
   try go_frame
   clear c0 c1 hself hil
   go_wp2_with fail
   refine ⟨n-(i+1),?_,by have:=uh hfm';have:=uh hlt';omega⟩
   rw [uh hI0_2]
   exact ⟨i+1,(by first | rfl | trivial),(by first | rfl | trivial),(by first | rfl | trivial),(by first | rfl | (show _=Value.int _ _;go_num) | go_num),(by first | rfl | trivial),by have:=uh hlt';omega,uh hP,rfl⟩
  ·skip
   have hil:¬ (i:Int) < (n:Int):=by omega
   have hnn:¬ (n:Int) < (n:Int):=by omega
   clear hlt hin
   try dsimp only
   repeat ((fail_if_success with_reducible refine wp_reg (id:=2) ?_);first|go_values|go_skip|go_step|go_guarded|go_upon|go_in|go_back)
   with_reducible refine wp_reg (id:=2) ?_
   iterate 5
    refine wpO_want rfl ?_
    go_simp
   refine wpO_out (by rfl) ?_
   go_frame
   refine wpO_out (by rfl) ?_
   go_frame
   refine wpO_out (by rfl) ?_
   go_frame
   refine wpO_out (by rfl) ?_
   go_frame
   refine wpO_want rfl ?_
   go_simp
   refine wpO_done ?_
   try go_frame
   clear hil
   go_wp2_with fail
   refine Sp.leaves0 ?_
   exact ⟨_,results_tmp (t:=4) rfl _ _ _,rfl,(uh hP).extf⟩
theorem sames_same (A B:Option Addr) (KK:List (List Int)) (n cA cB:Nat) (w:World) (hA:SSAt w A KK) (hB:SSAt w B KK) (hn:n=KK.length) (hl:n≤100000) (hk:∀ K∈KK,K.length≤100000) :
  Calls Tryz.prog 20 #[.slice A n cA,.slice B n cB] w fun e w'=>e=.returned (.bool true)∧Ext w w':=by
 have hca:=hide (cmpLists_same A B KK n cA cB w hA hB hn hl hk)
 clear hA hB hn hl hk
 have hP:=hide (Sp.new w)
 refine callsIn_wide.1 (callsIn_of_wp_marks (n:=0) Tryz.func20 rfl trivial (wpIn_wide.2 ?_))
 simp only [Tryz.ntmps20,List.size_toArray,List.length_cons,List.length_nil,Nat.reduceAdd,Nat.reduceSub,Array.replicate_succ,Array.replicate_zero,List.push_toArray,List.append_toArray,List.nil_append,List.cons_append]
 try dsimp only
 repeat ((fail_if_success with_reducible refine wp_reg (id:=1) ?_);first|go_values|go_skip|go_step|go_guarded|go_upon|go_in|go_back)
 with_reducible refine wp_reg (id:=1) ?_
 iterate 2
  refine wpO_want rfl ?_
  go_simp
 refine wpO_want rfl ?_
 go_simp
 refine (uh hca).mono ?_
 rintro _ y1 ⟨rfl,hxc⟩
 refine ⟨_,rfl,?_⟩
 replace hP:=hide ((uh hP).ext hxc)
 clear hxc
 iterate 2
  refine wpO_want rfl ?_
  go_simp
 refine wpO_done ?_
 try go_frame
 go_wp2_with fail
 refine Sp.leaves0 ?_
 exact ⟨_,results_tmp (t:=4) rfl _ _ _,rfl,(uh hP).extf⟩
section
variable {wf w W W':World} {T0:List Nat} {ds:List Deferred} {L:List Cl} {v:Value} {n:Nat} {J:List (Sl×List Int)} {Rs:List Rw} {T:TypeId} {r1 r2:Rw}
theorem Sp.joinP {p:Sl×List Int} (h:Sp wf T0 w ds L ((T,1,v,n,(J.map (·.1)++[p.1]).flatMap encSl)::(J.map rowJ++[r1,rowJ p,r2])) W) : Sp wf T0 w ds L ((T,1,v,n,((J++[p]).map (·.1)).flatMap encSl)::((J++[p]).map rowJ++[r2])) W:=by
 rw [List.map_append,List.map_append,List.append_assoc]
 refine h.sub (List.Sublist.refl _) (.cons_cons _ ((List.Sublist.refl _).append ?_))
 exact .cons _ (List.Sublist.refl _)
theorem Sp.orO {C A:Option Addr} {n0 cC c n1:Nat} {L0 xs:List Int} (h:Sp wf T0 w ds L (Rs++[(3,1,.slice C n0 cC,n0,L0.flatMap encI)]) W) (hx:Ext W W') (hn:n0=L0.length) (hn1:n1=xs.length) (ho:A=C∧c=cC∧xs=L0∨W'.ownsRow W.heap.size 3 1 (.slice A n1 c) n1 (xs.flatMap encI)) : Sp wf T0 w ds L (Rs++[(3,1,.slice A n1 c,n1,xs.flatMap encI)]) W':=by
 rcases ho with ⟨rfl,rfl,rfl⟩ | ho
 ·rw [show n1=n0 by omega]
  exact h.ext hx
 ·have h2:=h.addRow hx ho
  rw [List.append_assoc] at h2
  exact h2.sub (List.Sublist.refl _) ((List.Sublist.refl _).append (.cons _ (List.Sublist.refl _)))
end
theorem get_t1 {α:Type} (a x:α) (l tl:List α) : (a::(l++x::tl))[l.length+1]? = some x:=by simp
theorem get_t2 {α:Type} (a x y:α) (l tl:List α) : (a::(l++x::y::tl))[l.length+2]? = some y:=by simp
theorem CoI.len {E:List ((Int×Int)×Thing)} {CS Ks:List Nat} {N:Nat} (h:CoI E CS Ks N) : Ks.length≤CS.length:=by
 obtain ⟨_,l,_,_,h3⟩:=h
 rw [← h3,List.length_append]
 omega
theorem CoI.start (V:List (Int×Thing)) (E:List ((Int×Int)×Thing)) (S:Nat) : CoI E (partS V E S) [] (minusS (vS V) S):=by
 have hl:(toL (minusS (vS V) S)).length < 1100:=by have:=toL_len (minusS (vS V) S);omega
 refine ⟨1100,_,hl,rfl,?_⟩
 unfold partS
 exact List.nil_append _
theorem part_len {V:List (Int×Thing)} {E:List ((Int×Int)×Thing)} (hi:GInv V E) (S:Nat) : (partS V E S).length≤1024:=by
 obtain ⟨CS,hCS⟩ : ∃ CS,CS=partS V E S:=⟨_,rfl⟩
 have h2:CS=compS E 1100 (minusS (vS V) S):=hCS
 have h1:=comp_len hi 1100 _ _ CS rfl (by have:=toL_len (minusS (vS V) S);omega) h2
 have:=toL_len (minusS (vS V) S)
 rw [← hCS]
 omega
theorem parts_any (A1 B1:Option Addr) (V:List (Int×Thing)) (E:List ((Int×Int)×Thing)) (cA cB:Nat) (D:Option Addr) (S m cD:Nat) (w:World) (hi:GInv V E) (hV:SlAt encV 3 w A1 V) (hVl:V.length≤100) (hE:SlAt encE 4 w B1 E) (hl:E.length≤4096) (hD:SlAt encI 1 w D (toL S)) (hm:m=(toL S).length) :
  Calls Tryz.prog 25 #[.agg #[.slice A1 V.length cA,.slice B1 E.length cB],.slice D m cD] w (SsPost w ((partS V E S).map toL)):=by
 obtain ⟨CS,hCS0⟩ : ∃ CS,CS=partS V E S:=⟨_,rfl⟩
 have hCl:=hide (show CS.length≤1024 by rw [hCS0];exact part_len hi S)
 have hco:=hide (show CoI E CS [] (minusS (vS V) S) by rw [hCS0];exact CoI.start V E S)
 rw [← hCS0]
 obtain ⟨U,hU0⟩ : ∃ U,U=V.map (·.1):=⟨_,rfl⟩
 have hUv:=hide (show U=toL (vS V) by rw [hU0,toL_vS hi])
 have hUr:=hide (show ∀ x∈U,0≤x∧x < 1024 by rw [hU0];exact fun x hx=>ids_rng hi hx)
 have hUl:=hide (show U.length≤100 by rw [hU0,List.length_map];exact hVl)
 have hU:=hide hU0
 obtain ⟨M,hM0⟩ : ∃ M,M=toL S:=⟨_,rfl⟩
 rw [← hM0] at hD hm
 have hM:=hide hM0
 have hmb:=hide (show m≤1024 by rw [hm,hM0];exact toL_len S)
 clear hCS0 hU0 hM0
 have hi':=hide hi
 have hV':=hide hV
 have hVl':=hide hVl
 have hE':=hide hE
 have hl':=hide hl
 have hD':=hide hD
 have hm':=hide hm
 clear hi hV hVl hE hl hD hm
 have hP:=hide (Sp.new w)
 refine callsIn_wide.1 (callsIn_of_wp_marks (n:=0) Tryz.func25 rfl trivial (wpIn_wide.2 ?_))
 simp only [Tryz.ntmps25,List.size_toArray,List.length_cons,List.length_nil,Nat.reduceAdd,Nat.reduceSub,Array.replicate_succ,Array.replicate_zero,List.push_toArray,List.append_toArray,List.nil_append,List.cons_append]
 try dsimp only
 repeat ((fail_if_success with_reducible refine wp_reg (id:=0) ?_);first|go_values|go_skip|go_step|go_guarded|go_upon|go_in|go_back)
 with_reducible refine wp_reg (id:=0) ?_
 refine (uh hP).allocO 30 #[.slice A1 V.length cA,.slice B1 E.length cB] rfl (run_box (v:=.agg #[.slice A1 V.length cA,.slice B1 E.length cB]) rfl rfl) ?_
 intro r2 y1 hQ
 replace hP:=hide hQ
 clear hQ
 refine wpO_want rfl ?_
 go_simp
 refine wpO_done ?_
 try go_frame
 replace hP:Hid (Sp w [] w [] [(r2,30,#[.slice A1 V.length cA,.slice B1 E.length cB])] [(43,1,.slice none 0 0,0,([] : List Sl).flatMap encSl)] y1):=hide ((uh hP).nil 43 1)
 try dsimp only
 repeat ((fail_if_success with_reducible refine wp_reg (id:=1) ?_);first|go_values|go_skip|go_step|go_guarded|go_upon|go_in|go_back)
 with_reducible refine wp_reg (id:=1) ?_
 refine wpO_val rfl (run_load_agg (cs:=#[.slice A1 V.length cA,.slice B1 E.length cB]) rfl rfl (by simp [go_sem]) (by simp [go_sem]) ((uh hP).get 0 rfl).whole) ?_
 go_frame
 refine wpO_want rfl ?_
 go_simp
 have hca:=ids25_any A1 B1 V E cA cB y1 ((uh hV').ext (uh hP).extf) (by have:=uh hVl';omega)
 unfold OwI at hca
 rw [← uh hU] at hca
 obtain ⟨nU,hnU0⟩ : ∃ n,n=U.length:=⟨_,rfl⟩
 rw [← hnU0] at hca
 have hnU:=hide hnU0
 clear hnU0
 refine hca.mono ?_
 clear hca
 rintro _ y2 ⟨A8,c8,rfl,ho,hxc⟩
 have hs8:=hide (own_at (enc:=encI) (xs:=U) (by rw [uh hnU] at ho;exact ho) (fun _=>rfl))
 clear ho
 refine ⟨_,rfl,?_⟩
 replace hP:=hide ((uh hP).ext hxc)
 clear hxc
 try go_frame
 refine wpO_want rfl ?_
 go_simp
 refine wpO_want rfl ?_
 go_simp
 obtain ⟨L0,hL00⟩ : ∃ L,L=toL (minusS (vS V) S):=⟨_,rfl⟩
 have hL0:=hide hL00
 obtain ⟨n0,hn00⟩ : ∃ n,n=L0.length:=⟨_,rfl⟩
 have hn0:=hide hn00
 have hca:=minusQ_any A8 D U M nU m c8 cD y2 (uh hs8) ((uh hD').ext (uh hP).extf) (uh hnU) (uh hm') (by have:=uh hUl;have:=uh hnU;omega) (by have:=uh hmb;omega)
 rw [uh hUv,uh hM,minusQ_toL, ← hL00] at hca
 unfold OwI at hca
 rw [← hn00] at hca
 clear hL00 hn00
 refine hca.mono ?_
 clear hca
 rintro _ y3 ⟨A5,c5,rfl,ho,hxc⟩
 refine ⟨_,rfl,?_⟩
 replace hP:Hid (Sp w [] w [] [(r2,30,#[.slice A1 V.length cA,.slice B1 E.length cB])] [(43,1,.slice none 0 0,0,([] : List Sl).flatMap encSl),(3,1,.slice A5 n0 c5,n0,L0.flatMap encI)] y3):=hide ((uh hP).addRow hxc ho)
 clear hxc ho
 try go_frame
 refine wpO_want rfl ?_
 go_simp
 refine wpO_done ?_
 try go_frame
 try dsimp only
 repeat ((fail_if_success with_reducible refine wp_reg (id:=2) ?_);first|go_values|go_skip|go_step|go_guarded|go_upon|go_in|go_back)
 with_reducible refine wp_reg (id:=2) ?_
 refine wpO_want rfl ?_
 go_simp
 refine wpO_done ?_
 try go_frame
 go_wp2_with fail
 have hPJ:Hid (Sp w [] w [] [(r2,30,#[.slice A1 V.length cA,.slice B1 E.length cB])] ((43,1,.slice none 0 0,0,(([] : List (Sl×List Int)).map (·.1)).flatMap encSl)::(([] : List (Sl×List Int)).map rowJ++[(3,1,.slice A5 n0 c5,n0,L0.flatMap encI)])) y3):=hide (uh hP)
 replace hP:=hPJ
 clear hPJ
 obtain ⟨I3_2,hI3_20⟩ : ∃ I:Nat→Act→World→Prop,I=fun fi a' wr=>∃ (N:Nat), ∃ (A5:Option Addr), ∃ (n5:Nat), ∃ (c5:Nat), ∃ (L:List Int), ∃ (A6:Option Addr), ∃ (q:Nat), ∃ (c6:Nat), ∃ (J:List (Sl×List Int)), ∃ (Ks:List Nat),a'.tmps.size=30∧a'.tmps.getD 2 undef=.pointer (some ⟨r2,0,none⟩)∧a'.tmps.getD 5 undef=.slice A5 n5 c5∧a'.tmps.getD 6 undef=.slice A6 q c6∧a'.defers=[]∧L=toL N∧n5=L.length∧(∀ x∈toL N,x∈U)∧CoI E CS Ks N∧q=J.length∧J.map (·.2)=Ks.map toL∧(∀ p∈J,p.1.2.1=p.2.length)∧Sp w [] w [] [(r2,30,#[.slice A1 V.length cA,.slice B1 E.length cB])] ((43,1,.slice A6 q c6,q,(J.map (·.1)).flatMap encSl)::(J.map rowJ++[(3,1,.slice A5 n5 c5,n5,L.flatMap encI)])) wr∧fi=(toL N).length:=⟨_,rfl⟩
 have hI3_2:=hide hI3_20
 clear hI3_20
 refine wp_loop_ix I3_2 ((toL (minusS (vS V) S)).length) ?_ ?_
 ·rw [uh hI3_2];exact ⟨minusS (vS V) S,A5,n0,c5,L0,none,0,0,[],[],rfl,rfl,rfl,rfl,rfl,uh hL0,uh hn0,(fun x hx=>by rw [uh hUv];exact (mem_minus.1 hx).1),uh hco,rfl,rfl,(fun p hp=>by cases hp),uh hP,rfl⟩
 ·rintro fi ⟨tm,dfs⟩ wr hrel
  rw [uh hI3_2] at hrel
  obtain ⟨N,A5,n5,c5,L,A6,q,c6,J,Ks,hsz,e2,e5,e6,hdf,hL,hn5,hNU,hC,hq,hJ,hJl,hPr,hfm⟩:=hrel
  obtain ⟨us,rfl⟩ : ∃ us:Nat→Value,tm=#[us 0,us 1,us 2,us 3,us 4,us 5,us 6,us 7,us 8,us 9,us 10,us 11,us 12,us 13,us 14,us 15,us 16,us 17,us 18,us 19,us 20,us 21,us 22,us 23,us 24,us 25,us 26,us 27,us 28,us 29]:=⟨fun i=>tm.getD i undef,arr_fn hsz⟩
  have h2:us 2=.pointer (some ⟨r2,0,none⟩):=e2
  have h5:us 5=.slice A5 n5 c5:=e5
  have h6:us 6=.slice A6 q c6:=e6
  have hdf2:dfs=[]:=hdf
  subst hdf2
  clear hdf hsz e2 e5 e6
  simp only [h2,h5,h6]
  clear h2 h5 h6
  clear hP
  have hP:=hide hPr
  clear hPr
  have hL':=hide hL
  have hn5':=hide hn5
  have hNU':=hide hNU
  have hC':=hide hC
  have hq':=hide hq
  have hJ':=hide hJ
  have hJl':=hide hJl
  have hfm':=hide hfm
  clear hL hn5 hNU hC hq hJ hJl hfm
  have hqb:=hide (show q≤1024 by have h:=congrArg List.length (uh hJ');rw [List.length_map,List.length_map] at h;have:=CoI.len (uh hC');have:=uh hq';have:=uh hCl;omega)
  by_cases hany:anyB N=true
  ·skip
   have hany':=hide hany
   have hpos:(n5:Int) > 0:=by have h:=uh hn5';rw [uh hL', ] at h;rw [anyB_len,decide_eq_true_eq] at hany;omega
   have h0:=hide (show 0 < L.length by have:=uh hn5';omega)
   obtain ⟨x,hx0⟩ : ∃ x,x=minV N:=⟨_,rfl⟩
   have hLx:=hide (show L[0]'(uh h0)=x by
    rw [hx0]
    exact toL_first (uh hL') hany (uh h0))
   have hxN:=hide (show x∈toL N by rw [hx0];exact minV_mem hany)
   have hx:=hide hx0
   obtain ⟨PF,hPF0⟩ : ∃ PF,PF=growS E 1100 (fromS [minV N]) N:=⟨_,rfl⟩
   have hPF:=hide hPF0
   obtain ⟨hnx1,hnx2⟩:=CoI.next (uh hi') (uh hC') hany hPF0
   have hnxC:=hide hnx1
   have hnxl:=hide hnx2
   have hsL:=hide (show SlAt encI 1 wr A5 L from own_at (enc:=encI) (by have h:=(uh hP).row ((J.map rowJ).length+1) (get_tail _ _ _);rw [uh hn5'] at h;exact h) (fun _=>rfl))
   obtain ⟨b5,o5,rfl,hcz⟩:=cellI (uh hsL) (uh h0)
   clear hcz hx0 hPF0 hnx1 hnx2 hany
   try dsimp only
   repeat ((fail_if_success with_reducible refine wp_reg (id:=3) ?_);first|go_values|go_skip|go_step|go_guarded|go_upon|go_in|go_back)
   with_reducible refine wp_reg (id:=3) ?_
   iterate 3
    refine wpO_want rfl ?_
    go_simp
   refine wpO_done ?_
   try go_frame
   go_wp2_with fail
   have c0:=slK (uh hsL) (S:=[]) (by simp) (uh h0)
   rw [uh hLx] at c0
   have c0':=fun W (hW:Keep [] wr W)=>(show W.cell? ⟨b5,o5,none⟩=some (.int .i64 x) from c0 W hW)
   have hself:=Keep.refl [] wr
   refine wp_regionK (P:=Tryz.prog) [] [0,1,2,3,5] [] 3 #[true,true,true,true,false,true,false,false] (by kernel_rfl) (by kernel_rfl) rfl (by rfl) ?_
   refine ql_want (v:=.agg #[.slice A1 V.length cA,.slice B1 E.length cB]) rfl (by rfl) (fun W hW=>qUpon_ofX (run_load_agg (cs:=#[.slice A1 V.length cA,.slice B1 E.length cB]) rfl rfl (by simp [go_sem]) (by simp [go_sem]) ((uh hP).wholeK 0 rfl hW (by simp)))) ?_
   go_frame
   iterate 4
    refine ql_want (v:=?_) rfl (by rfl) (fun W hW=>?_) ?_
    rotate_left
    ·go_simp
     first | done | rfl
    go_frame
   refine wpQL_nil (fun y4 hxq=>?_)
   have hsL2:=hide ((uh hsL).ext hxq)
   have hK:=hide (hxq.keep [])
   replace hP:=hide ((uh hP).ext hxq)
   clear hxq
   clear c0 c0' hself hpos
   refine lx_one (i:=4) (by kernel_rfl) rfl (by rfl) #[true,true,true,true,true,true,false,false] (by rfl) ?_
   refine (uh hP).allocL (uh hK) (v:=fun b=>.slice (some ⟨b,0,none⟩) 1 1) 3 #[.int .i64 x] ?_ ?_
   ·exact run_buildR rfl rfl
   intro bt y5 hQ hK2 hg2
   replace hP:=hide hQ
   replace hK:=hide hK2
   have hge_bt:=hide hg2
   clear hQ hK2 hg2
   try go_frame
   have hst:=hide (slat_blk (enc:=encI) (k:=1) [x] ((uh hP).get 1 rfl) rfl (fun _=>rfl) (by simp))
   have hsL3:=hide ((uh hsL).ext (uh hK).ext)
   have hPt:Sp w [] w [] [(r2,30,#[.slice A1 V.length cA,.slice B1 E.length cB])] (((43,1,.slice A6 q c6,q,(J.map (·.1)).flatMap encSl)::(J.map rowJ++[(3,1,.slice (some ⟨b5,o5,none⟩) n5 c5,n5,L.flatMap encI)]))++[(3,1,.slice (some ⟨bt,0,none⟩) 1 1,1,([x] : List Int).flatMap encI)]) y5:=Sp.toRow (L:=[(r2,30,#[.slice A1 V.length cA,.slice B1 E.length cB])]) (b:=bt) (t:=3) (n:=1) (cs:=#[.int .i64 x]) (uh hP) rfl (by decide)
   replace hP:=hide hPt
   clear hPt
   have hone:=toL_one (uh hUr x (uh hNU' x (uh hxN)))
   obtain ⟨Lp,hLp0⟩ : ∃ Lp,Lp=toL PF:=⟨_,rfl⟩
   have hLp:=hide hLp0
   obtain ⟨n7,hn70⟩ : ∃ n,n=Lp.length:=⟨_,rfl⟩
   have hn7:=hide hn70
   have hca:=grown_any A1 B1 V E cA cB (some ⟨bt,0,none⟩) (some ⟨b5,o5,none⟩) (fromS [x]) N 1 n5 1 c5 U y5 (uh hi') ((uh hE').ext (uh hP).extf) (uh hl') (by rw [hone];exact uh hst) (by rw [← uh hL'];exact uh hsL3) (by rw [hone];rfl) (by rw [← uh hL'];exact uh hn5') (uh hUr) (uh hUl) (by rw [hone];intro y hy;rw [List.mem_singleton] at hy;rw [hy];exact uh hNU' x (uh hxN)) (uh hNU')
   rw [hone,show growS E 1100 (fromS [x]) N=PF by rw [uh hPF,uh hx], ← hLp0] at hca
   unfold SlO at hca
   rw [← hn70] at hca
   clear hLp0 hn70 hone
   refine lx_one (i:=6) (by kernel_rfl) rfl (by rfl) #[true,true,true,true,true,true,true,false] (by rfl) ?_
   go_simp
   refine hca.mono ?_
   clear hca
   rintro _ zy6 ⟨A7,c7,rfl,hs0,hxc,ho0⟩
   refine ⟨_,rfl,(uh hK).trans (hxc.keep _),fun y6 hxd=>?_⟩
   have hQ:=((uh hP).orO hxc rfl (uh hn7) ho0).ext hxd
   clear ho0 hs0
   replace hP:Hid (Sp w [] w [] [(r2,30,#[.slice A1 V.length cA,.slice B1 E.length cB])] ((43,1,.slice A6 q c6,q,(J.map (·.1)).flatMap encSl)::(J.map rowJ++[(3,1,.slice (some ⟨b5,o5,none⟩) n5 c5,n5,L.flatMap encI),(3,1,.slice A7 n7 c7,n7,Lp.flatMap encI)])) y6):=hide (by rw [List.cons_append,List.append_assoc] at hQ;exact hQ)
   replace hK:=hide ((uh hK).trans ((hxc.trans hxd).keep _))
   clear hQ hxc hxd hsL2 hst hsL3
   try go_frame
   refine lx_rekeep (uh hK) [7] [] 0 1 #[true,true,true,true,true,true,true,false] #[true,true,true,true,true,true,true,true] (by kernel_rfl) rfl (by rfl) ?_
   clear hK
   iterate 1
    refine ql_want (v:=?_) rfl (by rfl) (fun W hW=>?_) ?_
    rotate_left
    ·go_simp
     first | done | rfl
    go_frame
   refine wpQL_nil (fun y7 hxq=>?_)
   replace hP:=hide ((uh hP).ext hxq)
   clear hxq
   refine wpX_done (by kernel_rfl) ?_
   try go_frame
   try dsimp only
   repeat ((fail_if_success with_reducible refine wp_reg (id:=5) ?_);first|go_values|go_skip|go_step|go_guarded|go_upon|go_in|go_back)
   with_reducible refine wp_reg (id:=5) ?_
   iterate 2
    refine wpO_want rfl ?_
    go_simp
   refine (uh hP).build1O 43 #[.slice A7 n7 c7] rfl (run_buildSl rfl rfl) ?_
   intro bs y8 hQ
   replace hP:=hide hQ
   clear hQ
   go_frame
   refine (uh hP).ap1O (enc:=encSl) (T:=43) (ST:=38) 0 (v:=.slice A6 q c6) (m:=q) (xs:=J.map (·.1)) rfl rfl infoR Tryz.underlying38 one_encSl (fun _=>rfl) (by decide) (by decide) rfl (A7,n7,c7) rfl rfl ((uh hP).get 1 rfl) (by have:=uh hqb;omega) ?_
   intro A9 cA9 y9 hQ
   replace hP:=hide hQ
   clear hQ
   go_frame
   replace hP:Hid (Sp w [] w [] [(r2,30,#[.slice A1 V.length cA,.slice B1 E.length cB])] ((43,1,.slice A9 (q+1) cA9,q+1,((J.map fun p:Sl×List Int=>p.1)++[((A7,n7,c7) : Sl)]).flatMap encSl)::(J.map rowJ++[(3,1,.slice (some ⟨b5,o5,none⟩) n5 c5,n5,L.flatMap encI),(3,1,.slice A7 n7 c7,n7,Lp.flatMap encI)])) y9):=hide ((uh hP).sub (List.sublist_append_left _ ([(bs,43,#[.slice A7 n7 c7])] : List Cl)) (List.Sublist.refl _))
   refine wpO_want rfl ?_
   go_simp
   refine wpO_done ?_
   try go_frame
   try dsimp only
   repeat ((fail_if_success with_reducible refine wp_reg (id:=6) ?_);first|go_values|go_skip|go_step|go_guarded|go_upon|go_in|go_back)
   with_reducible refine wp_reg (id:=6) ?_
   iterate 2
    refine wpO_want rfl ?_
    go_simp
   refine wpO_want rfl ?_
   go_simp
   obtain ⟨L2,hL20⟩ : ∃ L,L=toL (minusS N PF):=⟨_,rfl⟩
   have hL2:=hide hL20
   obtain ⟨n2,hn20⟩ : ∃ n,n=L2.length:=⟨_,rfl⟩
   have hn2:=hide hn20
   have hn7b:=hide (show n7≤1024 by rw [uh hn7,uh hLp];exact toL_len _)
   have hn5b:=hide (show n5≤1024 by rw [uh hn5',uh hL'];exact toL_len _)
   have hca:=minusQ_any (some ⟨b5,o5,none⟩) A7 L Lp n5 n7 c5 c7 y9 (own_at (enc:=encI) (by have h:=(uh hP).row ((J.map rowJ).length+1) (get_t1 _ _ _ _);rw [uh hn5'] at h;exact h) (fun _=>rfl)) (own_at (enc:=encI) (by have h:=(uh hP).row ((J.map rowJ).length+2) (get_t2 _ _ _ _ _);rw [uh hn7] at h;exact h) (fun _=>rfl)) (uh hn5') (uh hn7) (by have:=uh hn5b;omega) (by have:=uh hn7b;omega)
   rw [uh hL',uh hLp,minusQ_toL, ← hL20] at hca
   unfold OwI at hca
   rw [← hn20] at hca
   clear hL20 hn20
   refine hca.mono ?_
   clear hca
   rintro _ y10 ⟨A2,c2,rfl,ho,hxc⟩
   refine ⟨_,rfl,?_⟩
   have hQ:=(uh hP).addRow hxc ho
   rw [List.cons_append,List.append_assoc] at hQ
   replace hP:=hide hQ
   clear hxc ho hQ
   try go_frame
   refine wpO_want rfl ?_
   go_simp
   refine wpO_done ?_
   try go_frame
   have hJQ:=Sp.joinP (p:=(((A7,n7,c7),Lp) : Sl×List Int)) (uh hP)
   replace hP:Hid (Sp w [] w [] [(r2,30,#[.slice A1 V.length cA,.slice B1 E.length cB])] ((43,1,.slice A9 (q+1) cA9,q+1,((J++[(((A7,n7,c7),Lp) : Sl×List Int)]).map (·.1)).flatMap encSl)::((J++[(((A7,n7,c7),Lp) : Sl×List Int)]).map rowJ++[(3,1,.slice A2 n2 c2,n2,L2.flatMap encI)])) y10):=hide hJQ
   clear hJQ
   go_wp2_with fail
   refine ⟨(toL (minusS N PF)).length,?_,by have:=uh hfm';have:=uh hnxl;omega⟩
   rw [uh hI3_2]
   exact ⟨minusS N PF,A2,n2,c2,L2,A9,q+1,cA9,J++[(((A7,n7,c7),Lp) : Sl×List Int)],Ks++[PF],(by first | rfl | trivial),(by first | rfl | trivial),(by first | rfl | trivial),(by first | rfl | trivial),(by first | rfl | trivial),uh hL2,uh hn2,(fun x hx=>uh hNU' x (mem_minus.1 hx).1),uh hnxC,(by rw [List.length_append, ← uh hq'];rfl),(by rw [List.map_append,List.map_append,uh hJ',List.map_cons,List.map_nil,List.map_cons,List.map_nil, ← uh hLp]),(fun p hp=>by rcases List.mem_append.1 hp with hp | hp;exact uh hJl' p hp;rw [List.mem_singleton] at hp;subst hp;exact uh hn7),uh hP,rfl⟩
  ·skip
   obtain rfl:n5=0:=by have h:=uh hn5';rw [uh hL'] at h;rw [anyB_len,decide_eq_true_eq] at hany;omega
   have hre:=hide (show J.map (·.2)=CS.map toL by rw [uh hJ',CoI.done (uh hC') hany])
   clear hany
   try dsimp only
   repeat ((fail_if_success with_reducible refine wp_reg (id:=3) ?_);first|go_values|go_skip|go_step|go_guarded|go_upon|go_in|go_back)
   with_reducible refine wp_reg (id:=3) ?_
   iterate 3
    refine wpO_want rfl ?_
    go_simp
   refine wpO_done ?_
   try go_frame
   try dsimp only
   repeat ((fail_if_success with_reducible refine wp_reg (id:=7) ?_);first|go_values|go_skip|go_step|go_guarded|go_upon|go_in|go_back)
   with_reducible refine wp_reg (id:=7) ?_
   iterate 2
    refine wpO_want rfl ?_
    go_simp
   refine wpO_done ?_
   try go_frame
   go_wp2_with fail
   refine Sp.leaves0 ?_
   rw [← uh hre]
   exact ⟨_,results_tmp (t:=4) rfl _ _ _,SsPost.mk (by rw [List.length_map];exact uh hq') (Sp.ss (uh hP) (uh hJl') rfl (uh hq')) (uh hP).extf⟩
theorem fullP_le {V:List (Int×Thing)} {E:List ((Int×Int)×Thing)} (hi:GInv V E) (S:Nat) : (fullS V E S).length≤1024:=Nat.le_trans (List.length_filter_le _ _) (part_len hi S)
theorem full_any (A1 B1:Option Addr) (V:List (Int×Thing)) (E:List ((Int×Int)×Thing)) (cA cB:Nat) (D:Option Addr) (S m cD:Nat) (w:World) (hi:GInv V E) (hV:SlAt encV 3 w A1 V) (hVl:V.length≤100) (hE:SlAt encE 4 w B1 E) (hl:E.length≤4096) (hD:SlAt encI 1 w D (toL S)) (hm:m=(toL S).length) :
  Calls Tryz.prog 26 #[.agg #[.slice A1 V.length cA,.slice B1 E.length cB],.slice D m cD] w (SsPost w ((fullS V E S).map toL)):=by
 obtain ⟨CS,hCS0⟩ : ∃ CS,CS=partS V E S:=⟨_,rfl⟩
 have hCl:=hide (show CS.length≤1024 by rw [hCS0];exact part_len hi S)
 obtain ⟨T,hT0⟩ : ∃ T,T=toL (S &&& vS V):=⟨_,rfl⟩
 have hTl:=hide (show T.length≤1024 by rw [hT0];exact toL_len _)
 obtain ⟨f,hf0⟩ : ∃ f:Nat→Bool,f=fun p=>fulB E T (toL p):=⟨_,rfl⟩
 have hf:=hide hf0
 rw [full_eq hi, ← hCS0, ← hT0, ← hf0]
 have hparts:=hide (fun (W:World) (hW:Ext w W)=>parts_any A1 B1 V E cA cB D S m cD W hi (hV.ext hW) hVl (hE.ext hW) hl (hD.ext hW) hm)
 rw [← hCS0] at hparts
 have hids:=hide (fun (W:World) (hW:Ext w W)=>ids25_any A1 B1 V E cA cB W (hV.ext hW) (show V.length≤4096 by omega))
 obtain ⟨U,hU0⟩ : ∃ U,U=V.map (·.1):=⟨_,rfl⟩
 have hUv:=hide (show U=toL (vS V) by rw [hU0,toL_vS hi])
 have hUl:=hide (show U.length≤100 by rw [hU0,List.length_map];exact hVl)
 rw [← hU0] at hids
 obtain ⟨M,hM0⟩ : ∃ M,M=toL S:=⟨_,rfl⟩
 have hT:=hide (show T=andR M U by rw [hT0,hM0,hU0, ← toL_vS hi,andQ_toL])
 rw [← hM0] at hD hm
 have hmb:=hide (show m≤1024 by rw [hm,hM0];exact toL_len S)
 obtain ⟨n5,hn50⟩ : ∃ n,n=CS.length:=⟨_,rfl⟩
 have hn5:=hide hn50
 have hpl:=hide (show ∀ p∈CS,(toL p).length≤1024 from fun p _=>toL_len p)
 clear hCS0 hU0 hM0 hT0 hn50 hf0
 have hi':=hide hi
 have hV':=hide hV
 have hVl':=hide hVl
 have hE':=hide hE
 have hl':=hide hl
 have hD':=hide hD
 have hm':=hide hm
 clear hi hV hVl hE hl hD hm
 have hP:=hide (Sp.new w)
 refine callsIn_wide.1 (callsIn_of_wp_marks (n:=0) Tryz.func26 rfl trivial (wpIn_wide.2 ?_))
 simp only [Tryz.ntmps26,List.size_toArray,List.length_cons,List.length_nil,Nat.reduceAdd,Nat.reduceSub,Array.replicate_succ,Array.replicate_zero,List.push_toArray,List.append_toArray,List.nil_append,List.cons_append]
 try dsimp only
 repeat ((fail_if_success with_reducible refine wp_reg (id:=0) ?_);first|go_values|go_skip|go_step|go_guarded|go_upon|go_in|go_back)
 with_reducible refine wp_reg (id:=0) ?_
 refine (uh hP).allocO 30 #[.slice A1 V.length cA,.slice B1 E.length cB] rfl (run_box (v:=.agg #[.slice A1 V.length cA,.slice B1 E.length cB]) rfl rfl) ?_
 intro r2 y1 hQ
 replace hP:=hide hQ
 clear hQ
 refine wpO_want rfl ?_
 go_simp
 refine wpO_done ?_
 try go_frame
 try dsimp only
 repeat ((fail_if_success with_reducible refine wp_reg (id:=1) ?_);first|go_values|go_skip|go_step|go_guarded|go_upon|go_in|go_back)
 with_reducible refine wp_reg (id:=1) ?_
 refine wpO_val rfl (run_load_agg (cs:=#[.slice A1 V.length cA,.slice B1 E.length cB]) rfl rfl (by simp [go_sem]) (by simp [go_sem]) ((uh hP).get 0 rfl).whole) ?_
 go_frame
 refine wpO_want rfl ?_
 go_simp
 refine wpO_want rfl ?_
 go_simp
 have hca:=uh hparts y1 (uh hP).extf
 unfold SsPost at hca
 rw [List.length_map, ← uh hn5] at hca
 refine hca.mono ?_
 clear hca
 rintro _ y2 ⟨A5,c5,rfl,hs0,hxc⟩
 have hss:=hide hs0
 clear hs0
 refine ⟨_,rfl,?_⟩
 replace hP:=hide ((uh hP).ext hxc)
 clear hxc
 try go_frame
 refine wpO_want rfl ?_
 go_simp
 refine wpO_done ?_
 try go_frame
 try dsimp only
 repeat ((fail_if_success with_reducible refine wp_reg (id:=2) ?_);first|go_values|go_skip|go_step|go_guarded|go_upon|go_in|go_back)
 with_reducible refine wp_reg (id:=2) ?_
 refine wpO_want rfl ?_
 go_simp
 refine wpO_val rfl (run_load_agg (cs:=#[.slice A1 V.length cA,.slice B1 E.length cB]) rfl rfl (by simp [go_sem]) (by simp [go_sem]) ((uh hP).get 0 rfl).whole) ?_
 go_frame
 refine wpO_want rfl ?_
 go_simp
 have hca:=uh hids y2 (uh hP).extf
 unfold OwI at hca
 obtain ⟨nU,hnU0⟩ : ∃ n,n=U.length:=⟨_,rfl⟩
 rw [← hnU0] at hca
 have hnU:=hide hnU0
 clear hnU0
 refine hca.mono ?_
 clear hca
 rintro _ y3 ⟨A8,c8,rfl,ho,hxc⟩
 have hs8:=hide (own_at (enc:=encI) (xs:=U) (by rw [uh hnU] at ho;exact ho) (fun _=>rfl))
 replace hss:=hide ((uh hss).ext hxc)
 clear ho
 refine ⟨_,rfl,?_⟩
 replace hP:=hide ((uh hP).ext hxc)
 clear hxc
 try go_frame
 refine wpO_want rfl ?_
 go_simp
 obtain ⟨n6,hn60⟩ : ∃ n,n=T.length:=⟨_,rfl⟩
 have hn6:=hide hn60
 have hca:=andQ_any D A8 M U m nU cD c8 y3 ((uh hD').ext (uh hP).extf) (uh hs8) (uh hm') (uh hnU) (by have:=uh hmb;omega) (by have:=uh hUl;have:=uh hnU;omega)
 rw [← uh hT] at hca
 unfold OwI at hca
 rw [← hn60] at hca
 clear hn60
 refine hca.mono ?_
 clear hca
 rintro _ y4 ⟨A6,c6,rfl,ho,hxc⟩
 have hs6:=hide (own_at (enc:=encI) (xs:=T) (by rw [uh hn6] at ho;exact ho) (fun _=>rfl))
 replace hss:=hide ((uh hss).ext hxc)
 clear ho hs8
 refine ⟨_,rfl,?_⟩
 replace hP:=hide ((uh hP).ext hxc)
 clear hxc
 try go_frame
 refine wpO_want rfl ?_
 go_simp
 refine wpO_done ?_
 try go_frame
 try dsimp only
 repeat ((fail_if_success with_reducible refine wp_reg (id:=3) ?_);first|go_values|go_skip|go_step|go_guarded|go_upon|go_in|go_back)
 with_reducible refine wp_reg (id:=3) ?_
 refine wpO_want rfl ?_
 go_simp
 refine wpO_done ?_
 try go_frame
 try dsimp only
 repeat ((fail_if_success with_reducible refine wp_reg (id:=4) ?_);first|go_values|go_skip|go_step|go_guarded|go_upon|go_in|go_back)
 with_reducible refine wp_reg (id:=4) ?_
 refine wpO_want rfl ?_
 go_simp
 refine wpO_done ?_
 try go_frame
 go_wp2_with fail
 have hEo:=hide ((uh hE').ext (uh hP).extf)
 have hb2:=hide ((uh hP).get 0 rfl)
 have hxwo:=hide (uh hP).extf
 clear hP
 generalize y4=wo at *
 have hP:=hide (Sp.new wo)
 replace hP:Hid (Sp wo [] wo [] [] [(43,1,.slice none 0 0,0,([] : List Sl).flatMap encSl)] wo):=hide ((uh hP).nil 43 1)
 obtain ⟨I4_2,hI4_20⟩ : ∃ I:Nat→Act→World→Prop,I=fun fi a' wr=>∃ (i:Nat), ∃ (A7:Option Addr), ∃ (q:Nat), ∃ (c7:Nat), ∃ (ps:List Sl),a'.tmps.size=70∧a'.tmps.getD 2 undef=.pointer (some ⟨r2,0,none⟩)∧a'.tmps.getD 5 undef=.slice A5 n5 c5∧a'.tmps.getD 6 undef=.slice A6 n6 c6∧a'.tmps.getD 7 undef=.slice A7 q c7∧a'.tmps.getD 8 undef=.int .i64 (i:Nat)∧a'.defers=[]∧i≤n5∧q=ps.length∧SlsOk wo ps (((CS.take i).filter f).map toL)∧Sp wo [] wo [] [] [(43,1,.slice A7 q c7,q,ps.flatMap encSl)] wr∧fi=n5-i:=⟨_,rfl⟩
 have hI4_2:=hide hI4_20
 clear hI4_20
 refine wp_loop_ix I4_2 (n5-0) ?_ ?_
 ·rw [uh hI4_2];exact ⟨0,none,0,0,[],rfl,rfl,rfl,rfl,rfl,rfl,rfl,Nat.zero_le _,rfl,⟨rfl,fun i h=>by simp at h⟩,uh hP,rfl⟩
 ·rintro fi ⟨tm,dfs⟩ wr hrel
  rw [uh hI4_2] at hrel
  obtain ⟨i,A7,q,c7,ps,hsz,e2,e5,e6,e7,e8,hdf,hin,hq,hps,hPr,hfm⟩:=hrel
  obtain ⟨us,rfl⟩ : ∃ us:Nat→Value,tm=#[us 0,us 1,us 2,us 3,us 4,us 5,us 6,us 7,us 8,us 9,us 10,us 11,us 12,us 13,us 14,us 15,us 16,us 17,us 18,us 19,us 20,us 21,us 22,us 23,us 24,us 25,us 26,us 27,us 28,us 29,us 30,us 31,us 32,us 33,us 34,us 35,us 36,us 37,us 38,us 39,us 40,us 41,us 42,us 43,us 44,us 45,us 46,us 47,us 48,us 49,us 50,us 51,us 52,us 53,us 54,us 55,us 56,us 57,us 58,us 59,us 60,us 61,us 62,us 63,us 64,us 65,us 66,us 67,us 68,us 69]:=⟨fun i=>tm.getD i undef,arr_fn hsz⟩
  have h2:us 2=.pointer (some ⟨r2,0,none⟩):=e2
  have h5:us 5=.slice A5 n5 c5:=e5
  have h6:us 6=.slice A6 n6 c6:=e6
  have h7:us 7=.slice A7 q c7:=e7
  have h8:us 8=.int .i64 (i:Nat):=e8
  have hdf2:dfs=[]:=hdf
  subst hdf2
  clear hdf hsz e2 e5 e6 e7 e8
  simp only [h2,h5,h6,h7,h8]
  clear h2 h5 h6 h7 h8
  clear hP
  have hP:=hide hPr
  clear hPr
  have hq':=hide hq
  have hps':=hide hps
  have hfm':=hide hfm
  clear hq hps hfm
  by_cases hlt:i < n5
  ·skip
   have hil:(i:Int) < (n5:Int):=by omega
   have hi2:=hide hlt
   have hiC:i < CS.length:=by rw [← uh hn5];exact hlt
   have hib:=hide (show (i:Int)≤1024 by have:=uh hCl;have:=uh hn5;omega)
   have hqb:=hide (show q≤1024 by rw [uh hq',(uh hps').1,List.length_map];exact Nat.le_trans (List.length_filter_le _ _) (by rw [List.length_take];have:=uh hCl;omega))
   obtain ⟨b5,o5,ak,ck,nk,rfl,hnk,hck,hks⟩:=(uh hss).at1 (i:=i) (by rw [List.length_map];exact hiC)
   have hpl9:=uh hpl _ (List.getElem_mem hiC)
   rw [List.getElem_map] at hnk hks
   have hnx0:=filt_next f CS hiC
   have hfv:=congrFun (uh hf) CS[i]
   obtain ⟨p,hp0⟩ : ∃ p,p=CS[i]:=⟨_,rfl⟩
   rw [← hp0] at hnk hks hnx0 hpl9 hfv
   obtain ⟨P,hP0⟩ : ∃ P,P=toL p:=⟨_,rfl⟩
   rw [← hP0] at hnk hks hpl9
   have hfv2:f p=fulB E T P:=by rw [hfv,hP0]
   have hPp:=hide hP0
   have hnk':=hide hnk
   have hkb:=hide (show nk≤1024 by rw [hnk];exact hpl9)
   have hks':=hide hks
   have hcell:=hide hck
   have hnx:=hide hnx0
   have hfp:=hide hfv2
   clear hck hks hnk hnx0 hp0 hP0 hlt hin hpl9 hfv hfv2 hiC
   try dsimp only
   repeat ((fail_if_success with_reducible refine wp_reg (id:=5) ?_);first|go_values|go_skip|go_step|go_guarded|go_upon|go_in|go_back)
   with_reducible refine wp_reg (id:=5) ?_
   iterate 4
    refine wpO_want rfl ?_
    go_simp
   refine wpO_done ?_
   try go_frame
   clear hil
   try dsimp only
   repeat ((fail_if_success with_reducible refine wp_reg (id:=7) ?_);first|go_values|go_skip|go_step|go_guarded|go_upon|go_in|go_back)
   with_reducible refine wp_reg (id:=7) ?_
   refine wpO_want rfl ?_
   go_simp
   refine wpO_done ?_
   try go_frame
   try dsimp only
   repeat ((fail_if_success with_reducible refine wp_reg (id:=8) ?_);first|go_values|go_skip|go_step|go_guarded|go_upon|go_in|go_back)
   with_reducible refine wp_reg (id:=8) ?_
   refine wpO_want rfl ?_
   go_simp
   refine wpO_done ?_
   try go_frame
   go_wp2_with fail
   obtain ⟨I4_6,hI4_60⟩ : ∃ I:Nat→Act→World→Prop,I=fun fk a' wr=>∃ (k:Nat), ∃ (qf:Bool),a'.tmps.size=70∧a'.tmps.getD 2 undef=.pointer (some ⟨r2,0,none⟩)∧a'.tmps.getD 5 undef=.slice (some ⟨b5,o5,none⟩) n5 c5∧a'.tmps.getD 6 undef=.slice A6 n6 c6∧a'.tmps.getD 7 undef=.slice A7 q c7∧a'.tmps.getD 8 undef=.int .i64 (i:Nat)∧a'.tmps.getD 9 undef=.bool qf∧a'.tmps.getD 10 undef=.int .i64 (k:Nat)∧a'.defers=[]∧k≤n6∧qf=fulB E (T.take k) P∧Sp wo [] wo [] [] [(43,1,.slice A7 q c7,q,ps.flatMap encSl)] wr∧fk=n6-k:=⟨_,rfl⟩
   have hI4_6:=hide hI4_60
   clear hI4_60
   refine wp_loop_ix I4_6 (n6-0) ?_ ?_
   ·rw [uh hI4_6];exact ⟨0,true,rfl,rfl,rfl,rfl,rfl,rfl,rfl,rfl,rfl,Nat.zero_le _,rfl,uh hP,rfl⟩
   ·rintro fk ⟨tm,dfs⟩ wr hrel
    rw [uh hI4_6] at hrel
    obtain ⟨k,qf,hsz,e2,e5,e6,e7,e8,e9,e10,hdf,hkn,hqf,hPr,hfk⟩:=hrel
    obtain ⟨us,rfl⟩ : ∃ us:Nat→Value,tm=#[us 0,us 1,us 2,us 3,us 4,us 5,us 6,us 7,us 8,us 9,us 10,us 11,us 12,us 13,us 14,us 15,us 16,us 17,us 18,us 19,us 20,us 21,us 22,us 23,us 24,us 25,us 26,us 27,us 28,us 29,us 30,us 31,us 32,us 33,us 34,us 35,us 36,us 37,us 38,us 39,us 40,us 41,us 42,us 43,us 44,us 45,us 46,us 47,us 48,us 49,us 50,us 51,us 52,us 53,us 54,us 55,us 56,us 57,us 58,us 59,us 60,us 61,us 62,us 63,us 64,us 65,us 66,us 67,us 68,us 69]:=⟨fun i=>tm.getD i undef,arr_fn hsz⟩
    have h2:us 2=.pointer (some ⟨r2,0,none⟩):=e2
    have h5:us 5=.slice (some ⟨b5,o5,none⟩) n5 c5:=e5
    have h6:us 6=.slice A6 n6 c6:=e6
    have h7:us 7=.slice A7 q c7:=e7
    have h8:us 8=.int .i64 (i:Nat):=e8
    have h9:us 9=.bool qf:=e9
    have h10:us 10=.int .i64 (k:Nat):=e10
    have hdf2:dfs=[]:=hdf
    subst hdf2
    clear hdf hsz e2 e5 e6 e7 e8 e9 e10
    simp only [h2,h5,h6,h7,h8,h9,h10]
    clear h2 h5 h6 h7 h8 h9 h10
    clear hP
    have hP:=hide hPr
    clear hPr
    have hqf':=hide hqf
    have hfk':=hide hfk
    clear hqf hfk
    by_cases hlt:k < n6
    ·skip
     have hil:(k:Int) < (n6:Int):=by omega
     have hk2:=hide hlt
     have hkT:=hide (show k < T.length by rw [← uh hn6];exact hlt)
     have hkb2:=hide (show (k:Int)≤1024 by have:=uh hTl;have:=uh hn6;omega)
     obtain ⟨x,hx0⟩ : ∃ x,x=T[k]'(uh hkT):=⟨_,rfl⟩
     have hx:=hide hx0
     have hfn:=hide (fulB_next (E:=E) T P (uh hkT))
     clear hlt hkn hx0
     try dsimp only
     repeat ((fail_if_success with_reducible refine wp_reg (id:=9) ?_);first|go_values|go_skip|go_step|go_guarded|go_upon|go_in|go_back)
     with_reducible refine wp_reg (id:=9) ?_
     iterate 4
      refine wpO_want rfl ?_
      go_simp
     refine wpO_done ?_
     try go_frame
     clear hil
     try dsimp only
     repeat ((fail_if_success with_reducible refine wp_reg (id:=11) ?_);first|go_values|go_skip|go_step|go_guarded|go_upon|go_in|go_back)
     with_reducible refine wp_reg (id:=11) ?_
     refine wpO_want rfl ?_
     go_simp
     refine wpO_done ?_
     try go_frame
     try dsimp only
     repeat ((fail_if_success with_reducible refine wp_reg (id:=12) ?_);first|go_values|go_skip|go_step|go_guarded|go_upon|go_in|go_back)
     with_reducible refine wp_reg (id:=12) ?_
     refine wpO_want rfl ?_
     go_simp
     refine wpO_done ?_
     try go_frame
     go_wp2_with fail
     obtain ⟨I4_10,hI4_100⟩ : ∃ I:Nat→Act→World→Prop,I=fun fj a' wr=>∃ (j:Nat), ∃ (qo:Bool),a'.tmps.size=70∧a'.tmps.getD 2 undef=.pointer (some ⟨r2,0,none⟩)∧a'.tmps.getD 5 undef=.slice (some ⟨b5,o5,none⟩) n5 c5∧a'.tmps.getD 6 undef=.slice A6 n6 c6∧a'.tmps.getD 7 undef=.slice A7 q c7∧a'.tmps.getD 8 undef=.int .i64 (i:Nat)∧a'.tmps.getD 9 undef=.bool qf∧a'.tmps.getD 10 undef=.int .i64 (k:Nat)∧a'.tmps.getD 11 undef=.bool qo∧a'.tmps.getD 12 undef=.int .i64 (j:Nat)∧a'.defers=[]∧j≤nk∧qo=hitB E x (P.take j)∧Sp wo [] wo [] [] [(43,1,.slice A7 q c7,q,ps.flatMap encSl)] wr∧fj=nk-j:=⟨_,rfl⟩
     have hI4_10:=hide hI4_100
     clear hI4_100
     refine wp_loop_ix I4_10 (nk-0) ?_ ?_
     ·rw [uh hI4_10];exact ⟨0,false,rfl,rfl,rfl,rfl,rfl,rfl,rfl,rfl,rfl,rfl,rfl,Nat.zero_le _,rfl,uh hP,rfl⟩
     ·rintro fj ⟨tm,dfs⟩ wr hrel
      rw [uh hI4_10] at hrel
      obtain ⟨j,qo,hsz,e2,e5,e6,e7,e8,e9,e10,e11,e12,hdf,hjn,hqo,hPr,hfj⟩:=hrel
      obtain ⟨us,rfl⟩ : ∃ us:Nat→Value,tm=#[us 0,us 1,us 2,us 3,us 4,us 5,us 6,us 7,us 8,us 9,us 10,us 11,us 12,us 13,us 14,us 15,us 16,us 17,us 18,us 19,us 20,us 21,us 22,us 23,us 24,us 25,us 26,us 27,us 28,us 29,us 30,us 31,us 32,us 33,us 34,us 35,us 36,us 37,us 38,us 39,us 40,us 41,us 42,us 43,us 44,us 45,us 46,us 47,us 48,us 49,us 50,us 51,us 52,us 53,us 54,us 55,us 56,us 57,us 58,us 59,us 60,us 61,us 62,us 63,us 64,us 65,us 66,us 67,us 68,us 69]:=⟨fun i=>tm.getD i undef,arr_fn hsz⟩
      have h2:us 2=.pointer (some ⟨r2,0,none⟩):=e2
      have h5:us 5=.slice (some ⟨b5,o5,none⟩) n5 c5:=e5
      have h6:us 6=.slice A6 n6 c6:=e6
      have h7:us 7=.slice A7 q c7:=e7
      have h8:us 8=.int .i64 (i:Nat):=e8
      have h9:us 9=.bool qf:=e9
      have h10:us 10=.int .i64 (k:Nat):=e10
      have h11:us 11=.bool qo:=e11
      have h12:us 12=.int .i64 (j:Nat):=e12
      have hdf2:dfs=[]:=hdf
      subst hdf2
      clear hdf hsz e2 e5 e6 e7 e8 e9 e10 e11 e12
      simp only [h2,h5,h6,h7,h8,h9,h10,h11,h12]
      clear h2 h5 h6 h7 h8 h9 h10 h11 h12
      clear hP
      have hP:=hide hPr
      clear hPr
      have hqo':=hide hqo
      have hfj':=hide hfj
      clear hqo hfj
      have hsx:=hide ((uh hP).extf)
      have hin5:(i:Int) < (n5:Int):=by have:=uh hi2;omega
      have hib':=uh hib
      by_cases hlt:j < nk
      ·skip
       have hil:(j:Int) < (nk:Int):=by omega
       have hj2:=hide hlt
       have hjP:=hide (show j < P.length by rw [← uh hnk'];exact hlt)
       have hjb:=hide (show (j:Int)≤1024 by have:=uh hkb;omega)
       have hhn:=hide (hitB_next (E:=E) x P (uh hjP))
       obtain ⟨y,hy0⟩ : ∃ y,y=P[j]'(uh hjP):=⟨_,rfl⟩
       have hy:=hide hy0
       clear hlt hjn hy0
       have c0:∀ W,Ext wr W→W.cell? ⟨b5,o5+i,none⟩=some (.slice ak nk ck):=fun W hW=>uh hcell W (((uh hP).extf.trans hW).keep [])
       have hself:=Ext.refl wr
       try dsimp only
       repeat ((fail_if_success with_reducible refine wp_reg (id:=13) ?_);first|go_values|go_skip|go_step|go_guarded|go_upon|go_in|go_back)
       with_reducible refine wp_reg (id:=13) ?_
       iterate 7
        refine wpO_want rfl ?_
        go_simp
       refine wpO_done ?_
       try go_frame
       clear hil c0 hself
       go_wp2_with fail
       cases qo
       ·skip
        have hkn6:(k:Int) < (n6:Int):=by have:=uh hk2;omega
        have hjn6:(j:Int) < (nk:Int):=by have:=uh hj2;omega
        have hjb':=uh hjb
        have hkb':=uh hkb2
        obtain ⟨b6,o6,rfl,hcz⟩:=cellI (uh hs6) (uh hkT)
        clear hcz
        obtain ⟨b9,o9,rfl,hcz⟩:=cellI (uh hks') (uh hjP)
        clear hcz
        have c0:∀ W,Keep [] wr W→W.cell? ⟨b5,o5+i,none⟩=some (.slice (some ⟨b9,o9,none⟩) nk ck):=fun W hW=>uh hcell W (((uh hP).extf.keep []).trans hW)
        have c1:=slK ((uh hs6).ext (uh hP).extf) (S:=[]) (by simp) (uh hkT)
        have c2:=slK ((uh hks').ext (uh hP).extf) (S:=[]) (by simp) (uh hjP)
        rw [← uh hx] at c1
        rw [← uh hy] at c2
        have hself:=Keep.refl [] wr
        obtain ⟨qj,hqj0⟩ : ∃ q,q=hasE x y E:=⟨_,rfl⟩
        have hqj:=hide hqj0
        clear hqj0
        refine wp_regionK (P:=Tryz.prog) [] [0,1,2,3,4,5,6,7,8,9,10,11,12,13,14,15,16] [] 0 #[true,true,true,true,true,true,true,true,true,true,true,true,true,true,true,true,true] (by kernel_rfl) (by kernel_rfl) rfl (by rfl) ?_
        iterate 2
         refine ql_want (v:=?_) rfl (by rfl) (fun W hW=>?_) ?_
         rotate_left
         ·go_simp
          first | done | rfl
         go_frame
        refine ql_want (v:=.agg #[.slice A1 V.length cA,.slice B1 E.length cB]) rfl (by rfl) (fun W hW=>qUpon_ofX (run_load_agg (cs:=#[.slice A1 V.length cA,.slice B1 E.length cB]) rfl rfl (by simp [go_sem]) (by simp [go_sem]) (((uh hb2).ext ((uh hP).extf.trans hW.ext)).whole))) ?_
        go_frame
        iterate 11
         refine ql_want (v:=?_) rfl (by rfl) (fun W hW=>?_) ?_
         rotate_left
         ·go_simp
          first | done | rfl
         go_frame
        refine ql_want (v:=.bool qj) rfl (by rfl) (fun W hW=>?_) ?_
        ·go_simp
         refine (joined25_any A1 B1 V E cA cB x y W ((uh hEo).ext ((uh hP).extf.trans hW.ext)) (uh hl')).mono ?_
         rw [← uh hqj]
         rintro _ _ ⟨h1,h2⟩
         exact ⟨_,h1,rfl,h2⟩
        go_frame
        iterate 2
         refine ql_want (v:=?_) rfl (by rfl) (fun W hW=>?_) ?_
         rotate_left
         ·go_simp
          first | done | rfl
         go_frame
        refine wpQL_nil (fun y5 hxq=>?_)
        replace hP:=hide ((uh hP).ext hxq)
        clear hxq
        refine wpX_done (by kernel_rfl) ?_
        try go_frame
        clear c0 c1 c2 hself hkn6 hjn6 hkb'
        go_wp2_with fail
        refine ⟨nk-(j+1),?_,by have:=uh hfj';have:=uh hj2;omega⟩
        rw [uh hI4_10]
        exact ⟨j+1,qj,(by first | rfl | trivial),(by first | rfl | trivial),(by first | rfl | trivial),(by first | rfl | trivial),(by first | rfl | trivial),(by first | rfl | trivial),(by first | rfl | trivial),(by first | rfl | trivial),(by first | rfl | trivial),(by first | rfl | (show _=Value.int _ _;go_num) | go_num),(by first | rfl | trivial),by have:=uh hj2;omega,(by rw [uh hhn, ← uh hqo', ← uh hy,uh hqj,Bool.false_or]),uh hP,rfl⟩
       ·skip
        have hself:=Keep.refl [] wr
        have hjb':=uh hjb
        refine wp_regionK (P:=Tryz.prog) [] [0,1,2,3,4,5,6,7,8,9,10,11,12,13,14,15,16] [] 0 #[true,true,true,true,true,true,true,true,true,true,true,true,true,true,true,true,true] (by kernel_rfl) (by kernel_rfl) rfl (by rfl) ?_
        iterate 2
         refine ql_want (v:=?_) rfl (by rfl) (fun W hW=>?_) ?_
         rotate_left
         ·go_simp
          first | done | rfl
         go_frame
        iterate 13
         first
         | (refine ql_skip rfl (by rfl) ?_)
         | (refine ql_want (v:=?_) rfl (by rfl) (fun W hW=>?_) ?_;rotate_left;(go_simp;(first | done | rfl)))
         try go_frame
        iterate 2
         refine ql_want (v:=?_) rfl (by rfl) (fun W hW=>?_) ?_
         rotate_left
         ·go_simp
          first | done | rfl
         go_frame
        refine wpQL_nil (fun y5 hxq=>?_)
        replace hP:=hide ((uh hP).ext hxq)
        clear hxq
        refine wpX_done (by kernel_rfl) ?_
        try go_frame
        clear hself
        go_wp2_with fail
        refine ⟨nk-(j+1),?_,by have:=uh hfj';have:=uh hj2;omega⟩
        rw [uh hI4_10]
        exact ⟨j+1,true,(by first | rfl | trivial),(by first | rfl | trivial),(by first | rfl | trivial),(by first | rfl | trivial),(by first | rfl | trivial),(by first | rfl | trivial),(by first | rfl | trivial),(by first | rfl | trivial),(by first | rfl | trivial),(by first | rfl | (show _=Value.int _ _;go_num) | go_num),(by first | rfl | trivial),by have:=uh hj2;omega,(by rw [uh hhn, ← uh hqo',Bool.true_or]),uh hP,rfl⟩
      ·skip
       have hil:¬ (j:Int) < (nk:Int):=by omega
       have hoe:=hide (show qo=hitB E x P by rw [uh hqo',List.take_of_length_le (by rw [← uh hnk'];omega)])
       clear hlt hjn
       have c0:∀ W,Ext wr W→W.cell? ⟨b5,o5+i,none⟩=some (.slice ak nk ck):=fun W hW=>uh hcell W (((uh hP).extf.trans hW).keep [])
       have hself:=Ext.refl wr
       try dsimp only
       repeat ((fail_if_success with_reducible refine wp_reg (id:=13) ?_);first|go_values|go_skip|go_step|go_guarded|go_upon|go_in|go_back)
       with_reducible refine wp_reg (id:=13) ?_
       iterate 7
        refine wpO_want rfl ?_
        go_simp
       refine wpO_done ?_
       try go_frame
       clear hil c0 hself hin5 hib'
       have hkb':=uh hkb2
       cases qf
       ·skip
        try dsimp only
        repeat ((fail_if_success with_reducible refine wp_reg (id:=16) ?_);first|go_values|go_skip|go_step|go_guarded|go_upon|go_in|go_back)
        with_reducible refine wp_reg (id:=16) ?_
        iterate 2
         refine wpO_want rfl ?_
         go_simp
        refine wpO_out (by rfl) ?_
        go_frame
        iterate 2
         refine wpO_want rfl ?_
         go_simp
        refine wpO_done ?_
        try go_frame
        go_wp2_with fail
        refine ⟨n6-(k+1),?_,by have:=uh hfk';have:=uh hk2;omega⟩
        rw [uh hI4_6]
        exact ⟨k+1,false,(by first | rfl | trivial),(by first | rfl | trivial),(by first | rfl | trivial),(by first | rfl | trivial),(by first | rfl | trivial),(by first | rfl | trivial),(by first | rfl | trivial),(by first | rfl | (show _=Value.int _ _;go_num) | go_num),(by first | rfl | trivial),by have:=uh hk2;omega,(by rw [uh hfn, ← uh hqf',Bool.false_and]),uh hP,rfl⟩
       ·skip
        try dsimp only
        repeat ((fail_if_success with_reducible refine wp_reg (id:=16) ?_);first|go_values|go_skip|go_step|go_guarded|go_upon|go_in|go_back)
        with_reducible refine wp_reg (id:=16) ?_
        iterate 5
         refine wpO_want rfl ?_
         go_simp
        refine wpO_done ?_
        try go_frame
        go_wp2_with fail
        refine ⟨n6-(k+1),?_,by have:=uh hfk';have:=uh hk2;omega⟩
        rw [uh hI4_6]
        exact ⟨k+1,qo,(by first | rfl | trivial),(by first | rfl | trivial),(by first | rfl | trivial),(by first | rfl | trivial),(by first | rfl | trivial),(by first | rfl | trivial),(by first | rfl | trivial),(by first | rfl | (show _=Value.int _ _;go_num) | go_num),(by first | rfl | trivial),by have:=uh hk2;omega,(by rw [uh hfn, ← uh hqf', ← uh hx,uh hoe,Bool.true_and]),uh hP,rfl⟩
    ·skip
     have hil:¬ (k:Int) < (n6:Int):=by omega
     have hfe:=hide (show qf=f p by rw [uh hqf',uh hfp,List.take_of_length_le (by rw [← uh hn6];omega)])
     clear hlt hkn
     try dsimp only
     repeat ((fail_if_success with_reducible refine wp_reg (id:=9) ?_);first|go_values|go_skip|go_step|go_guarded|go_upon|go_in|go_back)
     with_reducible refine wp_reg (id:=9) ?_
     iterate 4
      refine wpO_want rfl ?_
      go_simp
     refine wpO_done ?_
     try go_frame
     clear hil
     try dsimp only
     repeat ((fail_if_success with_reducible refine wp_reg (id:=17) ?_);first|go_values|go_skip|go_step|go_guarded|go_upon|go_in|go_back)
     with_reducible refine wp_reg (id:=17) ?_
     refine wpO_want rfl ?_
     go_simp
     refine wpO_done ?_
     try go_frame
     have hib':=uh hib
     cases qf
     ·skip
      go_wp2_with fail
      refine ⟨n5-(i+1),?_,by have:=uh hfm';have:=uh hi2;omega⟩
      rw [uh hI4_2]
      exact ⟨i+1,A7,q,c7,ps,(by first | rfl | trivial),(by first | rfl | trivial),(by first | rfl | trivial),(by first | rfl | trivial),(by first | rfl | trivial),(by first | rfl | (show _=Value.int _ _;go_num) | go_num),(by first | rfl | trivial),by have:=uh hi2;omega,uh hq',(by rw [uh hnx, ← uh hfe];simpa using uh hps'),uh hP,rfl⟩
     ·skip
      have hin5:(i:Int) < (n5:Int):=by have:=uh hi2;omega
      have c0:∀ W,Ext wr W→W.cell? ⟨b5,o5+i,none⟩=some (.slice ak nk ck):=fun W hW=>uh hcell W (((uh hP).extf.trans hW).keep [])
      have hself:=Ext.refl wr
      try dsimp only
      repeat ((fail_if_success with_reducible refine wp_reg (id:=18) ?_);first|go_values|go_skip|go_step|go_guarded|go_upon|go_in|go_back)
      with_reducible refine wp_reg (id:=18) ?_
      iterate 5
       refine wpO_want rfl ?_
       go_simp
      clear c0 hself hin5
      refine (uh hP).build1O 43 #[.slice ak nk ck] rfl (run_buildSl rfl rfl) ?_
      intro bs y5 hQ
      replace hP:=hide hQ
      clear hQ
      go_frame
      refine (uh hP).ap1O (enc:=encSl) (T:=43) (ST:=38) 0 (v:=.slice A7 q c7) (m:=q) (xs:=ps) rfl rfl infoR Tryz.underlying38 one_encSl (fun _=>rfl) (by decide) (by decide) rfl ((ak,nk,ck) : Sl) rfl rfl ((uh hP).get 0 rfl) (by have:=uh hqb;omega) ?_
      intro A9 cA9 y6 hQ
      replace hP:=hide hQ
      clear hQ
      try go_frame
      replace hP:Hid (Sp wo [] wo [] [] [(43,1,.slice A9 (q+1) cA9,q+1,(ps++[((ak,nk,ck) : Sl)]).flatMap encSl)] y6):=hide ((uh hP).sub (List.sublist_append_left _ ([(bs,43,#[.slice ak nk ck])] : List Cl)) (List.Sublist.refl _))
      refine wpO_want rfl ?_
      go_simp
      refine wpO_done ?_
      try go_frame
      go_wp2_with fail
      refine ⟨n5-(i+1),?_,by have:=uh hfm';have:=uh hi2;omega⟩
      rw [uh hI4_2]
      exact ⟨i+1,A9,q+1,cA9,ps++[((ak,nk,ck) : Sl)],(by first | rfl | trivial),(by first | rfl | trivial),(by first | rfl | trivial),(by first | rfl | trivial),(by first | rfl | trivial),(by first | rfl | (show _=Value.int _ _;go_num) | go_num),(by first | rfl | trivial),by have:=uh hi2;omega,(by rw [List.length_append, ← uh hq'];rfl),(by rw [uh hnx, ← uh hfe,if_pos rfl,List.map_append];exact (uh hps').snoc (by rw [← uh hPp];exact uh hnk') (by rw [← uh hPp];exact uh hks')),uh hP,rfl⟩
  ·skip
   have hil:¬ (i:Int) < (n5:Int):=by omega
   have hpe:=hide (show SlsOk wo ps ((CS.filter f).map toL) by have h:=uh hps';rw [List.take_of_length_le (by rw [← uh hn5];omega)] at h;exact h)
   clear hlt hin
   try dsimp only
   repeat ((fail_if_success with_reducible refine wp_reg (id:=5) ?_);first|go_values|go_skip|go_step|go_guarded|go_upon|go_in|go_back)
   with_reducible refine wp_reg (id:=5) ?_
   iterate 4
    refine wpO_want rfl ?_
    go_simp
   refine wpO_done ?_
   try go_frame
   clear hil
   try dsimp only
   repeat ((fail_if_success with_reducible refine wp_reg (id:=19) ?_);first|go_values|go_skip|go_step|go_guarded|go_upon|go_in|go_back)
   with_reducible refine wp_reg (id:=19) ?_
   iterate 2
    refine wpO_want rfl ?_
    go_simp
   refine wpO_done ?_
   try go_frame
   go_wp2_with fail
   refine Sp.leaves0 ?_
   exact ⟨_,results_tmp (t:=4) rfl _ _ _,SsPost.mk (by rw [uh hq'];exact (uh hpe).1) ((uh hpe).ss (uh hP).extf (own_at (enc:=encSl) (by have h:=(uh hP).row 0 rfl;rw [uh hq'] at h;exact h) (fun _=>rfl))) ((uh hxwo).trans (uh hP).extf)⟩
theorem isSep_any (A1 B1:Option Addr) (V:List (Int×Thing)) (E:List ((Int×Int)×Thing)) (cA cB:Nat) (D:Option Addr) (S m cD:Nat) (w:World) (hi:GInv V E) (hV:SlAt encV 3 w A1 V) (hVl:V.length≤100) (hE:SlAt encE 4 w B1 E) (hl:E.length≤4096) (hD:SlAt encI 1 w D (toL S)) (hm:m=(toL S).length) :
  Calls Tryz.prog 28 #[.agg #[.slice A1 V.length cA,.slice B1 E.length cB],.slice D m cD] w fun e w'=>e=.returned (.bool (isepS V E S))∧Ext w w':=by
 obtain ⟨U,hU0⟩ : ∃ U,U=V.map (·.1):=⟨_,rfl⟩
 have hids:=hide (fun (W:World) (hW:Ext w W)=>ids25_any A1 B1 V E cA cB W (hV.ext hW) (show V.length≤4096 by omega))
 have hUl:=hide (show U.length≤100 by rw [hU0,List.length_map];exact hVl)
 have hUv:=hide (show U=toL (vS V) by rw [hU0,toL_vS hi])
 rw [← hU0] at hids
 have hfull:=hide (fun (W:World) (hW:Ext w W)=>full_any A1 B1 V E cA cB D S m cD W hi (hV.ext hW) hVl (hE.ext hW) hl (hD.ext hW) hm)
 obtain ⟨n9,hn90⟩ : ∃ n,n=(fullS V E S).length:=⟨_,rfl⟩
 have hfn:=hide (show n9≤1024 by rw [hn90];exact fullP_le hi S)
 obtain ⟨q,hq0⟩ : ∃ q,q=subS S (vS V):=⟨_,rfl⟩
 have hq:=hide (show q=decide ((minusQ (toL S) U).length=0) by rw [hq0,uh hUv,minusQ_toL,subS_minus])
 obtain ⟨r,hr0⟩ : ∃ r,r=isepS V E S:=⟨_,rfl⟩
 have hr:=hide (show r=(q && decide (1 < n9)) by rw [hr0,hq0,hn90];rfl)
 rw [← hr0]
 obtain ⟨M,hM0⟩ : ∃ M,M=toL S:=⟨_,rfl⟩
 rw [← hM0] at hD hm hq
 have hmb:=hide (show m≤1024 by rw [hm,hM0];exact toL_len S)
 have hn9:=hide hn90
 obtain ⟨FF,hFF0⟩ : ∃ F,F=(fullS V E S).map toL:=⟨_,rfl⟩
 have hFn:=hide (show n9=FF.length by rw [hFF0,List.length_map];exact hn90)
 rw [← hFF0] at hfull
 clear hU0 hM0 hn90 hq0 hr0 hFF0
 have hi':=hide hi
 have hV':=hide hV
 have hVl':=hide hVl
 have hE':=hide hE
 have hl':=hide hl
 have hD':=hide hD
 have hm':=hide hm
 clear hi hV hVl hE hl hD hm
 have hP:=hide (Sp.new w)
 refine callsIn_wide.1 (callsIn_of_wp_marks (n:=0) Tryz.func28 rfl trivial (wpIn_wide.2 ?_))
 simp only [Tryz.ntmps28,List.size_toArray,List.length_cons,List.length_nil,Nat.reduceAdd,Nat.reduceSub,Array.replicate_succ,Array.replicate_zero,List.push_toArray,List.append_toArray,List.nil_append,List.cons_append]
 try dsimp only
 repeat ((fail_if_success with_reducible refine wp_reg (id:=0) ?_);first|go_values|go_skip|go_step|go_guarded|go_upon|go_in|go_back)
 with_reducible refine wp_reg (id:=0) ?_
 refine (uh hP).allocO 30 #[.slice A1 V.length cA,.slice B1 E.length cB] rfl (run_box (v:=.agg #[.slice A1 V.length cA,.slice B1 E.length cB]) rfl rfl) ?_
 intro r2 y1 hQ
 replace hP:=hide hQ
 clear hQ
 refine wpO_want rfl ?_
 go_simp
 refine wpO_done ?_
 try go_frame
 try dsimp only
 repeat ((fail_if_success with_reducible refine wp_reg (id:=1) ?_);first|go_values|go_skip|go_step|go_guarded|go_upon|go_in|go_back)
 with_reducible refine wp_reg (id:=1) ?_
 refine wpO_want rfl ?_
 go_simp
 refine wpO_val rfl (run_load_agg (cs:=#[.slice A1 V.length cA,.slice B1 E.length cB]) rfl rfl (by simp [go_sem]) (by simp [go_sem]) ((uh hP).get 0 rfl).whole) ?_
 go_frame
 refine wpO_want rfl ?_
 go_simp
 have hca:=uh hids y1 (uh hP).extf
 unfold OwI at hca
 obtain ⟨nU,hnU0⟩ : ∃ n,n=U.length:=⟨_,rfl⟩
 rw [← hnU0] at hca
 have hnU:=hide hnU0
 clear hnU0
 refine hca.mono ?_
 clear hca
 rintro _ y2 ⟨A8,c8,rfl,ho,hxc⟩
 have hs8:=hide (own_at (enc:=encI) (xs:=U) (by rw [uh hnU] at ho;exact ho) (fun _=>rfl))
 clear ho
 refine ⟨_,rfl,?_⟩
 replace hP:=hide ((uh hP).ext hxc)
 clear hxc
 try go_frame
 refine wpO_want rfl ?_
 go_simp
 have hca:=withinQ_any D A8 M U m nU cD c8 y2 ((uh hD').ext (uh hP).extf) (uh hs8) (uh hm') (uh hnU) (by have:=uh hmb;omega) (by have:=uh hUl;have:=uh hnU;omega)
 rw [← uh hq] at hca
 refine hca.mono ?_
 clear hca
 rintro _ y3 ⟨rfl,hxc⟩
 refine ⟨_,rfl,?_⟩
 replace hP:=hide ((uh hP).ext hxc)
 clear hxc
 try go_frame
 cases q
 ·skip
  refine wpO_want rfl ?_
  go_simp
  refine wpO_out (by rfl) ?_
  go_frame
  refine wpO_out (by rfl) ?_
  go_frame
  refine wpO_out (by rfl) ?_
  go_frame
  refine wpO_out (by rfl) ?_
  go_frame
  refine wpO_out (by rfl) ?_
  go_frame
  iterate 2
   refine wpO_want rfl ?_
   go_simp
  refine wpO_done ?_
  try go_frame
  go_wp2_with fail
  refine Sp.leaves0 ?_
  exact ⟨_,results_tmp (t:=4) rfl _ _ _,by rw [uh hr];rfl,(uh hP).extf⟩
 ·skip
  refine wpO_want rfl ?_
  go_simp
  refine wpO_val rfl (run_load_agg (cs:=#[.slice A1 V.length cA,.slice B1 E.length cB]) rfl rfl (by simp [go_sem]) (by simp [go_sem]) ((uh hP).get 0 rfl).whole) ?_
  go_frame
  refine wpO_want rfl ?_
  go_simp
  refine wpO_want rfl ?_
  go_simp
  have hca:=uh hfull y3 (uh hP).extf
  unfold SsPost at hca
  rw [← uh hFn] at hca
  refine hca.mono ?_
  clear hca
  rintro _ y4 ⟨A9,c9,rfl,hs0,hxc⟩
  clear hs0
  refine ⟨_,rfl,?_⟩
  replace hP:=hide ((uh hP).ext hxc)
  clear hxc
  try go_frame
  obtain ⟨z,hz⟩ : ∃ z,z=decide (1 < n9):=⟨_,rfl⟩
  have hge:(decide ((n9:Int) ≥ 2))=z:=by rw [hz,decide_eq_decide];omega
  have hz':=hide hz
  have hge2:decide (2≤n9)=z:=by rw [hz,decide_eq_decide];omega
  have hge3:decide ((2:Int)≤(n9:Int))=z:=by rw [hz,decide_eq_decide];omega
  clear hz
  iterate 4
   refine wpO_want rfl ?_
   go_simp
  refine wpO_done ?_
  try go_frame
  go_wp2_with fail
  refine Sp.leaves0 ?_
  exact ⟨_,results_tmp (t:=4) rfl _ _ _,by rw [uh hr, ← uh hz'];first | rfl | (rw [hge2];rfl) | (rw [hge];rfl) | (rw [hge3];rfl),(uh hP).extf⟩
theorem cnt_next {α:Type} (p:α→Bool) (l:List α) {k:Nat} (h:k < l.length) : ((l.take (k+1)).filter p).length=((l.take k).filter p).length+(if p l[k]=true then 1 else 0):=by
 rw [filt_next p l h,List.length_append]
 split <;> rfl
theorem cross_any (A1 B1:Option Addr) (V:List (Int×Thing)) (E:List ((Int×Int)×Thing)) (cA cB:Nat) (D D2:Option Addr) (S T m m2 cD cD2:Nat) (w:World) (hi:GInv V E) (hV:SlAt encV 3 w A1 V) (hVl:V.length≤100) (hE:SlAt encE 4 w B1 E) (hl:E.length≤4096) (hD:SlAt encI 1 w D (toL S)) (hm:m=(toL S).length) (hD2:SlAt encI 1 w D2 (toL T)) (hm2:m2=(toL T).length) :
  Calls Tryz.prog 18 #[.agg #[.slice A1 V.length cA,.slice B1 E.length cB],.slice D m cD,.slice D2 m2 cD2] w fun e w'=>e=.returned (.bool (crossS V E S T))∧Ext w w':=by
 obtain ⟨CS,hCS0⟩ : ∃ CS,CS=partS V E S:=⟨_,rfl⟩
 have hCl:=hide (show CS.length≤1024 by rw [hCS0];exact part_len hi S)
 have hparts:=hide (fun (W:World) (hW:Ext w W)=>parts_any A1 B1 V E cA cB D S m cD W hi (hV.ext hW) hVl (hE.ext hW) hl (hD.ext hW) hm)
 rw [← hCS0] at hparts
 obtain ⟨M,hM0⟩ : ∃ M,M=toL T:=⟨_,rfl⟩
 obtain ⟨f,hf0⟩ : ∃ f:Nat→Bool,f=fun p=>anyB (p &&& T):=⟨_,rfl⟩
 have hf:=hide (show ∀ p,f p=decide (0 < (andR (toL p) M).length) from fun p=>by rw [hf0,hM0,andQ_toL];exact anyB_len)
 obtain ⟨r,hr0⟩ : ∃ r,r=crossS V E S T:=⟨_,rfl⟩
 have hr:=hide (show r=decide (1 < (CS.filter f).length) by rw [hr0,hCS0,hf0];rfl)
 rw [← hr0]
 rw [← hM0] at hD2 hm2
 have hmb:=hide (show m2≤1024 by rw [hm2,hM0];exact toL_len T)
 have hpl:=hide (show ∀ p∈CS,(toL p).length≤1024 from fun p _=>toL_len p)
 obtain ⟨n7,hn70⟩ : ∃ n,n=CS.length:=⟨_,rfl⟩
 have hn7:=hide hn70
 clear hCS0 hM0 hf0 hr0 hn70
 have hi':=hide hi
 have hV':=hide hV
 have hVl':=hide hVl
 have hE':=hide hE
 have hl':=hide hl
 have hD':=hide hD
 have hm':=hide hm
 have hD2':=hide hD2
 have hm2':=hide hm2
 clear hi hV hVl hE hl hD hm hD2 hm2
 have hP:=hide (Sp.new w)
 refine callsIn_wide.1 (callsIn_of_wp_marks (n:=0) Tryz.func18 rfl trivial (wpIn_wide.2 ?_))
 simp only [Tryz.ntmps18,List.size_toArray,List.length_cons,List.length_nil,Nat.reduceAdd,Nat.reduceSub,Array.replicate_succ,Array.replicate_zero,List.push_toArray,List.append_toArray,List.nil_append,List.cons_append]
 try dsimp only
 repeat ((fail_if_success with_reducible refine wp_reg (id:=0) ?_);first|go_values|go_skip|go_step|go_guarded|go_upon|go_in|go_back)
 with_reducible refine wp_reg (id:=0) ?_
 refine (uh hP).allocO 30 #[.slice A1 V.length cA,.slice B1 E.length cB] rfl (run_box (v:=.agg #[.slice A1 V.length cA,.slice B1 E.length cB]) rfl rfl) ?_
 intro r3 y1 hQ
 replace hP:=hide hQ
 clear hQ
 refine wpO_want rfl ?_
 go_simp
 refine wpO_done ?_
 try go_frame
 try dsimp only
 repeat ((fail_if_success with_reducible refine wp_reg (id:=1) ?_);first|go_values|go_skip|go_step|go_guarded|go_upon|go_in|go_back)
 with_reducible refine wp_reg (id:=1) ?_
 refine wpO_val rfl (run_load_agg (cs:=#[.slice A1 V.length cA,.slice B1 E.length cB]) rfl rfl (by simp [go_sem]) (by simp [go_sem]) ((uh hP).get 0 rfl).whole) ?_
 go_frame
 refine wpO_want rfl ?_
 go_simp
 refine wpO_want rfl ?_
 go_simp
 have hca:=uh hparts y1 (uh hP).extf
 unfold SsPost at hca
 rw [List.length_map, ← uh hn7] at hca
 refine hca.mono ?_
 clear hca
 rintro _ y2 ⟨A7,c7,rfl,hs0,hxc⟩
 have hss:=hide hs0
 clear hs0
 refine ⟨_,rfl,?_⟩
 replace hP:=hide ((uh hP).ext hxc)
 clear hxc
 try go_frame
 refine wpO_want rfl ?_
 go_simp
 refine wpO_done ?_
 try go_frame
 try dsimp only
 repeat ((fail_if_success with_reducible refine wp_reg (id:=2) ?_);first|go_values|go_skip|go_step|go_guarded|go_upon|go_in|go_back)
 with_reducible refine wp_reg (id:=2) ?_
 refine wpO_want rfl ?_
 go_simp
 refine wpO_done ?_
 try go_frame
 try dsimp only
 repeat ((fail_if_success with_reducible refine wp_reg (id:=3) ?_);first|go_values|go_skip|go_step|go_guarded|go_upon|go_in|go_back)
 with_reducible refine wp_reg (id:=3) ?_
 refine wpO_want rfl ?_
 go_simp
 refine wpO_done ?_
 try go_frame
 go_wp2_with fail
 have hD2o:=hide ((uh hD2').ext (uh hP).extf)
 have hxwo:=hide (uh hP).extf
 clear hP
 generalize y2=wo at *
 have hP:=hide (Sp.new wo)
 obtain ⟨I2_2,hI2_20⟩ : ∃ I:Nat→Act→World→Prop,I=fun fi a' wr=>∃ (i:Nat), ∃ (k:Nat),a'.tmps.size=31∧a'.tmps.getD 2 undef=.slice D2 m2 cD2∧a'.tmps.getD 7 undef=.slice A7 n7 c7∧a'.tmps.getD 8 undef=.int .i64 (k:Nat)∧a'.tmps.getD 9 undef=.int .i64 (i:Nat)∧a'.defers=[]∧i≤n7∧k=((CS.take i).filter f).length∧fi=n7-i∧Ext wo wr:=⟨_,rfl⟩
 have hI2_2:=hide hI2_20
 clear hI2_20
 refine wp_loop_ix I2_2 (n7-0) ?_ ?_
 ·rw [uh hI2_2];exact ⟨0,0,rfl,rfl,rfl,rfl,rfl,rfl,Nat.zero_le _,rfl,rfl,Ext.refl _⟩
 ·rintro fi ⟨tm,dfs⟩ wr hrel
  rw [uh hI2_2] at hrel
  obtain ⟨i,k,hsz,e2,e7,e8,e9,hdf,hin,hk0,hfm,hPx⟩:=hrel
  obtain ⟨us,rfl⟩ : ∃ us:Nat→Value,tm=#[us 0,us 1,us 2,us 3,us 4,us 5,us 6,us 7,us 8,us 9,us 10,us 11,us 12,us 13,us 14,us 15,us 16,us 17,us 18,us 19,us 20,us 21,us 22,us 23,us 24,us 25,us 26,us 27,us 28,us 29,us 30]:=⟨fun i=>tm.getD i undef,arr_fn hsz⟩
  have h2:us 2=.slice D2 m2 cD2:=e2
  have h7:us 7=.slice A7 n7 c7:=e7
  have h8:us 8=.int .i64 (k:Nat):=e8
  have h9:us 9=.int .i64 (i:Nat):=e9
  have hdf2:dfs=[]:=hdf
  subst hdf2
  clear hdf hsz e2 e7 e8 e9
  simp only [h2,h7,h8,h9]
  clear h2 h7 h8 h9
  clear hP
  have hxwi:=hide hPx
  clear hPx
  generalize wr=wi at *
  have hP:=hide (Sp.new wi)
  have hk0':=hide hk0
  have hfm':=hide hfm
  clear hk0 hfm
  by_cases hlt:i < n7
  ·skip
   have hil:(i:Int) < (n7:Int):=by omega
   have hi2:=hide hlt
   have hiC:i < CS.length:=by rw [← uh hn7];exact hlt
   have hib:(i:Int)≤1024:=by have:=uh hCl;have:=uh hn7;omega
   have hkb:(k:Int)≤1024:=by have h:=uh hk0';have h2:=List.length_filter_le f (CS.take i);rw [← h,List.length_take] at h2;have:=uh hCl;omega
   obtain ⟨b5,o5,ak,ck,nk,rfl,hnk,hck,hks⟩:=(uh hss).at1 (i:=i) (by rw [List.length_map];exact hiC)
   have hpl9:=uh hpl _ (List.getElem_mem hiC)
   rw [List.getElem_map] at hnk hks
   have hcn:=cnt_next f CS hiC
   have hfv:=uh hf CS[i]
   generalize CS[i]=p at *
   obtain ⟨P,hP0⟩ : ∃ P,P=toL p:=⟨_,rfl⟩
   rw [← hP0] at hnk hks hpl9 hfv
   obtain ⟨j,hj0⟩ : ∃ j,j=f p:=⟨_,rfl⟩
   rw [← hj0] at hcn hfv
   have hnk':=hide hnk
   have hkb2:=hide (show nk≤1024 by rw [hnk];exact hpl9)
   have hks':=hide (hks.ext (uh hxwi))
   obtain ⟨n4,hn40⟩ : ∃ n,n=(andR P M).length:=⟨_,rfl⟩
   rw [← hn40] at hfv
   have hn4:=hide hn40
   have hgt:(decide ((n4:Int) > 0))=j:=by rw [hfv,decide_eq_decide];omega
   have hgt2:decide (0 < n4)=j:=hfv.symm
   have hgt3:(decide ((0:Int) < (n4:Int)))=j:=by rw [hfv,decide_eq_decide];omega
   have hcn':=hide hcn
   have c0:∀ W,Ext wi W→W.cell? ⟨b5,o5+i,none⟩=some (.slice ak nk ck):=fun W hW=>hck W (((uh hxwi).trans hW).keep [])
   have hself:=Ext.refl wi
   clear hck hks hnk hlt hin hpl9 hfv hiC hcn hn40 hP0 hj0
   try dsimp only
   repeat ((fail_if_success with_reducible refine wp_reg (id:=4) ?_);first|go_values|go_skip|go_step|go_guarded|go_upon|go_in|go_back)
   with_reducible refine wp_reg (id:=4) ?_
   iterate 4
    refine wpO_want rfl ?_
    go_simp
   refine wpO_done ?_
   try go_frame
   clear hil
   have hin7:(i:Int) < (n7:Int):=by have:=uh hi2;omega
   try dsimp only
   repeat ((fail_if_success with_reducible refine wp_reg (id:=6) ?_);first|go_values|go_skip|go_step|go_guarded|go_upon|go_in|go_back)
   with_reducible refine wp_reg (id:=6) ?_
   iterate 5
    refine wpO_want rfl ?_
    go_simp
   clear c0 hself hin7
   refine wpO_want rfl ?_
   go_simp
   have hca:=andQ_any ak D2 P M nk m2 ck cD2 wi ((uh hks').ext (uh hP).extf) (((uh hD2o).ext (uh hxwi)).ext (uh hP).extf) (uh hnk') (uh hm2') (by have:=uh hkb2;omega) (by have:=uh hmb;omega)
   unfold OwI at hca
   rw [← uh hn4] at hca
   refine hca.mono ?_
   clear hca
   rintro _ y3 ⟨A4,c4,rfl,ho,hxc⟩
   clear ho
   refine ⟨_,rfl,?_⟩
   replace hP:=hide ((uh hP).ext hxc)
   clear hxc
   try go_frame
   iterate 2
    refine wpO_want rfl ?_
    go_simp
   refine wpO_done ?_
   try go_frame
   try rw [hgt2]
   try rw [hgt]
   try rw [hgt3]
   clear hgt hgt2 hgt3
   cases j
   ·skip
    go_wp2_with fail
    refine ⟨n7-(i+1),?_,by have:=uh hfm';have:=uh hi2;omega⟩
    rw [uh hI2_2]
    exact ⟨i+1,k,(by first | rfl | trivial),(by first | rfl | trivial),(by first | rfl | trivial),(by first | rfl | trivial),(by first | rfl | (show _=Value.int _ _;go_num) | go_num),(by first | rfl | trivial),by have:=uh hi2;omega,(by have h:=uh hcn';rw [h, ← uh hk0'];rfl),rfl,(uh hxwi).trans (uh hP).extf⟩
   ·skip
    go_wp2_with fail
    refine ⟨n7-(i+1),?_,by have:=uh hfm';have:=uh hi2;omega⟩
    rw [uh hI2_2]
    exact ⟨i+1,k+1,(by first | rfl | trivial),(by first | rfl | trivial),(by first | rfl | trivial),(by first | rfl | (show _=Value.int _ _;go_num) | go_num),(by first | rfl | (show _=Value.int _ _;go_num) | go_num),(by first | rfl | trivial),by have:=uh hi2;omega,(by have h:=uh hcn';rw [h, ← uh hk0'];rfl),rfl,(uh hxwi).trans (uh hP).extf⟩
  ·skip
   have hil:¬ (i:Int) < (n7:Int):=by omega
   have hkr:decide (1 < k)=r:=by rw [uh hr,uh hk0',List.take_of_length_le (by rw [← uh hn7];omega)]
   have hkr2:decide ((k:Int) > 1)=r:=by rw [← hkr,decide_eq_decide];omega
   have hkr3:decide ((1:Int) < (k:Int))=r:=by rw [← hkr,decide_eq_decide];omega
   clear hlt hin
   try dsimp only
   repeat ((fail_if_success with_reducible refine wp_reg (id:=4) ?_);first|go_values|go_skip|go_step|go_guarded|go_upon|go_in|go_back)
   with_reducible refine wp_reg (id:=4) ?_
   iterate 4
    refine wpO_want rfl ?_
    go_simp
   refine wpO_done ?_
   try go_frame
   clear hil
   try dsimp only
   repeat ((fail_if_success with_reducible refine wp_reg (id:=8) ?_);first|go_values|go_skip|go_step|go_guarded|go_upon|go_in|go_back)
   with_reducible refine wp_reg (id:=8) ?_
   iterate 3
    refine wpO_want rfl ?_
    go_simp
   refine wpO_done ?_
   try go_frame
   go_wp2_with fail
   refine Sp.leaves0 ?_
   exact ⟨_,results_tmp (t:=6) rfl _ _ _,by first | rfl | (rw [hkr];rfl) | (rw [hkr2];rfl) | (rw [hkr3];rfl),(uh hxwo).trans ((uh hxwi).trans (uh hP).extf)⟩
theorem seps_any (A1 B1:Option Addr) (V:List (Int×Thing)) (E:List ((Int×Int)×Thing)) (cA cB:Nat) (w:World) (hi:GInv V E) (hV:SlAt encV 3 w A1 V) (hVl:V.length≤9) (hE:SlAt encE 4 w B1 E) (hl:E.length≤4096) :
  Calls Tryz.prog 16 #[.agg #[.slice A1 V.length cA,.slice B1 E.length cB]] w (SsPost w ((sepL V E).map toL)):=by
 rw [sep_toL hi]
 obtain ⟨U,hU0⟩ : ∃ U,U=V.map (·.1):=⟨_,rfl⟩
 have hids:=hide (fun (W:World) (hW:Ext w W)=>ids25_any A1 B1 V E cA cB W (hV.ext hW) (show V.length≤4096 by omega))
 have hUl:=hide (show U.length≤9 by rw [hU0,List.length_map];exact hVl)
 have hfix:=hide (show ∀ K∈subsR U,toL (fromS K)=K from fun K hK=>by rw [hU0] at hK;exact sub_fix hi ((mem_subsR _).1 hK))
 rw [← hU0] at hids ⊢
 obtain ⟨f,hf0⟩ : ∃ f:List Int→Bool,f=fun K=>isepS V E (fromS K):=⟨_,rfl⟩
 have hf:=hide hf0
 rw [← hf0]
 have hKl:=hide (show ∀ K∈subsR U,K.length≤12 from fun K hK=>subs_mem_len (L:=U) (i:=U.length) (by have:=uh hUl;omega) (by rw [List.take_length];exact hK))
 have hsm:=subs_small U (i:=U.length) (by have:=uh hUl;omega)
 rw [List.take_length] at hsm
 have hsub:=hide (fun (A:Option Addr) (n c:Nat) (W:World) (hA:SlAt encI 1 W A U) (hn:n=U.length)=>subsQ_any A U n c W hA hn (by have:=uh hUl;omega))
 obtain ⟨SS,hSS⟩ : ∃ l,l=subsR U:=⟨_,rfl⟩
 rw [← hSS] at hsm hKl hfix hsub ⊢
 obtain ⟨n3,hn30⟩ : ∃ n,n=SS.length:=⟨_,rfl⟩
 have hn3:=hide hn30
 have hn3b:=hide (show n3≤4096 by rw [hn30];exact hsm)
 clear hU0 hSS hn30 hsm hf0
 have hi':=hide hi
 have hV':=hide hV
 have hVl':=hide hVl
 have hE':=hide hE
 have hl':=hide hl
 clear hi hV hVl hE hl
 have hP:=hide (Sp.new w)
 refine callsIn_wide.1 (callsIn_of_wp_marks (n:=0) Tryz.func16 rfl trivial (wpIn_wide.2 ?_))
 simp only [Tryz.ntmps16,List.size_toArray,List.length_cons,List.length_nil,Nat.reduceAdd,Nat.reduceSub,Array.replicate_succ,Array.replicate_zero,List.push_toArray,List.append_toArray,List.nil_append,List.cons_append]
 try dsimp only
 repeat ((fail_if_success with_reducible refine wp_reg (id:=0) ?_);first|go_values|go_skip|go_step|go_guarded|go_upon|go_in|go_back)
 with_reducible refine wp_reg (id:=0) ?_
 refine (uh hP).allocO 30 #[.slice A1 V.length cA,.slice B1 E.length cB] rfl (run_box (v:=.agg #[.slice A1 V.length cA,.slice B1 E.length cB]) rfl rfl) ?_
 intro r1 y1 hQ
 replace hP:=hide hQ
 clear hQ
 refine wpO_want rfl ?_
 go_simp
 refine wpO_done ?_
 try go_frame
 try dsimp only
 repeat ((fail_if_success with_reducible refine wp_reg (id:=1) ?_);first|go_values|go_skip|go_step|go_guarded|go_upon|go_in|go_back)
 with_reducible refine wp_reg (id:=1) ?_
 refine wpO_val rfl (run_load_agg (cs:=#[.slice A1 V.length cA,.slice B1 E.length cB]) rfl rfl (by simp [go_sem]) (by simp [go_sem]) ((uh hP).get 0 rfl).whole) ?_
 go_frame
 refine wpO_want rfl ?_
 go_simp
 have hca:=uh hids y1 (uh hP).extf
 unfold OwI at hca
 obtain ⟨nU,hnU0⟩ : ∃ n,n=U.length:=⟨_,rfl⟩
 rw [← hnU0] at hca
 have hnU:=hide hnU0
 clear hnU0
 refine hca.mono ?_
 clear hca
 rintro _ y2 ⟨A8,c8,rfl,ho,hxc⟩
 have hs8:=hide (own_at (enc:=encI) (xs:=U) (by rw [uh hnU] at ho;exact ho) (fun _=>rfl))
 clear ho
 refine ⟨_,rfl,?_⟩
 replace hP:=hide ((uh hP).ext hxc)
 clear hxc
 try go_frame
 refine wpO_want rfl ?_
 go_simp
 have hca:=uh hsub A8 nU c8 y2 (uh hs8) (uh hnU)
 unfold SsPost at hca
 rw [← uh hn3] at hca
 refine hca.mono ?_
 clear hca
 rintro _ y3 ⟨A3,c3,rfl,hs0,hxc⟩
 have hss:=hide hs0
 clear hs0
 refine ⟨_,rfl,?_⟩
 replace hP:=hide ((uh hP).ext hxc)
 clear hxc
 try go_frame
 refine wpO_want rfl ?_
 go_simp
 refine wpO_done ?_
 try go_frame
 try dsimp only
 repeat ((fail_if_success with_reducible refine wp_reg (id:=2) ?_);first|go_values|go_skip|go_step|go_guarded|go_upon|go_in|go_back)
 with_reducible refine wp_reg (id:=2) ?_
 refine wpO_want rfl ?_
 go_simp
 refine wpO_done ?_
 try go_frame
 try dsimp only
 repeat ((fail_if_success with_reducible refine wp_reg (id:=3) ?_);first|go_values|go_skip|go_step|go_guarded|go_upon|go_in|go_back)
 with_reducible refine wp_reg (id:=3) ?_
 refine wpO_want rfl ?_
 go_simp
 refine wpO_done ?_
 try go_frame
 go_wp2_with fail
 have hEo:=hide ((uh hE').ext (uh hP).extf)
 have hVo:=hide ((uh hV').ext (uh hP).extf)
 have hb1:=hide ((uh hP).get 0 rfl)
 have hxwo:=hide (uh hP).extf
 clear hP
 generalize y3=wo at *
 have hP:=hide (Sp.new wo)
 replace hP:Hid (Sp wo [] wo [] [] [(43,1,.slice none 0 0,0,([] : List Sl).flatMap encSl)] wo):=hide ((uh hP).nil 43 1)
 obtain ⟨I3_2,hI3_20⟩ : ∃ I:Nat→Act→World→Prop,I=fun fi a' wr=>∃ (i:Nat), ∃ (A4:Option Addr), ∃ (q:Nat), ∃ (c4:Nat), ∃ (ps:List Sl),a'.tmps.size=29∧a'.tmps.getD 1 undef=.pointer (some ⟨r1,0,none⟩)∧a'.tmps.getD 3 undef=.slice A3 n3 c3∧a'.tmps.getD 4 undef=.slice A4 q c4∧a'.tmps.getD 5 undef=.int .i64 (i:Nat)∧a'.defers=[]∧i≤n3∧q=ps.length∧SlsOk wo ps ((SS.take i).filter f)∧Sp wo [] wo [] [] [(43,1,.slice A4 q c4,q,ps.flatMap encSl)] wr∧fi=n3-i:=⟨_,rfl⟩
 have hI3_2:=hide hI3_20
 clear hI3_20
 refine wp_loop_ix I3_2 (n3-0) ?_ ?_
 ·rw [uh hI3_2];exact ⟨0,none,0,0,[],rfl,rfl,rfl,rfl,rfl,rfl,Nat.zero_le _,rfl,⟨rfl,fun i h=>by simp at h⟩,uh hP,rfl⟩
 ·rintro fi ⟨tm,dfs⟩ wr hrel
  rw [uh hI3_2] at hrel
  obtain ⟨i,A4,q,c4,ps,hsz,e1,e3,e4,e5,hdf,hin,hq,hps,hPr,hfm⟩:=hrel
  obtain ⟨us,rfl⟩ : ∃ us:Nat→Value,tm=#[us 0,us 1,us 2,us 3,us 4,us 5,us 6,us 7,us 8,us 9,us 10,us 11,us 12,us 13,us 14,us 15,us 16,us 17,us 18,us 19,us 20,us 21,us 22,us 23,us 24,us 25,us 26,us 27,us 28]:=⟨fun i=>tm.getD i undef,arr_fn hsz⟩
  have h1:us 1=.pointer (some ⟨r1,0,none⟩):=e1
  have h3:us 3=.slice A3 n3 c3:=e3
  have h4:us 4=.slice A4 q c4:=e4
  have h5:us 5=.int .i64 (i:Nat):=e5
  have hdf2:dfs=[]:=hdf
  subst hdf2
  clear hdf hsz e1 e3 e4 e5
  simp only [h1,h3,h4,h5]
  clear h1 h3 h4 h5
  clear hP
  have hP:=hide hPr
  clear hPr
  have hq':=hide hq
  have hps':=hide hps
  have hfm':=hide hfm
  clear hq hps hfm
  by_cases hlt:i < n3
  ·skip
   have hil:(i:Int) < (n3:Int):=by omega
   have hi2:=hide hlt
   have hiC:i < SS.length:=by rw [← uh hn3];exact hlt
   have hib:(i:Int)≤4096:=by have:=uh hn3b;omega
   have hqb:=hide (show q≤4096 by rw [uh hq',(uh hps').1];exact Nat.le_trans (List.length_filter_le _ _) (by rw [List.length_take];have:=uh hn3b;have:=uh hn3;omega))
   obtain ⟨b5,o5,ak,ck,nk,rfl,hnk,hck,hks⟩:=(uh hss).at1 hiC
   have hnx0:=filt_next f SS hiC
   have hKb:=uh hKl _ (List.getElem_mem hiC)
   have hKf:=uh hfix _ (List.getElem_mem hiC)
   have hfv:=congrFun (uh hf) SS[i]
   generalize SS[i]=K at *
   obtain ⟨j,hj0⟩ : ∃ j,j=f K:=⟨_,rfl⟩
   rw [← hj0] at hnx0 hfv
   have hfv':=hide hfv
   have hnk':=hide hnk
   have hkb:=hide (show nk≤12 by rw [hnk];exact hKb)
   have hKf':=hide hKf
   have hks':=hide hks
   have hcell:=hide hck
   have hnx:=hide hnx0
   clear hck hks hnk hnx0 hlt hin hKb hKf hfv hj0 hiC
   try dsimp only
   repeat ((fail_if_success with_reducible refine wp_reg (id:=4) ?_);first|go_values|go_skip|go_step|go_guarded|go_upon|go_in|go_back)
   with_reducible refine wp_reg (id:=4) ?_
   iterate 4
    refine wpO_want rfl ?_
    go_simp
   refine wpO_done ?_
   try go_frame
   clear hil
   go_wp2_with fail
   have hin3:(i:Int) < (n3:Int):=by have:=uh hi2;omega
   have c0:∀ W,Keep [] wr W→W.cell? ⟨b5,o5+i,none⟩=some (.slice ak nk ck):=fun W hW=>uh hcell W (((uh hP).extf.keep []).trans hW)
   have hself:=Keep.refl [] wr
   refine wp_regionK (P:=Tryz.prog) [] [0,1,2,3,4,5] [] 0 #[true,true,true,true,true,true] (by kernel_rfl) (by kernel_rfl) rfl (by rfl) ?_
   refine ql_want (v:=.agg #[.slice A1 V.length cA,.slice B1 E.length cB]) rfl (by rfl) (fun W hW=>qUpon_ofX (run_load_agg (cs:=#[.slice A1 V.length cA,.slice B1 E.length cB]) rfl rfl (by simp [go_sem]) (by simp [go_sem]) (((uh hb1).ext ((uh hP).extf.trans hW.ext)).whole))) ?_
   go_frame
   iterate 4
    refine ql_want (v:=?_) rfl (by rfl) (fun W hW=>?_) ?_
    rotate_left
    ·go_simp
     first | done | rfl
    go_frame
   refine ql_want (v:=.bool j) rfl (by rfl) (fun W hW=>?_) ?_
   ·go_simp
    refine (isSep_any A1 B1 V E cA cB ak (fromS K) nk ck W (uh hi') ((uh hVo).ext ((uh hP).extf.trans hW.ext)) (by have:=uh hVl';omega) ((uh hEo).ext ((uh hP).extf.trans hW.ext)) (uh hl') (by rw [uh hKf'];exact (uh hks').ext ((uh hP).extf.trans hW.ext)) (by rw [uh hKf'];exact uh hnk')).mono ?_
    rw [← uh hfv']
    rintro _ _ ⟨h1,h2⟩
    exact ⟨_,h1,rfl,h2⟩
   go_frame
   refine wpQL_nil (fun y4 hxq=>?_)
   replace hP:=hide ((uh hP).ext hxq)
   clear hxq
   refine wpX_done (by kernel_rfl) ?_
   try go_frame
   clear c0 hself hin3
   cases j
   ·skip
    go_wp2_with fail
    refine ⟨n3-(i+1),?_,by have:=uh hfm';have:=uh hi2;omega⟩
    rw [uh hI3_2]
    exact ⟨i+1,A4,q,c4,ps,(by first | rfl | trivial),(by first | rfl | trivial),(by first | rfl | trivial),(by first | rfl | trivial),(by first | rfl | (show _=Value.int _ _;go_num) | go_num),(by first | rfl | trivial),by have:=uh hi2;omega,uh hq',(by rw [uh hnx];simpa using uh hps'),uh hP,rfl⟩
   ·skip
    have hin3:(i:Int) < (n3:Int):=by have:=uh hi2;omega
    have c0:∀ W,Ext y4 W→W.cell? ⟨b5,o5+i,none⟩=some (.slice ak nk ck):=fun W hW=>uh hcell W (((uh hP).extf.trans hW).keep [])
    have hself:=Ext.refl y4
    try dsimp only
    repeat ((fail_if_success with_reducible refine wp_reg (id:=7) ?_);first|go_values|go_skip|go_step|go_guarded|go_upon|go_in|go_back)
    with_reducible refine wp_reg (id:=7) ?_
    iterate 5
     refine wpO_want rfl ?_
     go_simp
    clear c0 hself hin3
    refine (uh hP).build1O 43 #[.slice ak nk ck] rfl (run_buildSl rfl rfl) ?_
    intro bs y5 hQ
    replace hP:=hide hQ
    clear hQ
    go_frame
    refine (uh hP).ap1O (enc:=encSl) (T:=43) (ST:=38) 0 (v:=.slice A4 q c4) (m:=q) (xs:=ps) rfl rfl infoR Tryz.underlying38 one_encSl (fun _=>rfl) (by decide) (by decide) rfl ((ak,nk,ck) : Sl) rfl rfl ((uh hP).get 0 rfl) (by have:=uh hqb;omega) ?_
    intro A9 cA9 y6 hQ
    replace hP:=hide hQ
    clear hQ
    try go_frame
    replace hP:Hid (Sp wo [] wo [] [] [(43,1,.slice A9 (q+1) cA9,q+1,(ps++[((ak,nk,ck) : Sl)]).flatMap encSl)] y6):=hide ((uh hP).sub (List.sublist_append_left _ ([(bs,43,#[.slice ak nk ck])] : List Cl)) (List.Sublist.refl _))
    refine wpO_want rfl ?_
    go_simp
    refine wpO_done ?_
    try go_frame
    go_wp2_with fail
    refine ⟨n3-(i+1),?_,by have:=uh hfm';have:=uh hi2;omega⟩
    rw [uh hI3_2]
    exact ⟨i+1,A9,q+1,cA9,ps++[((ak,nk,ck) : Sl)],(by first | rfl | trivial),(by first | rfl | trivial),(by first | rfl | trivial),(by first | rfl | trivial),(by first | rfl | (show _=Value.int _ _;go_num) | go_num),(by first | rfl | trivial),by have:=uh hi2;omega,(by rw [List.length_append, ← uh hq'];rfl),(by rw [uh hnx];have h:=(uh hps').snoc (p:=((ak,nk,ck) : Sl)) (uh hnk') (uh hks');simpa using h),uh hP,rfl⟩
  ·skip
   have hil:¬ (i:Int) < (n3:Int):=by omega
   have hpe:=hide (show SlsOk wo ps (SS.filter f) by have h:=uh hps';rw [List.take_of_length_le (by rw [← uh hn3];omega)] at h;exact h)
   clear hlt hin
   try dsimp only
   repeat ((fail_if_success with_reducible refine wp_reg (id:=4) ?_);first|go_values|go_skip|go_step|go_guarded|go_upon|go_in|go_back)
   with_reducible refine wp_reg (id:=4) ?_
   iterate 4
    refine wpO_want rfl ?_
    go_simp
   refine wpO_done ?_
   try go_frame
   clear hil
   try dsimp only
   repeat ((fail_if_success with_reducible refine wp_reg (id:=8) ?_);first|go_values|go_skip|go_step|go_guarded|go_upon|go_in|go_back)
   with_reducible refine wp_reg (id:=8) ?_
   iterate 2
    refine wpO_want rfl ?_
    go_simp
   refine wpO_done ?_
   try go_frame
   go_wp2_with fail
   refine Sp.leaves0 ?_
   exact ⟨_,results_tmp (t:=2) rfl _ _ _,SsPost.mk (by rw [uh hq'];exact (uh hpe).1) ((uh hpe).ss (uh hP).extf (own_at (enc:=encSl) (by have h:=(uh hP).row 0 rfl;rw [uh hq'] at h;exact h) (fun _=>rfl))) ((uh hxwo).trans (uh hP).extf)⟩
end Go.Proofs.YtmokciekndllpaaGreatDoor
namespace Go.Proofs.YtmokciekndllpaaGreatDoor
open Go Go.RowKit
attribute [local go_sem] qUpon lUpon
theorem tmod64 (n:Nat) : ((n:Nat) : Int).tmod 64=((n % 64:Nat) : Int):=by
 rw [Int.tmod_eq_emod_of_nonneg (by omega)]
 omega
theorem bit_at (N j:Nat) : (bits .and .u64 (wd N (j / 64) / 2 ^ (j % 64)) 1 == 1)=N.testBit j:=by
 have e:wd N (j / 64) / 2 ^ (j % 64)=((wdN N (j / 64) / 2 ^ (j % 64) : Nat) : Int):=by
  unfold wd
  simp
 have hlt:wdN N (j / 64) / 2 ^ (j % 64) < 2 ^ 64:=Nat.lt_of_le_of_lt (Nat.div_le_self _ _) (wdN_lt _ _)
 rw [e,show (1:Int)=((1:Nat) : Int) from rfl,u64_and_nat _ _ hlt (by decide)]
 have h:=wdN_bit N (j / 64) (j % 64)
 rw [show 64*(j / 64)+j % 64=j by omega,decide_eq_true (show j % 64 < 64 by omega),Bool.true_and] at h
 rw [← h,Nat.testBit_eq_decide_div_mod_eq,Nat.and_one_is_mod,Bool.eq_iff_iff]
 simp only [beq_iff_eq,decide_eq_true_eq]
 omega
set_option maxHeartbeats 4000000 in
theorem to01_any (N:Nat) (w:World) :
  Calls Tryz.prog 19 #[.agg (setC N)] w fun e w'=>∃ A c,e=.returned (.slice A (toL N).length c)∧w'.ownsRow w.heap.size 3 1 (.slice A (toL N).length c) (toL N).length ((toL N).flatMap encI)∧Ext w w':=by
 have hB:=hide (Blk.new w 25 (setC N))
 have ho:=World.ownsRow_made (base:=w.heap.size+1) (e:=3) (size:=1) (w.alloc (.cells (setC N) 25)) #[] 0 (by rw [World.size_alloc];omega) (by decide) rfl
 rw [World.size_alloc] at ho
 have ho':=hide ho
 have hs1:=hide (World.size_alloc w (.cells (setC N) 25))
 clear ho
 go_enter Tryz.func19,Tryz.ntmps19
 go_wp2_with fail
 have hx0:=hide (ext_self1 w (.cells (setC N) 25))
 generalize w.alloc (.cells (setC N) 25)=w1 at *
 generalize hgw:w.heap.size=gw at *
 have hxs:=hide (ext_self1 w1 (.cells #[] 3))
 go_loopw [3,4] (fun l i wr=>∃ (k:Nat) (vs:Value) (o:List Int),k≤1024∧i=.int .i64 k∧vs=l∧o=toK N k∧wr.ownsRow (gw+1) 3 1 vs o.length (o.flatMap encI)∧Ext w1 wr) (fun _ i _=>1024-(intOf i).toNat)
 case atStart=>exact ⟨0,_,[],by omega,rfl,rfl,rfl,uh ho',uh hxs⟩
 case round =>
  obtain ⟨k,vs,o,hk,rfl,hl3,ho,hown,hx⟩:=hrel
  subst hl3
  have hown':=hide hown
  have hx':=hide hx
  have hst:=hide (toK_next N k)
  have hol':=hide (show o.length≤100000 by
   rw [ho]
   have:=toK_le N k
   omega)
  have hBr:=(uh hB).ext hx
  have ho2:=hide ho
  clear hown hx ho ho' hxs
  have hself:=Ext.refl wr
  by_cases hlt:k < 1024
  ·have c0:=cell_of hBr hlt
   obtain ⟨h1,hw,h6,h7,h8⟩:=idx_facts hlt
   have h9:=tmod64 k
   have h10:=bit_at N k
   clear hBr
   rcases hb:N.testBit k
   ·rw [hb] at h10
    have hb':=hide hb
    clear hb
    go_wp2_with fail
    go_roundw
    case rel=>exact ⟨k+1,_,o,by omega,by go_num,rfl,by rw [uh hst,uh hb',uh ho2];rfl,uh hown',uh hx'⟩
    case measure=>simp [intOf];omega
   ·rw [hb] at h10
    have hb':=hide hb
    clear hb
    go_wp2_with (at_builtin;refine wp_ap infoI Tryz.underlying43 one_encI (fun _=>rfl) (by decide) (by decide) wr rfl _ _ rfl (gw+1) vs _ (o) ((k:Int)) rfl _ _ (by rfl) rfl (by rfl) (by rfl) (uh hown') (uh hol') (by rw [← uh hs1];exact Below.size (uh hx')) ?_;intro A2 k1 w4 ho4 hg4;have hx4:=hide (app_step2 (uh hx') (uh hown') (ext_self1 _ _) hg4 (Nat.le_of_eq (uh hs1)));have ho4':=hide ho4;clear ho4 hg4)
    go_roundw
    case rel=>exact ⟨k+1,_,o++[(k:Int)],by omega,by go_num,rfl,by rw [uh hst,uh hb',uh ho2];rfl,by have h:=uh ho4';simpa using h,uh hx4⟩
    case measure=>simp [intOf];omega
  ·have hke:k=1024:=by omega
   subst hke
   have hoN:=uh ho2
   subst hoN
   obtain ⟨A1,c1,rfl⟩:=own_slice (uh hown')
   clear hBr
   go_wp2_with fail
   go_ret
   refine ⟨A1,c1,rfl,?_,(uh hx0).trans (uh hx')⟩
   have h:=uh hown'
   exact own_base_le h (by omega)
end Go.Proofs.YtmokciekndllpaaGreatDoor
namespace Go.Proofs.YtmokciekndllpaaGreatDoor
open Go Go.RowKit Go.Shelf
attribute [local go_sem] qUpon lUpon
attribute [local irreducible] wpO wpX wpQL
theorem lists01_any (A:Option Addr) (l:List Nat) (n cA:Nat) (w:World) (hA:SlAt encS 16 w A l) (hn:n=l.length) (hl:n≤4096) :
  Calls Tryz.prog 21 #[.slice A n cA] w (SsPost w (l.map toL)):=by
 have hA':=hide hA
 have hn':=hide hn
 have hl':=hide hl
 clear hA hn hl
 have hP:=hide (Sp.new w)
 refine callsIn_wide.1 (callsIn_of_wp_marks (n:=0) Tryz.func21 rfl trivial (wpIn_wide.2 ?_))
 simp only [Tryz.ntmps21,List.size_toArray,List.length_cons,List.length_nil,Nat.reduceAdd,Nat.reduceSub,Array.replicate_succ,Array.replicate_zero,List.push_toArray,List.append_toArray,List.nil_append,List.cons_append]
 replace hP:Hid (Sp w [] w [] [] [(43,1,.slice none 0 0,0,([] : List Sl).flatMap encSl)] w):=hide ((uh hP).nil 43 1)
 try dsimp only
 repeat ((fail_if_success with_reducible refine wp_reg (id:=1) ?_);first|go_values|go_skip|go_step|go_guarded|go_upon|go_in|go_back)
 with_reducible refine wp_reg (id:=1) ?_
 refine wpO_want rfl ?_
 go_simp
 refine wpO_done ?_
 try go_frame
 try dsimp only
 repeat ((fail_if_success with_reducible refine wp_reg (id:=2) ?_);first|go_values|go_skip|go_step|go_guarded|go_upon|go_in|go_back)
 with_reducible refine wp_reg (id:=2) ?_
 refine wpO_want rfl ?_
 go_simp
 refine wpO_done ?_
 try go_frame
 go_wp2_with fail
 have hPJ:Hid (Sp w [] w [] [] ((43,1,.slice none 0 0,0,(([] : List (Sl×List Int)).map (·.1)).flatMap encSl)::(([] : List (Sl×List Int)).map rowJ)) w):=hide (uh hP)
 replace hP:=hPJ
 clear hPJ
 obtain ⟨I0_2,hI0_20⟩ : ∃ I:Nat→Act→World→Prop,I=fun fi a' wr=>∃ (i:Nat), ∃ (A6:Option Addr), ∃ (q:Nat), ∃ (c6:Nat), ∃ (J:List (Sl×List Int)),a'.tmps.size=20∧a'.tmps.getD 0 undef=.slice A n cA∧a'.tmps.getD 3 undef=.slice A6 q c6∧a'.tmps.getD 4 undef=.int .i64 (i:Nat)∧a'.defers=[]∧i≤n∧q=J.length∧J.map (·.2)=(l.take i).map toL∧(∀ p∈J,p.1.2.1=p.2.length)∧Sp w [] w [] [] ((43,1,.slice A6 q c6,q,(J.map (·.1)).flatMap encSl)::(J.map rowJ)) wr∧fi=n-i:=⟨_,rfl⟩
 have hI0_2:=hide hI0_20
 clear hI0_20
 refine wp_loop_ix I0_2 (n-0) ?_ ?_
 ·rw [uh hI0_2];exact ⟨0,none,0,0,[],rfl,rfl,rfl,rfl,rfl,Nat.zero_le _,rfl,rfl,(fun p hp=>by cases hp),uh hP,rfl⟩
 ·rintro fi ⟨tm,dfs⟩ wr hrel
  rw [uh hI0_2] at hrel
  obtain ⟨i,A6,q,c6,J,hsz,e0,e3,e4,hdf,hin,hq,hJ,hJl,hPr,hfm⟩:=hrel
  obtain ⟨us,rfl⟩ : ∃ us:Nat→Value,tm=#[us 0,us 1,us 2,us 3,us 4,us 5,us 6,us 7,us 8,us 9,us 10,us 11,us 12,us 13,us 14,us 15,us 16,us 17,us 18,us 19]:=⟨fun i=>tm.getD i undef,arr_fn hsz⟩
  have h0:us 0=.slice A n cA:=e0
  have h3:us 3=.slice A6 q c6:=e3
  have h4:us 4=.int .i64 (i:Nat):=e4
  have hdf2:dfs=[]:=hdf
  subst hdf2
  clear hdf hsz e0 e3 e4
  simp only [h0,h3,h4]
  clear h0 h3 h4
  clear hP
  have hP:=hide hPr
  clear hPr
  have hq':=hide hq
  have hJ':=hide hJ
  have hJl':=hide hJl
  have hfm':=hide hfm
  clear hq hJ hJl hfm
  by_cases hlt:i < n
  ·skip
   have hil:(i:Int) < (n:Int):=by omega
   have hi2:=hide hlt
   have hiL:i < l.length:=by rw [← uh hn'];exact hlt
   have hib:(i:Int)≤4096:=by have:=uh hl';omega
   have hqb:=hide (show q≤4096 by have h:=congrArg List.length (uh hJ');rw [List.length_map,List.length_map,List.length_take] at h;have:=uh hq';have:=uh hl';omega)
   obtain ⟨b9,o9,rfl,hlt9,hst9⟩:=(uh hA').set hiL
   have hmn:=map_next toL l hiL
   obtain ⟨p,hp0⟩ : ∃ p,p=l[i]:=⟨_,rfl⟩
   rw [← hp0] at hst9 hmn
   have hst:=hide hst9
   obtain ⟨P,hP0⟩ : ∃ P,P=toL p:=⟨_,rfl⟩
   rw [← hP0, ← uh hJ'] at hmn
   have hPp:=hide hP0
   have hmn':=hide hmn
   obtain ⟨n7,hn70⟩ : ∃ n,n=P.length:=⟨_,rfl⟩
   have hn7:=hide hn70
   clear hp0 hP0 hlt hin hlt9 hst9 hiL hmn hn70
   try dsimp only
   repeat ((fail_if_success with_reducible refine wp_reg (id:=3) ?_);first|go_values|go_skip|go_step|go_guarded|go_upon|go_in|go_back)
   with_reducible refine wp_reg (id:=3) ?_
   iterate 4
    refine wpO_want rfl ?_
    go_simp
   refine wpO_done ?_
   try go_frame
   try dsimp only
   repeat ((fail_if_success with_reducible refine wp_reg (id:=5) ?_);first|go_values|go_skip|go_step|go_guarded|go_upon|go_in|go_back)
   with_reducible refine wp_reg (id:=5) ?_
   iterate 4
    refine wpO_want rfl ?_
    go_simp
   refine wpO_val rfl (load_SetR (N:=p) rfl rfl (fun j v hv=>uh hst [] _ ((uh hP).extf.keep []) (by simp) j v hv)) ?_
   try go_frame
   clear hil
   refine wpO_want rfl ?_
   go_simp
   have hca:=to01_any p wr
   rw [← uh hPp, ← uh hn7] at hca
   refine hca.mono ?_
   clear hca
   rintro _ y1 ⟨A7,c7,rfl,ho,hxc⟩
   refine ⟨_,rfl,?_⟩
   have hQ:=(uh hP).addRow hxc ho
   rw [List.cons_append] at hQ
   replace hP:=hide hQ
   clear hxc ho hQ
   try go_frame
   refine (uh hP).build1O 43 #[.slice A7 n7 c7] rfl (run_buildSl rfl rfl) ?_
   intro bs y2 hQ
   replace hP:=hide hQ
   clear hQ
   go_frame
   refine (uh hP).ap1O (enc:=encSl) (T:=43) (ST:=38) 0 (v:=.slice A6 q c6) (m:=q) (xs:=J.map (·.1)) rfl rfl infoR Tryz.underlying38 one_encSl (fun _=>rfl) (by decide) (by decide) rfl (A7,n7,c7) rfl rfl ((uh hP).get 0 rfl) (by have:=uh hqb;omega) ?_
   intro A9 cA9 y3 hQ
   replace hP:=hide hQ
   clear hQ
   go_frame
   replace hP:Hid (Sp w [] w [] [] ((43,1,.slice A9 (q+1) cA9,q+1,((J.map fun p:Sl×List Int=>p.1)++[((A7,n7,c7) : Sl)]).flatMap encSl)::(J.map rowJ++[(3,1,.slice A7 n7 c7,n7,P.flatMap encI)])) y3):=hide ((uh hP).sub (List.sublist_append_left _ ([(bs,43,#[.slice A7 n7 c7])] : List Cl)) (List.Sublist.refl _))
   refine wpO_want rfl ?_
   go_simp
   refine wpO_done ?_
   try go_frame
   have hJQ:=Sp.joinJ (p:=(((A7,n7,c7),P) : Sl×List Int)) (uh hP)
   replace hP:Hid (Sp w [] w [] [] ((43,1,.slice A9 (q+1) cA9,q+1,((J++[(((A7,n7,c7),P) : Sl×List Int)]).map (·.1)).flatMap encSl)::((J++[(((A7,n7,c7),P) : Sl×List Int)]).map rowJ)) y3):=hide hJQ
   clear hJQ
   go_wp2_with fail
   refine ⟨n-(i+1),?_,by have:=uh hfm';have:=uh hi2;omega⟩
   rw [uh hI0_2]
   exact ⟨i+1,A9,q+1,cA9,J++[(((A7,n7,c7),P) : Sl×List Int)],(by first | rfl | trivial),(by first | rfl | trivial),(by first | rfl | trivial),(by first | rfl | (show _=Value.int _ _;go_num) | go_num),(by first | rfl | trivial),by have:=uh hi2;omega,(by rw [List.length_append, ← uh hq'];rfl),(by rw [List.map_append,uh hmn',List.map_cons,List.map_nil]),(fun p hp=>by rcases List.mem_append.1 hp with hp | hp;exact uh hJl' p hp;rw [List.mem_singleton] at hp;subst hp;exact uh hn7),uh hP,rfl⟩
  ·skip
   have hil:¬ (i:Int) < (n:Int):=by omega
   have hre:=hide (show J.map (·.2)=l.map toL by rw [uh hJ',List.take_of_length_le (by rw [← uh hn'];omega)])
   clear hlt hin
   try dsimp only
   repeat ((fail_if_success with_reducible refine wp_reg (id:=3) ?_);first|go_values|go_skip|go_step|go_guarded|go_upon|go_in|go_back)
   with_reducible refine wp_reg (id:=3) ?_
   iterate 4
    refine wpO_want rfl ?_
    go_simp
   refine wpO_done ?_
   try go_frame
   clear hil
   try dsimp only
   repeat ((fail_if_success with_reducible refine wp_reg (id:=6) ?_);first|go_values|go_skip|go_step|go_guarded|go_upon|go_in|go_back)
   with_reducible refine wp_reg (id:=6) ?_
   iterate 2
    refine wpO_want rfl ?_
    go_simp
   refine wpO_done ?_
   try go_frame
   go_wp2_with fail
   refine Sp.leaves0 ?_
   rw [← uh hre]
   exact ⟨_,results_tmp (t:=2) rfl _ _ _,SsPost.mk (by rw [List.length_map];exact uh hq') (Sp.ss (tl:=[]) (by rw [List.append_nil];exact uh hP) (uh hJl') rfl (uh hq')) (uh hP).extf⟩
theorem triangulationSeparators_walk (A:Option Addr) (L:List Ed) (cL:Nat) (a:Int) (S T:Nat) (w:World) (hL:SlAt encD 5 w A L) (ha:0≤a∧a≤255) (_hS:S < 2 ^ 1024) (_hT:T < 2 ^ 1024) (hT:Tab w) :
  Calls Tryz.prog 3 #[.slice A L.length cL,.int .u8 a,.agg (setC S),.agg (setC T)] w fun e w'=>e=.returned (.bool true)∧Ext w w':=by
 have hL':=hide hL
 have hT':=hide hT
 have hi:=hide (mdS_inv L)
 have ha':=hide ha
 clear ha
 clear hL hT
 have hP:=hide (Sp.new w)
 refine callsIn_wide.1 (callsIn_of_wp_marks (n:=0) Tryz.func3 rfl trivial (wpIn_wide.2 ?_))
 simp only [Tryz.ntmps3,List.size_toArray,List.length_cons,List.length_nil,Nat.reduceAdd,Nat.reduceSub,Array.replicate_succ,Array.replicate_zero,List.push_toArray,List.append_toArray,List.nil_append,List.cons_append]
 try dsimp only
 repeat ((fail_if_success with_reducible refine wp_reg (id:=0) ?_);first|go_values|go_skip|go_step|go_guarded|go_upon|go_in|go_back)
 with_reducible refine wp_reg (id:=0) ?_
 refine (uh hP).allocO 25 (setC S) rfl (run_box (v:=.agg (setC S)) rfl rfl) ?_
 intro r6 y1 hQ
 replace hP:=hide hQ
 clear hQ
 refine (uh hP).allocO 25 (setC T) rfl (run_box (v:=.agg (setC T)) rfl rfl) ?_
 intro r7 y2 hQ
 replace hP:=hide hQ
 clear hQ
 refine wpO_want rfl ?_
 go_simp
 refine wpO_done ?_
 try go_frame
 try dsimp only
 repeat ((fail_if_success with_reducible refine wp_reg (id:=1) ?_);first|go_values|go_skip|go_step|go_guarded|go_upon|go_in|go_back)
 with_reducible refine wp_reg (id:=1) ?_
 refine wpO_val rfl (run_move rfl rfl) ?_
 go_frame
 refine wpO_want rfl ?_
 go_simp
 have hca:=begun25_any A L cL y2 ((uh hL').ext (uh hP).extf)
 generalize mdS L=S at *
 obtain ⟨V,E⟩:=S
 try dsimp only at hi hca ⊢
 refine hca.mono ?_
 clear hca
 rintro _ y3 ⟨g,bv,be,A1,B1,cA,cB,rfl,hg0,hs0,he0,hxc⟩
 refine ⟨_,rfl,?_⟩
 replace hP:=hide ((uh hP).ext hxc)
 have hg:=hide hg0
 have hsV:=hide hs0
 have hsE:=hide he0
 obtain ⟨q,hq⟩ : ∃ q,q=decide ((V.length:Int)≤9):=⟨_,rfl⟩
 rw [← hq]
 have hq':=hide hq
 have hnV:=hide hg0.nV
 have hnE:=hide hg0.nE
 clear hxc hg0 hs0 he0 hq
 generalize htu0:Value.tuple _=tu
 have htu:=hide htu0
 clear htu0
 refine wpO_val rfl (run_move rfl rfl) ?_
 go_frame
 refine wpO_val rfl (run_extract (i:=0) (v:=.pointer (some ⟨g,0,none⟩)) rfl (uh htu).symm rfl) ?_
 go_frame
 refine wpO_val rfl (run_extract (i:=1) (v:=.agg #[.slice A1 V.length cA,.slice B1 E.length cB]) rfl (uh htu).symm rfl) ?_
 go_frame
 refine wpO_val rfl (run_extract (i:=2) (v:=.bool q) rfl (uh htu).symm rfl) ?_
 go_frame
 refine (uh hP).allocT 30 #[.slice none 0 0,.slice none 0 0] rfl (by go_simp) ?_
 intro r10 y4 hQ hxa hga
 replace hP:=hide hQ
 clear hQ
 try go_frame
 refine wpO_want rfl ?_
 go_simp
 refine (uh hP).setT 2 #[.slice A1 V.length cA,.slice B1 E.length cB] rfl rfl (fun hb=>run_store_row (v:=.agg #[.slice A1 V.length cA,.slice B1 E.length cB]) rfl (by rfl) (by rfl) (by simp [go_sem]) hb rfl (fun u hu=>by simp [Value.cells] at hu;rcases hu with rfl | rfl <;> rfl)) ?_
 intro y5 hQ hkq
 replace hP:=hide hQ
 have hxs:=hxa.of_new hkq (fun x hx=>by rw [List.mem_singleton] at hx;rw [hx];exact hga)
 clear hQ hkq hxa hga
 try go_frame
 replace hg:=hide ((uh hg).ext (hxs))
 replace hsV:=hide ((uh hsV).ext (hxs))
 replace hsE:=hide ((uh hsE).ext (hxs))
 clear hxs
 refine wpO_want rfl ?_
 go_simp
 refine wpO_done ?_
 try go_frame
 clear htu
 try dsimp only
 repeat ((fail_if_success with_reducible refine wp_reg (id:=2) ?_);first|go_values|go_skip|go_step|go_guarded|go_upon|go_in|go_back)
 with_reducible refine wp_reg (id:=2) ?_
 iterate 2
  refine wpO_want rfl ?_
  go_simp
 refine wpO_done ?_
 try go_frame
 cases q
 ·skip
  try dsimp only
  repeat ((fail_if_success with_reducible refine wp_reg (id:=3) ?_);first|go_values|go_skip|go_step|go_guarded|go_upon|go_in|go_back)
  with_reducible refine wp_reg (id:=3) ?_
  refine wpO_want rfl ?_
  go_simp
  refine (known25_any _ ((uh hT').ext (uh hP).extf)).mono ?_
  rintro _ y6 ⟨rfl,hxc⟩
  refine ⟨_,rfl,?_⟩
  replace hP:=hide ((uh hP).ext hxc)
  clear hxc
  refine wpO_want rfl ?_
  go_simp
  refine wpO_done ?_
  try go_frame
  go_wp2_with fail
  refine Sp.leaves0 ?_
  exact ⟨_,results_tmp rfl _ _ _,rfl,(uh hP).extf⟩
 ·skip
  have hV:=hide (show V.length≤9 by have h:=uh hq';have:=of_decide_eq_true h.symm;omega)
  clear hq'
  obtain ⟨SL,hSL0⟩ : ∃ l,l=sepL V E:=⟨_,rfl⟩
  obtain ⟨nS,hnS0⟩ : ∃ n,n=SL.length:=⟨_,rfl⟩
  have hnS:=hide hnS0
  have hnSb:=hide (show nS≤512 by rw [hnS0,hSL0];exact Nat.le_trans sepL_len (Nat.le_trans (Nat.pow_le_pow_right (by decide) (uh hV)) (by decide)))
  have hsp:=hide (fun (W:World) (h1:SlAt encV 3 W A1 V) (h2:SlAt encE 4 W B1 E)=>seps_any A1 B1 V E cA cB W (uh hi) h1 (uh hV) h2 hnE)
  rw [← hSL0] at hsp
  have hmsa:=hide (show msA V E a=if a < (nS:Int) then ([],8) else (SL,0) by unfold msA;rw [← hSL0, ← hnS0])
  obtain ⟨LS,hLS0⟩ : ∃ l,l=toL S:=⟨_,rfl⟩
  obtain ⟨LT,hLT0⟩ : ∃ l,l=toL T:=⟨_,rfl⟩
  have hLS:=hide hLS0
  have hLT:=hide hLT0
  obtain ⟨ms,hms0⟩ : ∃ n,n=LS.length:=⟨_,rfl⟩
  obtain ⟨mt,hmt0⟩ : ∃ n,n=LT.length:=⟨_,rfl⟩
  have hms:=hide hms0
  have hmt:=hide hmt0
  obtain ⟨cr,hcr0⟩ : ∃ c,c=crossS V E S T:=⟨_,rfl⟩
  have hcr:=hide hcr0
  have hkl:=hide (show ∀ K∈SL.map toL,K.length≤100000 from fun K hK=>by obtain ⟨c,_,rfl⟩:=List.mem_map.1 hK;have:=toL_len c;omega)
  have hnE2:=hide hnE
  have hnV2:=hide hnV
  clear hSL0 hnS0 hLS0 hLT0 hms0 hmt0 hcr0
  by_cases hmany:a < (nS:Int)
  ·skip
   have hm2:=hide (show msA V E a=([],8) by rw [uh hmsa,if_pos hmany])
   have hmb:=hide hmany
   clear hmany
   have hwa:IntKind.i64.wrap a=a:=by have:=uh ha';rw [IntWalk.i64_in _ (by omega)]
   try dsimp only
   repeat ((fail_if_success with_reducible refine wp_reg (id:=4) ?_);first|go_values|go_skip|go_step|go_guarded|go_upon|go_in|go_back)
   with_reducible refine wp_reg (id:=4) ?_
   iterate 3
    refine wpO_want rfl ?_
    go_simp
   clear hwa
   refine wpO_want rfl ?_
   go_simp
   have hca:=minsep_any g V E a y5 (uh hi) (GL.of (uh hg)) ((uh hT').ext (uh hP).extf) (uh hV)
   rw [uh hm2] at hca
   unfold MsPost at hca
   simp only [List.length_nil] at hca
   refine hca.mono ?_
   clear hca
   rintro _ y6 ⟨Ax,cx,rfl,ho,hxc⟩
   clear ho
   refine ⟨_,rfl,?_⟩
   replace hP:=hide ((uh hP).ext hxc)
   replace hg:=hide ((uh hg).ext (hxc))
   replace hsV:=hide ((uh hsV).ext (hxc))
   replace hsE:=hide ((uh hsE).ext (hxc))
   clear hxc
   try go_frame
   generalize htu0:Value.tuple _=tu
   have htu:=hide htu0
   clear htu0
   refine wpO_val rfl (run_move rfl rfl) ?_
   go_frame
   refine wpO_val rfl (run_extract (i:=0) (v:=.slice Ax 0 cx) rfl (uh htu).symm rfl) ?_
   go_frame
   refine wpO_val rfl (run_extract (i:=1) (v:=.int .i64 8) rfl (uh htu).symm rfl) ?_
   go_frame
   iterate 2
    refine wpO_want rfl ?_
    go_simp
   refine wpO_done ?_
   try go_frame
   clear htu
   try dsimp only
   repeat ((fail_if_success with_reducible refine wp_reg (id:=5) ?_);first|go_values|go_skip|go_step|go_guarded|go_upon|go_in|go_back)
   with_reducible refine wp_reg (id:=5) ?_
   refine wpO_val rfl (run_load_agg (cs:=#[.slice A1 V.length cA,.slice B1 E.length cB]) rfl rfl (by simp [go_sem]) (by simp [go_sem]) ((uh hP).get 2 rfl).whole) ?_
   go_frame
   refine wpO_want rfl ?_
   go_simp
   have hca:=uh hsp y6 (uh hsV) (uh hsE)
   unfold SsPost at hca
   rw [List.length_map, ← uh hnS] at hca
   refine hca.mono ?_
   clear hca
   rintro _ y7 ⟨Ay,cy,rfl,hs0,hxc⟩
   have hsy:=hide hs0
   clear hs0
   refine ⟨_,rfl,?_⟩
   replace hP:=hide ((uh hP).ext hxc)
   replace hg:=hide ((uh hg).ext (hxc))
   replace hsV:=hide ((uh hsV).ext (hxc))
   replace hsE:=hide ((uh hsE).ext (hxc))
   clear hxc
   try go_frame
   refine wpO_want rfl ?_
   go_simp
   refine wpO_done ?_
   try go_frame
   go_wp2_with fail
   have hself:=Keep.refl [] y7
   refine wp_regionK (P:=Tryz.prog) [] [0,1,2,3,4,5,7] [] 4 #[true,true,true,true,true,true,false,true,false,false,false] (by kernel_rfl) (by kernel_rfl) rfl (by rfl) ?_
   iterate 1
    refine ql_want (v:=?_) rfl (by rfl) (fun W hW=>?_) ?_
    rotate_left
    ·go_simp
     first | done | rfl
    go_frame
   refine ql_want (v:=.agg (setC S)) rfl (by rfl) (fun W hW=>qUpon_ofX (load_SetR rfl rfl ((uh hP).wholeK 0 rfl hW (by simp)))) ?_
   go_frame
   refine ql_want (v:=.agg (setC T)) rfl (by rfl) (fun W hW=>qUpon_ofX (load_SetR rfl rfl ((uh hP).wholeK 1 rfl hW (by simp)))) ?_
   go_frame
   refine ql_want (v:=.bool cr) rfl (by rfl) (fun W hW=>?_) ?_
   ·go_simp
    refine (crosses_any (some ⟨g,0,none⟩) V E S T W (uh hi) (GL.of ((uh hg).ext hW.ext)) ((uh hT').ext ((uh hP).extf.trans hW.ext))).mono ?_
    rw [← uh hcr]
    rintro _ _ ⟨h1,h2⟩
    exact ⟨_,h1,rfl,h2⟩
   go_frame
   refine ql_want (v:=.agg #[.slice A1 V.length cA,.slice B1 E.length cB]) rfl (by rfl) (fun W hW=>qUpon_ofX (run_load_agg (cs:=#[.slice A1 V.length cA,.slice B1 E.length cB]) rfl rfl (by simp [go_sem]) (by simp [go_sem]) ((uh hP).wholeK 2 rfl hW (by simp)))) ?_
   go_frame
   refine ql_want (v:=.agg (setC S)) rfl (by rfl) (fun W hW=>qUpon_ofX (load_SetR rfl rfl ((uh hP).wholeK 0 rfl hW (by simp)))) ?_
   go_frame
   refine ql_want (v:=.agg (setC T)) rfl (by rfl) (fun W hW=>qUpon_ofX (load_SetR rfl rfl ((uh hP).wholeK 1 rfl hW (by simp)))) ?_
   go_frame
   refine wpQL_nil (fun y8 hxq=>?_)
   have hK:=hide (hxq.keep [])
   replace hP:=hide ((uh hP).ext hxq)
   replace hg:=hide ((uh hg).ext hxq)
   replace hsV:=hide ((uh hsV).ext hxq)
   replace hsE:=hide ((uh hsE).ext hxq)
   replace hsy:=hide ((uh hsy).ext hxq)
   clear hxq
   clear hself
   refine lx_one (i:=6) (by kernel_rfl) rfl (by rfl) #[true,true,true,true,true,true,true,true,false,false,false] (by rfl) ?_
   have hca:=to01_any S y8
   rw [← uh hLS, ← uh hms] at hca
   go_simp
   refine (hca).mono ?_
   rintro _ zy9 ⟨As,cs,rfl,ho,hxc⟩
   clear hca
   refine ⟨_,rfl,(uh hK).trans (hxc.keep _),fun y9 hxd=>?_⟩
   replace hP:=hide ((uh hP).ext (hxc.trans hxd))
   replace hK:=hide ((uh hK).trans ((hxc.trans hxd).keep _))
   have hss:=hide ((own_at (enc:=encI) (xs:=LS) (by rw [uh hms] at ho;exact ho) (fun _=>rfl)).ext hxd)
   replace hg:=hide ((uh hg).ext (hxc.trans hxd))
   replace hsV:=hide ((uh hsV).ext (hxc.trans hxd))
   replace hsE:=hide ((uh hsE).ext (hxc.trans hxd))
   replace hsy:=hide ((uh hsy).ext (hxc.trans hxd))
   clear ho
   clear hxc hxd
   try go_frame
   refine lx_one (i:=8) (by kernel_rfl) rfl (by rfl) #[true,true,true,true,true,true,true,true,true,false,false] (by rfl) ?_
   have hca:=to01_any T y9
   rw [← uh hLT, ← uh hmt] at hca
   go_simp
   refine (hca).mono ?_
   rintro _ zy10 ⟨At,ct,rfl,ho,hxc⟩
   clear hca
   refine ⟨_,rfl,(uh hK).trans (hxc.keep _),fun y10 hxd=>?_⟩
   replace hP:=hide ((uh hP).ext (hxc.trans hxd))
   replace hK:=hide ((uh hK).trans ((hxc.trans hxd).keep _))
   have hst:=hide ((own_at (enc:=encI) (xs:=LT) (by rw [uh hmt] at ho;exact ho) (fun _=>rfl)).ext hxd)
   replace hg:=hide ((uh hg).ext (hxc.trans hxd))
   replace hsV:=hide ((uh hsV).ext (hxc.trans hxd))
   replace hsE:=hide ((uh hsE).ext (hxc.trans hxd))
   replace hsy:=hide ((uh hsy).ext (hxc.trans hxd))
   replace hss:=hide ((uh hss).ext (hxc.trans hxd))
   clear ho
   clear hxc hxd
   try go_frame
   have hcc:(cr != cr)=false:=by cases cr <;> rfl
   refine lx_rekeep (uh hK) [9,10] [] 0 2 #[true,true,true,true,true,true,true,true,true,false,false] #[true,true,true,true,true,true,true,true,true,true,true] (by kernel_rfl) rfl (by rfl) ?_
   clear hK
   refine ql_want (v:=.bool cr) rfl (by rfl) (fun W hW=>?_) ?_
   ·go_simp
    refine (cross_any A1 B1 V E cA cB As At S T ms mt cs ct W (uh hi) ((uh hsV).ext hW.ext) (by have:=uh hV;omega) ((uh hsE).ext hW.ext) (uh hnE2) (by rw [← uh hLS];exact (uh hss).ext hW.ext) (by rw [← uh hLS];exact uh hms) (by rw [← uh hLT];exact (uh hst).ext hW.ext) (by rw [← uh hLT];exact uh hmt)).mono ?_
    rw [← uh hcr]
    rintro _ _ ⟨h1,h2⟩
    exact ⟨_,h1,rfl,h2⟩
   go_frame
   iterate 1
    refine ql_want (v:=?_) rfl (by rfl) (fun W hW=>?_) ?_
    rotate_left
    ·go_simp
     first | done | rfl
    go_frame
   refine wpQL_nil (fun y11 hxq=>?_)
   replace hP:=hide ((uh hP).ext hxq)
   replace hg:=hide ((uh hg).ext hxq)
   replace hsV:=hide ((uh hsV).ext hxq)
   replace hsE:=hide ((uh hsE).ext hxq)
   replace hsy:=hide ((uh hsy).ext hxq)
   replace hss:=hide ((uh hss).ext hxq)
   replace hst:=hide ((uh hst).ext hxq)
   clear hxq
   refine wpX_done (by kernel_rfl) ?_
   try go_frame
   clear hcc
   have hwa:IntKind.i64.wrap a=a:=by have:=uh ha';rw [IntWalk.i64_in _ (by omega)]
   have hgt:(nS:Int) > a:=uh hmb
   try dsimp only
   repeat ((fail_if_success with_reducible refine wp_reg (id:=8) ?_);first|go_values|go_skip|go_step|go_guarded|go_upon|go_in|go_back)
   with_reducible refine wp_reg (id:=8) ?_
   iterate 5
    refine wpO_want rfl ?_
    go_simp
   refine wpO_done ?_
   try go_frame
   clear hwa hgt
   try dsimp only
   repeat ((fail_if_success with_reducible refine wp_reg (id:=9) ?_);first|go_values|go_skip|go_step|go_guarded|go_upon|go_in|go_back)
   with_reducible refine wp_reg (id:=9) ?_
   refine wpO_want rfl ?_
   go_simp
   have hca:=known25_any y11 ((uh hT').ext (uh hP).extf)
   refine hca.mono ?_
   clear hca
   rintro _ y12 ⟨rfl,hxc⟩
   refine ⟨_,rfl,?_⟩
   replace hP:=hide ((uh hP).ext hxc)
   replace hg:=hide ((uh hg).ext (hxc))
   replace hsV:=hide ((uh hsV).ext (hxc))
   replace hsE:=hide ((uh hsE).ext (hxc))
   replace hsy:=hide ((uh hsy).ext (hxc))
   replace hss:=hide ((uh hss).ext (hxc))
   replace hst:=hide ((uh hst).ext (hxc))
   clear hxc
   try go_frame
   iterate 10
    refine wpO_want rfl ?_
    go_simp
   refine wpO_done ?_
   try go_frame
   go_wp2_with fail
   refine Sp.leaves0 ?_
   exact ⟨_,results_tmp (t:=8) rfl _ _ _,rfl,(uh hP).extf⟩
  ·skip
   have hm2:=hide (show msA V E a=(SL,0) by rw [uh hmsa,if_neg hmany])
   have hmb:=hide hmany
   clear hmany
   have hwa:IntKind.i64.wrap a=a:=by have:=uh ha';rw [IntWalk.i64_in _ (by omega)]
   try dsimp only
   repeat ((fail_if_success with_reducible refine wp_reg (id:=4) ?_);first|go_values|go_skip|go_step|go_guarded|go_upon|go_in|go_back)
   with_reducible refine wp_reg (id:=4) ?_
   iterate 3
    refine wpO_want rfl ?_
    go_simp
   clear hwa
   refine wpO_want rfl ?_
   go_simp
   have hca:=minsep_any g V E a y5 (uh hi) (GL.of (uh hg)) ((uh hT').ext (uh hP).extf) (uh hV)
   rw [uh hm2] at hca
   unfold MsPost at hca
   try dsimp only at hca
   rw [← uh hnS] at hca
   refine hca.mono ?_
   clear hca
   rintro _ y6 ⟨Ax,cx,rfl,ho,hxc⟩
   have hsx:=hide (own_at (enc:=encS) (xs:=SL) (by rw [uh hnS] at ho;exact ho) encS_len)
   clear ho
   refine ⟨_,rfl,?_⟩
   replace hP:=hide ((uh hP).ext hxc)
   replace hg:=hide ((uh hg).ext (hxc))
   replace hsV:=hide ((uh hsV).ext (hxc))
   replace hsE:=hide ((uh hsE).ext (hxc))
   clear hxc
   try go_frame
   generalize htu0:Value.tuple _=tu
   have htu:=hide htu0
   clear htu0
   refine wpO_val rfl (run_move rfl rfl) ?_
   go_frame
   refine wpO_val rfl (run_extract (i:=0) (v:=.slice Ax nS cx) rfl (uh htu).symm rfl) ?_
   go_frame
   refine wpO_val rfl (run_extract (i:=1) (v:=.int .i64 0) rfl (uh htu).symm rfl) ?_
   go_frame
   iterate 2
    refine wpO_want rfl ?_
    go_simp
   refine wpO_done ?_
   try go_frame
   clear htu
   try replace hsx:=hide ((uh hsx))
   try dsimp only
   repeat ((fail_if_success with_reducible refine wp_reg (id:=5) ?_);first|go_values|go_skip|go_step|go_guarded|go_upon|go_in|go_back)
   with_reducible refine wp_reg (id:=5) ?_
   refine wpO_val rfl (run_load_agg (cs:=#[.slice A1 V.length cA,.slice B1 E.length cB]) rfl rfl (by simp [go_sem]) (by simp [go_sem]) ((uh hP).get 2 rfl).whole) ?_
   go_frame
   refine wpO_want rfl ?_
   go_simp
   have hca:=uh hsp y6 (uh hsV) (uh hsE)
   unfold SsPost at hca
   rw [List.length_map, ← uh hnS] at hca
   refine hca.mono ?_
   clear hca
   rintro _ y7 ⟨Ay,cy,rfl,hs0,hxc⟩
   have hsy:=hide hs0
   clear hs0
   refine ⟨_,rfl,?_⟩
   replace hP:=hide ((uh hP).ext hxc)
   replace hg:=hide ((uh hg).ext (hxc))
   replace hsV:=hide ((uh hsV).ext (hxc))
   replace hsE:=hide ((uh hsE).ext (hxc))
   replace hsx:=hide ((uh hsx).ext (hxc))
   clear hxc
   try go_frame
   refine wpO_want rfl ?_
   go_simp
   refine wpO_done ?_
   try go_frame
   go_wp2_with fail
   have hself:=Keep.refl [] y7
   refine wp_regionK (P:=Tryz.prog) [] [0,1,2,3,4,5,7] [] 4 #[true,true,true,true,true,true,false,true,false,false,false] (by kernel_rfl) (by kernel_rfl) rfl (by rfl) ?_
   iterate 1
    refine ql_want (v:=?_) rfl (by rfl) (fun W hW=>?_) ?_
    rotate_left
    ·go_simp
     first | done | rfl
    go_frame
   refine ql_want (v:=.agg (setC S)) rfl (by rfl) (fun W hW=>qUpon_ofX (load_SetR rfl rfl ((uh hP).wholeK 0 rfl hW (by simp)))) ?_
   go_frame
   refine ql_want (v:=.agg (setC T)) rfl (by rfl) (fun W hW=>qUpon_ofX (load_SetR rfl rfl ((uh hP).wholeK 1 rfl hW (by simp)))) ?_
   go_frame
   refine ql_want (v:=.bool cr) rfl (by rfl) (fun W hW=>?_) ?_
   ·go_simp
    refine (crosses_any (some ⟨g,0,none⟩) V E S T W (uh hi) (GL.of ((uh hg).ext hW.ext)) ((uh hT').ext ((uh hP).extf.trans hW.ext))).mono ?_
    rw [← uh hcr]
    rintro _ _ ⟨h1,h2⟩
    exact ⟨_,h1,rfl,h2⟩
   go_frame
   refine ql_want (v:=.agg #[.slice A1 V.length cA,.slice B1 E.length cB]) rfl (by rfl) (fun W hW=>qUpon_ofX (run_load_agg (cs:=#[.slice A1 V.length cA,.slice B1 E.length cB]) rfl rfl (by simp [go_sem]) (by simp [go_sem]) ((uh hP).wholeK 2 rfl hW (by simp)))) ?_
   go_frame
   refine ql_want (v:=.agg (setC S)) rfl (by rfl) (fun W hW=>qUpon_ofX (load_SetR rfl rfl ((uh hP).wholeK 0 rfl hW (by simp)))) ?_
   go_frame
   refine ql_want (v:=.agg (setC T)) rfl (by rfl) (fun W hW=>qUpon_ofX (load_SetR rfl rfl ((uh hP).wholeK 1 rfl hW (by simp)))) ?_
   go_frame
   refine wpQL_nil (fun y8 hxq=>?_)
   have hK:=hide (hxq.keep [])
   replace hP:=hide ((uh hP).ext hxq)
   replace hg:=hide ((uh hg).ext hxq)
   replace hsV:=hide ((uh hsV).ext hxq)
   replace hsE:=hide ((uh hsE).ext hxq)
   replace hsx:=hide ((uh hsx).ext hxq)
   replace hsy:=hide ((uh hsy).ext hxq)
   clear hxq
   clear hself
   refine lx_one (i:=6) (by kernel_rfl) rfl (by rfl) #[true,true,true,true,true,true,true,true,false,false,false] (by rfl) ?_
   have hca:=to01_any S y8
   rw [← uh hLS, ← uh hms] at hca
   go_simp
   refine (hca).mono ?_
   rintro _ zy9 ⟨As,cs,rfl,ho,hxc⟩
   clear hca
   refine ⟨_,rfl,(uh hK).trans (hxc.keep _),fun y9 hxd=>?_⟩
   replace hP:=hide ((uh hP).ext (hxc.trans hxd))
   replace hK:=hide ((uh hK).trans ((hxc.trans hxd).keep _))
   have hss:=hide ((own_at (enc:=encI) (xs:=LS) (by rw [uh hms] at ho;exact ho) (fun _=>rfl)).ext hxd)
   replace hg:=hide ((uh hg).ext (hxc.trans hxd))
   replace hsV:=hide ((uh hsV).ext (hxc.trans hxd))
   replace hsE:=hide ((uh hsE).ext (hxc.trans hxd))
   replace hsx:=hide ((uh hsx).ext (hxc.trans hxd))
   replace hsy:=hide ((uh hsy).ext (hxc.trans hxd))
   clear ho
   clear hxc hxd
   try go_frame
   refine lx_one (i:=8) (by kernel_rfl) rfl (by rfl) #[true,true,true,true,true,true,true,true,true,false,false] (by rfl) ?_
   have hca:=to01_any T y9
   rw [← uh hLT, ← uh hmt] at hca
   go_simp
   refine (hca).mono ?_
   rintro _ zy10 ⟨At,ct,rfl,ho,hxc⟩
   clear hca
   refine ⟨_,rfl,(uh hK).trans (hxc.keep _),fun y10 hxd=>?_⟩
   replace hP:=hide ((uh hP).ext (hxc.trans hxd))
   replace hK:=hide ((uh hK).trans ((hxc.trans hxd).keep _))
   have hst:=hide ((own_at (enc:=encI) (xs:=LT) (by rw [uh hmt] at ho;exact ho) (fun _=>rfl)).ext hxd)
   replace hg:=hide ((uh hg).ext (hxc.trans hxd))
   replace hsV:=hide ((uh hsV).ext (hxc.trans hxd))
   replace hsE:=hide ((uh hsE).ext (hxc.trans hxd))
   replace hsx:=hide ((uh hsx).ext (hxc.trans hxd))
   replace hsy:=hide ((uh hsy).ext (hxc.trans hxd))
   replace hss:=hide ((uh hss).ext (hxc.trans hxd))
   clear ho
   clear hxc hxd
   try go_frame
   have hcc:(cr != cr)=false:=by cases cr <;> rfl
   refine lx_rekeep (uh hK) [9,10] [] 0 2 #[true,true,true,true,true,true,true,true,true,false,false] #[true,true,true,true,true,true,true,true,true,true,true] (by kernel_rfl) rfl (by rfl) ?_
   clear hK
   refine ql_want (v:=.bool cr) rfl (by rfl) (fun W hW=>?_) ?_
   ·go_simp
    refine (cross_any A1 B1 V E cA cB As At S T ms mt cs ct W (uh hi) ((uh hsV).ext hW.ext) (by have:=uh hV;omega) ((uh hsE).ext hW.ext) (uh hnE2) (by rw [← uh hLS];exact (uh hss).ext hW.ext) (by rw [← uh hLS];exact uh hms) (by rw [← uh hLT];exact (uh hst).ext hW.ext) (by rw [← uh hLT];exact uh hmt)).mono ?_
    rw [← uh hcr]
    rintro _ _ ⟨h1,h2⟩
    exact ⟨_,h1,rfl,h2⟩
   go_frame
   iterate 1
    refine ql_want (v:=?_) rfl (by rfl) (fun W hW=>?_) ?_
    rotate_left
    ·go_simp
     first | done | rfl
    go_frame
   refine wpQL_nil (fun y11 hxq=>?_)
   replace hP:=hide ((uh hP).ext hxq)
   replace hg:=hide ((uh hg).ext hxq)
   replace hsV:=hide ((uh hsV).ext hxq)
   replace hsE:=hide ((uh hsE).ext hxq)
   replace hsx:=hide ((uh hsx).ext hxq)
   replace hsy:=hide ((uh hsy).ext hxq)
   replace hss:=hide ((uh hss).ext hxq)
   replace hst:=hide ((uh hst).ext hxq)
   clear hxq
   refine wpX_done (by kernel_rfl) ?_
   try go_frame
   clear hcc
   have hwa:IntKind.i64.wrap a=a:=by have:=uh ha';rw [IntWalk.i64_in _ (by omega)]
   have hgt:¬ (nS:Int) > a:=by have:=uh hmb;omega
   try dsimp only
   repeat ((fail_if_success with_reducible refine wp_reg (id:=8) ?_);first|go_values|go_skip|go_step|go_guarded|go_upon|go_in|go_back)
   with_reducible refine wp_reg (id:=8) ?_
   iterate 5
    refine wpO_want rfl ?_
    go_simp
   refine wpO_done ?_
   try go_frame
   clear hwa hgt
   try dsimp only
   repeat ((fail_if_success with_reducible refine wp_reg (id:=10) ?_);first|go_values|go_skip|go_step|go_guarded|go_upon|go_in|go_back)
   with_reducible refine wp_reg (id:=10) ?_
   refine wpO_want rfl ?_
   go_simp
   have hca:=known25_any y11 ((uh hT').ext (uh hP).extf)
   refine hca.mono ?_
   clear hca
   rintro _ y12 ⟨rfl,hxc⟩
   refine ⟨_,rfl,?_⟩
   replace hP:=hide ((uh hP).ext hxc)
   replace hg:=hide ((uh hg).ext (hxc))
   replace hsV:=hide ((uh hsV).ext (hxc))
   replace hsE:=hide ((uh hsE).ext (hxc))
   replace hsx:=hide ((uh hsx).ext (hxc))
   replace hsy:=hide ((uh hsy).ext (hxc))
   replace hss:=hide ((uh hss).ext (hxc))
   replace hst:=hide ((uh hst).ext (hxc))
   clear hxc
   try go_frame
   iterate 6
    refine wpO_want rfl ?_
    go_simp
   refine wpO_want rfl ?_
   go_simp
   have hca:=lists01_any Ax SL nS cx y12 (uh hsx) (uh hnS) (by have:=uh hnSb;omega)
   unfold SsPost at hca
   rw [List.length_map, ← uh hnS] at hca
   refine hca.mono ?_
   clear hca
   rintro _ y13 ⟨Az,cz,rfl,hs0,hxc⟩
   have hsz:=hide hs0
   clear hs0
   refine ⟨_,rfl,?_⟩
   replace hP:=hide ((uh hP).ext hxc)
   replace hg:=hide ((uh hg).ext (hxc))
   replace hsV:=hide ((uh hsV).ext (hxc))
   replace hsE:=hide ((uh hsE).ext (hxc))
   replace hsx:=hide ((uh hsx).ext (hxc))
   replace hsy:=hide ((uh hsy).ext (hxc))
   replace hss:=hide ((uh hss).ext (hxc))
   replace hst:=hide ((uh hst).ext (hxc))
   clear hxc
   try go_frame
   refine wpO_want rfl ?_
   go_simp
   refine wpO_want rfl ?_
   go_simp
   have hca:=sames_same Az Ay (SL.map toL) nS cz cy y13 (uh hsz) (uh hsy) (by rw [List.length_map];exact uh hnS) (by have:=uh hnSb;omega) (uh hkl)
   refine hca.mono ?_
   clear hca
   rintro _ y14 ⟨rfl,hxc⟩
   refine ⟨_,rfl,?_⟩
   replace hP:=hide ((uh hP).ext hxc)
   replace hg:=hide ((uh hg).ext (hxc))
   replace hsV:=hide ((uh hsV).ext (hxc))
   replace hsE:=hide ((uh hsE).ext (hxc))
   replace hsx:=hide ((uh hsx).ext (hxc))
   replace hsy:=hide ((uh hsy).ext (hxc))
   replace hss:=hide ((uh hss).ext (hxc))
   replace hst:=hide ((uh hst).ext (hxc))
   replace hsz:=hide ((uh hsz).ext (hxc))
   clear hxc
   try go_frame
   iterate 2
    refine wpO_want rfl ?_
    go_simp
   refine wpO_done ?_
   try go_frame
   go_wp2_with fail
   refine Sp.leaves0 ?_
   exact ⟨_,results_tmp (t:=8) rfl _ _ _,rfl,(uh hP).extf⟩
end Go.Proofs.YtmokciekndllpaaGreatDoor
