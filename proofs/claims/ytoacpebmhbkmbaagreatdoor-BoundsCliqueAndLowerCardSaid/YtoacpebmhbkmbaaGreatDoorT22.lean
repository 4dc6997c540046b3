/- Parts of a proof, laid together. Each part says its own conditions. -/
import Derived.Test.YtoacpebmhbkmbaaGreatDoorT20
import Derived.Test.YtoacpebmhbkmbaaGreatDoorT21
import Derived.Test.YtoacpebmhbkmbaaGreatDoorT19
import Derived.Test.YtoacpebmhbkmbaaGreatDoorT11
import Derived.Lib.TrailingZeros
namespace Go.Proofs.YtoacpebmhbkmbaaGreatDoor
open Go Go.RowKit Go.Shelf
section
variable {κ τ : Type} {ek : κ → Value} {ev : τ → Value} {ok : κ → Prop}
def mapXs (ek : κ → Value) (ev : τ → Value) (m : List (κ × τ)) : List Value := m.flatMap fun p => [ek p.1,ev p.2]
theorem pairs_eq : ∀ {es : List MapEntry} {m : List (κ × τ)},es.flatMap (fun e => [e.key,e.val]) = mapXs ek ev m ↔ es.map kv = m.map (fun p => (ek p.1,ev p.2))
 | [],[] => by simp [mapXs]
 | [],p :: m => by simp [mapXs]
 | e :: es,[] => by simp [mapXs]
 | e :: es,p :: m => by
  have ih := pairs_eq (es := es) (m := m)
  unfold mapXs at ih ⊢
  simp only [List.flatMap_cons,List.cons_append,List.nil_append,List.cons.injEq,List.map_cons,ih,kv,Prod.mk.injEq,and_assoc]
theorem MapIs.raw {W : World} {b : Nat} {m : List (κ × τ)} (h : MapIs ek ev ok W b m) : MapRaw W b (mapXs ek ev m) := by
 obtain ⟨es,clock,h1,h2,h3,_⟩ := h
 exact ⟨es,clock,h1,h2,pairs_eq.2 h3⟩
theorem MapRaw.is {W : World} {b : Nat} {m : List (κ × τ)} (h : MapRaw W b (mapXs ek ev m)) (ho : ∀ p ∈ m,ok p.1) : MapIs ek ev ok W b m := by
 obtain ⟨es,clock,h1,h2,h3⟩ := h
 exact ⟨es,clock,h1,h2,pairs_eq.1 h3,ho⟩
end
section
variable {κ τ : Type} {ek : κ → Value} {ev : τ → Value} {ok : κ → Prop} {P : Program} {kt et t T : TypeId} {wf : World} {T0 : List Nat} {w W : World} {ds : List Deferred} {L : List Cl} {Rs : List Rw} {l : List Oper} {K : Act → World → Prop} {r : List Oper} {o : Oper} {a : Act} {mb n : Nat} {m : List (κ × τ)}
theorem Sp.map (h : Sp wf T0 w ds L Rs W) (i : Nat) (hi : Rs[i]? = some (T,0, .map (some mb),n,mapXs ek ev m)) (ho : ∀ p ∈ m,ok p.1) : MapIs ek ev ok W mb m := by
 have h1 := h.st.rows _ (List.mem_of_getElem? hi)
 unfold RowIs at h1
 rw [if_pos rfl] at h1
 obtain ⟨b,e,_,h2⟩ := h1
 injection e with e
 injection e with e
 subst e
 exact h2.is ho
theorem Sp.map_ge (h : Sp wf T0 w ds L Rs W) (i : Nat) {xs : List Value} (hi : Rs[i]? = some (T,0, .map (some mb),n,xs)) : wf.heap.size ≤ mb ∧ mb ∈ stT L Rs := by
 have hm : mb ∈ stT L Rs := List.mem_append.2 (.inr (mem_rwT.2 ⟨_,List.mem_of_getElem? hi,rfl⟩))
 exact ⟨h.st.ge _ hm,hm⟩
theorem Sp.mapNew (h : Sp wf T0 w ds L Rs W) (T n : Nat) : Sp wf T0 w ds L (Rs ++ [(T,0, .map (some W.heap.size),n,[])]) (W.alloc (.map #[] 0)) := by
 have hx := ext_self1 W (.map #[] 0)
 have h1 := h.st.ext hx
 have hs : stT L (Rs ++ [(T,0, .map (some W.heap.size),n,[])]) = stT L Rs ++ [W.heap.size] := by
  unfold stT rwT
  rw [List.flatMap_append, ← List.append_assoc]
  rfl
 have hb := h.size
 refine h.step (hx.keep []) (by simp) ⟨h1.cells,fun q hq => ?_, ?_,fun x hx' => ?_⟩ (fun x hx' => ?_)
 ·rcases List.mem_append.1 hq with hq | hq
  ·exact h1.rows q hq
  ·rw [List.mem_singleton] at hq
   subst hq
   unfold RowIs
   rw [if_pos rfl]
   exact ⟨_,rfl,hb, #[],0,(MapKept.heap_alloc W _).1,MapKept.stamped_empty 0,by simp⟩
 ·rw [hs,List.nodup_append]
  refine ⟨h.st.nd,by simp,fun x hx1 y hy e => ?_⟩
  rw [List.mem_singleton] at hy
  have := h.lt x hx1
  omega
 ·rw [hs] at hx'
  rcases List.mem_append.1 hx' with h2 | h2
  ·exact h.st.ge x h2
  ·rw [List.mem_singleton] at h2
   omega
 ·rw [hs] at hx'
  rcases List.mem_append.1 hx' with h2 | h2
  ·exact .inl h2
  ·rw [List.mem_singleton] at h2
   exact .inr (by omega)
theorem Sp.mapSet (h : Sp wf T0 w ds L Rs W) (i : Nat) {xs xs' : List Value} (hi : Rs[i]? = some (T,0, .map (some mb),n,xs)) {n' : Nat} {W' : World} (hr : MapRaw W' mb xs') (hk : Keep [mb] W W') : Sp wf T0 w ds L (Rs.set i (T,0, .map (some mb),n',xs')) W' := by
 have hlt := (List.getElem?_eq_some_iff.1 hi).1
 have hei := (List.getElem?_eq_some_iff.1 hi).2
 have hge := h.map_ge i hi
 have hs : stT L (Rs.set i (T,0, .map (some mb),n',xs')) = stT L Rs := by
  unfold stT rwT
  congr 1
  rw [List.flatMap_def,List.flatMap_def]
  congr 1
  rw [List.map_set]
  exact set_self (by rw [List.getElem?_map,hi]; rfl)
 have hn := h.st.nd
 unfold stT at hn
 rw [List.nodup_append] at hn
 refine h.step hk (fun x hx => by rw [List.mem_singleton] at hx; subst hx; exact .inl hge.2) ⟨fun e he => ?_,fun q hq => ?_,by rw [hs]; exact h.st.nd,by rw [hs]; exact h.st.ge⟩ (by rw [hs]; exact .refl _ _)
 ·refine (h.st.cells e he).keep hk fun hm => ?_
  rw [List.mem_singleton] at hm
  exact hn.2.2 _ (List.mem_map.2 ⟨e,he,rfl⟩) _ (mem_rwT.2 ⟨_,List.mem_of_getElem? hi,rfl⟩) hm
 ·obtain ⟨j,hj⟩ := List.getElem?_of_mem hq
  by_cases hij : i = j
  ·subst hij
   rw [List.getElem?_set_self hlt] at hj
   cases hj
   unfold RowIs
   rw [if_pos rfl]
   exact ⟨mb,rfl,hge.1,hr⟩
  ·rw [List.getElem?_set_ne hij] at hj
   refine (h.st.rows q (List.mem_of_getElem? hj)).keep hk fun g hg e => ?_
   rw [List.mem_singleton] at hg
   subst hg
   have hp := hn.2.1
   unfold rwT at hp
   have hpw := List.pairwise_flatMap.1 hp
   have h3 := List.pairwise_iff_getElem.1 hpw.2
   have hj' := List.getElem?_eq_some_iff.1 hj
   rcases Nat.lt_or_gt_of_ne hij with hlt2 | hlt2
   ·exact h3 i j hlt hj'.1 hlt2 g (by rw [hei]; simp [rwB,mapB]) g (by rw [hj'.2,e]; simp) rfl
   ·exact h3 j i hj'.1 hlt hlt2 g (by rw [hj'.2,e]; simp) g (by rw [hei]; simp [rwB,mapB]) rfl
theorem run_makeMapO {ρ : Operand → Value} {o : Oper} {w : World} (ho : o.op = .makeMap t none) : (execOp ρ o).run P w = .ok (.value (.map (some w.heap.size))) (w.alloc (.map #[] 0)) := by
 unfold execOp
 simp only [ho]
 simp [run_makeMap,go_sem]
theorem Sp.mapNewO (h : Sp wf T0 w ds L Rs W) (T n : Nat) (hw : Region.wanted o (yielded l.toArray a.tmps) = true) (hrun : (execOp a.eval o).run P W = .ok (.value (.map (some W.heap.size))) (W.alloc (.map #[] 0)))
  (hk : ∀ b W',Sp wf T0 w ds L (Rs ++ [(T,0, .map (some b),n,[])]) W' → wpO P l K r (a.put o.dst (.map (some b))) W') : wpO P l K (o :: r) a W := wpO_val hw hrun (hk _ _ (h.mapNew T n))
variable [DecidableEq κ]
theorem putM_ok {x : κ} {v : τ} (ho : ∀ p ∈ m,ok p.1) (hx : ok x) : ∀ p ∈ putM m x v,ok p.1 := by
 intro p hp
 unfold putM at hp
 split at hp
 ·obtain ⟨q,hq,rfl⟩ := List.mem_map.1 hp
  split
  ·exact hx
  ·exact ho q hq
 ·rcases List.mem_append.1 hp with hp | hp
  ·exact ho p hp
  ·rw [List.mem_singleton] at hp
   subst hp
   exact hx
theorem Sp.look1O (h : Sp wf T0 w ds L Rs W) (i : Nat) (hi : Rs[i]? = some (T,0, .map (some mb),n,mapXs ek ev m)) (hok : ∀ p ∈ m,ok p.1) (hw : Region.wanted o (yielded l.toArray a.tmps) = true) (Kk : KE P kt ek ok) (ht : P.underlying t = some (.map kt et)) {z0 : τ} (hz : (zeroValue et).run P W = .ok (ev z0) W) {x : κ} (hx : ok x)
  {p q : Operand} (ho : o.op = .lookup t p q false) (hp : a.eval p = .map (some mb)) (hq : a.eval q = ek x) (hk : wpO P l K r (a.put o.dst (ev ((lookM m x).getD z0))) W) : wpO P l K (o :: r) a W :=
 wpO_val hw (run_lookup1_op Kk ht (h.map i hi hok) hz hx ho hp hq) hk
end
section
variable {α : Type} {enc : α → List Value} {T ST : TypeId} {kk byt : Nat} {l : List Oper} {s x : Operand} {o : Oper} {a : Act} {W w wf : World} {T0 : List Nat} {ds : List Deferred} {L : List Cl} {Rs : List Rw}
variable {S : List Nat} {w1 : World} {safe : Nat → Bool} {q : Prop} {Q : Act → World → Prop} {n : Nat} {li : Array Bool}
theorem off_new {v' v : Value} {b0 b1 : Nat} (hat : v'.ownBlock = v.ownBlock ∨ v'.ownBlock = some b1) (hb : b0 ≤ b1) (hS : ∀ z ∈ v.ownBlock.toList,z ∈ S ∨ b0 ≤ z) : ∀ z ∈ v'.ownBlock.toList,z ∈ S ∨ b0 ≤ z := by
 intro z hz
 rcases hat with e | e
 ·rw [e] at hz; exact hS z hz
 ·rw [e] at hz
  simp only [Option.toList,List.mem_singleton] at hz
  exact .inr (by omega)
theorem Sp.ap1L (h : Sp wf T0 w ds L Rs W) (hK : Keep S w1 W) (i : Nat) {v : Value} {m : Nat} {xs : List α} (hi : Rs[i]? = some (T,kk,v,m,xs.flatMap enc)) (hS : ∀ z ∈ v.ownBlock.toList,z ∈ S ∨ w1.heap.size ≤ z)
  (hi0 : (Tryz.prog.info? T).map (fun i => (i.zero.map (·.cells.size),i.size,i.bytes)) = some (some kk,kk,byt)) (hu : Tryz.prog.underlying ST = some (.slice T)) (hone : ∀ x, ∀ v ∈ enc x,v.oneCell' = true) (hlen : ∀ x,(enc x).length = kk) (hk : 0 < kk) (hby : byt ≤ 1000)
  (ho : o.op = .call { callee := .builtin .append,args := #[s,x],argTypes := #[ST,ST] }) (e : α) {g : Nat} {t : TypeId} (hs : a.eval s = v) (hx : a.eval x = .slice (some ⟨g,0,none⟩) 1 1) (hg : Blk W g t (enc e).toArray) (hl : m ≤ 10000000)
  (hk2 : ∀ A' c' W',Sp wf T0 w ds L (Rs.set i (T,kk, .slice A' (m + 1) c',m + 1,(xs ++ [e]).flatMap enc)) W' → Keep S w1 W' → (∀ z ∈ (Value.slice A' (m + 1) c').ownBlock.toList,z ∈ S ∨ w1.heap.size ≤ z) → wpX Tryz.prog l.toArray Ext (Keep S w1) safe Q n li (a.put o.dst (.slice A' (m + 1) c')) W') :
  lUpon Tryz.prog (fun v w' => (q → Keep S w1 w') ∧ ∀ w'',Ext w' w'' → wpX Tryz.prog l.toArray Ext (Keep S w1) safe Q n li (a.put o.dst v) w'') ((execOp a.eval o).run Tryz.prog W) := by
 obtain ⟨A',c',w',h1,h2,h3,h4⟩ := run_ap1 hi0 hu hone hlen hk hby ho e hs hx hg (h.row i hi (by omega)) hl h.size
 rw [h1]
 have hK2 : Keep S w1 w' := hK.of_new (Keep.of_grown h3) hS
 exact ⟨fun _ => hK2,fun W' hx' => hk2 A' c' W' ((h.push i (by omega) hi (Ext.refl W) h2 h3 h4).ext hx') (hK2.trans (hx'.keep S)) (off_new h4 hK.size hS)⟩
end
section
variable {P : Program} {l : List Oper} {o : Oper} {a : Act} {W w wf : World} {T0 : List Nat} {ds : List Deferred} {L : List Cl} {Rs : List Rw} {S : List Nat} {w1 : World} {safe : Nat → Bool} {q : Prop} {Q : Act → World → Prop} {n : Nat} {li : Array Bool}
theorem Sp.valL (h : Sp wf T0 w ds L Rs W) (hK : Keep S w1 W) {v : Value} (hrun : (execOp a.eval o).run P W = .ok (.value v) W)
  (hk : ∀ W',Sp wf T0 w ds L Rs W' → Keep S w1 W' → wpX P l.toArray Ext (Keep S w1) safe Q n li (a.put o.dst v) W') : lUpon P (fun v w' => (q → Keep S w1 w') ∧ ∀ w'',Ext w' w'' → wpX P l.toArray Ext (Keep S w1) safe Q n li (a.put o.dst v) w'') ((execOp a.eval o).run P W) := by
 rw [hrun]
 exact ⟨fun _ => hK,fun W' hx => hk W' (h.ext hx) (hK.trans (hx.keep S))⟩
theorem Sp.allocL (h : Sp wf T0 w ds L Rs W) (hK : Keep S w1 W) {v : Nat → Value} (t : TypeId) (cs : Array Value) (hrun : (execOp a.eval o).run P W = .ok (.value (v W.heap.size)) (W.alloc (.cells cs t)))
  (hk : ∀ b W',Sp wf T0 w ds (L ++ [(b,t,cs)]) Rs W' → Keep S w1 W' → w1.heap.size ≤ b → wpX P l.toArray Ext (Keep S w1) safe Q n li (a.put o.dst (v b)) W') : lUpon P (fun v w' => (q → Keep S w1 w') ∧ ∀ w'',Ext w' w'' → wpX P l.toArray Ext (Keep S w1) safe Q n li (a.put o.dst v) w'') ((execOp a.eval o).run P W) := by
 rw [hrun]
 have hK2 : Keep S w1 (W.alloc (.cells cs t)) := hK.trans ((ext_self1 W _).keep S)
 exact ⟨fun _ => hK2,fun W' hx => hk _ W' ((h.alloc t cs).ext hx) (hK2.trans (hx.keep S)) hK.size⟩
theorem Sp.setL (h : Sp wf T0 w ds L Rs W) (hK : Keep S w1 W) (i : Nat) {c : Nat} {t : TypeId} {cs : Array Value} (cs' : Array Value) (hi : L[i]? = some (c,t,cs)) (hc : c ∈ S) (hrun : Blk W c t cs → (execOp a.eval o).run P W = .ok .skip (W.setRow c cs'))
  (hk : ∀ W',Sp wf T0 w ds (L.set i (c,t,cs')) Rs W' → Keep S w1 W' → wpX P l.toArray Ext (Keep S w1) safe Q n li (a.put o.dst undef) W') : lUpon P (fun v w' => (q → Keep S w1 w') ∧ ∀ w'',Ext w' w'' → wpX P l.toArray Ext (Keep S w1) safe Q n li (a.put o.dst v) w'') ((execOp a.eval o).run P W) := by
 rw [hrun (h.get i hi)]
 have hK2 : Keep S w1 (W.setRow c cs') := hK.trans ((Keep.setRow W c cs').mono fun x hx => by rw [List.mem_singleton] at hx; subst hx; exact hc)
 exact lUpon_skip ⟨fun _ => hK2,fun W' hx => hk W' ((h.set i hi).ext hx) (hK2.trans (hx.keep S))⟩
end
section
variable {P : Program} {C : World → Prop} {safe : Nat → Bool} {Q : Act → World → Prop}
theorem lx_qlR {R : World → World → Prop} {l : List Oper} {a : Act} {w : World} (C2 : World → Prop) (qs ts : List Nat) (n m : Nat) (listed listed2 : Array Bool)
  (hB : mqB l.toArray qs ts (ancTab l.toArray) listed = true) (hn : n + qs.length = m) (hlst : qlListed l.toArray qs listed = listed2) (hsub : ∀ w,C2 w → C w)
  (hR : ∀ w,R w w) (hRt : ∀ a b c,R a b → R b c → R a c) (hCR : ∀ w w',C2 w → R w w' → C2 w') (hC : C2 w)
  (h : wpQL P l.toArray R C2 (fun a' => ∀ w',R w w' → wpX P l.toArray R C2 (fun j => !ts.contains j) Q n listed2 a' w') qs a) : wpX P l.toArray R C (fun j => !ts.contains j) Q m listed a w := by
 subst hlst hn
 simp only [mqB,Bool.and_eq_true] at hB
 obtain ⟨⟨⟨⟨h1,h2⟩,h3⟩,h5⟩,h4⟩ := hB
 refine wpX_sub hsub _ _ _ _ (wpX_qlx (ancOk_of h1) (fun j hj => ?_) h2 hR hRt hCR n qs listed a w (closed_of h5) h4 hC h)
 simp only [Bool.not_eq_true',List.contains_eq_mem,decide_eq_false_iff_not]
 intro hin
 have := List.all_eq_true.1 h3 j hin
 simp at this
 simp at hj
 omega
theorem lx_requiet {l : List Oper} {a : Act} {W : World} (S : List Nat) (qs ts2 : List Nat) (n m : Nat) (listed listed2 : Array Bool) (hre : (listed.size == l.length && (List.range l.length).all fun i => !safe i || listed.getD i true) = true)
  (hB : mqB l.toArray qs ts2 (ancTab l.toArray) listed = true) (hn : n + qs.length = m) (hlst : qlListed l.toArray qs listed = listed2)
  (h : wpQL P l.toArray Ext (Keep S W) (fun a' => ∀ w',Ext W w' → wpX P l.toArray Ext (Keep S W) (fun j => !ts2.contains j) Q n listed2 a' w') qs a) : wpX P l.toArray Ext C safe Q m listed a W := by
 refine wpX_re (C2 := Keep S W) (safe2 := fun j => !ts2.contains j) _ _ _ _ (fun i hi => ?_) (lx_qlR (Keep S W) qs ts2 n m listed listed2 hB hn hlst (fun _ h => h) Ext.refl (fun _ _ _ => Ext.trans) (fun _ _ h e => h.trans (e.keep _)) (Keep.refl _ _) h)
 simp only [Bool.and_eq_true,beq_iff_eq] at hre
 rcases Nat.lt_or_ge i l.length with hlt | hge
 ·have := List.all_eq_true.1 hre.2 i (List.mem_range.2 hlt)
  simpa [hi] using this
 ·have : listed.size ≤ i := by omega
  simp [this]
theorem lx_rekeep {l : List Oper} {a : Act} {W w1 : World} {S : List Nat} (hK : Keep S w1 W) (qs ts : List Nat) (n m : Nat) (listed listed2 : Array Bool)
  (hB : mqB l.toArray qs ts (ancTab l.toArray) listed = true) (hn : n + qs.length = m) (hlst : qlListed l.toArray qs listed = listed2)
  (h : wpQL P l.toArray Ext (Keep S W) (fun a' => ∀ w',Ext W w' → wpX P l.toArray Ext (Keep S W) (fun j => !ts.contains j) Q n listed2 a' w') qs a) : wpX P l.toArray Ext (Keep S w1) (fun j => !ts.contains j) Q m listed a W :=
 lx_qlR (Keep S W) qs ts n m listed listed2 hB hn hlst (fun _ h => hK.trans h) Ext.refl (fun _ _ _ => Ext.trans) (fun _ _ h e => h.trans (e.keep _)) (Keep.refl _ _) h
end
theorem slat_blk {α : Type} {enc : α → List Value} {k : Nat} {W : World} {b : Nat} {T : TypeId} (L : List α) (h : Blk W b T (L.flatMap enc).toArray) (hs : (L.flatMap enc).length = L.length * k) (hk : ∀ x,(enc x).length = k) (hl : L.length ≤ 1000000) : SlAt enc k W (some ⟨b,0,none⟩) L := by
 have h1 : W.ownsRow 0 T k (.slice (some ⟨b,0,none⟩) L.length L.length) L.length (L.flatMap enc) :=
  ⟨hs, .inr ⟨b,L.length,(L.flatMap enc).toArray,rfl,Nat.zero_le _,h,Nat.le_refl _,by unfold maxLen; omega,by simpa using hs,List.take_of_length_le (by simp [hs])⟩⟩
 exact own_at h1 hk
theorem ret_tct24 {P : Program} {fn : Func} {t c T u : Nat} {tmps : Array Value} {p : Addr} {W : World} {v : Value} (h : fn.results = #[.tmp t, .cell c T, .tmp u]) (hp : tmps.getD c undef = .pointer (some p)) (hl : (loadVar T p).run P W = .ok v W) :
  (results fn tmps).run P W = .ok (.tuple #[tmps.getD t undef,v,tmps.getD u undef]) W := by
 simp only [Array.getD_eq_getD_getElem?] at hp
 simp [results,h,hp,asAddr,hl]
theorem slK {w : World} {b off : Nat} {L : List Int} {S : List Nat} (h : SlAt encI 1 w (some ⟨b,off,none⟩) L) (hb : b ∉ S) {i : Nat} (hi : i < L.length) : ∀ W,Keep S w W → W.cell? ⟨b,off + i,none⟩ = some (.int .i64 L[i]) := by
 intro W hk
 obtain ⟨b',off',e,hc⟩ := atI (h.keepS hk (fun b2 o2 e hm => by injection e with e; injection e with e1 e2; subst e1; exact hb hm)) hi
 injection e with e
 injection e with e1 e2
 subst e1
 subst e2
 exact hc W (Ext.refl W)
theorem slE {w : World} {b off : Nat} {L : List Int} (h : SlAt encI 1 w (some ⟨b,off,none⟩) L) {i : Nat} (hi : i < L.length) : ∀ W,Ext w W → W.cell? ⟨b,off + i,none⟩ = some (.int .i64 L[i]) := fun W hW => slK h (S := []) (by simp) hi W (hW.keep [])
section
variable {P : Program} {C : World → Prop} {safe : Nat → Bool} {Q : Act → World → Prop} {l : List Oper} {r : List Oper} {K : Act → World → Prop} {o : Oper} {a : Act} {W w wf : World} {T0 : List Nat} {ds : List Deferred} {L : List Cl} {Rs : List Rw} {n j : Nat} {li : Array Bool}
theorem Sp.allocT (h : Sp wf T0 w ds L Rs W) (t : TypeId) (cs : Array Value) (hw : Region.wanted o (yielded l.toArray a.tmps) = true) (hrun : (execOp a.eval o).run P W = .ok (.value (.pointer (some ⟨W.heap.size,0,none⟩))) (W.alloc (.cells cs t)))
  (hk : ∀ b W',Sp wf T0 w ds (L ++ [(b,t,cs)]) Rs W' → Ext W W' → W.heap.size ≤ b → wpO P l K r (a.put o.dst (.pointer (some ⟨b,0,none⟩))) W') : wpO P l K (o :: r) a W := wpO_val hw hrun (hk _ _ (h.alloc t cs) (ext_self1 W _) (Nat.le_refl _))
theorem Sp.setT (h : Sp wf T0 w ds L Rs W) (i : Nat) {c : Nat} {t : TypeId} {cs : Array Value} (cs' : Array Value) (hi : L[i]? = some (c,t,cs)) (hw : Region.wanted o (yielded l.toArray a.tmps) = true) (hrun : Blk W c t cs → (execOp a.eval o).run P W = .ok .skip (W.setRow c cs'))
  (hk : ∀ W',Sp wf T0 w ds (L.set i (c,t,cs')) Rs W' → Keep [c] W W' → wpO P l K r (a.put o.dst undef) W') : wpO P l K (o :: r) a W := wpO_skip hw (hrun (h.get i hi)) (hk _ (h.set i hi) (Keep.setRow W c cs'))
end
end Go.Proofs.YtoacpebmhbkmbaaGreatDoor
namespace Go.Proofs.YtoacpebmhbkmbaaGreatDoor
def toK (N k : Nat) : List Int := ((List.range k).filter N.testBit).map fun (i : Nat) => (i : Int)
def toL (N : Nat) : List Int := toK N 1024
theorem toK_next (N k : Nat) : toK N (k + 1) = if N.testBit k = true then toK N k ++ [(k : Int)] else toK N k := by
 unfold toK
 rw [List.range_succ,List.filter_append,List.map_append]
 cases hb : N.testBit k <;> simp [hb]
theorem toK_le (N k : Nat) : (toK N k).length ≤ k := by
 unfold toK
 rw [List.length_map]
 have := List.length_filter_le N.testBit (List.range k)
 simpa using this
end Go.Proofs.YtoacpebmhbkmbaaGreatDoor
namespace Go.Proofs.YtoacpebmhbkmbaaGreatDoor
theorem mem_toL' {N : Nat} {x : Int} : x ∈ toL N ↔ 0 ≤ x ∧ x < 1024 ∧ N.testBit x.toNat = true := by
 unfold toL toK
 rw [List.mem_map]
 simp only [List.mem_filter,List.mem_range]
 constructor
 ·rintro ⟨i,⟨h1,h2⟩,rfl⟩
  exact ⟨by omega,by omega,by rw [Int.toNat_natCast]; exact h2⟩
 ·rintro ⟨h1,h2,h3⟩
  exact ⟨x.toNat,⟨by omega,h3⟩,by omega⟩
theorem toL_sorted (N : Nat) : (toL N).Pairwise (· < ·) := by
 unfold toL toK
 rw [List.pairwise_map]
 refine (List.pairwise_lt_range.filter _).imp fun {a b} h => ?_
 omega
theorem toL_nodup (N : Nat) : (toL N).Nodup := (toL_sorted N).imp fun {_ _} h => by omega
theorem toL_nil {N : Nat} (h : ∀ k,k < 1024 → N.testBit k = false) : toL N = [] := by
 unfold toL toK
 rw [List.map_eq_nil_iff,List.filter_eq_nil_iff]
 intro k hk
 rw [h k (List.mem_range.1 hk)]
 simp
theorem toL_cons {N j : Nat} (hj : j < 1024) (h0 : ∀ k,k < j → N.testBit k = false) (h1 : N.testBit j = true) : toL N = (j : Int) :: toL (minusS N (2 ^ j)) := by
 unfold toL toK
 have e : List.range 1024 = List.range' 0 j ++ ([j] ++ List.range' (j + 1) (1023 - j)) := by
  rw [List.range_eq_range']
  have a1 := List.range'_append (s := j) (m := 1) (n := 1023 - j) (step := 1)
  have a2 := List.range'_append (s := 0) (m := j) (n := 1 + (1023 - j)) (step := 1)
  simp only [Nat.one_mul,Nat.zero_add] at a1 a2
  rw [show List.range' j 1 = [j] from rfl] at a1
  rw [a1,a2]
  congr 1
  omega
 rw [e,List.filter_append,List.filter_append,List.filter_append,List.filter_append]
 have z1 : (List.range' 0 j).filter N.testBit = [] := by
  rw [List.filter_eq_nil_iff]
  intro k hk
  rw [List.mem_range'_1] at hk
  rw [h0 k (by omega)]; simp
 have z2 : (List.range' 0 j).filter (minusS N (2 ^ j)).testBit = [] := by
  rw [List.filter_eq_nil_iff]
  intro k hk
  rw [List.mem_range'_1] at hk
  rw [minusS_bit,h0 k (by omega)]; simp
 have z3 : [j].filter (minusS N (2 ^ j)).testBit = [] := by
  rw [List.filter_eq_nil_iff]
  intro k hk
  have : k = j := by simpa using hk
  subst this
  rw [minusS_bit,Nat.testBit_two_pow_self]; simp
 have z4 : [j].filter N.testBit = [j] := by simp [h1]
 rw [z1,z2,z3,z4,List.nil_append,List.nil_append,List.nil_append,List.map_append]
 have z5 : (List.range' (j + 1) (1023 - j)).filter N.testBit = (List.range' (j + 1) (1023 - j)).filter (minusS N (2 ^ j)).testBit := by
  refine List.filter_congr fun k hk => ?_
  rw [List.mem_range'_1] at hk
  rw [minusS_bit,Nat.testBit_two_pow]
  have : decide (j = k) = false := by simp; omega
  rw [this]; simp
 rw [z5]
 rfl
theorem ctz_bit {x : Nat} (h0 : x ≠ 0) (h : x < 18446744073709551616) : Lib.ctz 64 x < 64 ∧ x.testBit (Lib.ctz 64 x) = true ∧ ∀ i,i < Lib.ctz 64 x → x.testBit i = false := by
 obtain ⟨m,hm,hk⟩ := Lib.ctzFrom_spec 64 x (by omega) h
 have e : Lib.ctz 64 x = Lib.ctzFrom 64 x := by simp [Lib.ctz,h0]
 rw [e]
 generalize Lib.ctzFrom 64 x = c at *
 refine ⟨hk, ?_,fun i hi => ?_⟩
 ·rw [hm,Nat.testBit_two_pow_mul]
  simp [Nat.testBit_zero]
 ·rw [hm,Nat.testBit_two_pow_mul]
  simp; omega
def zeroTo (N k : Nat) : Prop := ∀ j,j < 64 * k → N.testBit j = false
theorem zeroTo_next {N k : Nat} (h : zeroTo N k) (hw : wdN N k = 0) : zeroTo N (k + 1) := by
 intro j hj
 by_cases h1 : j < 64 * k
 ·exact h j h1
 ·have := wdN_bit N k (j - 64 * k)
  rw [hw,Nat.zero_testBit,show 64 * k + (j - 64 * k) = j by omega] at this
  have h2 : decide (j - 64 * k < 64) = true := by simp; omega
  rw [h2,Bool.true_and] at this
  exact this.symm
theorem toL_zero {N : Nat} (h : zeroTo N 16) : toL N = [] := toL_nil fun k hk => h k (by omega)
theorem toL_word {N k : Nat} (hk : k < 16) (h : zeroTo N k) (hw : wdN N k ≠ 0) : toL N = ((64 * k + Lib.ctz 64 (wdN N k) : Nat) : Int) :: toL (minusS N (2 ^ (64 * k + Lib.ctz 64 (wdN N k)))) := by
 obtain ⟨h1,h2,h3⟩ := ctz_bit hw (wdN_lt N k)
 generalize Lib.ctz 64 (wdN N k) = c at *
 refine toL_cons (by omega) (fun j hj => ?_) ?_
 ·by_cases hj2 : j < 64 * k
  ·exact h j hj2
  ·have := h3 (j - 64 * k) (by omega)
   rw [wdN_bit,show 64 * k + (j - 64 * k) = j by omega] at this
   have h4 : decide (j - 64 * k < 64) = true := by simp; omega
   rw [h4,Bool.true_and] at this
   exact this
 ·rw [wdN_bit] at h2
  simp only [Bool.and_eq_true] at h2
  exact h2.2
def minV (N : Nat) : Int := (toL N).headD 0
def anyB (N : Nat) : Bool := !(toL N).isEmpty
theorem min_nil {N : Nat} (h : toL N = []) : minV N = 0 ∧ anyB N = false := by unfold minV anyB; rw [h]; exact ⟨rfl,rfl⟩
theorem min_cons {N : Nat} {x : Int} {r : List Int} (h : toL N = x :: r) : minV N = x ∧ anyB N = true := by unfold minV anyB; rw [h]; exact ⟨rfl,rfl⟩
end Go.Proofs.YtoacpebmhbkmbaaGreatDoor
