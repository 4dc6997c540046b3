/- Parts of a proof, laid together. Each part says its own conditions. -/
import Derived.Test.YtbpeemhfjgcnaaaGreatC4
import Derived.Test.YtbpeemhfjgcnaaaGreatC16
import Derived.Test.YtbpeemhfjgcnaaaGreatC5
import Derived.Test.YtbpeemhfjgcnaaaGreatC17
import Derived.Test.YtbpeemhfjgcnaaaGreatC19
namespace Go.Proofs.YtbpeemhfjgcnaaaGreat
open Go Go.RowKit
section
variable {P : Program} {κ τ : Type} [DecidableEq κ] {ek : κ → Value} {ev : τ → Value} {ok : κ → Prop} {kt et t : TypeId} {w : World} {b : Nat} {m : List (κ × τ)}
theorem run_lookup1_op (K : KE P kt ek ok) (ht : P.underlying t = some (.map kt et)) (h : MapIs ek ev ok w b m) {z0 : τ} (hz : (zeroValue et).run P w = .ok (ev z0) w) {x : κ} (hx : ok x)
  {ρ : Operand → Value} {o : Oper} {p q : Operand} (ho : o.op = .lookup t p q false) (hp : ρ p = .map (some b)) (hq : ρ q = ek x) : (execOp ρ o).run P w = .ok (.value (ev ((lookM m x).getD z0))) w := by
 have := h.lookup1 K ht hz hx
 unfold execOp
 simp only [ho,hp,hq]
 simp [this,go_sem]
theorem run_update_op (K : KE P kt ek ok) (ht : P.underlying t = some (.map kt et)) (h : MapIs ek ev ok w b m) {x : κ} (hx : ok x) (v : τ)
  {ρ : Operand → Value} {o : Oper} {p q r : Operand} (ho : o.op = .mapUpdate t p q r) (hp : ρ p = .map (some b)) (hq : ρ q = ek x) (hr : ρ r = ev v) :
  ∃ w',(execOp ρ o).run P w = .ok .skip w' ∧ MapIs ek ev ok w' b (putM m x v) ∧ Keep [b] w w' ∧ w'.heap.size = w.heap.size := by
 obtain ⟨w',h1,h2,h3,h4⟩ := h.update K ht hx v
 refine ⟨w', ?_,h2,h3,h4⟩
 unfold execOp
 simp only [ho,hp,hq,hr]
 simp [h1,go_sem]
end
theorem okK {x : Int} (h : 0 ≤ x ∧ x < 1024) : i64ok x := by unfold i64ok; omega
end Go.Proofs.YtbpeemhfjgcnaaaGreat
namespace Go.Proofs.YtbpeemhfjgcnaaaGreat
open Go Go.RowKit Go.Shelf
section
variable {κ τ : Type} {ek : κ → Value} {ev : τ → Value} {ok : κ → Prop}
def mapXs (ek : κ → Value) (ev : τ → Value) (m : List (κ × τ)) : List Value := m.flatMap fun p => [ek p.1,ev p.2]
theorem pairs_eq : ∀ {es : List MapEntry} {m : List (κ × τ)},es.flatMap (fun e => [e.key,e.val]) = mapXs ek ev m ↔ es.map kv = m.map (fun p => (ek p.1,ev p.2))
 | [],[] => by simp [mapXs]
 | [],p :: m => by simp [mapXs]
 | e :: es,[] => by simp [mapXs]
 | e :: es,p :: m => by
  have ih := pairs_eq (es := es) (m := m)
  unfold mapXs at ih ⊢
  simp only [List.flatMap_cons,List.cons_append,List.nil_append,List.cons.injEq,List.map_cons,ih,kv,Prod.mk.injEq,and_assoc]
theorem MapIs.raw {W : World} {b : Nat} {m : List (κ × τ)} (h : MapIs ek ev ok W b m) : MapRaw W b (mapXs ek ev m) := by
 obtain ⟨es,clock,h1,h2,h3,_⟩ := h
 exact ⟨es,clock,h1,h2,pairs_eq.2 h3⟩
theorem MapRaw.is {W : World} {b : Nat} {m : List (κ × τ)} (h : MapRaw W b (mapXs ek ev m)) (ho : ∀ p ∈ m,ok p.1) : MapIs ek ev ok W b m := by
 obtain ⟨es,clock,h1,h2,h3⟩ := h
 exact ⟨es,clock,h1,h2,pairs_eq.1 h3,ho⟩
end
section
variable {κ τ : Type} {ek : κ → Value} {ev : τ → Value} {ok : κ → Prop} {P : Program} {kt et t T : TypeId} {wf : World} {T0 : List Nat} {w W : World} {ds : List Deferred} {L : List Cl} {Rs : List Rw} {l : List Oper} {K : Act → World → Prop} {r : List Oper} {o : Oper} {a : Act} {mb n : Nat} {m : List (κ × τ)}
theorem Sp.map (h : Sp wf T0 w ds L Rs W) (i : Nat) (hi : Rs[i]? = some (T,0, .map (some mb),n,mapXs ek ev m)) (ho : ∀ p ∈ m,ok p.1) : MapIs ek ev ok W mb m := by
 have h1 := h.st.rows _ (List.mem_of_getElem? hi)
 unfold RowIs at h1
 rw [if_pos rfl] at h1
 obtain ⟨b,e,_,h2⟩ := h1
 injection e with e
 injection e with e
 subst e
 exact h2.is ho
theorem Sp.map_ge (h : Sp wf T0 w ds L Rs W) (i : Nat) {xs : List Value} (hi : Rs[i]? = some (T,0, .map (some mb),n,xs)) : wf.heap.size ≤ mb ∧ mb ∈ stT L Rs := by
 have hm : mb ∈ stT L Rs := List.mem_append.2 (.inr (mem_rwT.2 ⟨_,List.mem_of_getElem? hi,rfl⟩))
 exact ⟨h.st.ge _ hm,hm⟩
theorem Sp.mapNew (h : Sp wf T0 w ds L Rs W) (T n : Nat) : Sp wf T0 w ds L (Rs ++ [(T,0, .map (some W.heap.size),n,[])]) (W.alloc (.map #[] 0)) := by
 have hx := ext_self1 W (.map #[] 0)
 have h1 := h.st.ext hx
 have hs : stT L (Rs ++ [(T,0, .map (some W.heap.size),n,[])]) = stT L Rs ++ [W.heap.size] := by
  unfold stT rwT
  rw [List.flatMap_append, ← List.append_assoc]
  rfl
 have hb := h.size
 refine h.step (hx.keep []) (by simp) ⟨h1.cells,fun q hq => ?_, ?_,fun x hx' => ?_⟩ (fun x hx' => ?_)
 ·rcases List.mem_append.1 hq with hq | hq
  ·exact h1.rows q hq
  ·rw [List.mem_singleton] at hq
   subst hq
   unfold RowIs
   rw [if_pos rfl]
   exact ⟨_,rfl,hb, #[],0,(MapKept.heap_alloc W _).1,MapKept.stamped_empty 0,by simp⟩
 ·rw [hs,List.nodup_append]
  refine ⟨h.st.nd,by simp,fun x hx1 y hy e => ?_⟩
  rw [List.mem_singleton] at hy
  have := h.lt x hx1
  omega
 ·rw [hs] at hx'
  rcases List.mem_append.1 hx' with h2 | h2
  ·exact h.st.ge x h2
  ·rw [List.mem_singleton] at h2
   omega
 ·rw [hs] at hx'
  rcases List.mem_append.1 hx' with h2 | h2
  ·exact .inl h2
  ·rw [List.mem_singleton] at h2
   exact .inr (by omega)
theorem Sp.mapSet (h : Sp wf T0 w ds L Rs W) (i : Nat) {xs xs' : List Value} (hi : Rs[i]? = some (T,0, .map (some mb),n,xs)) {n' : Nat} {W' : World} (hr : MapRaw W' mb xs') (hk : Keep [mb] W W') : Sp wf T0 w ds L (Rs.set i (T,0, .map (some mb),n',xs')) W' := by
 have hlt := (List.getElem?_eq_some_iff.1 hi).1
 have hei := (List.getElem?_eq_some_iff.1 hi).2
 have hge := h.map_ge i hi
 have hs : stT L (Rs.set i (T,0, .map (some mb),n',xs')) = stT L Rs := by
  unfold stT rwT
  congr 1
  rw [List.flatMap_def,List.flatMap_def]
  congr 1
  rw [List.map_set]
  exact set_self (by rw [List.getElem?_map,hi]; rfl)
 have hn := h.st.nd
 unfold stT at hn
 rw [List.nodup_append] at hn
 refine h.step hk (fun x hx => by rw [List.mem_singleton] at hx; subst hx; exact .inl hge.2) ⟨fun e he => ?_,fun q hq => ?_,by rw [hs]; exact h.st.nd,by rw [hs]; exact h.st.ge⟩ (by rw [hs]; exact .refl _ _)
 ·refine (h.st.cells e he).keep hk fun hm => ?_
  rw [List.mem_singleton] at hm
  exact hn.2.2 _ (List.mem_map.2 ⟨e,he,rfl⟩) _ (mem_rwT.2 ⟨_,List.mem_of_getElem? hi,rfl⟩) hm
 ·obtain ⟨j,hj⟩ := List.getElem?_of_mem hq
  by_cases hij : i = j
  ·subst hij
   rw [List.getElem?_set_self hlt] at hj
   cases hj
   unfold RowIs
   rw [if_pos rfl]
   exact ⟨mb,rfl,hge.1,hr⟩
  ·rw [List.getElem?_set_ne hij] at hj
   refine (h.st.rows q (List.mem_of_getElem? hj)).keep hk fun g hg e => ?_
   rw [List.mem_singleton] at hg
   subst hg
   have hp := hn.2.1
   unfold rwT at hp
   have hpw := List.pairwise_flatMap.1 hp
   have h3 := List.pairwise_iff_getElem.1 hpw.2
   have hj' := List.getElem?_eq_some_iff.1 hj
   rcases Nat.lt_or_gt_of_ne hij with hlt2 | hlt2
   ·exact h3 i j hlt hj'.1 hlt2 g (by rw [hei]; simp [rwB,mapB]) g (by rw [hj'.2,e]; simp) rfl
   ·exact h3 j i hj'.1 hlt hlt2 g (by rw [hj'.2,e]; simp) g (by rw [hei]; simp [rwB,mapB]) rfl
theorem run_makeMapO {ρ : Operand → Value} {o : Oper} {w : World} (ho : o.op = .makeMap t none) : (execOp ρ o).run P w = .ok (.value (.map (some w.heap.size))) (w.alloc (.map #[] 0)) := by
 unfold execOp
 simp only [ho]
 simp [run_makeMap,go_sem]
theorem Sp.mapNewO (h : Sp wf T0 w ds L Rs W) (T n : Nat) (hw : Region.wanted o (yielded l.toArray a.tmps) = true) (hrun : (execOp a.eval o).run P W = .ok (.value (.map (some W.heap.size))) (W.alloc (.map #[] 0)))
  (hk : ∀ b W',Sp wf T0 w ds L (Rs ++ [(T,0, .map (some b),n,[])]) W' → wpO P l K r (a.put o.dst (.map (some b))) W') : wpO P l K (o :: r) a W := wpO_val hw hrun (hk _ _ (h.mapNew T n))
variable [DecidableEq κ]
theorem Sp.mapPutO (h : Sp wf T0 w ds L Rs W) (i : Nat) (hi : Rs[i]? = some (T,0, .map (some mb),n,mapXs ek ev m)) (hok : ∀ p ∈ m,ok p.1) (hw : Region.wanted o (yielded l.toArray a.tmps) = true) (Kk : KE P kt ek ok) (ht : P.underlying t = some (.map kt et)) {x : κ} (hx : ok x) (v : τ)
  {p q s : Operand} (ho : o.op = .mapUpdate t p q s) (hp : a.eval p = .map (some mb)) (hq : a.eval q = ek x) (hs : a.eval s = ev v) (n' : Nat)
  (hk : ∀ W',Sp wf T0 w ds L (Rs.set i (T,0, .map (some mb),n',mapXs ek ev (putM m x v))) W' → wpO P l K r (a.put o.dst undef) W') : wpO P l K (o :: r) a W := by
 obtain ⟨w',h1,h2,h3,_⟩ := run_update_op Kk ht (h.map i hi hok) hx v ho hp hq hs
 exact wpO_skip hw h1 (hk _ (h.mapSet i hi h2.raw h3))
theorem Sp.look1O (h : Sp wf T0 w ds L Rs W) (i : Nat) (hi : Rs[i]? = some (T,0, .map (some mb),n,mapXs ek ev m)) (hok : ∀ p ∈ m,ok p.1) (hw : Region.wanted o (yielded l.toArray a.tmps) = true) (Kk : KE P kt ek ok) (ht : P.underlying t = some (.map kt et)) {z0 : τ} (hz : (zeroValue et).run P W = .ok (ev z0) W) {x : κ} (hx : ok x)
  {p q : Operand} (ho : o.op = .lookup t p q false) (hp : a.eval p = .map (some mb)) (hq : a.eval q = ek x) (hk : wpO P l K r (a.put o.dst (ev ((lookM m x).getD z0))) W) : wpO P l K (o :: r) a W :=
 wpO_val hw (run_lookup1_op Kk ht (h.map i hi hok) hz hx ho hp hq) hk
end
section
variable {α : Type} {enc : α → List Value} {T ST : TypeId} {kk byt : Nat} {l : List Oper} {s x : Operand} {o : Oper} {a : Act} {W w wf : World} {T0 : List Nat} {ds : List Deferred} {L : List Cl} {Rs : List Rw}
theorem Sp.apAO {K : Act → World → Prop} {r : List Oper} (h : Sp wf T0 w ds L Rs W) (i : Nat) {v : Value} {m : Nat} {xs : List α} (hi : Rs[i]? = some (T,kk,v,m,xs.flatMap enc)) (hw : Region.wanted o (yielded l.toArray a.tmps) = true) (hi0 : (Tryz.prog.info? T).map (fun i => (i.zero.map (·.cells.size),i.size,i.bytes)) = some (some kk,kk,byt)) (hu : Tryz.prog.underlying ST = some (.slice T)) (hone : ∀ x, ∀ v ∈ enc x,v.oneCell' = true) (hlen : ∀ x,(enc x).length = kk) (hk : 0 < kk) (hby : byt ≤ 1000)
  (ho : o.op = .call { callee := .builtin .append,args := #[s,x],argTypes := #[ST,ST] }) (ys : List α) {my c : Nat} {A : Option Addr} (hs : a.eval s = v) (hx : a.eval x = .slice A my c) (hm : ys.length = my) (hsrc : SlAt enc kk W A ys) (hl : m + my ≤ 100000000)
  (hk2 : ∀ A' c' W',Sp wf T0 w ds L (Rs.set i (T,kk, .slice A' (m + my) c',m + my,(xs ++ ys).flatMap enc)) W' → wpO Tryz.prog l K r (a.put o.dst (.slice A' (m + my) c')) W') : wpO Tryz.prog l K (o :: r) a W :=
 wpO_apA hw hi0 hu hone hlen hk hby ho ys hs hx hm hsrc (h.row i hi (by omega)) hl h.size fun A' c' w' h1 h2 h3 => hk2 A' c' w' (h.push i (by omega) hi (Ext.refl W) h1 h2 h3)
variable {S : List Nat} {w1 : World} {safe : Nat → Bool} {q : Prop} {Q : Act → World → Prop} {n : Nat} {li : Array Bool}
theorem off_new {v' v : Value} {b0 b1 : Nat} (hat : v'.ownBlock = v.ownBlock ∨ v'.ownBlock = some b1) (hb : b0 ≤ b1) (hS : ∀ z ∈ v.ownBlock.toList,z ∈ S ∨ b0 ≤ z) : ∀ z ∈ v'.ownBlock.toList,z ∈ S ∨ b0 ≤ z := by
 intro z hz
 rcases hat with e | e
 ·rw [e] at hz; exact hS z hz
 ·rw [e] at hz
  simp only [Option.toList,List.mem_singleton] at hz
  exact .inr (by omega)
theorem Sp.apAL (h : Sp wf T0 w ds L Rs W) (hK : Keep S w1 W) (i : Nat) {v : Value} {m : Nat} {xs : List α} (hi : Rs[i]? = some (T,kk,v,m,xs.flatMap enc)) (hS : ∀ z ∈ v.ownBlock.toList,z ∈ S ∨ w1.heap.size ≤ z)
  (hi0 : (Tryz.prog.info? T).map (fun i => (i.zero.map (·.cells.size),i.size,i.bytes)) = some (some kk,kk,byt)) (hu : Tryz.prog.underlying ST = some (.slice T)) (hone : ∀ x, ∀ v ∈ enc x,v.oneCell' = true) (hlen : ∀ x,(enc x).length = kk) (hk : 0 < kk) (hby : byt ≤ 1000)
  (ho : o.op = .call { callee := .builtin .append,args := #[s,x],argTypes := #[ST,ST] }) (ys : List α) {my c : Nat} {A : Option Addr} (hs : a.eval s = v) (hx : a.eval x = .slice A my c) (hm : ys.length = my) (hsrc : SlAt enc kk W A ys) (hl : m + my ≤ 100000000)
  (hk2 : ∀ A' c' W',Sp wf T0 w ds L (Rs.set i (T,kk, .slice A' (m + my) c',m + my,(xs ++ ys).flatMap enc)) W' → Keep S w1 W' → (∀ z ∈ (Value.slice A' (m + my) c').ownBlock.toList,z ∈ S ∨ w1.heap.size ≤ z) → wpX Tryz.prog l.toArray Ext (Keep S w1) safe Q n li (a.put o.dst (.slice A' (m + my) c')) W') :
  lUpon Tryz.prog (fun v w' => (q → Keep S w1 w') ∧ ∀ w'',Ext w' w'' → wpX Tryz.prog l.toArray Ext (Keep S w1) safe Q n li (a.put o.dst v) w'') ((execOp a.eval o).run Tryz.prog W) := by
 obtain ⟨A',c',w',h1,h2,h3,h4⟩ := run_apA hi0 hu hone hlen hk hby ho ys hs hx hm hsrc (h.row i hi (by omega)) hl h.size
 rw [h1]
 have hK2 : Keep S w1 w' := hK.of_new (Keep.of_grown h3) hS
 exact ⟨fun _ => hK2,fun W' hx' => hk2 A' c' W' ((h.push i (by omega) hi (Ext.refl W) h2 h3 h4).ext hx') (hK2.trans (hx'.keep S)) (off_new h4 hK.size hS)⟩
theorem Sp.ap1L (h : Sp wf T0 w ds L Rs W) (hK : Keep S w1 W) (i : Nat) {v : Value} {m : Nat} {xs : List α} (hi : Rs[i]? = some (T,kk,v,m,xs.flatMap enc)) (hS : ∀ z ∈ v.ownBlock.toList,z ∈ S ∨ w1.heap.size ≤ z)
  (hi0 : (Tryz.prog.info? T).map (fun i => (i.zero.map (·.cells.size),i.size,i.bytes)) = some (some kk,kk,byt)) (hu : Tryz.prog.underlying ST = some (.slice T)) (hone : ∀ x, ∀ v ∈ enc x,v.oneCell' = true) (hlen : ∀ x,(enc x).length = kk) (hk : 0 < kk) (hby : byt ≤ 1000)
  (ho : o.op = .call { callee := .builtin .append,args := #[s,x],argTypes := #[ST,ST] }) (e : α) {g : Nat} {t : TypeId} (hs : a.eval s = v) (hx : a.eval x = .slice (some ⟨g,0,none⟩) 1 1) (hg : Blk W g t (enc e).toArray) (hl : m ≤ 10000000)
  (hk2 : ∀ A' c' W',Sp wf T0 w ds L (Rs.set i (T,kk, .slice A' (m + 1) c',m + 1,(xs ++ [e]).flatMap enc)) W' → Keep S w1 W' → (∀ z ∈ (Value.slice A' (m + 1) c').ownBlock.toList,z ∈ S ∨ w1.heap.size ≤ z) → wpX Tryz.prog l.toArray Ext (Keep S w1) safe Q n li (a.put o.dst (.slice A' (m + 1) c')) W') :
  lUpon Tryz.prog (fun v w' => (q → Keep S w1 w') ∧ ∀ w'',Ext w' w'' → wpX Tryz.prog l.toArray Ext (Keep S w1) safe Q n li (a.put o.dst v) w'') ((execOp a.eval o).run Tryz.prog W) := by
 obtain ⟨A',c',w',h1,h2,h3,h4⟩ := run_ap1 hi0 hu hone hlen hk hby ho e hs hx hg (h.row i hi (by omega)) hl h.size
 rw [h1]
 have hK2 : Keep S w1 w' := hK.of_new (Keep.of_grown h3) hS
 exact ⟨fun _ => hK2,fun W' hx' => hk2 A' c' W' ((h.push i (by omega) hi (Ext.refl W) h2 h3 h4).ext hx') (hK2.trans (hx'.keep S)) (off_new h4 hK.size hS)⟩
end
section
variable {P : Program} {l : List Oper} {o : Oper} {a : Act} {W w wf : World} {T0 : List Nat} {ds : List Deferred} {L : List Cl} {Rs : List Rw} {S : List Nat} {w1 : World} {safe : Nat → Bool} {q : Prop} {Q : Act → World → Prop} {n : Nat} {li : Array Bool}
theorem Sp.valL (h : Sp wf T0 w ds L Rs W) (hK : Keep S w1 W) {v : Value} (hrun : (execOp a.eval o).run P W = .ok (.value v) W)
  (hk : ∀ W',Sp wf T0 w ds L Rs W' → Keep S w1 W' → wpX P l.toArray Ext (Keep S w1) safe Q n li (a.put o.dst v) W') : lUpon P (fun v w' => (q → Keep S w1 w') ∧ ∀ w'',Ext w' w'' → wpX P l.toArray Ext (Keep S w1) safe Q n li (a.put o.dst v) w'') ((execOp a.eval o).run P W) := by
 rw [hrun]
 exact ⟨fun _ => hK,fun W' hx => hk W' (h.ext hx) (hK.trans (hx.keep S))⟩
theorem Sp.allocL (h : Sp wf T0 w ds L Rs W) (hK : Keep S w1 W) {v : Nat → Value} (t : TypeId) (cs : Array Value) (hrun : (execOp a.eval o).run P W = .ok (.value (v W.heap.size)) (W.alloc (.cells cs t)))
  (hk : ∀ b W',Sp wf T0 w ds (L ++ [(b,t,cs)]) Rs W' → Keep S w1 W' → w1.heap.size ≤ b → wpX P l.toArray Ext (Keep S w1) safe Q n li (a.put o.dst (v b)) W') : lUpon P (fun v w' => (q → Keep S w1 w') ∧ ∀ w'',Ext w' w'' → wpX P l.toArray Ext (Keep S w1) safe Q n li (a.put o.dst v) w'') ((execOp a.eval o).run P W) := by
 rw [hrun]
 have hK2 : Keep S w1 (W.alloc (.cells cs t)) := hK.trans ((ext_self1 W _).keep S)
 exact ⟨fun _ => hK2,fun W' hx => hk _ W' ((h.alloc t cs).ext hx) (hK2.trans (hx.keep S)) hK.size⟩
theorem Sp.setL (h : Sp wf T0 w ds L Rs W) (hK : Keep S w1 W) (i : Nat) {c : Nat} {t : TypeId} {cs : Array Value} (cs' : Array Value) (hi : L[i]? = some (c,t,cs)) (hc : c ∈ S) (hrun : Blk W c t cs → (execOp a.eval o).run P W = .ok .skip (W.setRow c cs'))
  (hk : ∀ W',Sp wf T0 w ds (L.set i (c,t,cs')) Rs W' → Keep S w1 W' → wpX P l.toArray Ext (Keep S w1) safe Q n li (a.put o.dst undef) W') : lUpon P (fun v w' => (q → Keep S w1 w') ∧ ∀ w'',Ext w' w'' → wpX P l.toArray Ext (Keep S w1) safe Q n li (a.put o.dst v) w'') ((execOp a.eval o).run P W) := by
 rw [hrun (h.get i hi)]
 have hK2 : Keep S w1 (W.setRow c cs') := hK.trans ((Keep.setRow W c cs').mono fun x hx => by rw [List.mem_singleton] at hx; subst hx; exact hc)
 exact lUpon_skip ⟨fun _ => hK2,fun W' hx => hk W' ((h.set i hi).ext hx) (hK2.trans (hx.keep S))⟩
end
section
variable {P : Program} {C : World → Prop} {safe : Nat → Bool} {Q : Act → World → Prop}
theorem lx_qlR {R : World → World → Prop} {l : List Oper} {a : Act} {w : World} (C2 : World → Prop) (qs ts : List Nat) (n m : Nat) (listed listed2 : Array Bool)
  (hB : mqB l.toArray qs ts (ancTab l.toArray) listed = true) (hn : n + qs.length = m) (hlst : qlListed l.toArray qs listed = listed2) (hsub : ∀ w,C2 w → C w)
  (hR : ∀ w,R w w) (hRt : ∀ a b c,R a b → R b c → R a c) (hCR : ∀ w w',C2 w → R w w' → C2 w') (hC : C2 w)
  (h : wpQL P l.toArray R C2 (fun a' => ∀ w',R w w' → wpX P l.toArray R C2 (fun j => !ts.contains j) Q n listed2 a' w') qs a) : wpX P l.toArray R C (fun j => !ts.contains j) Q m listed a w := by
 subst hlst hn
 simp only [mqB,Bool.and_eq_true] at hB
 obtain ⟨⟨⟨⟨h1,h2⟩,h3⟩,h5⟩,h4⟩ := hB
 refine wpX_sub hsub _ _ _ _ (wpX_qlx (ancOk_of h1) (fun j hj => ?_) h2 hR hRt hCR n qs listed a w (closed_of h5) h4 hC h)
 simp only [Bool.not_eq_true',List.contains_eq_mem,decide_eq_false_iff_not]
 intro hin
 have := List.all_eq_true.1 h3 j hin
 simp at this
 simp at hj
 omega
theorem lx_rekeep {l : List Oper} {a : Act} {W w1 : World} {S : List Nat} (hK : Keep S w1 W) (qs ts : List Nat) (n m : Nat) (listed listed2 : Array Bool)
  (hB : mqB l.toArray qs ts (ancTab l.toArray) listed = true) (hn : n + qs.length = m) (hlst : qlListed l.toArray qs listed = listed2)
  (h : wpQL P l.toArray Ext (Keep S W) (fun a' => ∀ w',Ext W w' → wpX P l.toArray Ext (Keep S W) (fun j => !ts.contains j) Q n listed2 a' w') qs a) : wpX P l.toArray Ext (Keep S w1) (fun j => !ts.contains j) Q m listed a W :=
 lx_qlR (Keep S W) qs ts n m listed listed2 hB hn hlst (fun _ h => hK.trans h) Ext.refl (fun _ _ _ => Ext.trans) (fun _ _ h e => h.trans (e.keep _)) (Keep.refl _ _) h
end
theorem slat_blk {α : Type} {enc : α → List Value} {k : Nat} {W : World} {b : Nat} {T : TypeId} (L : List α) (h : Blk W b T (L.flatMap enc).toArray) (hs : (L.flatMap enc).length = L.length * k) (hk : ∀ x,(enc x).length = k) (hl : L.length ≤ 1000000) : SlAt enc k W (some ⟨b,0,none⟩) L := by
 have h1 : W.ownsRow 0 T k (.slice (some ⟨b,0,none⟩) L.length L.length) L.length (L.flatMap enc) :=
  ⟨hs, .inr ⟨b,L.length,(L.flatMap enc).toArray,rfl,Nat.zero_le _,h,Nat.le_refl _,by unfold maxLen; omega,by simpa using hs,List.take_of_length_le (by simp [hs])⟩⟩
 exact own_at h1 hk
theorem ret_tct24 {P : Program} {fn : Func} {t c T u : Nat} {tmps : Array Value} {p : Addr} {W : World} {v : Value} (h : fn.results = #[.tmp t, .cell c T, .tmp u]) (hp : tmps.getD c undef = .pointer (some p)) (hl : (loadVar T p).run P W = .ok v W) :
  (results fn tmps).run P W = .ok (.tuple #[tmps.getD t undef,v,tmps.getD u undef]) W := by
 simp only [Array.getD_eq_getD_getElem?] at hp
 simp [results,h,hp,asAddr,hl]
section
variable {P : Program} {C : World → Prop} {safe : Nat → Bool} {Q : Act → World → Prop} {l : List Oper} {r : List Oper} {K : Act → World → Prop} {o : Oper} {a : Act} {W w wf : World} {T0 : List Nat} {ds : List Deferred} {L : List Cl} {Rs : List Rw} {n j : Nat} {li : Array Bool}
theorem Sp.allocT (h : Sp wf T0 w ds L Rs W) (t : TypeId) (cs : Array Value) (hw : Region.wanted o (yielded l.toArray a.tmps) = true) (hrun : (execOp a.eval o).run P W = .ok (.value (.pointer (some ⟨W.heap.size,0,none⟩))) (W.alloc (.cells cs t)))
  (hk : ∀ b W',Sp wf T0 w ds (L ++ [(b,t,cs)]) Rs W' → Ext W W' → W.heap.size ≤ b → wpO P l K r (a.put o.dst (.pointer (some ⟨b,0,none⟩))) W') : wpO P l K (o :: r) a W := wpO_val hw hrun (hk _ _ (h.alloc t cs) (ext_self1 W _) (Nat.le_refl _))
theorem Sp.setT (h : Sp wf T0 w ds L Rs W) (i : Nat) {c : Nat} {t : TypeId} {cs : Array Value} (cs' : Array Value) (hi : L[i]? = some (c,t,cs)) (hw : Region.wanted o (yielded l.toArray a.tmps) = true) (hrun : Blk W c t cs → (execOp a.eval o).run P W = .ok .skip (W.setRow c cs'))
  (hk : ∀ W',Sp wf T0 w ds (L.set i (c,t,cs')) Rs W' → Keep [c] W W' → wpO P l K r (a.put o.dst undef) W') : wpO P l K (o :: r) a W := wpO_skip hw (hrun (h.get i hi)) (hk _ (h.set i hi) (Keep.setRow W c cs'))
end
end Go.Proofs.YtbpeemhfjgcnaaaGreat
namespace Go.Proofs.YtbpeemhfjgcnaaaGreat
def lcmp : List Int → List Int → Int
 | [],[] => 0
 | [],_ :: _ => -1
 | _ :: _,[] => 1
 | a :: x,b :: y => if a < b then -1 else if b < a then 1 else lcmp x y
theorem lcmp_self : ∀ x,lcmp x x = 0
 | [] => rfl
 | a :: x => by unfold lcmp; rw [if_neg (by omega),if_neg (by omega)]; exact lcmp_self x
theorem lcmp_eq : ∀ {x y : List Int},lcmp x y = 0 → x = y
 | [],[],_ => rfl
 | [],_ :: _,h => by simp [lcmp] at h
 | _ :: _,[],h => by simp [lcmp] at h
 | a :: x,b :: y,h => by
  unfold lcmp at h
  split at h
  ·cases h
  ·split at h
   ·cases h
   ·rw [lcmp_eq h,show a = b by omega]
theorem lcmp_zero {x y : List Int} : lcmp x y = 0 ↔ x = y := ⟨lcmp_eq,fun h => by rw [h]; exact lcmp_self y⟩
theorem lcmp_neg : ∀ x y : List Int,lcmp y x = -lcmp x y
 | [],[] => rfl
 | [],_ :: _ => rfl
 | _ :: _,[] => rfl
 | a :: x,b :: y => by
  unfold lcmp
  by_cases h1 : a < b
  ·rw [if_neg (by omega),if_pos h1,if_pos h1]; rfl
  ·by_cases h2 : b < a
   ·rw [if_pos h2,if_neg h1,if_pos h2]
   ·rw [if_neg h2,if_neg h1,if_neg h1,if_neg h2]; exact lcmp_neg x y
theorem lcmp_le_trans : ∀ {x y z : List Int},lcmp x y ≤ 0 → lcmp y z ≤ 0 → lcmp x z ≤ 0
 | [],[],z,_,h => h
 | [],_ :: _,[],_,h => by simp [lcmp] at h
 | [],_ :: _,_ :: _,_,_ => by simp [lcmp]
 | _ :: _,[],_,h,_ => by simp [lcmp] at h
 | _ :: _,_ :: _,[],_,h => by simp [lcmp] at h
 | a :: x,b :: y,c :: z,h1,h2 => by
  unfold lcmp at h1 h2 ⊢
  split at h1
  ·split at h2
   ·rw [if_pos (by omega)]; decide
   ·split at h2
    ·exact absurd h2 (by decide)
    ·rw [if_pos (by omega)]; decide
  ·split at h1
   ·exact absurd h1 (by decide)
   ·split at h2
    ·rw [if_pos (by omega)]; decide
    ·split at h2
     ·exact absurd h2 (by decide)
     ·rw [if_neg (by omega),if_neg (by omega)]
      exact lcmp_le_trans h1 h2
theorem lcmp_lt_trans {x y z : List Int} (h1 : lcmp x y < 0) (h2 : lcmp y z < 0) : lcmp x z < 0 := by
 have h3 := lcmp_le_trans (by omega : lcmp x y ≤ 0) (by omega : lcmp y z ≤ 0)
 by_cases h : lcmp x z = 0
 ·have := lcmp_eq h
  subst this
  have := lcmp_neg x y
  omega
 ·omega
theorem lcmp_lt_of_le {x y z : List Int} (h1 : lcmp x y ≤ 0) (h2 : lcmp y z < 0) : lcmp x z < 0 := by
 by_cases h : lcmp x y = 0
 ·rw [lcmp_eq h]; exact h2
 ·exact lcmp_lt_trans (by omega) h2
theorem lcmp_anti {x y : List Int} (h1 : lcmp x y ≤ 0) (h2 : lcmp y x ≤ 0) : x = y := by
 have := lcmp_neg x y
 exact lcmp_eq (by omega)
theorem lcmp_cons (a b : Int) (x y : List Int) : lcmp (a :: x) (b :: y) = if a < b then -1 else if b < a then 1 else lcmp x y := rfl
theorem lcmp_app : ∀ {x x' : List Int} (y y' : List Int),x.length = x'.length → lcmp (x ++ y) (x' ++ y') = if lcmp x x' = 0 then lcmp y y' else lcmp x x'
 | [],[],y,y',_ => by rw [lcmp_self []]; rfl
 | [],_ :: _,_,_,h => by simp at h
 | _ :: _,[],_,_,h => by simp at h
 | a :: x,b :: x',y,y',h => by
  have ih := lcmp_app (x := x) (x' := x') y y' (by simpa using h)
  rw [List.cons_append,List.cons_append,lcmp_cons,lcmp_cons]
  by_cases h1 : a < b
  ·rw [if_pos h1,if_pos h1,if_neg (by decide)]
  ·by_cases h2 : b < a
   ·rw [if_neg h1,if_pos h2,if_neg h1,if_pos h2,if_neg (by decide)]
   ·rw [if_neg h1,if_neg h2,if_neg h1,if_neg h2]; exact ih
theorem lsorted_ext {A B : List (List Int)} (hA : A.Pairwise fun x y => lcmp x y < 0) (hB : B.Pairwise fun x y => lcmp x y < 0) (h : ∀ x,x ∈ A ↔ x ∈ B) : A = B := by
 have nd : ∀ {C : List (List Int)},(C.Pairwise fun x y => lcmp x y < 0) → C.Nodup := fun hC => hC.imp fun {a b} hab e => by rw [e,lcmp_self] at hab; omega
 refine List.Perm.eq_of_pairwise (le := fun x y => lcmp x y < 0) (fun a b _ _ h1 h2 => ?_) hA hB ((List.perm_ext_iff_of_nodup (nd hA) (nd hB)).2 h)
 have := lcmp_neg a b
 omega
def allN : Nat → List Int → List (List Int)
 | 0,_ => [[]]
 | n + 1,l => (List.range l.length).flatMap fun i => (allN n (l.eraseIdx i)).map fun r => l.getD i 0 :: r
theorem getD_at {l : List Int} {i : Nat} (h : i < l.length) : l.getD i 0 = l[i] := by
 rw [List.getD_eq_getElem?_getD,List.getElem?_eq_getElem h]; rfl
theorem erase_perm : ∀ (l : List Int) (i : Nat) (h : i < l.length),(l[i] :: l.eraseIdx i).Perm l
 | [],_,h => by simp at h
 | a :: l,0,_ => by simp
 | a :: l,i + 1,h => by
  have ih := erase_perm l i (by simpa using h)
  simp only [List.getElem_cons_succ,List.eraseIdx_cons_succ]
  exact (List.Perm.swap _ _ _).trans (ih.cons a)
theorem mem_allN : ∀ (n : Nat) (l : List Int),l.length = n → ∀ p,p ∈ allN n l ↔ p.Perm l
 | 0,l,hl,p => by
  have : l = [] := List.eq_nil_of_length_eq_zero hl
  subst this
  unfold allN
  rw [List.mem_singleton]
  exact ⟨fun h => by rw [h],fun h => List.perm_nil.1 h⟩
 | n + 1,l,hl,p => by
  unfold allN
  rw [List.mem_flatMap]
  constructor
  ·rintro ⟨i,hi,h⟩
   have hil := List.mem_range.1 hi
   obtain ⟨r,hr,e⟩ := List.mem_map.1 h
   have h1 := (mem_allN n (l.eraseIdx i) (by rw [List.length_eraseIdx_of_lt hil]; omega) r).1 hr
   rw [← e,getD_at hil]
   exact (h1.cons _).trans (erase_perm l i hil)
  ·intro h
   cases p with
   | nil => have := h.length_eq; simp at this; omega
   | cons x r =>
    obtain ⟨i,hil,e⟩ := List.mem_iff_getElem.1 (h.mem_iff.1 (List.mem_cons_self : x ∈ x :: r))
    refine ⟨i,List.mem_range.2 hil,List.mem_map.2 ⟨r, ?_,by rw [getD_at hil,e]⟩⟩
    refine (mem_allN n (l.eraseIdx i) (by rw [List.length_eraseIdx_of_lt hil]; omega) r).2 ?_
    have h2 := h.trans (erase_perm l i hil).symm
    rw [e] at h2
    exact h2.cons_inv
def fact : Nat → Nat
 | 0 => 1
 | n + 1 => (n + 1) * fact n
theorem allN_len : ∀ (n : Nat) (l : List Int),l.length = n → (allN n l).length = fact n
 | 0,_,_ => rfl
 | n + 1,l,hl => by
  unfold allN fact
  rw [List.length_flatMap]
  have : (List.range l.length).map (fun i => ((allN n (l.eraseIdx i)).map fun r => l.getD i 0 :: r).length) = (List.range l.length).map fun _ => fact n := by
   refine List.map_congr_left fun i hi => ?_
   have hil := List.mem_range.1 hi
   rw [List.length_map,allN_len n _ (by rw [List.length_eraseIdx_of_lt hil]; omega)]
  rw [this,hl]
  have : ∀ k,((List.range k).map fun _ => fact n).sum = k * fact n := by
   intro k
   induction k with
   | zero => simp
   | succ k ih => rw [List.range_succ,List.map_append,List.sum_append,ih,Nat.succ_mul]; simp
  exact this _
theorem allN_sorted : ∀ (n : Nat) (l : List Int),l.length = n → l.Pairwise (· < ·) → (allN n l).Pairwise fun x y => lcmp x y < 0
 | 0,_,_,_ => by unfold allN; simp
 | n + 1,l,hl,hs => by
  unfold allN
  rw [List.pairwise_flatMap]
  refine ⟨fun i hi => ?_, ?_⟩
  ·have hil := List.mem_range.1 hi
   rw [List.pairwise_map]
   refine (allN_sorted n _ (by rw [List.length_eraseIdx_of_lt hil]; omega) (hs.sublist (List.eraseIdx_sublist _ _))).imp fun {a b} h => ?_
   unfold lcmp
   rw [if_neg (by omega),if_neg (by omega)]
   exact h
  ·refine List.pairwise_lt_range.imp_of_mem fun {i j} hi hj hij x hx y hy => ?_
   have hil := List.mem_range.1 hi
   have hjl := List.mem_range.1 hj
   obtain ⟨r,_,e⟩ := List.mem_map.1 hx
   obtain ⟨q,_,f⟩ := List.mem_map.1 hy
   rw [← e, ← f,getD_at hil,getD_at hjl]
   have := List.pairwise_iff_getElem.1 hs i j hil hjl hij
   unfold lcmp
   rw [if_pos this]
   decide
def firstP (key : List Int → List Int) (a : List Int) (l : List (List Int)) : List Int := l.foldl (fun b x => if lcmp (key x) (key b) < 0 then x else b) a
theorem firstP_spec (key : List Int → List Int) : ∀ (l : List (List Int)) (a : List Int),(a :: l).Pairwise (fun x y => lcmp x y < 0) → firstP key a l ∈ a :: l ∧ ∀ x ∈ a :: l,lcmp (key (firstP key a l)) (key x) < 0 ∨ (key (firstP key a l) = key x ∧ lcmp (firstP key a l) x ≤ 0)
 | [],a,_ => ⟨by simp [firstP],fun x hx => by
  rw [List.mem_singleton] at hx
  subst hx
  exact .inr ⟨rfl,by show lcmp x x ≤ 0; rw [lcmp_self]; decide⟩⟩
 | b :: l,a,h => by
  have hstep : firstP key a (b :: l) = firstP key (if lcmp (key b) (key a) < 0 then b else a) l := rfl
  obtain ⟨h1,h2⟩ := List.pairwise_cons.1 h
  have hab := h1 b (by simp)
  rw [hstep]
  by_cases hc : lcmp (key b) (key a) < 0
  ·rw [if_pos hc]
   obtain ⟨m,sp⟩ := firstP_spec key l b h2
   refine ⟨List.mem_cons_of_mem _ m,fun x hx => ?_⟩
   rcases List.mem_cons.1 hx with rfl | hx
   ·rcases sp b (by simp) with h3 | ⟨h3,_⟩
    ·exact .inl (lcmp_lt_trans h3 hc)
    ·exact .inl (by rw [h3]; exact hc)
   ·exact sp x hx
  ·rw [if_neg hc]
   obtain ⟨h3,h4⟩ := List.pairwise_cons.1 h2
   obtain ⟨m,sp⟩ := firstP_spec key l a (List.pairwise_cons.2 ⟨fun x hx => h1 x (by simp [hx]),h4⟩)
   refine ⟨?_,fun x hx => ?_⟩
   ·rcases List.mem_cons.1 m with e | m
    ·rw [e]; simp
    ·simp [m]
   ·rcases List.mem_cons.1 hx with rfl | hx
    ·exact sp x (by simp)
    ·rcases List.mem_cons.1 hx with rfl | hx
     ·have hge : lcmp (key a) (key x) ≤ 0 := by have := lcmp_neg (key x) (key a); omega
      rcases sp a (by simp) with h5 | ⟨h5,h6⟩
      ·exact .inl (by
        have := lcmp_le_trans (by omega : lcmp (key (firstP key a l)) (key a) ≤ 0) hge
        by_cases h0 : lcmp (key (firstP key a l)) (key x) = 0
        ·have e := lcmp_eq h0
         rw [e] at h5
         omega
        ·omega)
      ·by_cases h0 : lcmp (key a) (key x) = 0
       ·have e := lcmp_eq h0
        exact .inr ⟨by rw [h5,e],by have := lcmp_lt_of_le h6 hab; omega⟩
       ·exact .inl (by rw [h5]; omega)
     ·exact sp x (by simp [hx])
end Go.Proofs.YtbpeemhfjgcnaaaGreat
