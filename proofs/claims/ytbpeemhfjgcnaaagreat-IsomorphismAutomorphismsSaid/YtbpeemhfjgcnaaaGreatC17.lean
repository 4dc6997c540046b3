/- Parts of a proof, laid together. Each part says its own conditions. -/
import Derived.Test.YtbpeemhfjgcnaaaGreatC16
import Derived.Test.YtbpeemhfjgcnaaaGreatC2
import Derived.OrdersIn
import Derived.RangeFuncNested
import Derived.RangeFuncBound
import Derived.RangeFuncCalls
import Derived.RangeFuncLeaves
import Derived.Shelf.Abstract
import Derived.OwnWalkIn
import Derived.Test.YtbpeemhfjgcnaaaGreatC3
import Derived.Laws.Cells
import Derived.Laws.Rows
import Derived.Deep.Upon
namespace Go.Proofs.YtbpeemhfjgcnaaaGreat
open Go Go.RowKit
theorem insP_end {α : Type} {gt : α → Bool} {x : α} : ∀ {l : List α},(∀ y ∈ l,gt y = false) → insP gt x l = l ++ [x]
 | [],_ => rfl
 | y :: l,h => by
  unfold insP
  rw [h y List.mem_cons_self,if_neg (by simp),insP_end (fun z hz => h z (List.mem_cons_of_mem _ hz))]
  rfl
theorem hasV_false {u : Int} {V : List (Int × Thing)} (h : ∀ p ∈ V,p.1 ≠ u) : hasV u V = false := by
 rw [hasV_look,lookM_none.2 h]; rfl
theorem hasV_true {u : Int} {V : List (Int × Thing)} {t : Thing} (h : (u,t) ∈ V) : hasV u V = true := by
 rw [hasV_look,lookM_isSome]; exact ⟨_,h,rfl⟩
theorem hasE_false {u v : Int} {E : List ((Int × Int) × Thing)} (hlo : ∀ e ∈ E,e.1.1 < e.1.2) (h : ∀ p ∈ E,p.1 ≠ (min u v,max u v)) : hasE u v E = false := by
 rw [hasE_look hlo,lookM_none.2 h]; rfl
theorem redoV : ∀ (l acc : List (Int × Thing)),(acc ++ l).Pairwise ltV → (∀ p ∈ acc ++ l,idB p.1 = true) → (∀ p ∈ acc ++ l,heavyB p.2.2 = false) → l.foldl stV (acc,[]) = (acc ++ l,[]) ∧ fe erV stV l (acc,[]) = 0
 | [],acc,_,_,_ => by simp [fe]
 | x :: l,acc,hs,hid,hw => by
  obtain ⟨u,lab,wt⟩ := x
  have hx : ∀ y ∈ acc,y.1 < u := fun y hy => (List.pairwise_append.1 hs).2.2 y hy _ List.mem_cons_self
  have h1 := hid (u,(lab,wt)) (by simp)
  have h2 := hw (u,(lab,wt)) (by simp)
  have hno : hasV u acc = false := hasV_false fun p hp e => by have := hx p hp; omega
  have he : wrongR 0 u 0 wt acc [] = 0 := by
   simp only at h1 h2
   unfold wrongR
   rw [if_neg (by simp [w1B]),if_neg (by simp [w2B,h1,h2,pairsB]),if_neg (by simp [w3B,pairsB]),if_pos rfl,hno]
   rfl
  have hst : stV (acc,[]) (u,(lab,wt)) = (acc ++ [(u,(lab,wt))],[]) := by
   unfold stV nxV nxE
   simp only [he,if_true]
   refine Prod.ext ?_ rfl
   show refV 0 u lab wt acc = _
   simp only [refV,if_true]
   rw [insF_eq,insP_end (fun y hy => by have := hx y hy; unfold gtV; simp; omega)]
  have ih := redoV l (acc ++ [(u,(lab,wt))]) (by simpa using hs) (by simpa using hid) (by simpa using hw)
  have her : erV (acc,[]) (u,(lab,wt)) = 0 := he
  simp only [List.foldl_cons,fe,her,hst,if_true]
  rw [ih.1,ih.2]
  simp
theorem redoE (V : List (Int × Thing)) : ∀ (l acc : List ((Int × Int) × Thing)),GInv V (acc ++ l) → l.foldl stE (V,acc) = (V,acc ++ l) ∧ fe erE stE l (V,acc) = 0
 | [],acc,_ => by simp [fe]
 | x :: l,acc,hi => by
  obtain ⟨⟨u,v⟩,lab,wt⟩ := x
  have hx : ∀ y ∈ acc,ltE y ((u,v),(lab,wt)) := fun y hy => (List.pairwise_append.1 hi.se).2.2 y hy _ List.mem_cons_self
  have hm : ((u,v),(lab,wt)) ∈ acc ++ ((u,v),(lab,wt)) :: l := by simp
  have hlt := hi.lo _ hm
  obtain ⟨⟨t,ht⟩,⟨s,hs⟩⟩ := hi.ends _ hm
  have h2 := hi.we _ hm
  have i1 := hi.ids _ ht
  have i2 := hi.ids _ hs
  have hn := hi.ne
  simp only at hlt ht hs h2 i1 i2
  simp only [List.length_append,List.length_cons] at hn
  have e1 : min u v = u := by omega
  have e2 : max u v = v := by omega
  have hno : hasE u v acc = false := hasE_false (fun e he => hi.lo e (List.mem_append_left _ he)) fun p hp e => by
   have := hx p hp
   unfold ltE at this
   rw [e,e1,e2] at this
   simp only at this
   omega
  have he : wrongR 2 u v wt V acc = 0 := by
   unfold wrongR
   rw [if_neg (by simp [w1B]),if_neg (by simp [w2B,h2,i1,i2,pairsB]),if_neg (by simp [w3B,pairsB]; omega),if_neg (by decide),if_neg (by simp [hasV_true ht,hasV_true hs]),if_pos rfl,hno,if_neg (by simp),if_neg (by omega)]
  have hst : stE (V,acc) ((u,v),(lab,wt)) = (V,acc ++ [((u,v),(lab,wt))]) := by
   unfold stE nxV nxE
   simp only [he,if_true]
   refine Prod.ext rfl ?_
   show refE 2 u v lab wt acc = _
   simp only [refE,Int.reduceEq,if_false,if_true,e1,e2]
   rw [insF_eq,insP_end (fun y hy => by have := hx y hy; unfold ltE at this; simp only at this; unfold gtE; simp; omega)]
  have ih := redoE V l (acc ++ [((u,v),(lab,wt))]) (by simpa using hi)
  have her : erE (V,acc) ((u,v),(lab,wt)) = 0 := he
  simp only [List.foldl_cons,fe,her,hst,if_true]
  rw [ih.1,ih.2]
  simp
theorem rebuild {V : List (Int × Thing)} {E : List ((Int × Int) × Thing)} (h : GInv V E) : bErr V E = 0 ∧ bS V E = (V,E) := by
 have h1 := redoV V [] (by simpa using h.sv) (by simpa using h.ids) (by simpa using h.wv)
 have h2 := redoE V E [] (by simpa using h)
 have e1 : bS1 V = (V,[]) := h1.1
 unfold bErr bS
 rw [e1,if_pos h1.2]
 exact ⟨h2.2,h2.1⟩
theorem GInv.okV {V : List (Int × Thing)} {E : List ((Int × Int) × Thing)} (h : GInv V E) : ∀ d ∈ V,okV d := fun d hd => by
 have h1 := h.ids d hd
 have h2 := h.wv d hd
 unfold idB at h1
 unfold heavyB at h2
 simp at h1 h2
 unfold Go.Proofs.YtbpeemhfjgcnaaaGreat.okV i64ok
 omega
theorem GInv.okE {V : List (Int × Thing)} {E : List ((Int × Int) × Thing)} (h : GInv V E) : ∀ d ∈ E,okEd d := fun d hd => by
 obtain ⟨⟨t,ht⟩,⟨s,hs⟩⟩ := h.ends d hd
 have h1 := h.ids _ ht
 have h3 := h.ids _ hs
 have h2 := h.we d hd
 unfold idB at h1 h3
 unfold heavyB at h2
 simp at h1 h2 h3
 unfold okEd i64ok
 omega
theorem wp_ap {α : Type} {enc : α → List Value} {T ST : TypeId} {k byt : Nat} (hi0 : (Tryz.prog.info? T).map (fun i => (i.zero.map (·.cells.size),i.size,i.bytes)) = some (some k,k,byt)) (hu : Tryz.prog.underlying ST = some (.slice T)) (hone : ∀ x, ∀ v ∈ enc x,v.oneCell' = true) (hlen : ∀ x,(enc x).length = k) (hk : 0 < k) (hby : byt ≤ 1000)
  {ops : Array Oper} {rest : List Oper} {o : Oper} {a : Act} {Q : Exit → Act → World → Prop} (w : World) (hgd : o.guard = none) (s x : Operand)
  (ho : o.op = .call { callee := .builtin .append,args := #[s,x],argTypes := #[ST,ST] }) (base : Nat) (v : Value) (n : Nat) (xs : List α) (e : α) (hn : xs.length = n) (g : Nat) (W : World) (hW : W = w.alloc (.cells (enc e).toArray T)) (hsg : w.heap.size = g) (hs : a.eval s = v) (hx : a.eval x = .slice (some ⟨g,0,none⟩) 1 1)
  (hown : w.ownsRow base T k v n (xs.flatMap enc)) (hl : n ≤ 100000) (hb : base ≤ w.heap.size)
  (h : ∀ A' c' w',w'.ownsRow base T k (.slice A' (n + 1) c') (n + 1) ((xs ++ [e]).flatMap enc) → (w.alloc (.cells (enc e).toArray T)).grownBy w' v.ownBlock → wpList Tryz.prog ops Q rest (a.put o.dst (.slice A' (n + 1) c')) w') :
  wpList Tryz.prog ops Q (o :: rest) a W := by
 subst hW
 subst hn
 subst hsg
 obtain ⟨i0,hi,hi1⟩ := Option.map_eq_some_iff.1 hi0
 simp only [Prod.mk.injEq] at hi1
 obtain ⟨hz1,hz2,hz3⟩ := hi1
 obtain ⟨z0,hz,hz4⟩ := Option.map_eq_some_iff.1 hz1
 have hown' := own_ext hown ((Ext.refl w).alloc (.cells (enc e).toArray T))
 have hmul : (xs.length + 1) * byt ≤ 100001 * 1000 := Nat.mul_le_mul (by omega) hby
 refine wpList_append_own_at _ hgd s x _ ho base T i0 z0 k byt hu hi hz hz2 hz3 hz4 hk v xs.length _ hs hown' ⟨w.heap.size,0,none⟩ 1 1 (enc e) hx (by rw [hlen]; simp) ?_ (hone e) (by unfold maxLen; omega) (by omega) (by simp; omega) ?_
 ·intro j u hj
  have := (Blk.new w T (enc e).toArray).cell j
  rw [show (⟨w.heap.size,0,none⟩ : Addr).add j = ⟨w.heap.size,j,none⟩ by simp [Addr.add]; omega,this]
  simpa using hj
 ·intro v' w' h1 h2 _ _
  obtain ⟨A',c',rfl⟩ := own_slice h1
  exact h A' c' w' (by simpa using h1) h2
theorem infoGV : (Tryz.prog.info? 81).map (fun i => (i.zero.map (·.cells.size),i.size,i.bytes)) = some (some 3,3,24) := by kernel_rfl
theorem infoGE : (Tryz.prog.info? 84).map (fun i => (i.zero.map (·.cells.size),i.size,i.bytes)) = some (some 4,4,32) := by kernel_rfl
theorem app_step {α : Type} {enc : α → List Value} {wI wr w2 w' : World} {T k n : Nat} {v : Value} {xs : List α} (hx : Ext wI wr) (hown : wr.ownsRow wI.heap.size T k v n (xs.flatMap enc)) (hx2 : Ext wr w2) (hg : w2.grownBy w' v.ownBlock) : Ext wI w' :=
 (hx.trans hx2).grown hg (Nat.le_refl _) (own_ext hown hx2)
set_option maxRecDepth 100000 in
set_option maxHeartbeats 4000000 in
theorem from_any (A B : Option Addr) (V : List (Int × Thing)) (E : List ((Int × Int) × Thing)) (cA cB : Nat) (w : World) (hV : SlAt encV 3 w A V) (hE : SlAt encE 4 w B E) (hi : GInv V E) :
  Calls Tryz.prog 26 #[.agg #[.slice A V.length cA, .slice B E.length cB]] w fun e w' => ∃ g bv be,e = .returned (.pointer (some ⟨g,0,none⟩)) ∧ IsG w' g bv be V E ∧ Ext w w' ∧ w.heap.size ≤ g ∧ w.heap.size ≤ bv ∧ w.heap.size ≤ be := by
 have hV' := hide hV
 have hE' := hide hE
 have hi' := hide hi
 have hlV := hi.nv
 have hlE := hi.ne
 clear hV hE hi
 go_enter Tryz.func26,Tryz.ntmps26
 go_wp2_with fail
 refine wp_abs (fun W => Ext w W ∧ Blk W w.heap.size 28 #[.slice A V.length cA, .slice B E.length cB]) ⟨ext_self1 _ _,Blk.new w _ _⟩ ?_
 rintro wI ⟨hxI,hbI⟩
 have q0 := hbI.cells 0 (v := .slice A V.length cA) rfl
 have q1 := hbI.cells 1 (v := .slice B E.length cB) rfl
 have hxI' := hide hxI
 clear hxI hbI
 go_loopw [3,5] (fun l i wr => ∃ (k : Nat) (vs : Value),k ≤ V.length ∧ i = .int .i64 k ∧ vs = l ∧ wr.ownsRow wI.heap.size 81 3 vs k ((V.take k).flatMap encV) ∧ Ext wI wr) (fun _ i _ => V.length - (intOf i).toNat)
 case atStart => exact ⟨0,_,Nat.zero_le _,rfl,rfl,World.ownsRow_nil _ _ _ _,Ext.refl _⟩
 case round =>
  obtain ⟨k,vs,hk,rfl,hl3,hown,hx⟩ := hrel
  subst hl3
  have hown' := hide hown
  have hx' := hide hx
  clear hown
  by_cases hlt : k < V.length
  ·obtain ⟨b,off,rfl,c0,c1,c2⟩ := atV ((unhide hV').ext ((unhide hxI').trans hx)) hlt
   have hst := List.take_succ_eq_append_getElem hlt
   generalize hy : V[k] = y at c0 c1 c2 hst
   obtain ⟨u,lab,wt⟩ := y
   have hst' := hide hst
   have hn' := hide (show k ≤ 100000 by omega)
   have hln := hide (show (V.take k).length = k by rw [List.length_take]; omega)
   clear hy hst
   simp only at c0 c1 c2
   go_wp2_with (at_builtin; refine wp_ap infoGV Tryz.underlying82 one_encV (fun _ => rfl) (by decide) (by decide) wr rfl _ _ rfl wI.heap.size vs k (V.take k) (u,(lab,wt)) (unhide hln) wr.heap.size _ (by rfl) rfl (by rfl) (by rfl) (unhide hown') (unhide hn') (Below.size (unhide hx')) ?_; intro A1 k1 w4 ho4 hg4; have hx4 := hide (app_step (unhide hx') (unhide hown') (ext_self1 _ _) hg4); have ho4' := hide ho4; clear ho4 hg4)
   go_roundw
   case rel => exact ⟨k + 1,_,by omega,by go_num,rfl,by have h := unhide ho4'; rw [unhide hst']; exact h,unhide hx4⟩
   case measure => simp [intOf]; omega
  ·have hkV : k = V.length := by omega
   subst hkV
   rw [List.take_length] at hown'
   obtain ⟨A1,c1,rfl⟩ := own_slice (unhide hown')
   have hoV := hide (unhide hown')
   have hxV := hide hx
   have r1 := cell_ext (q1 wr hx)
   have r0 := q0 wr hx
   rename World => wV
   clear hown' hx' hx q0 q1
   go_wp2_with fail
   clear r0
   go_loopw [4,6] (fun l i wr => ∃ (k : Nat) (vs : Value),k ≤ E.length ∧ i = .int .i64 k ∧ vs = l ∧ wr.ownsRow wV.heap.size 84 4 vs k ((E.take k).flatMap encE) ∧ Ext wV wr) (fun _ i _ => E.length - (intOf i).toNat)
   case atStart => exact ⟨0,_,Nat.zero_le _,rfl,rfl,World.ownsRow_nil _ _ _ _,Ext.refl _⟩
   case round =>
    obtain ⟨k,vs,hk,rfl,hl3,hown,hx⟩ := hrel
    subst hl3
    have hown' := hide hown
    have hx' := hide hx
    clear hown
    by_cases hlt : k < E.length
    ·obtain ⟨b,off,rfl,c0,c1,c2,c3⟩ := atE ((unhide hE').ext (((unhide hxI').trans (unhide hxV)).trans hx)) hlt
     have hst := List.take_succ_eq_append_getElem hlt
     generalize hy : E[k] = y at c0 c1 c2 c3 hst
     obtain ⟨⟨u,v⟩,⟨lab,wt⟩⟩ := y
     have hst' := hide hst
     have hn' := hide (show k ≤ 100000 by omega)
     have hln := hide (show (E.take k).length = k by rw [List.length_take]; omega)
     clear hy hst
     simp only at c0 c1 c2 c3
     go_wp2_with (at_builtin; refine wp_ap infoGE Tryz.underlying85 one_encE (fun _ => rfl) (by decide) (by decide) wr rfl _ _ rfl wV.heap.size vs k (E.take k) ((u,v),(lab,wt)) (unhide hln) wr.heap.size _ (by rfl) rfl (by rfl) (by rfl) (unhide hown') (unhide hn') (Below.size (unhide hx')) ?_; intro A1 k1 w4 ho4 hg4; have hx4 := hide (app_step (unhide hx') (unhide hown') (ext_self1 _ _) hg4); have ho4' := hide ho4; clear ho4 hg4)
     go_roundw
     case rel => exact ⟨k + 1,_,by omega,by go_num,rfl,by have h := unhide ho4'; rw [unhide hst']; exact h,unhide hx4⟩
     case measure => simp [intOf]; omega
    ·have hkE : k = E.length := by omega
     subst hkE
     rw [List.take_length] at hown'
     obtain ⟨A2,c2,rfl⟩ := own_slice (unhide hown')
     have hinv := unhide hi'
     have hreb := rebuild hinv
     have hxIr := hide (((unhide hxI').trans (unhide hxV)).trans hx)
     have hsV := hide ((own_at (unhide hoV) (fun _ => rfl)).ext hx)
     have hsE := hide (own_at (unhide hown') (fun _ => rfl))
     have hoV' := hide hinv.okV
     have hoE' := hide hinv.okE
     have hr' := hide hreb
     have r1' := r1 wr hx
     clear hinv hreb hx hx' hown' hoV hxV r1
     go_wp2_with fail
     refine (build_any A1 A2 V E c1 c2 _ (unhide hsV) (unhide hsE) (unhide hoV') (unhide hoE') (by omega) (by omega)).mono ?_
     rintro e w5 (⟨-,g,bv,be,rfl,hg,hx5,n1,n2,n3⟩ | ⟨hbad,_⟩)
     ·rw [(unhide hr').2] at hg
      have hg' := hide hg
      have hx5' := hide hx5
      have hn' := hide (And.intro n1 (And.intro n2 n3))
      clear hg hx5 n1 n2 n3
      go_wp2_with fail
      go_ret
      obtain ⟨n1,n2,n3⟩ := unhide hn'
      have hsz := Below.size (unhide hxIr)
      exact ⟨g,bv,be,rfl,unhide hg',(unhide hxIr).trans (unhide hx5'),by omega,by omega,by omega⟩
     ·exact absurd (unhide hr').1 hbad
end Go.Proofs.YtbpeemhfjgcnaaaGreat
namespace Go.Proofs.YtbpeemhfjgcnaaaGreat
open Go Go.RowKit
def encI (n : Int) : List Value := [.int .i64 n]
theorem one_encI (x : Int) : ∀ v ∈ encI x,v.oneCell' = true := by
 intro v hv
 simp [encI] at hv
 subst hv
 rfl
theorem atI {w : World} {A : Option Addr} {L : List Int} (h : SlAt encI 1 w A L) {i : Nat} (hi : i < L.length) : ∃ b off,A = some ⟨b,off,none⟩ ∧ (∀ W,Ext w W → W.cell? ⟨b,off + i,none⟩ = some (.int .i64 L[i])) := by
 obtain ⟨b,off,hA,hc⟩ := h.at_ hi
 refine ⟨b,off,hA, ?_⟩
 have := hc 0 _ rfl
 simpa using this
theorem infoI : (Tryz.prog.info? 3).map (fun i => (i.zero.map (·.cells.size),i.size,i.bytes)) = some (some 1,1,8) := by kernel_rfl
theorem own_base_le {w : World} {b b' T k n : Nat} {v : Value} {xs : List Value} (h : w.ownsRow b T k v n xs) (hb : b' ≤ b) : w.ownsRow b' T k v n xs :=
 ⟨h.1,h.2.imp id fun ⟨g,cap,cur,e,hg,r⟩ => ⟨g,cap,cur,e,Nat.le_trans hb hg,r⟩⟩
end Go.Proofs.YtbpeemhfjgcnaaaGreat
namespace Go.Proofs.YtbpeemhfjgcnaaaGreat
open Go Go.RowKit Go.Shelf
section
variable {P : Program} {ops : Array Oper} {R : World → World → Prop} {C : World → Prop} {safe : Nat → Bool}
end
theorem Keep.of_grown {W W' : World} {row : Option Nat} (h : W.grownBy W' row) : Keep row.toList W W' := ⟨h.os,h.tape,h.output,h.size,fun i hi hne => h.block i hi (by
 intro e
 rw [← e] at hne
 simp at hne)⟩
section
variable {P : Program} {α : Type}
end
inductive Marks (B : Nat) : List Deferred → World → Prop
 | nil (w : World) : Marks B [] w
 | cons {D : Nat} {ds : List Deferred} {w : World} (hB : B ≤ D) (hD : w.heap[D]? = some (.deferred (some []))) (hne : ∀ d ∈ ds,d.target ≠ .collected D) (h : Marks B ds w) : Marks B ({ target := .collected D,args := #[] } :: ds) w
theorem Marks.keep {B : Nat} {ds : List Deferred} {w w' : World} {S : List Nat} (h : Marks B ds w) (k : Keep S w w') (hS : ∀ D ∈ S, ∀ d ∈ ds,d.target ≠ .collected D) : Marks B ds w' := by
 induction h with
 | nil => exact .nil _
 | @cons D ds w hB hD hne h ih =>
  refine .cons hB ((k.block D (Array.getElem?_eq_some_iff.1 hD).1 fun hm => hS D hm { target := .collected D,args := #[] } (by simp) rfl).trans hD) hne (ih k fun D' hD' d hd => hS D' hD' d (by simp [hd]))
theorem Marks.lt {B : Nat} {ds : List Deferred} {w : World} (h : Marks B ds w) : ∀ d ∈ ds, ∃ D,d.target = .collected D ∧ B ≤ D ∧ w.heap[D]? = some (.deferred (some [])) := by
 induction h with
 | nil => simp
 | @cons D ds w hB hD hne h ih =>
  intro d hd
  rcases List.mem_cons.1 hd with rfl | hd
  ·exact ⟨D,rfl,hB,hD⟩
  ·exact ih d hd
end Go.Proofs.YtbpeemhfjgcnaaaGreat
namespace Go.Proofs.YtbpeemhfjgcnaaaGreat
open Go Go.RowKit
def wpO (P : Program) (l : List Oper) (K : Act → World → Prop) : List Oper → Act → World → Prop
 | [],a,w => K a w
 | o :: r,a,w => if Region.wanted o (yielded l.toArray a.tmps) = true then lUpon P (fun v w' => wpO P l K r (a.put o.dst v) w') ((execOp a.eval o).run P w) else wpO P l K r (a.put o.dst undef) w
section
variable {P : Program} {l : List Oper} {K : Act → World → Prop} {r : List Oper} {o : Oper} {a : Act} {w w' : World} {v : Value}
theorem wpO_want (hw : Region.wanted o (yielded l.toArray a.tmps) = true) (h : lUpon P (fun v w' => wpO P l K r (a.put o.dst v) w') ((execOp a.eval o).run P w)) : wpO P l K (o :: r) a w := by
 rw [wpO,if_pos hw]; exact h
theorem wpO_out (hw : Region.wanted o (yielded l.toArray a.tmps) = false) (h : wpO P l K r (a.put o.dst undef) w) : wpO P l K (o :: r) a w := by
 rw [wpO,if_neg (by rw [hw]; simp)]; exact h
theorem wpO_val (hw : Region.wanted o (yielded l.toArray a.tmps) = true) (h : (execOp a.eval o).run P w = .ok (.value v) w') (hk : wpO P l K r (a.put o.dst v) w') : wpO P l K (o :: r) a w :=
 wpO_want hw (by rw [h]; exact hk)
theorem wpO_skip (hw : Region.wanted o (yielded l.toArray a.tmps) = true) (h : (execOp a.eval o).run P w = .ok .skip w') (hk : wpO P l K r (a.put o.dst undef) w') : wpO P l K (o :: r) a w :=
 wpO_want hw (by rw [h]; exact hk)
theorem wpO_done (h : K a w) : wpO P l K [] a w := h
end
theorem wpOps_of_wpO {P : Program} {l : List Oper} {Q : Exit → Act → World → Prop} : ∀ (r pre : List Oper) (a : Act) (w : World),l = pre ++ r → wpO P l (fun a w => Q .normal a w) r a w → wpOps P l.toArray Q (List.range' pre.length r.length) a w
 | [],pre,a,w,_,h => h
 | o :: r,pre,a,w,e,h => by
  have ho : l.toArray[pre.length]? = some o := by rw [e]; simp
  rw [List.length_cons,List.range'_succ,wpOps,ho]
  simp only
  have ih := fun a w h => wpOps_of_wpO (P := P) (l := l) (Q := Q) r (pre ++ [o]) a w (by rw [e]; simp) h
  rw [List.length_append,List.length_singleton] at ih
  rw [wpO] at h
  split at h
  ·rename_i hw
   rw [if_pos hw]
   refine .inl ?_
   unfold Oper.wp
   generalize (execOp a.eval o).run P w = res at *
   cases res with
   | ok n w' =>
    cases n <;> simp only [lUpon] at h <;> simp only [Oper.upon]
    case value v => exact ih _ _ h
    case skip => exact ih _ _ h
    case enter f args => exact h.mono fun e w'' ⟨v,he,hk⟩ => by subst he; exact ih _ _ hk
   | halt x w' => simp only [lUpon] at h
  ·rename_i hw
   rw [if_neg hw]
   exact ih _ _ h
theorem wp_reg {P : Program} {id : Nat} {l : List Oper} {Q : Exit → Act → World → Prop} {a : Act} {w : World} (h : wpO P l (fun a w => Q .normal a w) l a w) : (Code.region id l.toArray false).wp P Q a w := by
 refine wp_region ?_
 have := wpOps_of_wpO (P := P) (Q := Q) l [] a w rfl h
 simpa [List.range_eq_range'] using this
end Go.Proofs.YtbpeemhfjgcnaaaGreat
namespace Go.Proofs.YtbpeemhfjgcnaaaGreat
open Go Go.RowKit
section
variable {α : Type} {enc : α → List Value} {T ST : TypeId} {k byt : Nat} {ρ : Operand → Value} {o : Oper} {s x : Operand} {W : World}
theorem run_apS (hi0 : (Tryz.prog.info? T).map (fun i => (i.zero.map (·.cells.size),i.size,i.bytes)) = some (some k,k,byt)) (hu : Tryz.prog.underlying ST = some (.slice T)) (hone : ∀ x, ∀ v ∈ enc x,v.oneCell' = true) (hlen : ∀ x,(enc x).length = k) (hk : 0 < k) (hby : byt ≤ 1000)
  (ho : o.op = .call { callee := .builtin .append,args := #[s,x],argTypes := #[ST,ST] }) {base : Nat} {v : Value} {n : Nat} {xs : List α} (ys : List α) {m c : Nat} {ad : Addr} (hs : ρ s = v) (hx : ρ x = .slice (some ad) m c) (hm : ys.length = m) (hsrc : SlAt enc k W (some ad) ys)
  (hown : W.ownsRow base T k v n (xs.flatMap enc)) (hl : n + m ≤ 100000000) (hb : base ≤ W.heap.size) :
  ∃ A' c' w',(execOp ρ o).run Tryz.prog W = .ok (.value (.slice A' (n + m) c')) w' ∧ w'.ownsRow base T k (.slice A' (n + m) c') (n + m) ((xs ++ ys).flatMap enc) ∧ W.grownBy w' v.ownBlock ∧ (Value.ownBlock (.slice A' (n + m) c') = v.ownBlock ∨ Value.ownBlock (.slice A' (n + m) c') = some W.heap.size) := by
 obtain ⟨i0,hi,hi1⟩ := Option.map_eq_some_iff.1 hi0
 simp only [Prod.mk.injEq] at hi1
 obtain ⟨hz1,hz2,hz3⟩ := hi1
 obtain ⟨z0,hz,hz4⟩ := Option.map_eq_some_iff.1 hz1
 have hmul : (n + m) * byt ≤ 100000000 * 1000 := Nat.mul_le_mul hl hby
 have hcell : ∀ j u,(ys.flatMap enc)[j]? = some u → W.cell? (ad.add j) = some u := by
  intro j u hj
  by_cases hne : ys = []
  ·subst hne; simp at hj
  ·obtain ⟨b,off,hA,hlt,hc⟩ := hsrc hne
   cases hA
   have hjl : j < ys.length * k := by
    have h1 := (List.getElem?_eq_some_iff.1 hj).1
    have h2 : ∀ l : List α,(l.flatMap enc).length = l.length * k := by
     intro l
     induction l with
     | nil => simp
     | cons a r ih => rw [List.flatMap_cons,List.length_append,hlen,ih,List.length_cons,Nat.add_mul]; omega
    rw [h2] at h1
    exact h1
   have hik : j / k < ys.length := (Nat.div_lt_iff_lt_mul hk).2 hjl
   have hy : ys[j / k]? = some ys[j / k] := List.getElem?_eq_getElem hik
   have hr : j % k < (enc ys[j / k]).length := by rw [hlen]; exact Nat.mod_lt _ hk
   have h3 := flat_at hlen (j / k) ys[j / k] (j % k) _ hy (List.getElem?_eq_getElem hr)
   have hjk : j / k * k + j % k = j := by rw [Nat.mul_comm]; exact Nat.div_add_mod j k
   rw [hjk] at h3
   rw [h3] at hj
   have h4 := hc (j / k) _ hy (j % k) _ (List.getElem?_eq_getElem hr)
   rw [Option.some.injEq] at hj
   rw [← hj,show (⟨b,off,none⟩ : Addr).add j = ⟨b,off + j / k * k + j % k,none⟩ by rw [Nat.add_assoc,hjk]; simp [Addr.add]]
   exact h4
 have hnl : (ys.flatMap enc).length = m * k := by
  rw [← hm]
  clear hcell hsrc hm
  induction ys with
  | nil => simp
  | cons a r ih => rw [List.flatMap_cons,List.length_append,hlen,ih,List.length_cons,Nat.add_mul]; omega
 obtain ⟨v',w',hr,h2,h3,_,h5⟩ := run_append_own_at (P := Tryz.prog) W base ST o.type T i0 z0 k byt hu hi hz hz2 hz3 hz4 hk v n _ hown ad m c (ys.flatMap enc) hnl hcell (by
  intro u hu
  obtain ⟨y,_,hy⟩ := List.mem_flatMap.1 hu
  exact hone y u hy) (by unfold maxLen; omega) (by omega) hb
 obtain ⟨A',c',rfl⟩ := own_slice h2
 refine ⟨A',c',w', ?_,by rw [List.flatMap_append]; exact h2,h3,h5⟩
 unfold execOp
 simp only [ho,resolve,invoke,builtin,Sem.run_bind,Sem.run_pure,Result.andThen_ok,List.map_toArray,List.map_cons,List.map_nil,hs,hx,hr]
theorem run_ap1 (hi0 : (Tryz.prog.info? T).map (fun i => (i.zero.map (·.cells.size),i.size,i.bytes)) = some (some k,k,byt)) (hu : Tryz.prog.underlying ST = some (.slice T)) (hone : ∀ x, ∀ v ∈ enc x,v.oneCell' = true) (hlen : ∀ x,(enc x).length = k) (hk : 0 < k) (hby : byt ≤ 1000)
  (ho : o.op = .call { callee := .builtin .append,args := #[s,x],argTypes := #[ST,ST] }) {base : Nat} {v : Value} {n : Nat} {xs : List α} (e : α) {g : Nat} {t : TypeId} (hs : ρ s = v) (hx : ρ x = .slice (some ⟨g,0,none⟩) 1 1) (hg : Blk W g t (enc e).toArray)
  (hown : W.ownsRow base T k v n (xs.flatMap enc)) (hl : n ≤ 10000000) (hb : base ≤ W.heap.size) :
  ∃ A' c' w',(execOp ρ o).run Tryz.prog W = .ok (.value (.slice A' (n + 1) c')) w' ∧ w'.ownsRow base T k (.slice A' (n + 1) c') (n + 1) ((xs ++ [e]).flatMap enc) ∧ W.grownBy w' v.ownBlock ∧ (Value.ownBlock (.slice A' (n + 1) c') = v.ownBlock ∨ Value.ownBlock (.slice A' (n + 1) c') = some W.heap.size) :=
 run_apS hi0 hu hone hlen hk hby ho [e] hs hx rfl (fun _ => ⟨g,0,rfl,hg.lt,fun i y hy j u hu => by
  match i,hy with
  | 0,hy =>
   simp at hy
   subst hy
   rw [show 0 + 0 * k + j = j by omega,hg.cell j]
   simpa using hu⟩) hown (by omega) hb
theorem wpO_ap1 {l : List Oper} {K : Act → World → Prop} {r : List Oper} {a : Act} (hw : Region.wanted o (yielded l.toArray a.tmps) = true) (hi0 : (Tryz.prog.info? T).map (fun i => (i.zero.map (·.cells.size),i.size,i.bytes)) = some (some k,k,byt)) (hu : Tryz.prog.underlying ST = some (.slice T)) (hone : ∀ x, ∀ v ∈ enc x,v.oneCell' = true) (hlen : ∀ x,(enc x).length = k) (hk : 0 < k) (hby : byt ≤ 1000)
  (ho : o.op = .call { callee := .builtin .append,args := #[s,x],argTypes := #[ST,ST] }) {base : Nat} {v : Value} {n : Nat} {xs : List α} (e : α) {g : Nat} {t : TypeId} (hs : a.eval s = v) (hx : a.eval x = .slice (some ⟨g,0,none⟩) 1 1) (hg : Blk W g t (enc e).toArray)
  (hown : W.ownsRow base T k v n (xs.flatMap enc)) (hl : n ≤ 10000000) (hb : base ≤ W.heap.size)
  (h : ∀ A' c' w',w'.ownsRow base T k (.slice A' (n + 1) c') (n + 1) ((xs ++ [e]).flatMap enc) → W.grownBy w' v.ownBlock → (Value.ownBlock (.slice A' (n + 1) c') = v.ownBlock ∨ Value.ownBlock (.slice A' (n + 1) c') = some W.heap.size) → wpO Tryz.prog l K r (a.put o.dst (.slice A' (n + 1) c')) w') : wpO Tryz.prog l K (o :: r) a W := by
 obtain ⟨A',c',w',h1,h2,h3,h4⟩ := run_ap1 hi0 hu hone hlen hk hby ho e hs hx hg hown hl hb
 exact wpO_val hw h1 (h A' c' w' h2 h3 h4)
end
theorem SlAt.keepS {α : Type} {enc : α → List Value} {k : Nat} {w w' : World} {A : Option Addr} {xs : List α} {S : List Nat} (h : SlAt enc k w A xs) (hk : Keep S w w') (hS : ∀ b off,A = some ⟨b,off,none⟩ → b ∉ S) : SlAt enc k w' A xs := fun hne => by
 obtain ⟨b,off,hA,hlt,hc⟩ := h hne
 have hb := hk.block b hlt (hS b off hA)
 refine ⟨b,off,hA,Nat.lt_of_lt_of_le hlt hk.size,fun i x hx j u hu => ?_⟩
 rw [World.cell?_of_block hb]
 exact hc i x hx j u hu
end Go.Proofs.YtbpeemhfjgcnaaaGreat
namespace Go.Proofs.YtbpeemhfjgcnaaaGreat
open Go Go.RowKit Go.Shelf
attribute [local go_sem] qUpon lUpon
theorem arr_fn {tm : Array Value} {n : Nat} (h : tm.size = n) : tm = ((List.range n).map fun i => tm.getD i undef).toArray := by
 subst h
 apply Array.ext
 ·simp
 ·intro i h1 h2
  simp [h1]
section
variable {α : Type} {enc : α → List Value} {T ST k base bl : Nat} {xs : List α} {v : Value} {W W' : World}
end
section
variable {α : Type} {enc : α → List Value} {T ST : TypeId} {k byt : Nat} {ρ : Operand → Value} {o : Oper} {s x : Operand} {W : World}
theorem run_apA (hi0 : (Tryz.prog.info? T).map (fun i => (i.zero.map (·.cells.size),i.size,i.bytes)) = some (some k,k,byt)) (hu : Tryz.prog.underlying ST = some (.slice T)) (hone : ∀ x, ∀ v ∈ enc x,v.oneCell' = true) (hlen : ∀ x,(enc x).length = k) (hk : 0 < k) (hby : byt ≤ 1000)
  (ho : o.op = .call { callee := .builtin .append,args := #[s,x],argTypes := #[ST,ST] }) {base : Nat} {v : Value} {n : Nat} {xs : List α} (ys : List α) {m c : Nat} {A : Option Addr} (hs : ρ s = v) (hx : ρ x = .slice A m c) (hm : ys.length = m) (hsrc : SlAt enc k W A ys)
  (hown : W.ownsRow base T k v n (xs.flatMap enc)) (hl : n + m ≤ 100000000) (hb : base ≤ W.heap.size) :
  ∃ A' c' w',(execOp ρ o).run Tryz.prog W = .ok (.value (.slice A' (n + m) c')) w' ∧ w'.ownsRow base T k (.slice A' (n + m) c') (n + m) ((xs ++ ys).flatMap enc) ∧ W.grownBy w' v.ownBlock ∧ (Value.ownBlock (.slice A' (n + m) c') = v.ownBlock ∨ Value.ownBlock (.slice A' (n + m) c') = some W.heap.size) := by
 cases ys with
 | cons y ys =>
  obtain ⟨b,off,rfl,_,_⟩ := hsrc (by simp)
  exact run_apS hi0 hu hone hlen hk hby ho (y :: ys) hs hx hm hsrc hown hl hb
 | nil =>
  obtain rfl : m = 0 := by simpa using hm.symm
  obtain ⟨i0,hi,hi1⟩ := Option.map_eq_some_iff.1 hi0
  simp only [Prod.mk.injEq] at hi1
  obtain ⟨hz1,hz2,hz3⟩ := hi1
  obtain ⟨A1,c1,rfl⟩ := own_slice hown
  have hle : n ≤ c1 := by
   rcases hown.2 with ⟨he,h0⟩ | ⟨g,cap,cur,he,_,_,hn,_⟩
   ·omega
   ·injection he with _ _ he
    omega
  have hsr : Src Tryz.prog i0.size ST (.slice A 0 c) 0 [] W := by
   cases A with
   | none => exact Src.ofNil W hu c
   | some a => exact Src.ofSlice W hu a 0 c [] (by simp) (by simp) (by simp)
  refine ⟨A1,c1,W, ?_,by simpa using hown,World.grownBy.refl _ _, .inl rfl⟩
  unfold execOp
  have := run_append_nothing (P := Tryz.prog) W ST ST o.type T i0 hu hi A1 n c1 hle (.slice A 0 c) hsr
  simp only [ho,resolve,invoke,builtin,Sem.run_bind,Sem.run_pure,Result.andThen_ok,List.map_toArray,List.map_cons,List.map_nil,hs,hx,this]
  simp
theorem wpO_apA {l : List Oper} {K : Act → World → Prop} {r : List Oper} {a : Act} (hw : Region.wanted o (yielded l.toArray a.tmps) = true) (hi0 : (Tryz.prog.info? T).map (fun i => (i.zero.map (·.cells.size),i.size,i.bytes)) = some (some k,k,byt)) (hu : Tryz.prog.underlying ST = some (.slice T)) (hone : ∀ x, ∀ v ∈ enc x,v.oneCell' = true) (hlen : ∀ x,(enc x).length = k) (hk : 0 < k) (hby : byt ≤ 1000)
  (ho : o.op = .call { callee := .builtin .append,args := #[s,x],argTypes := #[ST,ST] }) {base : Nat} {v : Value} {n : Nat} {xs : List α} (ys : List α) {m c : Nat} {A : Option Addr} (hs : a.eval s = v) (hx : a.eval x = .slice A m c) (hm : ys.length = m) (hsrc : SlAt enc k W A ys)
  (hown : W.ownsRow base T k v n (xs.flatMap enc)) (hl : n + m ≤ 100000000) (hb : base ≤ W.heap.size)
  (h : ∀ A' c' w',w'.ownsRow base T k (.slice A' (n + m) c') (n + m) ((xs ++ ys).flatMap enc) → W.grownBy w' v.ownBlock → (Value.ownBlock (.slice A' (n + m) c') = v.ownBlock ∨ Value.ownBlock (.slice A' (n + m) c') = some W.heap.size) → wpO Tryz.prog l K r (a.put o.dst (.slice A' (n + m) c')) w') : wpO Tryz.prog l K (o :: r) a W := by
 obtain ⟨A',c',w',h1,h2,h3,h4⟩ := run_apA hi0 hu hone hlen hk hby ho ys hs hx hm hsrc hown hl hb
 exact wpO_val hw h1 (h A' c' w' h2 h3 h4)
end
end Go.Proofs.YtbpeemhfjgcnaaaGreat
