/- Parts of a proof, laid together. Each part says its own conditions. -/
import Derived.Test.YtmfkkkhddigkfaaGreatDoorP8
import Derived.Maps.AppendAt
namespace Go.Proofs.YtmfkkkhddigkfaaGreatDoor
open Go Go.RowKit
theorem own_keep {w w' : World} {base T k n : Nat} {v : Value} {xs : List Value} {S : List Nat} (h : w.ownsRow base T k v n xs) (hk : Keep S w w') (hS : ∀ g ∈ S, v.ownBlock ≠ some g) : w'.ownsRow base T k v n xs := by
 refine ⟨h.1, ?_⟩
 rcases h.2 with h0 | ⟨g, cap, cur, rfl, hb, hg, hr⟩
 ·exact .inl h0
 ·exact .inr ⟨g, cap, cur, rfl, hb, (hk.block g (Array.getElem?_eq_some_iff.1 hg).1 (fun hm => hS g hm rfl)).trans hg, hr⟩
theorem own_ext {w w' : World} {base T k n : Nat} {v : Value} {xs : List Value} (h : w.ownsRow base T k v n xs) (hk : Ext w w') : w'.ownsRow base T k v n xs :=
 own_keep h (hk.keep []) (by simp)
theorem own_base {w : World} {base T k n : Nat} {v : Value} {xs : List Value} (h : w.ownsRow base T k v n xs) {g : Nat} (hg : v.ownBlock = some g) : base ≤ g ∧ g < w.heap.size ∧ ∃ cur, w.heap[g]? = some (.cells cur T (0, 0)) := by
 rcases h.2 with ⟨rfl, _⟩ | ⟨g', cap, cur, rfl, hb, hc, _⟩
 ·cases hg
 ·cases hg
  exact ⟨hb, (Array.getElem?_eq_some_iff.1 hc).1, cur, hc⟩
theorem Ext.grown {w wr w' : World} {v : Value} {B T k n : Nat} {xs : List Value} (h : Ext w wr) (hg : wr.grownBy w' v.ownBlock) (hB : w.heap.size ≤ B) (ho : wr.ownsRow B T k v n xs) : Ext w w' :=
 h.of_new (S' := v.ownBlock.toList) ⟨hg.os, hg.tape, hg.output, hg.size, fun i hi hne => hg.block i hi (by
  intro e
  rw [← e] at hne
  simp at hne)⟩ (by
  intro x hx
  have : v.ownBlock = some x := by simpa using hx
  exact Nat.le_trans hB (own_base ho this).1)
theorem iter_not_own {κ τ : Type} {ek : κ → Value} {ev : τ → Value} {ok : κ → Prop} {w : World} {r b base T k n : Nat} {m l : List (κ × τ)} {v : Value} {xs : List Value} (hit : IterIs ek ev ok w r b m l) (h : w.ownsRow base T k v n xs) : v.ownBlock ≠ some r := by
 intro e
 obtain ⟨_, _, cur, hc⟩ := own_base h e
 obtain ⟨es, clock, since, seen, c0, _, _, _, _, h1, _⟩ := hit
 rw [hc] at h1
 cases h1
theorem gath_step {κ τ : Type} {ek : κ → Value} {ev : τ → Value} {ok : κ → Prop} {enc : κ × τ → List Value} {w wr w2 w3 w' : World} {r b B T k : Nat} {v v' : Value} {M done l1 l2 : List (κ × τ)} {p : κ × τ}
  (hp : M.Perm (done ++ (l1 ++ p :: l2))) (hit : IterIs ek ev ok wr r b M (l1 ++ p :: l2)) (hit2 : IterIs ek ev ok w2 r b M (l1 ++ l2)) (hk2 : Keep [r] wr w2) (hx2 : Ext w2 w3) (hxw : Ext w wr) (hr : w.heap.size ≤ r) (hb : b < w.heap.size) (hB : w.heap.size ≤ B)
  (hown : wr.ownsRow B T k v done.length (done.flatMap enc)) (hown' : w'.ownsRow B T k v' (done.length + 1) (done.flatMap enc ++ enc p)) (hg : w3.grownBy w' v.ownBlock) :
  M.Perm ((done ++ [p]) ++ (l1 ++ l2)) ∧ IterIs ek ev ok w' r b M (l1 ++ l2) ∧ w'.ownsRow B T k v' (done ++ [p]).length ((done ++ [p]).flatMap enc) ∧ Ext w w' := by
 have hno := iter_not_own hit hown
 have hown2 := own_keep hown hk2 (by simpa using hno)
 have hown3 := own_ext hown2 hx2
 have hx3 : Ext w w3 := (hxw.of_new hk2 (by simpa using hr)).trans hx2
 refine ⟨?_, ?_, ?_, hx3.grown hg hB hown3⟩
 ·refine hp.trans ?_
  rw [List.append_assoc]
  exact (List.perm_middle).append_left done
 ·have hit3 := hit2.ext hx2
  refine hit3.of_blocks (hg.block r hit3.lt (fun e => hno e.symm)) (hg.block b hit3.map.lt (fun e => ?_))
  have := (own_base hown3 e.symm).1
  omega
 ·simpa using hown'
theorem infoV : (Tryz.prog.info? 78).map (fun i => (i.zero.map (·.cells.size), i.size, i.bytes)) = some (some 3, 3, 24) := by kernel_rfl
set_option maxRecDepth 100000 in
set_option maxHeartbeats 4000000 in
theorem vertices_any (g bv be : Nat) (V : List (Int × Thing)) (E : List ((Int × Int) × Thing)) (S : List (Int × Thing)) (w : World) (hg : GraphAt w g bv be V E) (hp : S.Perm V) (hS : S.Pairwise ltV) (hl : V.length ≤ 4096) :
  Calls Tryz.prog 62 #[.pointer (some ⟨g, 0, none⟩)] w fun e w' => ∃ v, e = .returned v ∧ w'.ownsRow w.heap.size 78 3 v S.length (S.flatMap encV) ∧ Ext w w' := by
 have hi0 := infoV
 obtain ⟨i0, hi, hi1⟩ := Option.map_eq_some_iff.1 hi0
 simp only [Prod.mk.injEq] at hi1
 obtain ⟨hz1, hz2, hz3⟩ := hi1
 obtain ⟨z0, hz, hz4⟩ := Option.map_eq_some_iff.1 hz1
 clear hi0 hz1
 obtain ⟨w1, hrun, hit, hx1, hs1⟩ := hg.vs.range Tryz.underlying133
 have d0 := hg.ptr0
 have hbl := hg.vs.lt
 have hit' := hide hit
 have hs1' := hide hs1
 clear hg hit hs1
 go_enter Tryz.func62, Tryz.ntmps62
 go_wp2
 clear hrun
 try go_frame
 generalize hr : w.heap.size = r at *
 have hr' := hide hr
 clear hr
 go_loopw [3] (fun l wr => ∃ done left : List (Int × Thing), V.Perm (done ++ left) ∧ IterIs ekV evT i64ok wr r bv V left ∧ wr.ownsRow r 78 3 l done.length (done.flatMap encV) ∧ Ext w wr) (fun _ wr => wr.rangeLeft bv r)
 case atStart => exact ⟨[], V, List.Perm.refl _, unhide hit', World.ownsRow_nil _ _ _ _, hx1⟩
 case round =>
  obtain ⟨done, left, hpd, hit, hown, hxr⟩ := hrel
  have hlt := hit.left_eq
  rcases hit.next (P := Tryz.prog) 0 with ⟨hl0, hrun⟩ | ⟨p, l1, l2, w2, hl0, hrun, hit2, hk2, hs2, hen⟩
  ·have hrun : ∀ ty, (Instr.next (.pointer (some ⟨r, 0, none⟩)) false ty).run Tryz.prog wr = .ok (.tuple #[.bool false]) wr := fun _ => hrun
   subst hl0
   rw [List.append_nil] at hpd
   have hlen : done.length = S.length := (hp.trans hpd).length_eq.symm
   have hown' := hide hown
   have hpd' := hide hpd
   clear hit hlt hown hpd
   go_wp2_with (go_at_call 86; refine (sortV_any r _ done S wr (unhide hown') (hp.trans (unhide hpd')) hS (by have := (unhide hpd').length_eq; omega)).mono ?_; rintro e w4 ⟨rfl, ho4, hg4⟩)
   go_ret
   exact ⟨_, rfl, by rw [← hlen, unhide hr']; exact ho4, hxr.grown hg4 (by rw [unhide hr']; exact Nat.le_refl _) (unhide hown')⟩
  ·have hrun : ∀ ty, (Instr.next (.pointer (some ⟨r, 0, none⟩)) false ty).run Tryz.prog wr = .ok (.tuple #[.bool true, ekV p.1, evT p.2]) w2 := fun _ => hrun
   subst hl0
   have hown2 := own_keep hown hk2 (by simpa using iter_not_own hit hown)
   have hsl := hpd.length_eq
   simp only [List.length_append, List.length_cons] at hsl
   have hlt2 := hit2.left_eq
   have G := fun w3 w' v' (hx2 : Ext w2 w3) h1 h2 => gath_step (enc := encV) (w3 := w3) (w' := w') (v' := v') hpd hit hit2 hk2 hx2 hxr (by rw [unhide hr']; exact Nat.le_refl _) (by rw [unhide hr']; exact hbl) (by rw [unhide hr']; exact Nat.le_refl _) hown h1 h2
   have hxs' := hide (show r ≤ w2.heap.size by have := hxr.size; have := unhide hr'; omega)
   have hown2' := hide hown2
   have G' := hide G
   have hlt' := hide hlt
   have hsl' := hide hsl
   clear hit hlt hpd hown hown2 G hlt2 hs2 hsl
   obtain ⟨a, ⟨lab0, wt0⟩⟩ := p
   simp only [ekV, evT] at hrun hen
   go_wp2_with (at_builtin; refine wpList_append_own_at _ rfl _ _ 79 rfl r 78 i0 z0 3 24 Tryz.underlying79 hi hz hz2 hz3 hz4 (by decide) _ _ _ rfl (own_ext (unhide hown2') (((Ext.refl w2).alloc _).alloc _)) ⟨w2.heap.size + 1, 0, none⟩ 1 1 (encV (a, (lab0, wt0))) rfl rfl ?c1 ?c2 ?c3 ?c4 ?c5 ?_)
   case c1 =>
    intro j u hj
    match j, hj with
    | 0, hj => simp [encV] at hj; subst hj; simp
    | 1, hj => simp [encV] at hj; subst hj; simp
    | 2, hj => simp [encV] at hj; subst hj; simp
   case c2 => exact one_encV _
   case c3 => have := unhide hsl'; unfold maxLen; omega
   case c4 => have := unhide hsl'; omega
   case c5 => have := unhide hxs'; simp; omega
   intro v' w4 hown4 hgr4 _ _
   obtain ⟨g1, g2, g3, g4⟩ := unhide G' _ _ _ ((((Ext.refl w2).alloc _).alloc _)) hown4 hgr4
   have hm := g2.left_eq
   clear hown4 hgr4
   go_wp2
   go_roundw
   case rel => exact ⟨_, _, g1, g2, g3, g4⟩
   case measure =>
    rw [hm, unhide hlt']
    simp
theorem infoE : (Tryz.prog.info? 80).map (fun i => (i.zero.map (·.cells.size), i.size, i.bytes)) = some (some 4, 4, 32) := by kernel_rfl
set_option maxRecDepth 100000 in
set_option maxHeartbeats 4000000 in
theorem edges_any (g bv be : Nat) (V : List (Int × Thing)) (E : List ((Int × Int) × Thing)) (S : List ((Int × Int) × Thing)) (w : World) (hg : GraphAt w g bv be V E) (hp : S.Perm E) (hS : S.Pairwise ltE) (hl : E.length ≤ 4096) :
  Calls Tryz.prog 77 #[.pointer (some ⟨g, 0, none⟩)] w fun e w' => ∃ v, e = .returned v ∧ w'.ownsRow w.heap.size 80 4 v S.length (S.flatMap encE) ∧ Ext w w' := by
 have hi0 := infoE
 obtain ⟨i0, hi, hi1⟩ := Option.map_eq_some_iff.1 hi0
 simp only [Prod.mk.injEq] at hi1
 obtain ⟨hz1, hz2, hz3⟩ := hi1
 obtain ⟨z0, hz, hz4⟩ := Option.map_eq_some_iff.1 hz1
 clear hi0 hz1
 obtain ⟨w1, hrun, hit, hx1, hs1⟩ := hg.es.range Tryz.underlying134
 have d0 := hg.ptr1
 have hbl := hg.es.lt
 have hit' := hide hit
 have hs1' := hide hs1
 clear hg hit hs1
 go_enter Tryz.func77, Tryz.ntmps77
 go_wp2
 clear hrun
 try go_frame
 generalize hr : w.heap.size = r at *
 have hr' := hide hr
 clear hr
 go_loopw [3] (fun l wr => ∃ done left : List ((Int × Int) × Thing), E.Perm (done ++ left) ∧ IterIs ekE evT okE wr r be E left ∧ wr.ownsRow r 80 4 l done.length (done.flatMap encE) ∧ Ext w wr) (fun _ wr => wr.rangeLeft be r)
 case atStart => exact ⟨[], E, List.Perm.refl _, unhide hit', World.ownsRow_nil _ _ _ _, hx1⟩
 case round =>
  obtain ⟨done, left, hpd, hit, hown, hxr⟩ := hrel
  have hlt := hit.left_eq
  rcases hit.next (P := Tryz.prog) 0 with ⟨hl0, hrun⟩ | ⟨p, l1, l2, w2, hl0, hrun, hit2, hk2, hs2, hen⟩
  ·have hrun : ∀ ty, (Instr.next (.pointer (some ⟨r, 0, none⟩)) false ty).run Tryz.prog wr = .ok (.tuple #[.bool false]) wr := fun _ => hrun
   subst hl0
   rw [List.append_nil] at hpd
   have hlen : done.length = S.length := (hp.trans hpd).length_eq.symm
   have hown' := hide hown
   have hpd' := hide hpd
   clear hit hlt hown hpd
   go_wp2_with (go_at_call 99; refine (sortE_any r _ done S wr (unhide hown') (hp.trans (unhide hpd')) hS (by have := (unhide hpd').length_eq; omega)).mono ?_; rintro e w4 ⟨rfl, ho4, hg4⟩)
   go_ret
   exact ⟨_, rfl, by rw [← hlen, unhide hr']; exact ho4, hxr.grown hg4 (by rw [unhide hr']; exact Nat.le_refl _) (unhide hown')⟩
  ·have hrun : ∀ ty, (Instr.next (.pointer (some ⟨r, 0, none⟩)) false ty).run Tryz.prog wr = .ok (.tuple #[.bool true, ekE p.1, evT p.2]) w2 := fun _ => hrun
   subst hl0
   have hown2 := own_keep hown hk2 (by simpa using iter_not_own hit hown)
   have hsl := hpd.length_eq
   simp only [List.length_append, List.length_cons] at hsl
   have hlt2 := hit2.left_eq
   have G := fun w3 w' v' (hx2 : Ext w2 w3) h1 h2 => gath_step (enc := encE) (w3 := w3) (w' := w') (v' := v') hpd hit hit2 hk2 hx2 hxr (by rw [unhide hr']; exact Nat.le_refl _) (by rw [unhide hr']; exact hbl) (by rw [unhide hr']; exact Nat.le_refl _) hown h1 h2
   have hxs' := hide (show r ≤ w2.heap.size by have := hxr.size; have := unhide hr'; omega)
   have hown2' := hide hown2
   have G' := hide G
   have hlt' := hide hlt
   have hsl' := hide hsl
   clear hit hlt hpd hown hown2 G hlt2 hs2 hsl
   obtain ⟨⟨a, b⟩, ⟨lab0, wt0⟩⟩ := p
   simp only [ekE, evT] at hrun hen
   go_wp2_with (at_builtin; refine wpList_append_own_at _ rfl _ _ 81 rfl r 80 i0 z0 4 32 Tryz.underlying81 hi hz hz2 hz3 hz4 (by decide) _ _ _ rfl (own_ext (unhide hown2') ((((Ext.refl w2).alloc _).alloc _).alloc _)) ⟨w2.heap.size + 2, 0, none⟩ 1 1 (encE ((a, b), (lab0, wt0))) rfl rfl ?c1 ?c2 ?c3 ?c4 ?c5 ?_)
   case c1 =>
    intro j u hj
    match j, hj with
    | 0, hj => simp [encE] at hj; subst hj; simp
    | 1, hj => simp [encE] at hj; subst hj; simp
    | 2, hj => simp [encE] at hj; subst hj; simp
    | 3, hj => simp [encE] at hj; subst hj; simp
   case c2 => exact one_encE _
   case c3 => have := unhide hsl'; unfold maxLen; omega
   case c4 => have := unhide hsl'; omega
   case c5 => have := unhide hxs'; simp; omega
   intro v' w4 hown4 hgr4 _ _
   obtain ⟨g1, g2, g3, g4⟩ := unhide G' _ _ _ (((((Ext.refl w2).alloc _).alloc _).alloc _)) hown4 hgr4
   have hm := g2.left_eq
   clear hown4 hgr4
   go_wp2
   go_roundw
   case rel => exact ⟨_, _, g1, g2, g3, g4⟩
   case measure =>
    rw [hm, unhide hlt']
    simp
end Go.Proofs.YtmfkkkhddigkfaaGreatDoor
namespace Go.Proofs.YtmfkkkhddigkfaaGreatDoor
open Go Go.RowKit
theorem Blk.set {w : World} {b : Nat} {t : TypeId} {cs : Array Value} (h : Blk w b t cs) (i : Nat) (v : Value) : Blk (w.setCell ⟨b, i, none⟩ v) b t (cs.setIfInBounds i v) := by
 unfold Blk at *
 simp [World.setCell, Array.getElem?_modify, h]
theorem Keep.setCell (w : World) (b i : Nat) (v : Value) : Keep [b] w (w.setCell ⟨b, i, none⟩ v) :=
 ⟨rfl, rfl, rfl, by simp [World.setCell], fun k _ hn => Below.heap_setCell _ _ _ _ (by simpa using hn)⟩
theorem fld_step {wI wr w2 w4 : World} {b T k n n' i : Nat} {S : TypeId} {cs : Array Value} {v v' : Value} {xs xs' : List Value} (hk : Keep [b] wI wr) (hbI : b < wI.heap.size) (hb : Blk wr b S cs) (hown : wr.ownsRow wI.heap.size T k v n xs) (hx2 : Ext wr w2)
  (hown4 : w4.ownsRow wI.heap.size T k v' n' xs') (hg : w2.grownBy w4 v.ownBlock) (hi : i < cs.size) :
  ∃ W5, w4.setCell ⟨b, i, none⟩ v' = W5 ∧ w4.cell? ⟨b, i, none⟩ = some cs[i] ∧ w4.frozen? ⟨b, i, none⟩ = false ∧ Keep [b] wI W5 ∧ Blk W5 b S (cs.setIfInBounds i v') ∧ W5.ownsRow wI.heap.size T k v' n' xs' ∧
   (∀ j t c, Blk w2 j t c → j ≠ b → v.ownBlock ≠ some j → Blk W5 j t c) ∧ w2.heap.size ≤ W5.heap.size := by
 have hob : ∀ j, j < wI.heap.size → some j ≠ v.ownBlock := fun j hj e => by
  have := (own_base hown e.symm).1
  omega
 have hbr := hb.lt
 have hb4 : Blk w4 b S cs := hb.of_block ((hg.block b (by have := hx2.size; omega) (hob b hbI)).trans (hx2.block b hbr))
 have hs4 := hg.size
 refine ⟨_, rfl, by rw [hb4.cell]; simp [hi], hb4.frozen i, ?_, hb4.set i v', ?_, fun j t c hj hjb hjo => ?_, by simpa [World.setCell] using hs4⟩
 ·have h1 : Keep [b] wI w4 := by
   refine hk.of_new (S' := v.ownBlock.toList) ⟨hg.os.trans hx2.os, hg.tape.trans hx2.tape, hg.output.trans hx2.output, Nat.le_trans hx2.size hs4, fun j hj hjo => ?_⟩ ?_
   ·exact (hg.block j (by have := hx2.size; omega) (by
     intro e
     rw [← e] at hjo
     simp at hjo)).trans (hx2.block j hj)
   ·intro x hx
    have hx' : v.ownBlock = some x := by simpa using hx
    exact .inr (own_base hown hx').1
  exact h1.trans (Keep.setCell w4 b i v')
 ·exact own_keep hown4 (Keep.setCell w4 b i v') (fun g hg' e => by
   have hgb : g = b := by simpa using hg'
   subst hgb
   have := (own_base hown4 e).1
   omega)
 ·have hj4 : Blk w4 j t c := hj.of_block (hg.block j hj.lt (fun e => hjo e.symm))
  exact hj4.keep (Keep.setCell w4 b i v') (by simpa using hjb)
theorem flat_at {α : Type} {enc : α → List Value} {k : Nat} (hk : ∀ x, (enc x).length = k) {xs : List α} (i : Nat) (x : α) (j : Nat) (u : Value) (hx : xs[i]? = some x) (hu : (enc x)[j]? = some u) : (xs.flatMap enc)[i * k + j]? = some u := by
 have hj : j < k := by rw [← hk x]; exact (List.getElem?_eq_some_iff.1 hu).1
 induction xs generalizing i with
 | nil => simp at hx
 | cons y r ih =>
  rw [List.flatMap_cons]
  cases i with
  | zero =>
   simp only [Nat.zero_mul, Nat.zero_add]
   rw [List.getElem?_append_left (by rw [hk]; exact hj)]
   simp only [List.getElem?_cons_zero, Option.some.injEq] at hx
   rw [hx]
   exact hu
  | succ i =>
   rw [List.getElem?_append_right (by rw [hk, Nat.succ_mul]; omega), hk]
   rw [show (i + 1) * k + j - k = i * k + j by rw [Nat.succ_mul]; omega]
   exact ih i (by simpa using hx)
theorem own_slice {w : World} {base T k n : Nat} {v : Value} {xs : List Value} (h : w.ownsRow base T k v n xs) : ∃ A c, v = .slice A n c := by
 rcases h.2 with ⟨rfl, rfl⟩ | ⟨g, cap, cur, rfl, _⟩
 ·exact ⟨_, _, rfl⟩
 ·exact ⟨_, _, rfl⟩
theorem fin_row {w W : World} {b4 B T k n : Nat} {v : Value} {xs : List Value} (hx : Ext w W) (h4 : w.heap.size ≤ b4) (hown : W.ownsRow B T k v n xs) (hB : b4 < B) (p q : Value) :
  Ext w ((W.setCell ⟨b4, 0, none⟩ p).setCell ⟨b4, 1, none⟩ q) ∧ ((W.setCell ⟨b4, 0, none⟩ p).setCell ⟨b4, 1, none⟩ q).ownsRow B T k v n xs :=
 ⟨Below.setCell (Below.setCell hx h4 p) h4 q, ownsRow_setCell_below (ownsRow_setCell_below hown hB p) hB q⟩
theorem SlAt.of_own {α : Type} {enc : α → List Value} {w : World} {base T k : Nat} {v : Value} {xs : List α} (h : w.ownsRow base T k v xs.length (xs.flatMap enc)) (hk : ∀ x, (enc x).length = k) : ∃ A c, v = .slice A xs.length c ∧ SlAt enc k w A xs := by
 rcases h.2 with ⟨rfl, h0⟩ | ⟨g, cap, cur, rfl, hb, hg, hn, hcap, hcur, htake⟩
 ·have : xs = [] := List.eq_nil_of_length_eq_zero h0
  subst this
  exact ⟨none, 0, rfl, SlAt.nil⟩
 ·refine ⟨_, _, rfl, fun _ => ⟨g, 0, rfl, (Array.getElem?_eq_some_iff.1 hg).1, fun i x hx j u hu => ?_⟩⟩
  have hi : i < xs.length := (List.getElem?_eq_some_iff.1 hx).1
  have hj : j < k := by rw [← hk x]; exact (List.getElem?_eq_some_iff.1 hu).1
  have hlt : i * k + j < xs.length * k := by
   have := Nat.mul_le_mul_right k (Nat.succ_le_of_lt hi)
   rw [Nat.succ_mul] at this
   omega
  have h2 : (cur.toList.take (xs.length * k))[i * k + j]? = (xs.flatMap enc)[i * k + j]? := by rw [htake]
  rw [List.getElem?_take_of_lt hlt, Array.getElem?_toList] at h2
  have h3 := flat_at hk i x j u hx hu
  simp only [World.cell?, hg, Nat.zero_add, Option.isSome_none, Bool.false_eq_true, if_false]
  rw [h2, h3]
theorem inforV : (Tryz.prog.info? 54).map (fun i => (i.zero.map (·.cells.size), i.size, i.bytes)) = some (some 3, 3, 24) := by kernel_rfl
theorem wp_rV {ops : Array Oper} {rest : List Oper} {o : Oper} {a : Act} {Q : Exit → Act → World → Prop} (w : World) (hgd : o.guard = none) (s x : Operand)
  (ho : o.op = .call { callee := .builtin .append, args := #[s, x], argTypes := #[25, 25] }) (base : Nat) (v : Value) (n : Nat) (xs : List (Int × Thing)) (e : (Int × Thing)) (hn : xs.length = n) (g : Nat) (W : World) (hW : W = w.alloc (.cells (encV e).toArray 54)) (hsg : w.heap.size = g) (hs : a.eval s = v) (hx : a.eval x = .slice (some ⟨g, 0, none⟩) 1 1)
  (hown : w.ownsRow base 54 3 v n (xs.flatMap encV)) (hl : n ≤ 100000) (hb : base ≤ w.heap.size)
  (h : ∀ A' c' w', w'.ownsRow base 54 3 (.slice A' (n + 1) c') (n + 1) ((xs ++ [e]).flatMap encV) → (w.alloc (.cells (encV e).toArray 54)).grownBy w' v.ownBlock → wpList Tryz.prog ops Q rest (a.put o.dst (.slice A' (n + 1) c')) w') :
  wpList Tryz.prog ops Q (o :: rest) a W := by
 subst hW
 subst hn
 subst hsg
 have hi0 := inforV
 obtain ⟨i0, hi, hi1⟩ := Option.map_eq_some_iff.1 hi0
 simp only [Prod.mk.injEq] at hi1
 obtain ⟨hz1, hz2, hz3⟩ := hi1
 obtain ⟨z0, hz, hz4⟩ := Option.map_eq_some_iff.1 hz1
 have hown' := own_ext hown ((Ext.refl w).alloc (.cells (encV e).toArray 54))
 refine wpList_append_own_at _ hgd s x _ ho base 54 i0 z0 3 24 Tryz.underlying25 hi hz hz2 hz3 hz4 (by decide) v xs.length _ hs hown' ⟨w.heap.size, 0, none⟩ 1 1 (encV e) hx rfl ?_ (one_encV e) (by unfold maxLen; omega) (by omega) (by simp; omega) ?_
 ·intro j u hj
  have := (Blk.new w 54 (encV e).toArray).cell j
  rw [show (⟨w.heap.size, 0, none⟩ : Addr).add j = ⟨w.heap.size, j, none⟩ by simp [Addr.add]; omega, this]
  simpa using hj
 ·intro v' w' h1 h2 _ _
  obtain ⟨A', c', rfl⟩ := own_slice h1
  exact h A' c' w' (by simpa using h1) h2
theorem run_rV (w : World) (base : Nat) (v : Value) (xs : List (Int × Thing)) (e : (Int × Thing)) (hown : w.ownsRow base 54 3 v xs.length (xs.flatMap encV)) (hl : xs.length ≤ 100000) (hb : base ≤ w.heap.size) (ty : TypeId) :
  ∃ v' w', (Builtin.append_ #[25, 25] ty #[v, .slice (some ⟨w.heap.size, 0, none⟩) 1 1]).run Tryz.prog (w.alloc (.cells (encV e).toArray 54)) = .ok v' w' ∧
   w'.ownsRow base 54 3 v' (xs ++ [e]).length ((xs ++ [e]).flatMap encV) ∧ (w.alloc (.cells (encV e).toArray 54)).grownBy w' v.ownBlock := by
 have hi0 := inforV
 obtain ⟨i0, hi, hi1⟩ := Option.map_eq_some_iff.1 hi0
 simp only [Prod.mk.injEq] at hi1
 obtain ⟨hz1, hz2, hz3⟩ := hi1
 obtain ⟨z0, hz, hz4⟩ := Option.map_eq_some_iff.1 hz1
 have hown' := own_ext hown ((Ext.refl w).alloc (.cells (encV e).toArray 54))
 obtain ⟨v', w', h0, h1, h2, _, _⟩ := run_append_own_at (P := Tryz.prog) _ base 25 ty 54 i0 z0 3 24 Tryz.underlying25 hi hz hz2 hz3 hz4 (by decide) v xs.length _ hown' ⟨w.heap.size, 0, none⟩ 1 1 (encV e) rfl (fun j u hj => by
  have := (Blk.new w 54 (encV e).toArray).cell j
  rw [show (⟨w.heap.size, 0, none⟩ : Addr).add j = ⟨w.heap.size, j, none⟩ by simp [Addr.add]; omega, this]
  simpa using hj) (one_encV e) (by unfold maxLen; omega) (by omega) (by simp; omega)
 exact ⟨v', w', h0, by simpa using h1, h2⟩
theorem inforE : (Tryz.prog.info? 45).map (fun i => (i.zero.map (·.cells.size), i.size, i.bytes)) = some (some 4, 4, 32) := by kernel_rfl
theorem wp_rE {ops : Array Oper} {rest : List Oper} {o : Oper} {a : Act} {Q : Exit → Act → World → Prop} (w : World) (hgd : o.guard = none) (s x : Operand)
  (ho : o.op = .call { callee := .builtin .append, args := #[s, x], argTypes := #[26, 26] }) (base : Nat) (v : Value) (n : Nat) (xs : List ((Int × Int) × Thing)) (e : ((Int × Int) × Thing)) (hn : xs.length = n) (g : Nat) (W : World) (hW : W = w.alloc (.cells (encE e).toArray 45)) (hsg : w.heap.size = g) (hs : a.eval s = v) (hx : a.eval x = .slice (some ⟨g, 0, none⟩) 1 1)
  (hown : w.ownsRow base 45 4 v n (xs.flatMap encE)) (hl : n ≤ 100000) (hb : base ≤ w.heap.size)
  (h : ∀ A' c' w', w'.ownsRow base 45 4 (.slice A' (n + 1) c') (n + 1) ((xs ++ [e]).flatMap encE) → (w.alloc (.cells (encE e).toArray 45)).grownBy w' v.ownBlock → wpList Tryz.prog ops Q rest (a.put o.dst (.slice A' (n + 1) c')) w') :
  wpList Tryz.prog ops Q (o :: rest) a W := by
 subst hW
 subst hn
 subst hsg
 have hi0 := inforE
 obtain ⟨i0, hi, hi1⟩ := Option.map_eq_some_iff.1 hi0
 simp only [Prod.mk.injEq] at hi1
 obtain ⟨hz1, hz2, hz3⟩ := hi1
 obtain ⟨z0, hz, hz4⟩ := Option.map_eq_some_iff.1 hz1
 have hown' := own_ext hown ((Ext.refl w).alloc (.cells (encE e).toArray 45))
 refine wpList_append_own_at _ hgd s x _ ho base 45 i0 z0 4 32 Tryz.underlying26 hi hz hz2 hz3 hz4 (by decide) v xs.length _ hs hown' ⟨w.heap.size, 0, none⟩ 1 1 (encE e) hx rfl ?_ (one_encE e) (by unfold maxLen; omega) (by omega) (by simp; omega) ?_
 ·intro j u hj
  have := (Blk.new w 45 (encE e).toArray).cell j
  rw [show (⟨w.heap.size, 0, none⟩ : Addr).add j = ⟨w.heap.size, j, none⟩ by simp [Addr.add]; omega, this]
  simpa using hj
 ·intro v' w' h1 h2 _ _
  obtain ⟨A', c', rfl⟩ := own_slice h1
  exact h A' c' w' (by simpa using h1) h2
theorem run_rE (w : World) (base : Nat) (v : Value) (xs : List ((Int × Int) × Thing)) (e : ((Int × Int) × Thing)) (hown : w.ownsRow base 45 4 v xs.length (xs.flatMap encE)) (hl : xs.length ≤ 100000) (hb : base ≤ w.heap.size) (ty : TypeId) :
  ∃ v' w', (Builtin.append_ #[26, 26] ty #[v, .slice (some ⟨w.heap.size, 0, none⟩) 1 1]).run Tryz.prog (w.alloc (.cells (encE e).toArray 45)) = .ok v' w' ∧
   w'.ownsRow base 45 4 v' (xs ++ [e]).length ((xs ++ [e]).flatMap encE) ∧ (w.alloc (.cells (encE e).toArray 45)).grownBy w' v.ownBlock := by
 have hi0 := inforE
 obtain ⟨i0, hi, hi1⟩ := Option.map_eq_some_iff.1 hi0
 simp only [Prod.mk.injEq] at hi1
 obtain ⟨hz1, hz2, hz3⟩ := hi1
 obtain ⟨z0, hz, hz4⟩ := Option.map_eq_some_iff.1 hz1
 have hown' := own_ext hown ((Ext.refl w).alloc (.cells (encE e).toArray 45))
 obtain ⟨v', w', h0, h1, h2, _, _⟩ := run_append_own_at (P := Tryz.prog) _ base 26 ty 45 i0 z0 4 32 Tryz.underlying26 hi hz hz2 hz3 hz4 (by decide) v xs.length _ hown' ⟨w.heap.size, 0, none⟩ 1 1 (encE e) rfl (fun j u hj => by
  have := (Blk.new w 45 (encE e).toArray).cell j
  rw [show (⟨w.heap.size, 0, none⟩ : Addr).add j = ⟨w.heap.size, j, none⟩ by simp [Addr.add]; omega, this]
  simpa using hj) (one_encE e) (by unfold maxLen; omega) (by omega) (by simp; omega)
 exact ⟨v', w', h0, by simpa using h1, h2⟩
theorem ret_cell1 {P : Program} {fn : Func} {t T : Nat} {tmps : Array Value} {p : Addr} {W : World} {v : Value} (h : fn.results = #[.cell t T]) (hp : tmps.getD t undef = .pointer (some p)) (hl : (loadVar T p).run P W = .ok v W) :
  (results fn tmps).run P W = .ok v W := by
 simp only [Array.getD_eq_getD_getElem?] at hp
 simp [results, h, hp, asAddr, hl]
theorem ret_cell2 {P : Program} {fn : Func} {t T u : Nat} {tmps : Array Value} {p : Addr} {W : World} {v : Value} (h : fn.results = #[.cell t T, .tmp u]) (hp : tmps.getD t undef = .pointer (some p)) (hl : (loadVar T p).run P W = .ok v W) :
  (results fn tmps).run P W = .ok (.tuple #[v, tmps.getD u undef]) W := by
 simp only [Array.getD_eq_getD_getElem?] at hp
 simp [results, h, hp, asAddr, hl]
theorem load_G (W : World) (b : Nat) (p q : Value) (h0 : W.cell? ⟨b, 0, none⟩ = some p) (h1 : W.cell? ⟨b, 1, none⟩ = some q) : (loadVar 28 ⟨b, 0, none⟩).run Tryz.prog W = .ok (.agg #[p, q]) W := by
 simp [loadVar, h0, h1, go_sem]
theorem load_G2 (W : World) (b : Nat) (p q u v : Value) (h0 : W.cell? ⟨b, 0, none⟩ = some u) (h1 : W.cell? ⟨b, 1, none⟩ = some v) : (loadVar 28 ⟨b, 0, none⟩).run Tryz.prog ((W.setCell ⟨b, 0, none⟩ p).setCell ⟨b, 1, none⟩ q) = .ok (.agg #[p, q]) ((W.setCell ⟨b, 0, none⟩ p).setCell ⟨b, 1, none⟩ q) := by
 refine load_G _ b p q ?_ ?_
 ·rw [World.cell?_setCell_other _ _ _ _ (by simp)]
  exact World.cell?_setCell_same _ _ _ h0
 ·have h2 : (W.setCell ⟨b, 0, none⟩ p).cell? ⟨b, 1, none⟩ = some v := by
   rw [World.cell?_setCell_other _ _ _ _ (by simp)]
   exact h1
  exact World.cell?_setCell_same _ _ _ h2
end Go.Proofs.YtmfkkkhddigkfaaGreatDoor
