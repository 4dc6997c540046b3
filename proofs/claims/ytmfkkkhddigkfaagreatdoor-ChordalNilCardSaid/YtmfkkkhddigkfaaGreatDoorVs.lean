/- graph.Vertices, graph.Edges: THE SORTED LISTS. Conditions: see each theorem. -/
import Derived.Test.YtmfkkkhddigkfaaGreatDoorSb
import Derived.Maps.AppendAt
namespace Go.Proofs.YtmfkkkhddigkfaaGreatDoor
open Go Go.RowKit

theorem own_keep {w w' : World} {base T k n : Nat} {v : Value} {xs : List Value} {S : List Nat} (h : w.ownsRow base T k v n xs) (hk : Keep S w w') (hS : ∀ g ∈ S, v.ownBlock ≠ some g) : w'.ownsRow base T k v n xs := by
  refine ⟨h.1, ?_⟩
  rcases h.2 with h0 | ⟨g, cap, cur, rfl, hb, hg, hr⟩
  · exact .inl h0
  · exact .inr ⟨g, cap, cur, rfl, hb, (hk.block g (Array.getElem?_eq_some_iff.1 hg).1 (fun hm => hS g hm rfl)).trans hg, hr⟩
theorem own_ext {w w' : World} {base T k n : Nat} {v : Value} {xs : List Value} (h : w.ownsRow base T k v n xs) (hk : Ext w w') : w'.ownsRow base T k v n xs :=
  own_keep h (hk.keep []) (by simp)
theorem own_base {w : World} {base T k n : Nat} {v : Value} {xs : List Value} (h : w.ownsRow base T k v n xs) {g : Nat} (hg : v.ownBlock = some g) : base ≤ g ∧ g < w.heap.size ∧ ∃ cur, w.heap[g]? = some (.cells cur T (0, 0)) := by
  rcases h.2 with ⟨rfl, _⟩ | ⟨g', cap, cur, rfl, hb, hc, _⟩
  · cases hg
  · cases hg
    exact ⟨hb, (Array.getElem?_eq_some_iff.1 hc).1, cur, hc⟩
theorem Ext.grown {w wr w' : World} {v : Value} {B T k n : Nat} {xs : List Value} (h : Ext w wr) (hg : wr.grownBy w' v.ownBlock) (hB : w.heap.size ≤ B) (ho : wr.ownsRow B T k v n xs) : Ext w w' :=
  h.of_new (S' := v.ownBlock.toList) ⟨hg.os, hg.tape, hg.output, hg.size, fun i hi hne => hg.block i hi (by
    intro e
    rw [← e] at hne
    simp at hne)⟩ (by
    intro x hx
    have : v.ownBlock = some x := by simpa using hx
    exact Nat.le_trans hB (own_base ho this).1)
theorem iter_not_own {κ τ : Type} {ek : κ → Value} {ev : τ → Value} {ok : κ → Prop} {w : World} {r b base T k n : Nat} {m l : List (κ × τ)} {v : Value} {xs : List Value} (hit : IterIs ek ev ok w r b m l) (h : w.ownsRow base T k v n xs) : v.ownBlock ≠ some r := by
  intro e
  obtain ⟨_, _, cur, hc⟩ := own_base h e
  obtain ⟨es, clock, since, seen, c0, _, _, _, _, h1, _⟩ := hit
  rw [hc] at h1
  cases h1
theorem gath_step {κ τ : Type} {ek : κ → Value} {ev : τ → Value} {ok : κ → Prop} {enc : κ × τ → List Value} {w wr w2 w3 w' : World} {r b B T k : Nat} {v v' : Value} {M done l1 l2 : List (κ × τ)} {p : κ × τ}
    (hp : M.Perm (done ++ (l1 ++ p :: l2))) (hit : IterIs ek ev ok wr r b M (l1 ++ p :: l2)) (hit2 : IterIs ek ev ok w2 r b M (l1 ++ l2)) (hk2 : Keep [r] wr w2) (hx2 : Ext w2 w3) (hxw : Ext w wr) (hr : w.heap.size ≤ r) (hb : b < w.heap.size) (hB : w.heap.size ≤ B)
    (hown : wr.ownsRow B T k v done.length (done.flatMap enc)) (hown' : w'.ownsRow B T k v' (done.length + 1) (done.flatMap enc ++ enc p)) (hg : w3.grownBy w' v.ownBlock) :
    M.Perm ((done ++ [p]) ++ (l1 ++ l2)) ∧ IterIs ek ev ok w' r b M (l1 ++ l2) ∧ w'.ownsRow B T k v' (done ++ [p]).length ((done ++ [p]).flatMap enc) ∧ Ext w w' := by
  have hno := iter_not_own hit hown
  have hown2 := own_keep hown hk2 (by simpa using hno)
  have hown3 := own_ext hown2 hx2
  have hx3 : Ext w w3 := (hxw.of_new hk2 (by simpa using hr)).trans hx2
  refine ⟨?_, ?_, ?_, hx3.grown hg hB hown3⟩
  · refine hp.trans ?_
    rw [List.append_assoc]
    exact (List.perm_middle).append_left done
  · have hit3 := hit2.ext hx2
    refine hit3.of_blocks (hg.block r hit3.lt (fun e => hno e.symm)) (hg.block b hit3.map.lt (fun e => ?_))
    have := (own_base hown3 e.symm).1
    omega
  · simpa using hown'


theorem infoV : (Tryz.prog.info? 78).map (fun i => (i.zero.map (·.cells.size), i.size, i.bytes)) = some (some 3, 3, 24) := by kernel_rfl

set_option maxRecDepth 100000 in
set_option maxHeartbeats 4000000 in
theorem vertices_any (g bv be : Nat) (V : List (Int × Thing)) (E : List ((Int × Int) × Thing)) (S : List (Int × Thing)) (w : World) (hg : GraphAt w g bv be V E) (hp : S.Perm V) (hS : S.Pairwise ltV) (hl : V.length ≤ 4096) :
    Calls Tryz.prog 62 #[.pointer (some ⟨g, 0, none⟩)] w fun e w' => ∃ v, e = .returned v ∧ w'.ownsRow w.heap.size 78 3 v S.length (S.flatMap encV) ∧ Ext w w' := by
  have hi0 := infoV
  obtain ⟨i0, hi, hi1⟩ := Option.map_eq_some_iff.1 hi0
  simp only [Prod.mk.injEq] at hi1
  obtain ⟨hz1, hz2, hz3⟩ := hi1
  obtain ⟨z0, hz, hz4⟩ := Option.map_eq_some_iff.1 hz1
  clear hi0 hz1
  obtain ⟨w1, hrun, hit, hx1, hs1⟩ := hg.vs.range Tryz.underlying133
  have d0 := hg.ptr0
  have hbl := hg.vs.lt
  have hit' := hide hit
  have hs1' := hide hs1
  clear hg hit hs1
  go_enter Tryz.func62, Tryz.ntmps62
  go_wp2
  clear hrun
  try go_frame
  generalize hr : w.heap.size = r at *
  have hr' := hide hr
  clear hr
  go_loopw [3] (fun l wr => ∃ done left : List (Int × Thing), V.Perm (done ++ left) ∧ IterIs ekV evT i64ok wr r bv V left ∧ wr.ownsRow r 78 3 l done.length (done.flatMap encV) ∧ Ext w wr) (fun _ wr => wr.rangeLeft bv r)
  case atStart => exact ⟨[], V, List.Perm.refl _, unhide hit', World.ownsRow_nil _ _ _ _, hx1⟩
  case round =>
    obtain ⟨done, left, hpd, hit, hown, hxr⟩ := hrel
    have hlt := hit.left_eq
    rcases hit.next (P := Tryz.prog) 0 with ⟨hl0, hrun⟩ | ⟨p, l1, l2, w2, hl0, hrun, hit2, hk2, hs2, hen⟩
    · have hrun : ∀ ty, (Instr.next (.pointer (some ⟨r, 0, none⟩)) false ty).run Tryz.prog wr = .ok (.tuple #[.bool false]) wr := fun _ => hrun
      subst hl0
      rw [List.append_nil] at hpd
      have hlen : done.length = S.length := (hp.trans hpd).length_eq.symm
      have hown' := hide hown
      have hpd' := hide hpd
      clear hit hlt hown hpd
      go_wp2_with (go_at_call 86; refine (sortV_any r _ done S wr (unhide hown') (hp.trans (unhide hpd')) hS (by have := (unhide hpd').length_eq; omega)).mono ?_; rintro e w4 ⟨rfl, ho4, hg4⟩)
      go_ret
      exact ⟨_, rfl, by rw [← hlen, unhide hr']; exact ho4, hxr.grown hg4 (by rw [unhide hr']; exact Nat.le_refl _) (unhide hown')⟩
    · have hrun : ∀ ty, (Instr.next (.pointer (some ⟨r, 0, none⟩)) false ty).run Tryz.prog wr = .ok (.tuple #[.bool true, ekV p.1, evT p.2]) w2 := fun _ => hrun
      subst hl0
      have hown2 := own_keep hown hk2 (by simpa using iter_not_own hit hown)
      have hsl := hpd.length_eq
      simp only [List.length_append, List.length_cons] at hsl
      have hlt2 := hit2.left_eq
      have G := fun w3 w' v' (hx2 : Ext w2 w3) h1 h2 => gath_step (enc := encV) (w3 := w3) (w' := w') (v' := v') hpd hit hit2 hk2 hx2 hxr (by rw [unhide hr']; exact Nat.le_refl _) (by rw [unhide hr']; exact hbl) (by rw [unhide hr']; exact Nat.le_refl _) hown h1 h2
      have hxs' := hide (show r ≤ w2.heap.size by have := hxr.size; have := unhide hr'; omega)
      have hown2' := hide hown2
      have G' := hide G
      have hlt' := hide hlt
      have hsl' := hide hsl
      clear hit hlt hpd hown hown2 G hlt2 hs2 hsl
      obtain ⟨a, ⟨lab0, wt0⟩⟩ := p
      simp only [ekV, evT] at hrun hen
      go_wp2_with (at_builtin; refine wpList_append_own_at _ rfl _ _ 79 rfl r 78 i0 z0 3 24 Tryz.underlying79 hi hz hz2 hz3 hz4 (by decide) _ _ _ rfl (own_ext (unhide hown2') (((Ext.refl w2).alloc _).alloc _)) ⟨w2.heap.size + 1, 0, none⟩ 1 1 (encV (a, (lab0, wt0))) rfl rfl ?c1 ?c2 ?c3 ?c4 ?c5 ?_)
      case c1 =>
        intro j u hj
        match j, hj with
        | 0, hj => simp [encV] at hj; subst hj; simp
        | 1, hj => simp [encV] at hj; subst hj; simp
        | 2, hj => simp [encV] at hj; subst hj; simp
      case c2 => exact one_encV _
      case c3 => have := unhide hsl'; unfold maxLen; omega
      case c4 => have := unhide hsl'; omega
      case c5 => have := unhide hxs'; simp; omega
      intro v' w4 hown4 hgr4 _ _
      obtain ⟨g1, g2, g3, g4⟩ := unhide G' _ _ _ ((((Ext.refl w2).alloc _).alloc _)) hown4 hgr4
      have hm := g2.left_eq
      clear hown4 hgr4
      go_wp2
      go_roundw
      case rel => exact ⟨_, _, g1, g2, g3, g4⟩
      case measure =>
        rw [hm, unhide hlt']
        simp

theorem infoE : (Tryz.prog.info? 80).map (fun i => (i.zero.map (·.cells.size), i.size, i.bytes)) = some (some 4, 4, 32) := by kernel_rfl

set_option maxRecDepth 100000 in
set_option maxHeartbeats 4000000 in
theorem edges_any (g bv be : Nat) (V : List (Int × Thing)) (E : List ((Int × Int) × Thing)) (S : List ((Int × Int) × Thing)) (w : World) (hg : GraphAt w g bv be V E) (hp : S.Perm E) (hS : S.Pairwise ltE) (hl : E.length ≤ 4096) :
    Calls Tryz.prog 77 #[.pointer (some ⟨g, 0, none⟩)] w fun e w' => ∃ v, e = .returned v ∧ w'.ownsRow w.heap.size 80 4 v S.length (S.flatMap encE) ∧ Ext w w' := by
  have hi0 := infoE
  obtain ⟨i0, hi, hi1⟩ := Option.map_eq_some_iff.1 hi0
  simp only [Prod.mk.injEq] at hi1
  obtain ⟨hz1, hz2, hz3⟩ := hi1
  obtain ⟨z0, hz, hz4⟩ := Option.map_eq_some_iff.1 hz1
  clear hi0 hz1
  obtain ⟨w1, hrun, hit, hx1, hs1⟩ := hg.es.range Tryz.underlying134
  have d0 := hg.ptr1
  have hbl := hg.es.lt
  have hit' := hide hit
  have hs1' := hide hs1
  clear hg hit hs1
  go_enter Tryz.func77, Tryz.ntmps77
  go_wp2
  clear hrun
  try go_frame
  generalize hr : w.heap.size = r at *
  have hr' := hide hr
  clear hr
  go_loopw [3] (fun l wr => ∃ done left : List ((Int × Int) × Thing), E.Perm (done ++ left) ∧ IterIs ekE evT okE wr r be E left ∧ wr.ownsRow r 80 4 l done.length (done.flatMap encE) ∧ Ext w wr) (fun _ wr => wr.rangeLeft be r)
  case atStart => exact ⟨[], E, List.Perm.refl _, unhide hit', World.ownsRow_nil _ _ _ _, hx1⟩
  case round =>
    obtain ⟨done, left, hpd, hit, hown, hxr⟩ := hrel
    have hlt := hit.left_eq
    rcases hit.next (P := Tryz.prog) 0 with ⟨hl0, hrun⟩ | ⟨p, l1, l2, w2, hl0, hrun, hit2, hk2, hs2, hen⟩
    · have hrun : ∀ ty, (Instr.next (.pointer (some ⟨r, 0, none⟩)) false ty).run Tryz.prog wr = .ok (.tuple #[.bool false]) wr := fun _ => hrun
      subst hl0
      rw [List.append_nil] at hpd
      have hlen : done.length = S.length := (hp.trans hpd).length_eq.symm
      have hown' := hide hown
      have hpd' := hide hpd
      clear hit hlt hown hpd
      go_wp2_with (go_at_call 99; refine (sortE_any r _ done S wr (unhide hown') (hp.trans (unhide hpd')) hS (by have := (unhide hpd').length_eq; omega)).mono ?_; rintro e w4 ⟨rfl, ho4, hg4⟩)
      go_ret
      exact ⟨_, rfl, by rw [← hlen, unhide hr']; exact ho4, hxr.grown hg4 (by rw [unhide hr']; exact Nat.le_refl _) (unhide hown')⟩
    · have hrun : ∀ ty, (Instr.next (.pointer (some ⟨r, 0, none⟩)) false ty).run Tryz.prog wr = .ok (.tuple #[.bool true, ekE p.1, evT p.2]) w2 := fun _ => hrun
      subst hl0
      have hown2 := own_keep hown hk2 (by simpa using iter_not_own hit hown)
      have hsl := hpd.length_eq
      simp only [List.length_append, List.length_cons] at hsl
      have hlt2 := hit2.left_eq
      have G := fun w3 w' v' (hx2 : Ext w2 w3) h1 h2 => gath_step (enc := encE) (w3 := w3) (w' := w') (v' := v') hpd hit hit2 hk2 hx2 hxr (by rw [unhide hr']; exact Nat.le_refl _) (by rw [unhide hr']; exact hbl) (by rw [unhide hr']; exact Nat.le_refl _) hown h1 h2
      have hxs' := hide (show r ≤ w2.heap.size by have := hxr.size; have := unhide hr'; omega)
      have hown2' := hide hown2
      have G' := hide G
      have hlt' := hide hlt
      have hsl' := hide hsl
      clear hit hlt hpd hown hown2 G hlt2 hs2 hsl
      obtain ⟨⟨a, b⟩, ⟨lab0, wt0⟩⟩ := p
      simp only [ekE, evT] at hrun hen
      go_wp2_with (at_builtin; refine wpList_append_own_at _ rfl _ _ 81 rfl r 80 i0 z0 4 32 Tryz.underlying81 hi hz hz2 hz3 hz4 (by decide) _ _ _ rfl (own_ext (unhide hown2') ((((Ext.refl w2).alloc _).alloc _).alloc _)) ⟨w2.heap.size + 2, 0, none⟩ 1 1 (encE ((a, b), (lab0, wt0))) rfl rfl ?c1 ?c2 ?c3 ?c4 ?c5 ?_)
      case c1 =>
        intro j u hj
        match j, hj with
        | 0, hj => simp [encE] at hj; subst hj; simp
        | 1, hj => simp [encE] at hj; subst hj; simp
        | 2, hj => simp [encE] at hj; subst hj; simp
        | 3, hj => simp [encE] at hj; subst hj; simp
      case c2 => exact one_encE _
      case c3 => have := unhide hsl'; unfold maxLen; omega
      case c4 => have := unhide hsl'; omega
      case c5 => have := unhide hxs'; simp; omega
      intro v' w4 hown4 hgr4 _ _
      obtain ⟨g1, g2, g3, g4⟩ := unhide G' _ _ _ (((((Ext.refl w2).alloc _).alloc _).alloc _)) hown4 hgr4
      have hm := g2.left_eq
      clear hown4 hgr4
      go_wp2
      go_roundw
      case rel => exact ⟨_, _, g1, g2, g3, g4⟩
      case measure =>
        rw [hm, unhide hlt']
        simp
end Go.Proofs.YtmfkkkhddigkfaaGreatDoor
