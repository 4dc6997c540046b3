/- THE REFERENCE's Do, one operation. Conditions: see the theorem. -/
import Derived.Test.YtjehhilijeajnaaGreatDoorDa
namespace Go.Proofs.YtjehhilijeajnaaGreatDoor
open Go Go.RowKit

theorem SlAt.off {α : Type} {enc : α → List Value} {k : Nat} {w w' : World} {A : Option Addr} {xs : List α} {b4 : Nat} {T : TypeId} {cs : Array Value} (h : SlAt enc k w A xs) (hb : Blk w b4 T cs) (hcs : ∀ (i : Nat) (u : Value), cs[i]? = some u → ∀ x : α, (enc x)[0]? ≠ some u) (hen : ∀ x : α, ∃ u : Value, (enc x)[0]? = some u)
    (hs : w.heap.size ≤ w'.heap.size) (ho : ∀ j, j ≠ b4 → j < w.heap.size → w'.heap[j]? = w.heap[j]?) : SlAt enc k w' A xs := fun hne => by
  obtain ⟨b, off, hA, hlt, hc⟩ := h hne
  have hbb : b ≠ b4 := by
    rintro rfl
    obtain ⟨x, r, rfl⟩ := List.exists_cons_of_ne_nil hne
    obtain ⟨u, hu⟩ := hen x
    have h1 := hc 0 x rfl 0 u hu
    rw [hb.cell] at h1
    exact hcs _ _ h1 x hu
  refine ⟨b, off, hA, by omega, fun i x hx j u hu => ?_⟩
  rw [World.cell?_of_block (ho b hbb hlt)]
  exact hc i x hx j u hu

set_option maxRecDepth 100000 in
set_option maxHeartbeats 4000000 in
theorem do_0 (A B : Option Addr) (V : List (Int × Thing)) (E : List ((Int × Int) × Thing)) (cV cE : Nat) (u v lab wt : Int) (w : World) (hV : SlAt encV 3 w A V) (hE : SlAt encE 4 w B E) (hl : V.length ≤ 4096) (_hle : E.length ≤ 4096) (h0 : wrongR 0 u v wt V E = 0) :
    Calls Tryz.prog 66 #[.agg #[.slice A V.length cV, .slice B E.length cE], .agg #[.int .i64 0, .int .i64 u, .int .i64 v, .int .u8 lab, .int .i64 wt]] w fun e w' => ∃ A' cV', e = .returned (.tuple #[.agg #[.slice A' (insF (gtV (u, (lab, wt))) (u, (lab, wt)) V).length cV', .slice B E.length cE], .int .i64 0]) ∧ SlAt encV 3 w' A' (insF (gtV (u, (lab, wt))) (u, (lab, wt)) V) ∧ Ext w w' := by
  have hV' := hide hV
  have hE' := hide hE
  have h0' := hide h0
  clear hV hE h0
  obtain ⟨hb2, hb3, hb4⟩ := blk3 w #[.slice A V.length cV, .slice B E.length cE] #[.int .i64 0, .int .i64 u, .int .i64 v, .int .u8 lab, .int .i64 wt] #[.slice none 0 0, .slice none 0 0] 28 132 28
  have d0 := hb2.cells 0 (v := .slice A V.length cV) rfl
  have d1 := hb2.cells 1 (v := .slice B E.length cE) rfl
  have hq3 := EditAt.of' hb3
  obtain ⟨e0, e1, e2, e3, e4⟩ := hq3
  have hb4' := hide hb4
  clear hb2 hb3 hb4
  generalize hS : insF (gtV (u, (lab, wt))) (u, (lab, wt)) V = S
  have hS' := hide hS
  go_enter Tryz.func66, Tryz.ntmps66
  go_wp2_with (first
    | (go_at_call 109; refine (wrongR_0 A B V E cV cE u v lab wt _ ((unhide hV').ext (ext_self3 _ _ _ _)) ((unhide hE').ext (ext_self3 _ _ _ _)) hl).mono ?_; rw [unhide h0']; rintro e w2 ⟨rfl, hx2⟩; have hz : Ext (((w.alloc (.cells #[.slice A V.length cV, .slice B E.length cE] 28)).alloc (.cells #[.int .i64 0, .int .i64 u, .int .i64 v, .int .u8 lab, .int .i64 wt] 132)).alloc (.cells #[.slice none 0 0, .slice none 0 0] 28)) w2 := hx2)
    | (go_at_call 110; refine (plus_any A B V E cV cE u lab wt _ ((unhide hV').ext ((ext_self3 _ _ _ _).trans hx2)) hl).mono ?_; rw [unhide hS']; rintro e w5 ⟨A5, c5, rfl, hs5, hx5⟩; have hs5' := hide hs5; have hx5' := hide hx5; have hq := ((unhide hb4').ext hx2).ext hx5; have hq' := hide hq; have s0 := hq.cell 0; have s1 := hq.cell 1; have s2 := hq.frozen 0; have s3 := hq.frozen 1; simp at s0 s1; clear hq hs5 hx5))
  refine bodyPost_ret (ret_cell2 rfl rfl (load_G2 w5 (w.heap.size + 1 + 1) _ _ _ _ s0 s1)) rfl ?_
  have hxw := ((ext_self3 _ _ _ _).trans hx2).trans (unhide hx5')
  refine ⟨A5, c5, rfl, (unhide hs5').off (unhide hq') (by intro i u hi x; match i, hi with | 0, hi => simp at hi; subst hi; simp [encV] | 1, hi => simp at hi; subst hi; simp [encV]) (fun x => ⟨_, rfl⟩) ?_ ?_, ?_⟩
  · simp [World.setCell]
  · intro j hj _
    rw [Below.heap_setCell _ _ _ _ (by simpa using hj), Below.heap_setCell _ _ _ _ (by simpa using hj)]
  · exact Below.setCell (Below.setCell hxw (by simp; omega) _) (by simp; omega) _

set_option maxRecDepth 100000 in
set_option maxHeartbeats 4000000 in
theorem do_2 (A B : Option Addr) (V : List (Int × Thing)) (E : List ((Int × Int) × Thing)) (cV cE : Nat) (u v lab wt : Int) (w : World) (hV : SlAt encV 3 w A V) (hE : SlAt encE 4 w B E) (hl : V.length ≤ 4096) (hle : E.length ≤ 4096) (h0 : wrongR 2 u v wt V E = 0) :
    Calls Tryz.prog 66 #[.agg #[.slice A V.length cV, .slice B E.length cE], .agg #[.int .i64 2, .int .i64 u, .int .i64 v, .int .u8 lab, .int .i64 wt]] w fun e w' => ∃ B' cE', e = .returned (.tuple #[.agg #[.slice A V.length cV, .slice B' (insF (gtE ((min u v, max u v), (lab, wt))) ((min u v, max u v), (lab, wt)) E).length cE'], .int .i64 0]) ∧ SlAt encE 4 w' B' (insF (gtE ((min u v, max u v), (lab, wt))) ((min u v, max u v), (lab, wt)) E) ∧ Ext w w' := by
  have hV' := hide hV
  have hE' := hide hE
  have h0' := hide h0
  clear hV hE h0
  obtain ⟨hb2, hb3, hb4⟩ := blk3 w #[.slice A V.length cV, .slice B E.length cE] #[.int .i64 2, .int .i64 u, .int .i64 v, .int .u8 lab, .int .i64 wt] #[.slice none 0 0, .slice none 0 0] 28 132 28
  have d0 := hb2.cells 0 (v := .slice A V.length cV) rfl
  have d1 := hb2.cells 1 (v := .slice B E.length cE) rfl
  have hq3 := EditAt.of' hb3
  obtain ⟨e0, e1, e2, e3, e4⟩ := hq3
  have hb4' := hide hb4
  clear hb2 hb3 hb4
  generalize hS : insF (gtE ((min u v, max u v), (lab, wt))) ((min u v, max u v), (lab, wt)) E = S
  have hS' := hide hS
  go_enter Tryz.func66, Tryz.ntmps66
  go_wp2_with (first
    | (go_at_call 109; refine (wrongR_2 A B V E cV cE u v lab wt _ ((unhide hV').ext (ext_self3 _ _ _ _)) ((unhide hE').ext (ext_self3 _ _ _ _)) hl hle).mono ?_; rw [unhide h0']; rintro e w2 ⟨rfl, hx2⟩; have hz : Ext (((w.alloc (.cells #[.slice A V.length cV, .slice B E.length cE] 28)).alloc (.cells #[.int .i64 2, .int .i64 u, .int .i64 v, .int .u8 lab, .int .i64 wt] 132)).alloc (.cells #[.slice none 0 0, .slice none 0 0] 28)) w2 := hx2)
    | (go_at_call 111; refine (joined_any A B V E cV cE (min u v) (max u v) lab wt _ ((unhide hE').ext ((ext_self3 _ _ _ _).trans hx2)) hle).mono ?_; rw [unhide hS']; rintro e w5 ⟨A5, c5, rfl, hs5, hx5⟩; have hs5' := hide hs5; have hx5' := hide hx5; have hq := ((unhide hb4').ext hx2).ext hx5; have hq' := hide hq; have s0 := hq.cell 0; have s1 := hq.cell 1; have s2 := hq.frozen 0; have s3 := hq.frozen 1; simp at s0 s1; clear hq hs5 hx5))
  refine bodyPost_ret (ret_cell2 rfl rfl (load_G2 w5 (w.heap.size + 1 + 1) _ _ _ _ s0 s1)) rfl ?_
  have hxw := ((ext_self3 _ _ _ _).trans hx2).trans (unhide hx5')
  refine ⟨A5, c5, rfl, (unhide hs5').off (unhide hq') (by intro i u hi x; match i, hi with | 0, hi => simp at hi; subst hi; simp [encE] | 1, hi => simp at hi; subst hi; simp [encE]) (fun x => ⟨_, rfl⟩) ?_ ?_, ?_⟩
  · simp [World.setCell]
  · intro j hj _
    rw [Below.heap_setCell _ _ _ _ (by simpa using hj), Below.heap_setCell _ _ _ _ (by simpa using hj)]
  · exact Below.setCell (Below.setCell hxw (by simp; omega) _) (by simp; omega) _

end Go.Proofs.YtjehhilijeajnaaGreatDoor
