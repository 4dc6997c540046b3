/- Parts of a proof, laid together: D5, D6, D7, Db, Sm, To, Nx, Op. Each part says its own conditions. -/
import Derived.Test.YtjehhilijeajnaaGreatDoorDa
import Derived.Test.YtjehhilijeajnaaGreatDoorRq
import Derived.Test.YtjehhilijeajnaaGreatDoorPl
import Derived.Test.YtjehhilijeajnaaGreatDoorD1
import Derived.Test.YtjehhilijeajnaaGreatDoorD3
import Derived.Test.YtjehhilijeajnaaGreatDoorD4
import Derived.Test.YtjehhilijeajnaaGreatDoorRa
import Derived.Test.YtjehhilijeajnaaGreatDoorRows
import Derived.Deep.Slices
import Derived.Deep.Fields
import Derived.ChangeSame
import Derived.OpenShut
/- THE REFERENCE's Do, one operation. Conditions: see the theorem. -/
namespace Go.Proofs.YtjehhilijeajnaaGreatDoor
open Go Go.RowKit

set_option maxRecDepth 100000 in
set_option maxHeartbeats 4000000 in
theorem do_5 (A B : Option Addr) (V : List (Int × Thing)) (E : List ((Int × Int) × Thing)) (cV cE : Nat) (u v lab wt : Int) (w : World) (hV : SlAt encV 3 w A V) (hE : SlAt encE 4 w B E) (hl : V.length ≤ 4096) (hle : E.length ≤ 4096) (h0 : wrongR 5 u v wt V E = 0) :
    Calls Tryz.prog 66 #[.agg #[.slice A V.length cV, .slice B E.length cE], .agg #[.int .i64 5, .int .i64 u, .int .i64 v, .int .u8 lab, .int .i64 wt]] w fun e w' => ∃ A' cV' B' cE', e = .returned (.tuple #[.agg #[.slice A' (V.flatMap (fV 5 u lab wt)).length cV', .slice B' (E.zipIdx.flatMap (fE 5 u lab wt (posD 5 u v E))).length cE'], .int .i64 0]) ∧
      SlAt encV 3 w' A' (V.flatMap (fV 5 u lab wt)) ∧ SlAt encE 4 w' B' (E.zipIdx.flatMap (fE 5 u lab wt (posD 5 u v E))) ∧ Ext w w' := by
  generalize hpos : posD 5 u v E = pos
  have hpos' := hide hpos
  clear hpos
  have hV' := hide hV
  have hE' := hide hE
  have h0' := hide h0
  clear hV hE h0
  obtain ⟨hb2, hb3, hb4⟩ := blk3 w #[.slice A V.length cV, .slice B E.length cE] #[.int .i64 5, .int .i64 u, .int .i64 v, .int .u8 lab, .int .i64 wt] #[.slice none 0 0, .slice none 0 0] 28 132 28
  have d0 := hb2.cells 0 (v := .slice A V.length cV) rfl
  have d1 := hb2.cells 1 (v := .slice B E.length cE) rfl
  have hq3 := EditAt.of' hb3
  obtain ⟨e0, e1, e2, e3, e4⟩ := hq3
  have hb2' := hide hb2
  have hb3' := hide hb3
  have hb4' := hide hb4
  clear hb2 hb3 hb4
  go_enter Tryz.func66, Tryz.ntmps66
  go_wp2_with (go_at_call 109; refine (wrongR_5 A B V E cV cE u v lab wt _ ((unhide hV').ext (ext_self3 _ _ _ _)) ((unhide hE').ext (ext_self3 _ _ _ _)) hl).mono ?_; rw [unhide h0']; rintro e w2 ⟨rfl, hx2⟩; have hx2' := hide hx2)
  refine wp_abs (fun W => Ext w W ∧ w.heap.size + 1 + 1 < w2.heap.size ∧ W.heap.size = w2.heap.size + 1 ∧ Blk W w.heap.size 28 #[.slice A V.length cV, .slice B E.length cE] ∧ Blk W (w.heap.size + 1) 132 #[.int .i64 5, .int .i64 u, .int .i64 v, .int .u8 lab, .int .i64 wt] ∧
    Blk W (w.heap.size + 1 + 1) 28 #[.slice none 0 0, .slice none 0 0] ∧ Blk W w2.heap.size 28 #[.slice none 0 0, .slice none 0 0]) ?_ ?_
  · have hq : Ext w2 (w2.alloc (.cells #[.slice none 0 0, .slice none 0 0] 28)) := ext_self1 _ _
    have hq2 := (unhide hx2').trans hq
    exact ⟨(ext_self3 _ _ _ _).trans hq2, by have := (unhide hx2').size; simp at this; omega, by simp, (unhide hb2').ext hq2, (unhide hb3').ext hq2, (unhide hb4').ext hq2, Blk.new _ _ _⟩
  clear d0 d1 e0 e1 e2 e3 e4 hx2 hx2' hb2' hb3' hb4'
  rintro wI ⟨hxI, hn2, hsI, hb2, hb3, hb4, hb7⟩
  generalize hn : w.heap.size = n at *
  generalize hm : w2.heap.size = b7 at *
  go_loopw [8] (fun i wr => ∃ (k : Nat) (o : List (Int × Thing)) (vs : Value), k ≤ V.length ∧ i = .int .i64 k ∧ (V.take k).flatMap (fV 5 u lab wt) = o ∧
    Keep [b7] wI wr ∧ Blk wr b7 28 #[vs, .slice none 0 0] ∧ wr.ownsRow wI.heap.size 91 3 vs o.length (o.flatMap encV)) (fun i _ => V.length - (intOf i).toNat)
  case atStart => exact ⟨0, [], _, Nat.zero_le _, rfl, rfl, Keep.refl _ _, hb7, World.ownsRow_nil _ _ _ _⟩
  case round =>
    obtain ⟨k, o, vs, hk, rfl, hfold, hkeep, hbk, hown⟩ := hrel
    have hkeep' := hide hkeep
    have hbk' := hide hbk
    have hown' := hide hown
    have hol' := hide (show o.length ≤ 5000 by rw [← hfold]; have := flat_le (fV_len 5 u lab wt) (V.take k); rw [List.length_take] at this; omega)
    have hsz' := hide (show wI.heap.size ≤ wr.heap.size from hkeep.size)
    have hnI' := hide (show b7 < wI.heap.size by omega)
    have hxr : Ext w wr := hxI.of_new hkeep (by simp <;> omega)
    have hq2 := hb2.keep hkeep (by simp <;> omega)
    have hq3 := hb3.keep hkeep (by simp <;> omega)
    have hq4' := hide (hb4.keep hkeep (by simp <;> omega))
    have d0 := hq2.cells 0 (v := .slice A V.length cV) rfl
    have d1 := hq2.cells 1 (v := .slice B E.length cE) rfl
    have hq2' := hide hq2
    have hq3' := hide hq3
    obtain ⟨e0, e1, e2, e3, e4⟩ := EditAt.of' hq3
    have r0 := hbk.cells 0 (v := vs) rfl
    have hhI := hide hxI
    have hsI' := hide hsI
    clear hkeep hbk hown hb2 hb3 hb4 hb7 hq2 hq3 hxI hsI
    by_cases hlt : k < V.length
    · obtain ⟨b, off, rfl, c1, c2, c3⟩ := atV ((unhide hV').ext hxr) hlt
      have st := flat_take hlt hfold
      generalize hy : V[k] = y at c1 c2 c3 st
      obtain ⟨a, ⟨l, t⟩⟩ := y
      clear hy hfold
      have st' := hide st
      clear st
      simp only at c1 c2 c3
      by_cases hc : a = u
      · subst hc
        go_wp2_with (at_builtin; refine wp_rV (wr.alloc (.cells #[.int .i64 a, .int .u8 l, .int .i64 wt] 91)) rfl _ _ rfl wI.heap.size vs o.length o (a, (l, wt)) rfl (wr.heap.size + 1) _ (by rfl) (by simp) (by rfl) (by rfl) (own_ext (unhide hown') (ext_self1 _ _)) (Nat.le_trans (unhide hol') (by omega)) (Nat.le_trans (unhide hsz') (Below.size (ext_self1 _ _))) ?_; intro A1 k1 w4 ho4 hg4; obtain ⟨W5, hW5, f1, f2, hk5, hb5, ho5, _, _⟩ := fld_step (i := 0) (unhide hkeep') (unhide hnI') (unhide hbk') (unhide hown') (ext_self2 wr _ _) ho4 hg4 (by simp); have hk5' := hide hk5; have hb5' := hide hb5; have ho5' := hide ho5; clear hk5 hb5 ho5 ho4 hg4)
        go_roundw
        case rel => exact ⟨k + 1, o ++ [(a, (l, wt))], .slice A1 (o.length + 1) k1, by omega, by go_num, by rw [unhide st']; simp [fV], unhide hk5', unhide hb5', by have := unhide ho5'; simpa using this⟩
        case measure => simp [intOf]; omega

      · have hc' := hide hc
        go_wp2_with (at_builtin; refine wp_rV (wr.alloc (.cells #[.int .i64 a, .int .u8 l, .int .i64 t] 91)) rfl _ _ rfl wI.heap.size vs o.length o (a, (l, t)) rfl (wr.heap.size + 1) _ (by rfl) (by simp) (by rfl) (by rfl) (own_ext (unhide hown') (ext_self1 _ _)) (Nat.le_trans (unhide hol') (by omega)) (Nat.le_trans (unhide hsz') (Below.size (ext_self1 _ _))) ?_; intro A1 k1 w4 ho4 hg4; obtain ⟨W5, hW5, f1, f2, hk5, hb5, ho5, _, _⟩ := fld_step (i := 0) (unhide hkeep') (unhide hnI') (unhide hbk') (unhide hown') (ext_self2 wr _ _) ho4 hg4 (by simp); have hk5' := hide hk5; have hb5' := hide hb5; have ho5' := hide ho5; clear hk5 hb5 ho5 ho4 hg4)
        go_roundw
        case rel => exact ⟨k + 1, o ++ [(a, (l, t))], .slice A1 (o.length + 1) k1, by omega, by go_num, by rw [unhide st']; simp [fV, unhide hc'], unhide hk5', unhide hb5', by have := unhide ho5'; simpa using this⟩
        case measure => simp [intOf]; omega

    · have hkE : k = V.length := by omega
      rw [hkE, List.take_length] at hfold
      have hfoldV := hide hfold
      clear hfold
      obtain ⟨As, ks, rfl⟩ := own_slice (unhide hown')
      rename List (Int × Thing) => oV
      rename World => wV
      go_wp2_with (first
        | (go_at_call 112; refine (pair_any _ _ _ _ _ _).mono ?_; rw [show pairsB 5 = false by decide]; rintro e w5 ⟨rfl, hx5⟩; have hx5' := hide hx5)
        | (go_at_call 53; refine (redge_any A B E V.length cV cE u v _ ((unhide hE').ext (hxr.trans hx5)) hle).mono ?_; rintro e w6 ⟨rfl, hx6⟩; have hx6' := hide hx6))
      have hxJ : Ext wV w5 := unhide hx5'
      skip
      skip
      clear hx5 hx5'
      have hxwJ' := hide (hxr.trans hxJ)
      have hbJ' := hide ((unhide hbk').ext hxJ)
      have hoJ' := hide (own_ext (unhide hown') hxJ)
      have hq2J' := hide ((unhide hq2').ext hxJ)
      have hq3J' := hide ((unhide hq3').ext hxJ)
      have hq4J' := hide ((unhide hq4').ext hxJ)
      have hbz' := hide (show wI.heap.size ≤ w5.heap.size by have := unhide hsz'; have := hxJ.size; omega)
      have hnJ' := hide (show b7 < w5.heap.size by have := unhide hbz'; have := unhide hnI'; omega)
      have hwIs := unhide hsI'
      clear d0 d1 e0 e1 e2 e3 e4 r0 hxr hxJ hkeep' hbk' hown' hq2' hq3' hq4' hol' hsz'
      go_loopw [11] (fun i wr => ∃ (k : Nat) (o : List ((Int × Int) × Thing)) (vs : Value), k ≤ E.length ∧ i = .int .i64 k ∧ (E.zipIdx.take k).flatMap (fE 5 u lab wt pos) = o ∧
        Keep [b7] w5 wr ∧ Blk wr b7 28 #[.slice As oV.length ks, vs] ∧ wr.ownsRow w5.heap.size 72 4 vs o.length (o.flatMap encE)) (fun i _ => E.length - (intOf i).toNat)
      case atStart => exact ⟨0, [], _, Nat.zero_le _, rfl, rfl, Keep.refl _ _, unhide hbJ', World.ownsRow_nil _ _ _ _⟩
      case round =>
        obtain ⟨k, o, vs, hk, rfl, hfold, hkeep, hbk, hown⟩ := hrel
        have hkeep' := hide hkeep
        have hbk' := hide hbk
        have hown' := hide hown
        have hol' := hide (show o.length ≤ 5000 by rw [← hfold]; have := flat_le (fE_len 5 u lab wt pos) (E.zipIdx.take k); rw [List.length_take, List.length_zipIdx] at this; omega)
        have hsz' := hide (show w5.heap.size ≤ wr.heap.size from hkeep.size)
        have hxr : Ext w wr := (unhide hxwJ').of_new hkeep (by simp <;> omega)
        have hq2 := (unhide hq2J').keep hkeep (by simp <;> omega)
        have hq3 := (unhide hq3J').keep hkeep (by simp <;> omega)
        have hq4' := hide ((unhide hq4J').keep hkeep (by simp <;> omega))
        have d1 := hq2.cells 1 (v := .slice B E.length cE) rfl
        obtain ⟨e0, e1, e2, e3, e4⟩ := EditAt.of' hq3
        have r0 := hbk.cells 0 (v := .slice As oV.length ks) rfl
        have r1 := hbk.cells 1 (v := vs) rfl
        clear hkeep hbk hown hq2 hq3
        by_cases hlt : k < E.length
        · obtain ⟨b, off, rfl, c1, c2, c3, c4⟩ := atE ((unhide hE').ext hxr) hlt
          have st := flat_take (l := E.zipIdx) (by simpa using hlt) hfold
          rw [List.getElem_zipIdx, Nat.zero_add] at st
          generalize hy : E[k] = y at c1 c2 c3 c4 st
          obtain ⟨⟨a, b0⟩, ⟨l, t⟩⟩ := y
          clear hy hfold
          have st' := hide st
          clear st
          simp only at c1 c2 c3 c4
          skip
          go_wp2_with (at_builtin; refine wp_rE (wr.alloc (.cells #[.int .i64 a, .int .i64 b0, .int .u8 l, .int .i64 t] 72)) rfl _ _ rfl w5.heap.size vs o.length o ((a, b0), (l, t)) rfl (wr.heap.size + 1) _ (by rfl) (by simp) (by rfl) (by rfl) (own_ext (unhide hown') (ext_self1 _ _)) (Nat.le_trans (unhide hol') (by omega)) (Nat.le_trans (unhide hsz') (Below.size (ext_self1 _ _))) ?_; intro A1 k1 w4 ho4 hg4; obtain ⟨W5, hW5, f1, f2, hk5, hb5, ho5, _, _⟩ := fld_step (i := 1) (unhide hkeep') (unhide hnJ') (unhide hbk') (unhide hown') (ext_self2 wr _ _) ho4 hg4 (by simp); have hk5' := hide hk5; have hb5' := hide hb5; have ho5' := hide ho5; clear hk5 hb5 ho5 ho4 hg4)
          go_roundw
          case rel => exact ⟨k + 1, o ++ [((a, b0), (l, t))], .slice A1 (o.length + 1) k1, by omega, by go_num, by rw [unhide st']; simp [fE], unhide hk5', unhide hb5', by have := unhide ho5'; simpa using this⟩
          case measure => simp [intOf]; omega

        · have hkE : k = E.length := by omega
          rw [hkE, List.take_of_length_le (by simp)] at hfold
          obtain ⟨A2, k2, rfl⟩ := own_slice (unhide hown')
          have s0 := (unhide hq4').cell 0
          have s1 := (unhide hq4').cell 1
          have s2 := (unhide hq4').frozen 0
          have s3 := (unhide hq4').frozen 1
          simp at s0 s1
          have hfold' := hide hfold
          clear hfold
          go_wp2
          refine bodyPost_ret (ret_cell2 rfl rfl (load_G2 wr (n + 1 + 1) _ _ _ _ s0 s1)) rfl ?_
          have hbz := unhide hbz'
          have hoV := own_keep (unhide hoJ') (unhide hkeep') (fun g hg e => by
            have h1 : g = b7 := by simpa using hg
            subst h1
            have := (own_base (unhide hoJ') e).1
            omega)
          obtain ⟨q1, q2⟩ := fin_row hxr (b4 := n + 1 + 1) (by omega) hoV (by omega) (.slice As oV.length ks) (.slice A2 o.length k2)
          obtain ⟨q3, q4⟩ := fin_row hxr (b4 := n + 1 + 1) (by omega) (unhide hown') (by omega) (.slice As oV.length ks) (.slice A2 o.length k2)
          obtain ⟨A5, c5, he5, hs5⟩ := SlAt.of_own (enc := encV) (xs := oV) q2 (fun _ => rfl)
          obtain ⟨A6, c6, he6, hs6⟩ := SlAt.of_own (enc := encE) (xs := o) q4 (fun _ => rfl)
          simp only [Value.slice.injEq] at he5 he6
          obtain ⟨rfl, _, rfl⟩ := he5
          obtain ⟨rfl, _, rfl⟩ := he6
          rw [unhide hfoldV, unhide hfold']
          exact ⟨As, ks, A2, k2, rfl, hs5, hs6, q1⟩

end Go.Proofs.YtjehhilijeajnaaGreatDoor
/- THE REFERENCE's Do, one operation. Conditions: see the theorem. -/
namespace Go.Proofs.YtjehhilijeajnaaGreatDoor
open Go Go.RowKit

set_option maxRecDepth 100000 in
set_option maxHeartbeats 4000000 in
theorem do_6 (A B : Option Addr) (V : List (Int × Thing)) (E : List ((Int × Int) × Thing)) (cV cE : Nat) (u v lab wt : Int) (w : World) (hV : SlAt encV 3 w A V) (hE : SlAt encE 4 w B E) (hl : V.length ≤ 4096) (hle : E.length ≤ 4096) (h0 : wrongR 6 u v wt V E = 0) :
    Calls Tryz.prog 66 #[.agg #[.slice A V.length cV, .slice B E.length cE], .agg #[.int .i64 6, .int .i64 u, .int .i64 v, .int .u8 lab, .int .i64 wt]] w fun e w' => ∃ A' cV' B' cE', e = .returned (.tuple #[.agg #[.slice A' (V.flatMap (fV 6 u lab wt)).length cV', .slice B' (E.zipIdx.flatMap (fE 6 u lab wt (posD 6 u v E))).length cE'], .int .i64 0]) ∧
      SlAt encV 3 w' A' (V.flatMap (fV 6 u lab wt)) ∧ SlAt encE 4 w' B' (E.zipIdx.flatMap (fE 6 u lab wt (posD 6 u v E))) ∧ Ext w w' := by
  generalize hpos : posD 6 u v E = pos
  have hpos' := hide hpos
  clear hpos
  have hV' := hide hV
  have hE' := hide hE
  have h0' := hide h0
  clear hV hE h0
  obtain ⟨hb2, hb3, hb4⟩ := blk3 w #[.slice A V.length cV, .slice B E.length cE] #[.int .i64 6, .int .i64 u, .int .i64 v, .int .u8 lab, .int .i64 wt] #[.slice none 0 0, .slice none 0 0] 28 132 28
  have d0 := hb2.cells 0 (v := .slice A V.length cV) rfl
  have d1 := hb2.cells 1 (v := .slice B E.length cE) rfl
  have hq3 := EditAt.of' hb3
  obtain ⟨e0, e1, e2, e3, e4⟩ := hq3
  have hb2' := hide hb2
  have hb3' := hide hb3
  have hb4' := hide hb4
  clear hb2 hb3 hb4
  go_enter Tryz.func66, Tryz.ntmps66
  go_wp2_with (go_at_call 109; refine (wrongR_6 A B V E cV cE u v lab wt _ ((unhide hV').ext (ext_self3 _ _ _ _)) ((unhide hE').ext (ext_self3 _ _ _ _)) hl hle).mono ?_; rw [unhide h0']; rintro e w2 ⟨rfl, hx2⟩; have hx2' := hide hx2)
  refine wp_abs (fun W => Ext w W ∧ w.heap.size + 1 + 1 < w2.heap.size ∧ W.heap.size = w2.heap.size + 1 ∧ Blk W w.heap.size 28 #[.slice A V.length cV, .slice B E.length cE] ∧ Blk W (w.heap.size + 1) 132 #[.int .i64 6, .int .i64 u, .int .i64 v, .int .u8 lab, .int .i64 wt] ∧
    Blk W (w.heap.size + 1 + 1) 28 #[.slice none 0 0, .slice none 0 0] ∧ Blk W w2.heap.size 28 #[.slice none 0 0, .slice none 0 0]) ?_ ?_
  · have hq : Ext w2 (w2.alloc (.cells #[.slice none 0 0, .slice none 0 0] 28)) := ext_self1 _ _
    have hq2 := (unhide hx2').trans hq
    exact ⟨(ext_self3 _ _ _ _).trans hq2, by have := (unhide hx2').size; simp at this; omega, by simp, (unhide hb2').ext hq2, (unhide hb3').ext hq2, (unhide hb4').ext hq2, Blk.new _ _ _⟩
  clear d0 d1 e0 e1 e2 e3 e4 hx2 hx2' hb2' hb3' hb4'
  rintro wI ⟨hxI, hn2, hsI, hb2, hb3, hb4, hb7⟩
  generalize hn : w.heap.size = n at *
  generalize hm : w2.heap.size = b7 at *
  go_loopw [8] (fun i wr => ∃ (k : Nat) (o : List (Int × Thing)) (vs : Value), k ≤ V.length ∧ i = .int .i64 k ∧ (V.take k).flatMap (fV 6 u lab wt) = o ∧
    Keep [b7] wI wr ∧ Blk wr b7 28 #[vs, .slice none 0 0] ∧ wr.ownsRow wI.heap.size 91 3 vs o.length (o.flatMap encV)) (fun i _ => V.length - (intOf i).toNat)
  case atStart => exact ⟨0, [], _, Nat.zero_le _, rfl, rfl, Keep.refl _ _, hb7, World.ownsRow_nil _ _ _ _⟩
  case round =>
    obtain ⟨k, o, vs, hk, rfl, hfold, hkeep, hbk, hown⟩ := hrel
    have hkeep' := hide hkeep
    have hbk' := hide hbk
    have hown' := hide hown
    have hol' := hide (show o.length ≤ 5000 by rw [← hfold]; have := flat_le (fV_len 6 u lab wt) (V.take k); rw [List.length_take] at this; omega)
    have hsz' := hide (show wI.heap.size ≤ wr.heap.size from hkeep.size)
    have hnI' := hide (show b7 < wI.heap.size by omega)
    have hxr : Ext w wr := hxI.of_new hkeep (by simp <;> omega)
    have hq2 := hb2.keep hkeep (by simp <;> omega)
    have hq3 := hb3.keep hkeep (by simp <;> omega)
    have hq4' := hide (hb4.keep hkeep (by simp <;> omega))
    have d0 := hq2.cells 0 (v := .slice A V.length cV) rfl
    have d1 := hq2.cells 1 (v := .slice B E.length cE) rfl
    have hq2' := hide hq2
    have hq3' := hide hq3
    obtain ⟨e0, e1, e2, e3, e4⟩ := EditAt.of' hq3
    have r0 := hbk.cells 0 (v := vs) rfl
    have hhI := hide hxI
    have hsI' := hide hsI
    clear hkeep hbk hown hb2 hb3 hb4 hb7 hq2 hq3 hxI hsI
    by_cases hlt : k < V.length
    · obtain ⟨b, off, rfl, c1, c2, c3⟩ := atV ((unhide hV').ext hxr) hlt
      have st := flat_take hlt hfold
      generalize hy : V[k] = y at c1 c2 c3 st
      obtain ⟨a, ⟨l, t⟩⟩ := y
      clear hy hfold
      have st' := hide st
      clear st
      simp only at c1 c2 c3
      by_cases hc : a = u
      · subst hc
        go_wp2_with (at_builtin; refine wp_rV (wr.alloc (.cells #[.int .i64 a, .int .u8 l, .int .i64 t] 91)) rfl _ _ rfl wI.heap.size vs o.length o (a, (l, t)) rfl (wr.heap.size + 1) _ (by rfl) (by simp) (by rfl) (by rfl) (own_ext (unhide hown') (ext_self1 _ _)) (Nat.le_trans (unhide hol') (by omega)) (Nat.le_trans (unhide hsz') (Below.size (ext_self1 _ _))) ?_; intro A1 k1 w4 ho4 hg4; obtain ⟨W5, hW5, f1, f2, hk5, hb5, ho5, _, _⟩ := fld_step (i := 0) (unhide hkeep') (unhide hnI') (unhide hbk') (unhide hown') (ext_self2 wr _ _) ho4 hg4 (by simp); have hk5' := hide hk5; have hb5' := hide hb5; have ho5' := hide ho5; clear hk5 hb5 ho5 ho4 hg4)
        go_roundw
        case rel => exact ⟨k + 1, o ++ [(a, (l, t))], .slice A1 (o.length + 1) k1, by omega, by go_num, by rw [unhide st']; simp [fV], unhide hk5', unhide hb5', by have := unhide ho5'; simpa using this⟩
        case measure => simp [intOf]; omega

      · have hc' := hide hc
        go_wp2_with (at_builtin; refine wp_rV (wr.alloc (.cells #[.int .i64 a, .int .u8 l, .int .i64 t] 91)) rfl _ _ rfl wI.heap.size vs o.length o (a, (l, t)) rfl (wr.heap.size + 1) _ (by rfl) (by simp) (by rfl) (by rfl) (own_ext (unhide hown') (ext_self1 _ _)) (Nat.le_trans (unhide hol') (by omega)) (Nat.le_trans (unhide hsz') (Below.size (ext_self1 _ _))) ?_; intro A1 k1 w4 ho4 hg4; obtain ⟨W5, hW5, f1, f2, hk5, hb5, ho5, _, _⟩ := fld_step (i := 0) (unhide hkeep') (unhide hnI') (unhide hbk') (unhide hown') (ext_self2 wr _ _) ho4 hg4 (by simp); have hk5' := hide hk5; have hb5' := hide hb5; have ho5' := hide ho5; clear hk5 hb5 ho5 ho4 hg4)
        go_roundw
        case rel => exact ⟨k + 1, o ++ [(a, (l, t))], .slice A1 (o.length + 1) k1, by omega, by go_num, by rw [unhide st']; simp [fV, unhide hc'], unhide hk5', unhide hb5', by have := unhide ho5'; simpa using this⟩
        case measure => simp [intOf]; omega

    · have hkE : k = V.length := by omega
      rw [hkE, List.take_length] at hfold
      have hfoldV := hide hfold
      clear hfold
      obtain ⟨As, ks, rfl⟩ := own_slice (unhide hown')
      rename List (Int × Thing) => oV
      rename World => wV
      go_wp2_with (first
        | (go_at_call 112; refine (pair_any _ _ _ _ _ _).mono ?_; rw [show pairsB 6 = true by decide]; rintro e w5 ⟨rfl, hx5⟩; have hx5' := hide hx5)
        | (go_at_call 53; refine (redge_any A B E V.length cV cE u v _ ((unhide hE').ext (hxr.trans hx5)) hle).mono ?_; rintro e w6 ⟨rfl, hx6⟩; have hx6' := hide hx6))
      have hxJ : Ext wV w6 := (unhide hx5').trans (unhide hx6')
      have hpp : posI (isE u v) E = pos := by have := unhide hpos'; simpa [posD, pairsB] using this
      rw [hpp]
      clear hpp hx5 hx6 hx5' hx6'
      have hxwJ' := hide (hxr.trans hxJ)
      have hbJ' := hide ((unhide hbk').ext hxJ)
      have hoJ' := hide (own_ext (unhide hown') hxJ)
      have hq2J' := hide ((unhide hq2').ext hxJ)
      have hq3J' := hide ((unhide hq3').ext hxJ)
      have hq4J' := hide ((unhide hq4').ext hxJ)
      have hbz' := hide (show wI.heap.size ≤ w6.heap.size by have := unhide hsz'; have := hxJ.size; omega)
      have hnJ' := hide (show b7 < w6.heap.size by have := unhide hbz'; have := unhide hnI'; omega)
      have hwIs := unhide hsI'
      clear d0 d1 e0 e1 e2 e3 e4 r0 hxr hxJ hkeep' hbk' hown' hq2' hq3' hq4' hol' hsz'
      go_loopw [11] (fun i wr => ∃ (k : Nat) (o : List ((Int × Int) × Thing)) (vs : Value), k ≤ E.length ∧ i = .int .i64 k ∧ (E.zipIdx.take k).flatMap (fE 6 u lab wt pos) = o ∧
        Keep [b7] w6 wr ∧ Blk wr b7 28 #[.slice As oV.length ks, vs] ∧ wr.ownsRow w6.heap.size 72 4 vs o.length (o.flatMap encE)) (fun i _ => E.length - (intOf i).toNat)
      case atStart => exact ⟨0, [], _, Nat.zero_le _, rfl, rfl, Keep.refl _ _, unhide hbJ', World.ownsRow_nil _ _ _ _⟩
      case round =>
        obtain ⟨k, o, vs, hk, rfl, hfold, hkeep, hbk, hown⟩ := hrel
        have hkeep' := hide hkeep
        have hbk' := hide hbk
        have hown' := hide hown
        have hol' := hide (show o.length ≤ 5000 by rw [← hfold]; have := flat_le (fE_len 6 u lab wt pos) (E.zipIdx.take k); rw [List.length_take, List.length_zipIdx] at this; omega)
        have hsz' := hide (show w6.heap.size ≤ wr.heap.size from hkeep.size)
        have hxr : Ext w wr := (unhide hxwJ').of_new hkeep (by simp <;> omega)
        have hq2 := (unhide hq2J').keep hkeep (by simp <;> omega)
        have hq3 := (unhide hq3J').keep hkeep (by simp <;> omega)
        have hq4' := hide ((unhide hq4J').keep hkeep (by simp <;> omega))
        have d1 := hq2.cells 1 (v := .slice B E.length cE) rfl
        obtain ⟨e0, e1, e2, e3, e4⟩ := EditAt.of' hq3
        have r0 := hbk.cells 0 (v := .slice As oV.length ks) rfl
        have r1 := hbk.cells 1 (v := vs) rfl
        clear hkeep hbk hown hq2 hq3
        by_cases hlt : k < E.length
        · obtain ⟨b, off, rfl, c1, c2, c3, c4⟩ := atE ((unhide hE').ext hxr) hlt
          have st := flat_take (l := E.zipIdx) (by simpa using hlt) hfold
          rw [List.getElem_zipIdx, Nat.zero_add] at st
          generalize hy : E[k] = y at c1 c2 c3 c4 st
          obtain ⟨⟨a, b0⟩, ⟨l, t⟩⟩ := y
          clear hy hfold
          have st' := hide st
          clear st
          simp only at c1 c2 c3 c4
          by_cases hp : (k : Int) = pos
          · subst hp
            go_wp2_with (at_builtin; refine wp_rE (wr.alloc (.cells #[.int .i64 a, .int .i64 b0, .int .u8 lab, .int .i64 t] 72)) rfl _ _ rfl w6.heap.size vs o.length o ((a, b0), (lab, t)) rfl (wr.heap.size + 1) _ (by rfl) (by simp) (by rfl) (by rfl) (own_ext (unhide hown') (ext_self1 _ _)) (Nat.le_trans (unhide hol') (by omega)) (Nat.le_trans (unhide hsz') (Below.size (ext_self1 _ _))) ?_; intro A1 k1 w4 ho4 hg4; obtain ⟨W5, hW5, f1, f2, hk5, hb5, ho5, _, _⟩ := fld_step (i := 1) (unhide hkeep') (unhide hnJ') (unhide hbk') (unhide hown') (ext_self2 wr _ _) ho4 hg4 (by simp); have hk5' := hide hk5; have hb5' := hide hb5; have ho5' := hide ho5; clear hk5 hb5 ho5 ho4 hg4)
            go_roundw
            case rel => exact ⟨k + 1, o ++ [((a, b0), (lab, t))], .slice A1 (o.length + 1) k1, by omega, by go_num, by rw [unhide st']; simp [fE], unhide hk5', unhide hb5', by have := unhide ho5'; simpa using this⟩
            case measure => simp [intOf]; omega

          · have hc' := hide hp
            go_wp2_with (at_builtin; refine wp_rE (wr.alloc (.cells #[.int .i64 a, .int .i64 b0, .int .u8 l, .int .i64 t] 72)) rfl _ _ rfl w6.heap.size vs o.length o ((a, b0), (l, t)) rfl (wr.heap.size + 1) _ (by rfl) (by simp) (by rfl) (by rfl) (own_ext (unhide hown') (ext_self1 _ _)) (Nat.le_trans (unhide hol') (by omega)) (Nat.le_trans (unhide hsz') (Below.size (ext_self1 _ _))) ?_; intro A1 k1 w4 ho4 hg4; obtain ⟨W5, hW5, f1, f2, hk5, hb5, ho5, _, _⟩ := fld_step (i := 1) (unhide hkeep') (unhide hnJ') (unhide hbk') (unhide hown') (ext_self2 wr _ _) ho4 hg4 (by simp); have hk5' := hide hk5; have hb5' := hide hb5; have ho5' := hide ho5; clear hk5 hb5 ho5 ho4 hg4)
            go_roundw
            case rel => exact ⟨k + 1, o ++ [((a, b0), (l, t))], .slice A1 (o.length + 1) k1, by omega, by go_num, by rw [unhide st']; simp [fE, unhide hc'], unhide hk5', unhide hb5', by have := unhide ho5'; simpa using this⟩
            case measure => simp [intOf]; omega

        · have hkE : k = E.length := by omega
          rw [hkE, List.take_of_length_le (by simp)] at hfold
          obtain ⟨A2, k2, rfl⟩ := own_slice (unhide hown')
          have s0 := (unhide hq4').cell 0
          have s1 := (unhide hq4').cell 1
          have s2 := (unhide hq4').frozen 0
          have s3 := (unhide hq4').frozen 1
          simp at s0 s1
          have hfold' := hide hfold
          clear hfold
          go_wp2
          refine bodyPost_ret (ret_cell2 rfl rfl (load_G2 wr (n + 1 + 1) _ _ _ _ s0 s1)) rfl ?_
          have hbz := unhide hbz'
          have hoV := own_keep (unhide hoJ') (unhide hkeep') (fun g hg e => by
            have h1 : g = b7 := by simpa using hg
            subst h1
            have := (own_base (unhide hoJ') e).1
            omega)
          obtain ⟨q1, q2⟩ := fin_row hxr (b4 := n + 1 + 1) (by omega) hoV (by omega) (.slice As oV.length ks) (.slice A2 o.length k2)
          obtain ⟨q3, q4⟩ := fin_row hxr (b4 := n + 1 + 1) (by omega) (unhide hown') (by omega) (.slice As oV.length ks) (.slice A2 o.length k2)
          obtain ⟨A5, c5, he5, hs5⟩ := SlAt.of_own (enc := encV) (xs := oV) q2 (fun _ => rfl)
          obtain ⟨A6, c6, he6, hs6⟩ := SlAt.of_own (enc := encE) (xs := o) q4 (fun _ => rfl)
          simp only [Value.slice.injEq] at he5 he6
          obtain ⟨rfl, _, rfl⟩ := he5
          obtain ⟨rfl, _, rfl⟩ := he6
          rw [unhide hfoldV, unhide hfold']
          exact ⟨As, ks, A2, k2, rfl, hs5, hs6, q1⟩

end Go.Proofs.YtjehhilijeajnaaGreatDoor
/- THE REFERENCE's Do, one operation. Conditions: see the theorem. -/
namespace Go.Proofs.YtjehhilijeajnaaGreatDoor
open Go Go.RowKit

set_option maxRecDepth 100000 in
set_option maxHeartbeats 4000000 in
theorem do_7 (A B : Option Addr) (V : List (Int × Thing)) (E : List ((Int × Int) × Thing)) (cV cE : Nat) (u v lab wt : Int) (w : World) (hV : SlAt encV 3 w A V) (hE : SlAt encE 4 w B E) (hl : V.length ≤ 4096) (hle : E.length ≤ 4096) (h0 : wrongR 7 u v wt V E = 0) :
    Calls Tryz.prog 66 #[.agg #[.slice A V.length cV, .slice B E.length cE], .agg #[.int .i64 7, .int .i64 u, .int .i64 v, .int .u8 lab, .int .i64 wt]] w fun e w' => ∃ A' cV' B' cE', e = .returned (.tuple #[.agg #[.slice A' (V.flatMap (fV 7 u lab wt)).length cV', .slice B' (E.zipIdx.flatMap (fE 7 u lab wt (posD 7 u v E))).length cE'], .int .i64 0]) ∧
      SlAt encV 3 w' A' (V.flatMap (fV 7 u lab wt)) ∧ SlAt encE 4 w' B' (E.zipIdx.flatMap (fE 7 u lab wt (posD 7 u v E))) ∧ Ext w w' := by
  generalize hpos : posD 7 u v E = pos
  have hpos' := hide hpos
  clear hpos
  have hV' := hide hV
  have hE' := hide hE
  have h0' := hide h0
  clear hV hE h0
  obtain ⟨hb2, hb3, hb4⟩ := blk3 w #[.slice A V.length cV, .slice B E.length cE] #[.int .i64 7, .int .i64 u, .int .i64 v, .int .u8 lab, .int .i64 wt] #[.slice none 0 0, .slice none 0 0] 28 132 28
  have d0 := hb2.cells 0 (v := .slice A V.length cV) rfl
  have d1 := hb2.cells 1 (v := .slice B E.length cE) rfl
  have hq3 := EditAt.of' hb3
  obtain ⟨e0, e1, e2, e3, e4⟩ := hq3
  have hb2' := hide hb2
  have hb3' := hide hb3
  have hb4' := hide hb4
  clear hb2 hb3 hb4
  go_enter Tryz.func66, Tryz.ntmps66
  go_wp2_with (go_at_call 109; refine (wrongR_7 A B V E cV cE u v lab wt _ ((unhide hV').ext (ext_self3 _ _ _ _)) ((unhide hE').ext (ext_self3 _ _ _ _)) hl hle).mono ?_; rw [unhide h0']; rintro e w2 ⟨rfl, hx2⟩; have hx2' := hide hx2)
  refine wp_abs (fun W => Ext w W ∧ w.heap.size + 1 + 1 < w2.heap.size ∧ W.heap.size = w2.heap.size + 1 ∧ Blk W w.heap.size 28 #[.slice A V.length cV, .slice B E.length cE] ∧ Blk W (w.heap.size + 1) 132 #[.int .i64 7, .int .i64 u, .int .i64 v, .int .u8 lab, .int .i64 wt] ∧
    Blk W (w.heap.size + 1 + 1) 28 #[.slice none 0 0, .slice none 0 0] ∧ Blk W w2.heap.size 28 #[.slice none 0 0, .slice none 0 0]) ?_ ?_
  · have hq : Ext w2 (w2.alloc (.cells #[.slice none 0 0, .slice none 0 0] 28)) := ext_self1 _ _
    have hq2 := (unhide hx2').trans hq
    exact ⟨(ext_self3 _ _ _ _).trans hq2, by have := (unhide hx2').size; simp at this; omega, by simp, (unhide hb2').ext hq2, (unhide hb3').ext hq2, (unhide hb4').ext hq2, Blk.new _ _ _⟩
  clear d0 d1 e0 e1 e2 e3 e4 hx2 hx2' hb2' hb3' hb4'
  rintro wI ⟨hxI, hn2, hsI, hb2, hb3, hb4, hb7⟩
  generalize hn : w.heap.size = n at *
  generalize hm : w2.heap.size = b7 at *
  go_loopw [8] (fun i wr => ∃ (k : Nat) (o : List (Int × Thing)) (vs : Value), k ≤ V.length ∧ i = .int .i64 k ∧ (V.take k).flatMap (fV 7 u lab wt) = o ∧
    Keep [b7] wI wr ∧ Blk wr b7 28 #[vs, .slice none 0 0] ∧ wr.ownsRow wI.heap.size 91 3 vs o.length (o.flatMap encV)) (fun i _ => V.length - (intOf i).toNat)
  case atStart => exact ⟨0, [], _, Nat.zero_le _, rfl, rfl, Keep.refl _ _, hb7, World.ownsRow_nil _ _ _ _⟩
  case round =>
    obtain ⟨k, o, vs, hk, rfl, hfold, hkeep, hbk, hown⟩ := hrel
    have hkeep' := hide hkeep
    have hbk' := hide hbk
    have hown' := hide hown
    have hol' := hide (show o.length ≤ 5000 by rw [← hfold]; have := flat_le (fV_len 7 u lab wt) (V.take k); rw [List.length_take] at this; omega)
    have hsz' := hide (show wI.heap.size ≤ wr.heap.size from hkeep.size)
    have hnI' := hide (show b7 < wI.heap.size by omega)
    have hxr : Ext w wr := hxI.of_new hkeep (by simp <;> omega)
    have hq2 := hb2.keep hkeep (by simp <;> omega)
    have hq3 := hb3.keep hkeep (by simp <;> omega)
    have hq4' := hide (hb4.keep hkeep (by simp <;> omega))
    have d0 := hq2.cells 0 (v := .slice A V.length cV) rfl
    have d1 := hq2.cells 1 (v := .slice B E.length cE) rfl
    have hq2' := hide hq2
    have hq3' := hide hq3
    obtain ⟨e0, e1, e2, e3, e4⟩ := EditAt.of' hq3
    have r0 := hbk.cells 0 (v := vs) rfl
    have hhI := hide hxI
    have hsI' := hide hsI
    clear hkeep hbk hown hb2 hb3 hb4 hb7 hq2 hq3 hxI hsI
    by_cases hlt : k < V.length
    · obtain ⟨b, off, rfl, c1, c2, c3⟩ := atV ((unhide hV').ext hxr) hlt
      have st := flat_take hlt hfold
      generalize hy : V[k] = y at c1 c2 c3 st
      obtain ⟨a, ⟨l, t⟩⟩ := y
      clear hy hfold
      have st' := hide st
      clear st
      simp only at c1 c2 c3
      by_cases hc : a = u
      · subst hc
        go_wp2_with (at_builtin; refine wp_rV (wr.alloc (.cells #[.int .i64 a, .int .u8 l, .int .i64 t] 91)) rfl _ _ rfl wI.heap.size vs o.length o (a, (l, t)) rfl (wr.heap.size + 1) _ (by rfl) (by simp) (by rfl) (by rfl) (own_ext (unhide hown') (ext_self1 _ _)) (Nat.le_trans (unhide hol') (by omega)) (Nat.le_trans (unhide hsz') (Below.size (ext_self1 _ _))) ?_; intro A1 k1 w4 ho4 hg4; obtain ⟨W5, hW5, f1, f2, hk5, hb5, ho5, _, _⟩ := fld_step (i := 0) (unhide hkeep') (unhide hnI') (unhide hbk') (unhide hown') (ext_self2 wr _ _) ho4 hg4 (by simp); have hk5' := hide hk5; have hb5' := hide hb5; have ho5' := hide ho5; clear hk5 hb5 ho5 ho4 hg4)
        go_roundw
        case rel => exact ⟨k + 1, o ++ [(a, (l, t))], .slice A1 (o.length + 1) k1, by omega, by go_num, by rw [unhide st']; simp [fV], unhide hk5', unhide hb5', by have := unhide ho5'; simpa using this⟩
        case measure => simp [intOf]; omega

      · have hc' := hide hc
        go_wp2_with (at_builtin; refine wp_rV (wr.alloc (.cells #[.int .i64 a, .int .u8 l, .int .i64 t] 91)) rfl _ _ rfl wI.heap.size vs o.length o (a, (l, t)) rfl (wr.heap.size + 1) _ (by rfl) (by simp) (by rfl) (by rfl) (own_ext (unhide hown') (ext_self1 _ _)) (Nat.le_trans (unhide hol') (by omega)) (Nat.le_trans (unhide hsz') (Below.size (ext_self1 _ _))) ?_; intro A1 k1 w4 ho4 hg4; obtain ⟨W5, hW5, f1, f2, hk5, hb5, ho5, _, _⟩ := fld_step (i := 0) (unhide hkeep') (unhide hnI') (unhide hbk') (unhide hown') (ext_self2 wr _ _) ho4 hg4 (by simp); have hk5' := hide hk5; have hb5' := hide hb5; have ho5' := hide ho5; clear hk5 hb5 ho5 ho4 hg4)
        go_roundw
        case rel => exact ⟨k + 1, o ++ [(a, (l, t))], .slice A1 (o.length + 1) k1, by omega, by go_num, by rw [unhide st']; simp [fV, unhide hc'], unhide hk5', unhide hb5', by have := unhide ho5'; simpa using this⟩
        case measure => simp [intOf]; omega

    · have hkE : k = V.length := by omega
      rw [hkE, List.take_length] at hfold
      have hfoldV := hide hfold
      clear hfold
      obtain ⟨As, ks, rfl⟩ := own_slice (unhide hown')
      rename List (Int × Thing) => oV
      rename World => wV
      go_wp2_with (first
        | (go_at_call 112; refine (pair_any _ _ _ _ _ _).mono ?_; rw [show pairsB 7 = true by decide]; rintro e w5 ⟨rfl, hx5⟩; have hx5' := hide hx5)
        | (go_at_call 53; refine (redge_any A B E V.length cV cE u v _ ((unhide hE').ext (hxr.trans hx5)) hle).mono ?_; rintro e w6 ⟨rfl, hx6⟩; have hx6' := hide hx6))
      have hxJ : Ext wV w6 := (unhide hx5').trans (unhide hx6')
      have hpp : posI (isE u v) E = pos := by have := unhide hpos'; simpa [posD, pairsB] using this
      rw [hpp]
      clear hpp hx5 hx6 hx5' hx6'
      have hxwJ' := hide (hxr.trans hxJ)
      have hbJ' := hide ((unhide hbk').ext hxJ)
      have hoJ' := hide (own_ext (unhide hown') hxJ)
      have hq2J' := hide ((unhide hq2').ext hxJ)
      have hq3J' := hide ((unhide hq3').ext hxJ)
      have hq4J' := hide ((unhide hq4').ext hxJ)
      have hbz' := hide (show wI.heap.size ≤ w6.heap.size by have := unhide hsz'; have := hxJ.size; omega)
      have hnJ' := hide (show b7 < w6.heap.size by have := unhide hbz'; have := unhide hnI'; omega)
      have hwIs := unhide hsI'
      clear d0 d1 e0 e1 e2 e3 e4 r0 hxr hxJ hkeep' hbk' hown' hq2' hq3' hq4' hol' hsz'
      go_loopw [11] (fun i wr => ∃ (k : Nat) (o : List ((Int × Int) × Thing)) (vs : Value), k ≤ E.length ∧ i = .int .i64 k ∧ (E.zipIdx.take k).flatMap (fE 7 u lab wt pos) = o ∧
        Keep [b7] w6 wr ∧ Blk wr b7 28 #[.slice As oV.length ks, vs] ∧ wr.ownsRow w6.heap.size 72 4 vs o.length (o.flatMap encE)) (fun i _ => E.length - (intOf i).toNat)
      case atStart => exact ⟨0, [], _, Nat.zero_le _, rfl, rfl, Keep.refl _ _, unhide hbJ', World.ownsRow_nil _ _ _ _⟩
      case round =>
        obtain ⟨k, o, vs, hk, rfl, hfold, hkeep, hbk, hown⟩ := hrel
        have hkeep' := hide hkeep
        have hbk' := hide hbk
        have hown' := hide hown
        have hol' := hide (show o.length ≤ 5000 by rw [← hfold]; have := flat_le (fE_len 7 u lab wt pos) (E.zipIdx.take k); rw [List.length_take, List.length_zipIdx] at this; omega)
        have hsz' := hide (show w6.heap.size ≤ wr.heap.size from hkeep.size)
        have hxr : Ext w wr := (unhide hxwJ').of_new hkeep (by simp <;> omega)
        have hq2 := (unhide hq2J').keep hkeep (by simp <;> omega)
        have hq3 := (unhide hq3J').keep hkeep (by simp <;> omega)
        have hq4' := hide ((unhide hq4J').keep hkeep (by simp <;> omega))
        have d1 := hq2.cells 1 (v := .slice B E.length cE) rfl
        obtain ⟨e0, e1, e2, e3, e4⟩ := EditAt.of' hq3
        have r0 := hbk.cells 0 (v := .slice As oV.length ks) rfl
        have r1 := hbk.cells 1 (v := vs) rfl
        clear hkeep hbk hown hq2 hq3
        by_cases hlt : k < E.length
        · obtain ⟨b, off, rfl, c1, c2, c3, c4⟩ := atE ((unhide hE').ext hxr) hlt
          have st := flat_take (l := E.zipIdx) (by simpa using hlt) hfold
          rw [List.getElem_zipIdx, Nat.zero_add] at st
          generalize hy : E[k] = y at c1 c2 c3 c4 st
          obtain ⟨⟨a, b0⟩, ⟨l, t⟩⟩ := y
          clear hy hfold
          have st' := hide st
          clear st
          simp only at c1 c2 c3 c4
          by_cases hp : (k : Int) = pos
          · subst hp
            go_wp2_with (at_builtin; refine wp_rE (wr.alloc (.cells #[.int .i64 a, .int .i64 b0, .int .u8 l, .int .i64 wt] 72)) rfl _ _ rfl w6.heap.size vs o.length o ((a, b0), (l, wt)) rfl (wr.heap.size + 1) _ (by rfl) (by simp) (by rfl) (by rfl) (own_ext (unhide hown') (ext_self1 _ _)) (Nat.le_trans (unhide hol') (by omega)) (Nat.le_trans (unhide hsz') (Below.size (ext_self1 _ _))) ?_; intro A1 k1 w4 ho4 hg4; obtain ⟨W5, hW5, f1, f2, hk5, hb5, ho5, _, _⟩ := fld_step (i := 1) (unhide hkeep') (unhide hnJ') (unhide hbk') (unhide hown') (ext_self2 wr _ _) ho4 hg4 (by simp); have hk5' := hide hk5; have hb5' := hide hb5; have ho5' := hide ho5; clear hk5 hb5 ho5 ho4 hg4)
            go_roundw
            case rel => exact ⟨k + 1, o ++ [((a, b0), (l, wt))], .slice A1 (o.length + 1) k1, by omega, by go_num, by rw [unhide st']; simp [fE], unhide hk5', unhide hb5', by have := unhide ho5'; simpa using this⟩
            case measure => simp [intOf]; omega

          · have hc' := hide hp
            go_wp2_with (at_builtin; refine wp_rE (wr.alloc (.cells #[.int .i64 a, .int .i64 b0, .int .u8 l, .int .i64 t] 72)) rfl _ _ rfl w6.heap.size vs o.length o ((a, b0), (l, t)) rfl (wr.heap.size + 1) _ (by rfl) (by simp) (by rfl) (by rfl) (own_ext (unhide hown') (ext_self1 _ _)) (Nat.le_trans (unhide hol') (by omega)) (Nat.le_trans (unhide hsz') (Below.size (ext_self1 _ _))) ?_; intro A1 k1 w4 ho4 hg4; obtain ⟨W5, hW5, f1, f2, hk5, hb5, ho5, _, _⟩ := fld_step (i := 1) (unhide hkeep') (unhide hnJ') (unhide hbk') (unhide hown') (ext_self2 wr _ _) ho4 hg4 (by simp); have hk5' := hide hk5; have hb5' := hide hb5; have ho5' := hide ho5; clear hk5 hb5 ho5 ho4 hg4)
            go_roundw
            case rel => exact ⟨k + 1, o ++ [((a, b0), (l, t))], .slice A1 (o.length + 1) k1, by omega, by go_num, by rw [unhide st']; simp [fE, unhide hc'], unhide hk5', unhide hb5', by have := unhide ho5'; simpa using this⟩
            case measure => simp [intOf]; omega

        · have hkE : k = E.length := by omega
          rw [hkE, List.take_of_length_le (by simp)] at hfold
          obtain ⟨A2, k2, rfl⟩ := own_slice (unhide hown')
          have s0 := (unhide hq4').cell 0
          have s1 := (unhide hq4').cell 1
          have s2 := (unhide hq4').frozen 0
          have s3 := (unhide hq4').frozen 1
          simp at s0 s1
          have hfold' := hide hfold
          clear hfold
          go_wp2
          refine bodyPost_ret (ret_cell2 rfl rfl (load_G2 wr (n + 1 + 1) _ _ _ _ s0 s1)) rfl ?_
          have hbz := unhide hbz'
          have hoV := own_keep (unhide hoJ') (unhide hkeep') (fun g hg e => by
            have h1 : g = b7 := by simpa using hg
            subst h1
            have := (own_base (unhide hoJ') e).1
            omega)
          obtain ⟨q1, q2⟩ := fin_row hxr (b4 := n + 1 + 1) (by omega) hoV (by omega) (.slice As oV.length ks) (.slice A2 o.length k2)
          obtain ⟨q3, q4⟩ := fin_row hxr (b4 := n + 1 + 1) (by omega) (unhide hown') (by omega) (.slice As oV.length ks) (.slice A2 o.length k2)
          obtain ⟨A5, c5, he5, hs5⟩ := SlAt.of_own (enc := encV) (xs := oV) q2 (fun _ => rfl)
          obtain ⟨A6, c6, he6, hs6⟩ := SlAt.of_own (enc := encE) (xs := o) q4 (fun _ => rfl)
          simp only [Value.slice.injEq] at he5 he6
          obtain ⟨rfl, _, rfl⟩ := he5
          obtain ⟨rfl, _, rfl⟩ := he6
          rw [unhide hfoldV, unhide hfold']
          exact ⟨As, ks, A2, k2, rfl, hs5, hs6, q1⟩

end Go.Proofs.YtjehhilijeajnaaGreatDoor
/- THE REFERENCE's Do, one operation. Conditions: see the theorem. -/
namespace Go.Proofs.YtjehhilijeajnaaGreatDoor
open Go Go.RowKit

theorem SlAt.off {α : Type} {enc : α → List Value} {k : Nat} {w w' : World} {A : Option Addr} {xs : List α} {b4 : Nat} {T : TypeId} {cs : Array Value} (h : SlAt enc k w A xs) (hb : Blk w b4 T cs) (hcs : ∀ (i : Nat) (u : Value), cs[i]? = some u → ∀ x : α, (enc x)[0]? ≠ some u) (hen : ∀ x : α, ∃ u : Value, (enc x)[0]? = some u)
    (hs : w.heap.size ≤ w'.heap.size) (ho : ∀ j, j ≠ b4 → j < w.heap.size → w'.heap[j]? = w.heap[j]?) : SlAt enc k w' A xs := fun hne => by
  obtain ⟨b, off, hA, hlt, hc⟩ := h hne
  have hbb : b ≠ b4 := by
    rintro rfl
    obtain ⟨x, r, rfl⟩ := List.exists_cons_of_ne_nil hne
    obtain ⟨u, hu⟩ := hen x
    have h1 := hc 0 x rfl 0 u hu
    rw [hb.cell] at h1
    exact hcs _ _ h1 x hu
  refine ⟨b, off, hA, by omega, fun i x hx j u hu => ?_⟩
  rw [World.cell?_of_block (ho b hbb hlt)]
  exact hc i x hx j u hu

set_option maxRecDepth 100000 in
set_option maxHeartbeats 4000000 in
theorem do_0 (A B : Option Addr) (V : List (Int × Thing)) (E : List ((Int × Int) × Thing)) (cV cE : Nat) (u v lab wt : Int) (w : World) (hV : SlAt encV 3 w A V) (hE : SlAt encE 4 w B E) (hl : V.length ≤ 4096) (_hle : E.length ≤ 4096) (h0 : wrongR 0 u v wt V E = 0) :
    Calls Tryz.prog 66 #[.agg #[.slice A V.length cV, .slice B E.length cE], .agg #[.int .i64 0, .int .i64 u, .int .i64 v, .int .u8 lab, .int .i64 wt]] w fun e w' => ∃ A' cV', e = .returned (.tuple #[.agg #[.slice A' (insF (gtV (u, (lab, wt))) (u, (lab, wt)) V).length cV', .slice B E.length cE], .int .i64 0]) ∧ SlAt encV 3 w' A' (insF (gtV (u, (lab, wt))) (u, (lab, wt)) V) ∧ Ext w w' := by
  have hV' := hide hV
  have hE' := hide hE
  have h0' := hide h0
  clear hV hE h0
  obtain ⟨hb2, hb3, hb4⟩ := blk3 w #[.slice A V.length cV, .slice B E.length cE] #[.int .i64 0, .int .i64 u, .int .i64 v, .int .u8 lab, .int .i64 wt] #[.slice none 0 0, .slice none 0 0] 28 132 28
  have d0 := hb2.cells 0 (v := .slice A V.length cV) rfl
  have d1 := hb2.cells 1 (v := .slice B E.length cE) rfl
  have hq3 := EditAt.of' hb3
  obtain ⟨e0, e1, e2, e3, e4⟩ := hq3
  have hb4' := hide hb4
  clear hb2 hb3 hb4
  generalize hS : insF (gtV (u, (lab, wt))) (u, (lab, wt)) V = S
  have hS' := hide hS
  go_enter Tryz.func66, Tryz.ntmps66
  go_wp2_with (first
    | (go_at_call 109; refine (wrongR_0 A B V E cV cE u v lab wt _ ((unhide hV').ext (ext_self3 _ _ _ _)) ((unhide hE').ext (ext_self3 _ _ _ _)) hl).mono ?_; rw [unhide h0']; rintro e w2 ⟨rfl, hx2⟩; have hz : Ext (((w.alloc (.cells #[.slice A V.length cV, .slice B E.length cE] 28)).alloc (.cells #[.int .i64 0, .int .i64 u, .int .i64 v, .int .u8 lab, .int .i64 wt] 132)).alloc (.cells #[.slice none 0 0, .slice none 0 0] 28)) w2 := hx2)
    | (go_at_call 110; refine (plus_any A B V E cV cE u lab wt _ ((unhide hV').ext ((ext_self3 _ _ _ _).trans hx2)) hl).mono ?_; rw [unhide hS']; rintro e w5 ⟨A5, c5, rfl, hs5, hx5⟩; have hs5' := hide hs5; have hx5' := hide hx5; have hq := ((unhide hb4').ext hx2).ext hx5; have hq' := hide hq; have s0 := hq.cell 0; have s1 := hq.cell 1; have s2 := hq.frozen 0; have s3 := hq.frozen 1; simp at s0 s1; clear hq hs5 hx5))
  refine bodyPost_ret (ret_cell2 rfl rfl (load_G2 w5 (w.heap.size + 1 + 1) _ _ _ _ s0 s1)) rfl ?_
  have hxw := ((ext_self3 _ _ _ _).trans hx2).trans (unhide hx5')
  refine ⟨A5, c5, rfl, (unhide hs5').off (unhide hq') (by intro i u hi x; match i, hi with | 0, hi => simp at hi; subst hi; simp [encV] | 1, hi => simp at hi; subst hi; simp [encV]) (fun x => ⟨_, rfl⟩) ?_ ?_, ?_⟩
  · simp [World.setCell]
  · intro j hj _
    rw [Below.heap_setCell _ _ _ _ (by simpa using hj), Below.heap_setCell _ _ _ _ (by simpa using hj)]
  · exact Below.setCell (Below.setCell hxw (by simp; omega) _) (by simp; omega) _

set_option maxRecDepth 100000 in
set_option maxHeartbeats 4000000 in
theorem do_2 (A B : Option Addr) (V : List (Int × Thing)) (E : List ((Int × Int) × Thing)) (cV cE : Nat) (u v lab wt : Int) (w : World) (hV : SlAt encV 3 w A V) (hE : SlAt encE 4 w B E) (hl : V.length ≤ 4096) (hle : E.length ≤ 4096) (h0 : wrongR 2 u v wt V E = 0) :
    Calls Tryz.prog 66 #[.agg #[.slice A V.length cV, .slice B E.length cE], .agg #[.int .i64 2, .int .i64 u, .int .i64 v, .int .u8 lab, .int .i64 wt]] w fun e w' => ∃ B' cE', e = .returned (.tuple #[.agg #[.slice A V.length cV, .slice B' (insF (gtE ((min u v, max u v), (lab, wt))) ((min u v, max u v), (lab, wt)) E).length cE'], .int .i64 0]) ∧ SlAt encE 4 w' B' (insF (gtE ((min u v, max u v), (lab, wt))) ((min u v, max u v), (lab, wt)) E) ∧ Ext w w' := by
  have hV' := hide hV
  have hE' := hide hE
  have h0' := hide h0
  clear hV hE h0
  obtain ⟨hb2, hb3, hb4⟩ := blk3 w #[.slice A V.length cV, .slice B E.length cE] #[.int .i64 2, .int .i64 u, .int .i64 v, .int .u8 lab, .int .i64 wt] #[.slice none 0 0, .slice none 0 0] 28 132 28
  have d0 := hb2.cells 0 (v := .slice A V.length cV) rfl
  have d1 := hb2.cells 1 (v := .slice B E.length cE) rfl
  have hq3 := EditAt.of' hb3
  obtain ⟨e0, e1, e2, e3, e4⟩ := hq3
  have hb4' := hide hb4
  clear hb2 hb3 hb4
  generalize hS : insF (gtE ((min u v, max u v), (lab, wt))) ((min u v, max u v), (lab, wt)) E = S
  have hS' := hide hS
  go_enter Tryz.func66, Tryz.ntmps66
  go_wp2_with (first
    | (go_at_call 109; refine (wrongR_2 A B V E cV cE u v lab wt _ ((unhide hV').ext (ext_self3 _ _ _ _)) ((unhide hE').ext (ext_self3 _ _ _ _)) hl hle).mono ?_; rw [unhide h0']; rintro e w2 ⟨rfl, hx2⟩; have hz : Ext (((w.alloc (.cells #[.slice A V.length cV, .slice B E.length cE] 28)).alloc (.cells #[.int .i64 2, .int .i64 u, .int .i64 v, .int .u8 lab, .int .i64 wt] 132)).alloc (.cells #[.slice none 0 0, .slice none 0 0] 28)) w2 := hx2)
    | (go_at_call 111; refine (joined_any A B V E cV cE (min u v) (max u v) lab wt _ ((unhide hE').ext ((ext_self3 _ _ _ _).trans hx2)) hle).mono ?_; rw [unhide hS']; rintro e w5 ⟨A5, c5, rfl, hs5, hx5⟩; have hs5' := hide hs5; have hx5' := hide hx5; have hq := ((unhide hb4').ext hx2).ext hx5; have hq' := hide hq; have s0 := hq.cell 0; have s1 := hq.cell 1; have s2 := hq.frozen 0; have s3 := hq.frozen 1; simp at s0 s1; clear hq hs5 hx5))
  refine bodyPost_ret (ret_cell2 rfl rfl (load_G2 w5 (w.heap.size + 1 + 1) _ _ _ _ s0 s1)) rfl ?_
  have hxw := ((ext_self3 _ _ _ _).trans hx2).trans (unhide hx5')
  refine ⟨A5, c5, rfl, (unhide hs5').off (unhide hq') (by intro i u hi x; match i, hi with | 0, hi => simp at hi; subst hi; simp [encE] | 1, hi => simp at hi; subst hi; simp [encE]) (fun x => ⟨_, rfl⟩) ?_ ?_, ?_⟩
  · simp [World.setCell]
  · intro j hj _
    rw [Below.heap_setCell _ _ _ _ (by simpa using hj), Below.heap_setCell _ _ _ _ (by simpa using hj)]
  · exact Below.setCell (Below.setCell hxw (by simp; omega) _) (by simp; omega) _

end Go.Proofs.YtjehhilijeajnaaGreatDoor
/- THE REFERENCE's Same. Conditions: see the theorem. -/
namespace Go.Proofs.YtjehhilijeajnaaGreatDoor
open Go Go.RowKit
attribute [local go_sem] qUpon lUpon

set_option maxRecDepth 100000 in
set_option maxHeartbeats 4000000 in
theorem same_len (A B A' B' : Option Addr) (V V' : List (Int × Thing)) (E E' : List ((Int × Int) × Thing)) (n m cV cE cV' cE' : Nat) (w : World) (hV : SlAt encV 3 w A V) (hE : SlAt encE 4 w B E) (hV' : SlAt encV 3 w A' V') (hE' : SlAt encE 4 w B' E') (hn : V.length = n) (hn' : V'.length = n) (hm : E.length = m) (hm' : E'.length = m) (hl : n ≤ 4096) (hle : m ≤ 4096) :
    Calls Tryz.prog 25 #[.agg #[.slice A n cV, .slice B m cE], .agg #[.slice A' n cV', .slice B' m cE']] w fun e w' => e = .returned (.bool (decide (V = V') && decide (E = E'))) ∧ Ext w w' := by
  have hV1 := hide hV
  have hE1 := hide hE
  have hV2 := hide hV'
  have hE2 := hide hE'
  clear hV hE hV' hE'
  have hb2 := (Blk.new w 28 #[.slice A n cV, .slice B m cE]).ext (ext_self1 _ (.cells #[.slice A' n cV', .slice B' m cE'] 28))
  have hb3 := Blk.new (w.alloc (.cells #[.slice A n cV, .slice B m cE] 28)) 28 #[.slice A' n cV', .slice B' m cE']
  simp only [World.size_alloc] at hb3
  generalize hres : (decide (V = V') && decide (E = E')) = res
  have hres' := hide hres
  clear hres
  go_enter Tryz.func25, Tryz.ntmps25
  go_wp2
  refine wp_abs (fun W => Ext w W ∧ Blk W w.heap.size 28 #[.slice A n cV, .slice B m cE] ∧ Blk W (w.heap.size + 1) 28 #[.slice A' n cV', .slice B' m cE']) ⟨ext_self2 _ _ _, hb2, hb3⟩ ?_
  clear hb2 hb3
  rintro w1 ⟨hx1, hb2, hb3⟩
  go_loopw [5] (fun i wr => ∃ k : Nat, k ≤ n ∧ i = .int .i64 k ∧ V.take k = V'.take k ∧ Ext w1 wr) (fun i _ => n - (intOf i).toNat)
  case atStart => exact ⟨0, Nat.zero_le _, rfl, by simp, Ext.refl _⟩
  case round =>
    obtain ⟨k, hk, rfl, hfold, hxr⟩ := hrel
    have d0 := (hb2.ext hxr).cells 0 (v := .slice A n cV) rfl
    have d1 := (hb3.ext hxr).cells 0 (v := .slice A' n cV') rfl
    have hfold' := hide hfold
    clear hfold
    by_cases hlt : k < n
    · obtain ⟨b, off, rfl, c0, c1, c2⟩ := atV ((unhide hV1).ext (hx1.trans hxr)) (i := k) (by omega)
      obtain ⟨b', off', rfl, g0, g1, g2⟩ := atV ((unhide hV2).ext (hx1.trans hxr)) (i := k) (by omega)
      have t1 := List.take_succ_eq_append_getElem (l := V) (i := k) (by omega)
      have t2 := List.take_succ_eq_append_getElem (l := V') (i := k) (by omega)
      generalize hy : V[k] = y at c0 c1 c2 t1
      generalize hy' : V'[k] = y' at g0 g1 g2 t2
      have hyy := hide (show V[k]? = some y by rw [← hy]; exact List.getElem?_eq_getElem _)
      have hyy' := hide (show V'[k]? = some y' by rw [← hy']; exact List.getElem?_eq_getElem _)
      have t1' := hide t1
      have t2' := hide t2
      clear hy hy' t1 t2
      obtain ⟨a, ⟨l, t⟩⟩ := y
      obtain ⟨a', ⟨l', t'⟩⟩ := y'
      simp only at c0 c1 c2 g0 g1 g2
      go_wp2
      obtain ⟨q, hq⟩ : ∃ q : Bool, q = !decide ((a, (l, t)) = (a', (l', t'))) := ⟨_, rfl⟩
      have hq' := hide hq
      clear hq
      refine wp_region_still (P := Tryz.prog) [0,1,2,3,4,5,6,7,8,9,10] [] 0 #[true,true,true,true,true,true,true,true,true,true,true] (by kernel_rfl) (by kernel_rfl) rfl (by rfl) ?_
      iterate 10
        refine ql_want (v := ?_) rfl (by rfl) (fun W hW => ?_) ?_
        rotate_left
        · go_simp
          first | done | rfl | (fail)
        go_frame

      refine ql_want (v := .bool q) rfl (by rfl) (fun W hW => ?_) ?_
      · go_simp
        rw [unhide hq']
        by_cases h1 : a = a' <;> by_cases h2 : l = l' <;> by_cases h3 : t = t' <;> simp [h1, h2, h3]
      go_frame
      refine wpQL_nil (fun w2 hx2 => ?_)
      refine wpX_done (by kernel_rfl) ?_
      clear d0 d1 c0 c1 c2 g0 g1 g2
      cases hqq : q
      · have he : (a, (l, t)) = (a', (l', t')) := by
          have hz := unhide hq'
          rw [hqq] at hz
          by_cases he : (a, (l, t)) = (a', (l', t'))
          · exact he
          · rw [decide_eq_false he] at hz
            cases hz
        subst hqq
        go_wp2
        go_roundw
        case rel => exact ⟨k + 1, by omega, by go_num, by rw [unhide t1', unhide t2', unhide hfold', he], hxr.trans hx2⟩
        case measure => simp [intOf]; omega
      · have he : (a, (l, t)) ≠ (a', (l', t')) := by
          intro he
          have hz := unhide hq'
          rw [hqq, decide_eq_true he] at hz
          cases hz
        subst hqq
        go_wp2
        go_ret
        refine ⟨ret_bool ?_, hx1.trans (hxr.trans hx2)⟩
        rw [← unhide hres']
        have hne : V ≠ V' := by
          intro e
          have h1 := unhide hyy
          have h2 := unhide hyy'
          rw [e, h2] at h1
          exact he (Option.some.inj h1).symm
        simp [hne]
    · have hkE : k = n := by omega
      have h5 := unhide hfold'
      rw [hkE, List.take_of_length_le (by omega), List.take_of_length_le (by omega)] at h5
      have hVV' := hide h5
      clear h5 hfold'
      go_wp2
      go_loopw [6] (fun i wr => ∃ k : Nat, k ≤ m ∧ i = .int .i64 k ∧ E.take k = E'.take k ∧ Ext w1 wr) (fun i _ => m - (intOf i).toNat)
      case atStart => exact ⟨0, Nat.zero_le _, rfl, by simp, hxr⟩
      case round =>
        obtain ⟨k, hk, rfl, hfold, hxr⟩ := hrel
        have d0 := (hb2.ext hxr).cells 1 (v := .slice B m cE) rfl
        have d1 := (hb3.ext hxr).cells 1 (v := .slice B' m cE') rfl
        have hfold' := hide hfold
        clear hfold
        by_cases hlt : k < m
        · obtain ⟨b, off, rfl, c0, c1, c2, c3⟩ := atE ((unhide hE1).ext (hx1.trans hxr)) (i := k) (by omega)
          obtain ⟨b', off', rfl, g0, g1, g2, g3⟩ := atE ((unhide hE2).ext (hx1.trans hxr)) (i := k) (by omega)
          have t1 := List.take_succ_eq_append_getElem (l := E) (i := k) (by omega)
          have t2 := List.take_succ_eq_append_getElem (l := E') (i := k) (by omega)
          generalize hy : E[k] = y at c0 c1 c2 c3 t1
          generalize hy' : E'[k] = y' at g0 g1 g2 g3 t2
          have hyy := hide (show E[k]? = some y by rw [← hy]; exact List.getElem?_eq_getElem _)
          have hyy' := hide (show E'[k]? = some y' by rw [← hy']; exact List.getElem?_eq_getElem _)
          have t1' := hide t1
          have t2' := hide t2
          clear hy hy' t1 t2
          obtain ⟨⟨a, b0⟩, ⟨l, t⟩⟩ := y
          obtain ⟨⟨a', b0'⟩, ⟨l', t'⟩⟩ := y'
          simp only at c0 c1 c2 c3 g0 g1 g2 g3
          go_wp2
          obtain ⟨q, hq⟩ : ∃ q : Bool, q = !decide (((a, b0), (l, t)) = ((a', b0'), (l', t'))) := ⟨_, rfl⟩
          have hq' := hide hq
          clear hq
          refine wp_region_still (P := Tryz.prog) [0,1,2,3,4,5,6,7,8,9,10] [] 0 #[true,true,true,true,true,true,true,true,true,true,true] (by kernel_rfl) (by kernel_rfl) rfl (by rfl) ?_
          iterate 10
            refine ql_want (v := ?_) rfl (by rfl) (fun W hW => ?_) ?_
            rotate_left
            · go_simp
              first | done | rfl | (fail)
            go_frame

          refine ql_want (v := .bool q) rfl (by rfl) (fun W hW => ?_) ?_
          · go_simp
            rw [unhide hq']
            by_cases h1 : a = a' <;> by_cases h4 : b0 = b0' <;> by_cases h2 : l = l' <;> by_cases h3 : t = t' <;> simp [h1, h2, h3, h4]
          go_frame
          refine wpQL_nil (fun w2 hx2 => ?_)
          refine wpX_done (by kernel_rfl) ?_
          clear d0 d1 c0 c1 c2 c3 g0 g1 g2 g3
          cases hqq : q
          · have he : ((a, b0), (l, t)) = ((a', b0'), (l', t')) := by
              have hz := unhide hq'
              rw [hqq] at hz
              by_cases he : ((a, b0), (l, t)) = ((a', b0'), (l', t'))
              · exact he
              · rw [decide_eq_false he] at hz
                cases hz
            subst hqq
            go_wp2
            go_roundw
            case rel => exact ⟨k + 1, by omega, by go_num, by rw [unhide t1', unhide t2', unhide hfold', he], hxr.trans hx2⟩
            case measure => simp [intOf]; omega
          · have he : ((a, b0), (l, t)) ≠ ((a', b0'), (l', t')) := by
              intro he
              have hz := unhide hq'
              rw [hqq, decide_eq_true he] at hz
              cases hz
            subst hqq
            go_wp2
            go_ret
            refine ⟨ret_bool ?_, hx1.trans (hxr.trans hx2)⟩
            rw [← unhide hres']
            have hne : E ≠ E' := by
              intro e
              have h1 := unhide hyy
              have h2 := unhide hyy'
              rw [e, h2] at h1
              exact he (Option.some.inj h1).symm
            simp [hne]
        · have hkE : k = m := by omega
          have h5 := unhide hfold'
          rw [hkE, List.take_of_length_le (by omega), List.take_of_length_le (by omega)] at h5
          have h5' := hide h5
          clear h5
          go_wp2
          go_ret
          refine ⟨ret_bool ?_, hx1.trans hxr⟩
          rw [← unhide hres', unhide h5', unhide hVV']
          simp

theorem same_any (A B A' B' : Option Addr) (V V' : List (Int × Thing)) (E E' : List ((Int × Int) × Thing)) (cV cE cV' cE' : Nat) (w : World) (hV : SlAt encV 3 w A V) (hE : SlAt encE 4 w B E) (hV' : SlAt encV 3 w A' V') (hE' : SlAt encE 4 w B' E') (hl : V.length ≤ 4096) (hle : E.length ≤ 4096) :
    Calls Tryz.prog 25 #[.agg #[.slice A V.length cV, .slice B E.length cE], .agg #[.slice A' V'.length cV', .slice B' E'.length cE']] w fun e w' => e = .returned (.bool (decide (V = V') && decide (E = E'))) ∧ Ext w w' := by
  by_cases h1 : V.length = V'.length
  · by_cases h2 : E.length = E'.length
    · rw [← h1, ← h2]
      exact same_len A B A' B' V V' E E' V.length E.length cV cE cV' cE' w hV hE hV' hE' rfl h1.symm rfl h2.symm hl hle
    · have h3 : decide (E = E') = false := by
        rw [decide_eq_false_iff_not]
        rintro rfl
        exact h2 rfl
      rw [h3, Bool.and_false]
      clear hV hE hV' hE'
      go_enter Tryz.func25, Tryz.ntmps25
      go_wp2
      all_goals first
        | (go_ret; exact ⟨rfl, ext_self2 _ _ _⟩)
        | (exfalso; simp_all; done)
  · have h3 : decide (V = V') = false := by
      rw [decide_eq_false_iff_not]
      rintro rfl
      exact h1 rfl
    rw [h3, Bool.false_and]
    clear hV hE hV' hE'
    go_enter Tryz.func25, Tryz.ntmps25
    go_wp2
    all_goals first
      | (go_ret; exact ⟨rfl, ext_self2 _ _ _⟩)
      | (exfalso; simp_all; done)
end Go.Proofs.YtjehhilijeajnaaGreatDoor
/- To: the graph in the reference's form. Conditions: see the theorem. -/
namespace Go.Proofs.YtjehhilijeajnaaGreatDoor
open Go Go.RowKit
attribute [local go_sem] qUpon lUpon

theorem own_at {α : Type} {enc : α → List Value} {w : World} {base T k n c : Nat} {A : Option Addr} {xs : List α} (h : w.ownsRow base T k (.slice A n c) xs.length (xs.flatMap enc)) (hk : ∀ x, (enc x).length = k) : SlAt enc k w A xs := by
  obtain ⟨A', c', he, hs⟩ := SlAt.of_own h hk
  simp only [Value.slice.injEq] at he
  rw [he.1]
  exact hs

theorem own_keep1 {w w' : World} {base T k n b : Nat} {v : Value} {xs : List Value} (h : w.ownsRow base T k v n xs) (hk : Keep [b] w w') (hb : b < base) : w'.ownsRow base T k v n xs :=
  own_keep h hk (fun g hg e => by
    have h1 : g = b := by simpa using hg
    subst h1
    have := (own_base h e).1
    omega)

set_option maxRecDepth 100000 in
set_option maxHeartbeats 4000000 in
theorem to_any (g bv be : Nat) (V SV : List (Int × Thing)) (E SE : List ((Int × Int) × Thing)) (w : World) (hg : GraphAt w g bv be V E) (hpV : SV.Perm V) (hSV : SV.Pairwise ltV) (hpE : SE.Perm E) (hSE : SE.Pairwise ltE) (hl : V.length ≤ 4096) (hle : E.length ≤ 4096) :
    Calls Tryz.prog 26 #[.pointer (some ⟨g, 0, none⟩)] w fun e w' => ∃ A cA B cB, e = .returned (.agg #[.slice A SV.length cA, .slice B SE.length cB]) ∧ SlAt encV 3 w' A SV ∧ SlAt encE 4 w' B SE ∧ Ext w w' := by
  have hlV : SV.length ≤ 4096 := by rw [hpV.length_eq]; exact hl
  have hlE : SE.length ≤ 4096 := by rw [hpE.length_eq]; exact hle
  have hg' := hide hg
  have hb2 := (Blk.new w 28 #[.slice none 0 0, .slice none 0 0]).ext (ext_self1 _ (.cells #[.slice none 0 0, .slice none 0 0] 28))
  have hb3 := Blk.new (w.alloc (.cells #[.slice none 0 0, .slice none 0 0] 28)) 28 #[.slice none 0 0, .slice none 0 0]
  simp only [World.size_alloc] at hb3
  have hb2' := hide hb2
  have hb3' := hide hb3
  clear hg hb2 hb3
  go_enter Tryz.func26, Tryz.ntmps26
  go_wp2_with (first
    | (go_at_call 56; refine (vertices_any g bv be V E SV _ ((unhide hg').ext (ext_self2 _ _ _)) hpV hSV hl).mono ?_; rintro e w2 ⟨v2, rfl, ho2, hx2⟩; obtain ⟨Av, cv, rfl⟩ := own_slice ho2; have hx2' := hide hx2; have ho2' := hide ho2; clear ho2)
    | (go_at_call 57; refine (edges_any g bv be V E SE _ ((unhide hg').ext ((ext_self2 _ _ _).trans hx2)) hpE hSE hle).mono ?_; rintro e wI ⟨v3, rfl, ho3, hx3⟩; obtain ⟨Ae, ce, rfl⟩ := own_slice ho3; have hx3' := hide hx3; have ho3' := hide ho3; clear ho3))
  have hxI' := hide (((ext_self2 _ _ _).trans (unhide hx2')).trans (unhide hx3'))
  have hn1' := hide (show w.heap.size + 1 < w2.heap.size by have := (unhide hx2').size; simp at this; omega)
  have hn2' := hide (show w2.heap.size ≤ wI.heap.size from (unhide hx3').size)
  have hb2J := hide (((unhide hb2').ext (unhide hx2')).ext (unhide hx3'))
  have hb3J := ((unhide hb3').ext (unhide hx2')).ext (unhide hx3')
  have hoA := own_ext (unhide ho2') (unhide hx3')
  rw [World.size_alloc, World.size_alloc] at hoA
  have hoA' := hide hoA
  have hoE0 := hide (unhide ho3')
  clear hx2 hx3 hx2' hx3' hb2' hb3' ho2' hg' hoA
  generalize hn : w.heap.size = n at *
  generalize hm2 : w2.heap.size = m2 at *
  have hn1 := unhide hn1'
  have hn2 := unhide hn2'
  go_loopw [6] (fun i wr => ∃ (k : Nat) (vs : Value), k ≤ SV.length ∧ i = .int .i64 k ∧ Keep [n + 1] wI wr ∧ Blk wr (n + 1) 28 #[vs, .slice none 0 0] ∧ wr.ownsRow wI.heap.size 91 3 vs (SV.take k).length ((SV.take k).flatMap encV)) (fun i _ => SV.length - (intOf i).toNat)
  case atStart => exact ⟨0, _, Nat.zero_le _, rfl, Keep.refl _ _, hb3J, World.ownsRow_nil _ _ _ _⟩
  case round =>
    obtain ⟨k, vs, hk, rfl, hkeep, hbk, hown⟩ := hrel
    have hkeep' := hide hkeep
    have hbk' := hide hbk
    have hown' := hide hown
    have hsz' := hide (show wI.heap.size ≤ wr.heap.size from hkeep.size)
    have hnI' := hide (show n + 1 < wI.heap.size by omega)
    have hoS := hide (own_keep1 (unhide hoA') hkeep (by omega))
    clear hkeep hown
    by_cases hlt : k < SV.length
    · obtain ⟨b, off, rfl, c0, c1, c2⟩ := atV (own_at (unhide hoS) (fun _ => rfl)) hlt
      have st := List.take_succ_eq_append_getElem hlt
      generalize hy : SV[k] = y at c0 c1 c2 st
      obtain ⟨a, ⟨l, t⟩⟩ := y
      have st' := hide st
      clear hy st
      simp only at c0 c1 c2
      have r0 := hbk.cells 0 (v := vs) rfl
      go_wp2
      refine wp_region_still (P := Tryz.prog) [0,1,2,3,4,5] [7,8,9] 4 #[true,true,true,true,true,true,false,false,false,false] (by kernel_rfl) (by kernel_rfl) rfl (by rfl) ?_
      iterate 6
        refine ql_want (v := ?_) rfl (by rfl) (fun W hW => ?_) ?_
        rotate_left
        · go_simp
          first | done | rfl
        go_frame

      refine wpQL_nil (fun w3 hx3 => ?_)
      clear r0 c0 c1 c2
      have hk3' := hide ((unhide hkeep').trans (hx3.keep _))
      have hb3 := (unhide hbk').ext hx3
      have hb3' := hide hb3
      have ho3' := hide (own_ext (unhide hown') hx3)
      have hr0 := hb3.cells 0 (v := vs) rfl
      clear hb3
      obtain ⟨v4, w4, hrun, ho4, hg4⟩ := run_rV w3 wI.heap.size vs (SV.take k) (a, (l, t)) (unhide ho3') (by rw [List.length_take]; omega) (Nat.le_trans (unhide hsz') (Below.size hx3)) 25
      obtain ⟨A6, k6, rfl⟩ := own_slice ho4
      obtain ⟨W6, hW6, f1, f2, hk6, hb6, ho6, _, _⟩ := fld_step (i := 0) (unhide hk3') (unhide hnI') (unhide hb3') (unhide ho3') (ext_self1 w3 _) ho4 hg4 (by simp)
      rw [← unhide st'] at hW6 hb6 ho6
      rw [← unhide st'] at hrun
      have hk6' := hide hk6
      have hb6' := hide hb6
      have ho6' := hide ho6
      clear hk6 hb6 ho6 ho4 hg4 hbk
      generalize hgl : (SV.take (k + 1)).length = gl at *
      simp only [encV] at hrun
      refine lx_one (i := 6) (by kernel_rfl) rfl (by rfl) #[true,true,true,true,true,true,true,false,false,false] (by rfl) ?_
      go_simp
      refine lx_one (i := 7) (by kernel_rfl) rfl (by rfl) #[true,true,true,true,true,true,true,true,false,false] (by rfl) ?_
      rw [ex_append rfl (by rfl) (by rfl) hrun]
      go_simp
      refine lx_one (i := 8) (by kernel_rfl) rfl (by rfl) #[true,true,true,true,true,true,true,true,true,false] (by rfl) ?_
      go_simp
      refine lx_one (i := 9) (by kernel_rfl) rfl (by rfl) #[true,true,true,true,true,true,true,true,true,true] (by rfl) ?_
      go_simp
      refine wpX_done (by kernel_rfl) ?_
      try go_frame
      go_wp2
      go_roundw
      case rel =>
        subst hgl
        exact ⟨k + 1, _, by omega, by go_num, unhide hk6', unhide hb6', unhide ho6'⟩
      case measure => simp [intOf]; omega
    · have hkE : k = SV.length := by omega
      subst hkE
      have hfin := unhide hown'
      rw [List.take_length] at hfin
      obtain ⟨A1, c1, rfl⟩ := own_slice hfin
      have hoJ' := hide hfin
      have hb2V := hide ((unhide hb2J).keep (unhide hkeep') (by simp))
      have hbJ := hide hbk
      have hxV' := hide ((unhide hxI').of_new (unhide hkeep') (by simp; omega))
      have hoE' := hide (own_keep1 (unhide hoE0) (unhide hkeep') (by omega))
      have hszV := unhide hsz'
      rename World => wV
      clear hfin hbk hkeep' hbk' hown' hoS hsz' hnI'
      go_wp2
      go_loopw [7] (fun i wr => ∃ (k : Nat) (vs : Value), k ≤ SE.length ∧ i = .int .i64 k ∧ Keep [n + 1] wV wr ∧ Blk wr (n + 1) 28 #[.slice A1 SV.length c1, vs] ∧ wr.ownsRow wV.heap.size 72 4 vs (SE.take k).length ((SE.take k).flatMap encE)) (fun i _ => SE.length - (intOf i).toNat)
      case atStart => exact ⟨0, _, Nat.zero_le _, rfl, Keep.refl _ _, unhide hbJ, World.ownsRow_nil _ _ _ _⟩
      case round =>
        obtain ⟨k, vs, hk, rfl, hkeep, hbk, hown⟩ := hrel
        have hkeep' := hide hkeep
        have hbk' := hide hbk
        have hown' := hide hown
        have hsz' := hide (show wV.heap.size ≤ wr.heap.size from hkeep.size)
        have hnI' := hide (show n + 1 < wV.heap.size by omega)
        have hoS := hide (own_keep1 (unhide hoE') hkeep (by omega))
        clear hkeep hown
        by_cases hlt : k < SE.length
        · obtain ⟨b, off, rfl, c0, c1, c2, c3⟩ := atE (own_at (unhide hoS) (fun _ => rfl)) hlt
          have st := List.take_succ_eq_append_getElem hlt
          generalize hy : SE[k] = y at c0 c1 c2 c3 st
          obtain ⟨⟨a, b0⟩, ⟨l, t⟩⟩ := y
          have st' := hide st
          clear hy st
          simp only at c0 c1 c2 c3
          have r0 := hbk.cells 1 (v := vs) rfl
          go_wp2
          refine wp_region_still (P := Tryz.prog) [0,1,2,3,4,5] [7,8,9] 4 #[true,true,true,true,true,true,false,false,false,false] (by kernel_rfl) (by kernel_rfl) rfl (by rfl) ?_
          iterate 6
            refine ql_want (v := ?_) rfl (by rfl) (fun W hW => ?_) ?_
            rotate_left
            · go_simp
              first | done | rfl
            go_frame

          refine wpQL_nil (fun w3 hx3 => ?_)
          clear r0 c0 c1 c2 c3
          have hk3' := hide ((unhide hkeep').trans (hx3.keep _))
          have hb3 := (unhide hbk').ext hx3
          have hb3' := hide hb3
          have ho3' := hide (own_ext (unhide hown') hx3)
          have hr0 := hb3.cells 1 (v := vs) rfl
          clear hb3
          obtain ⟨v4, w4, hrun, ho4, hg4⟩ := run_rE w3 wV.heap.size vs (SE.take k) ((a, b0), (l, t)) (unhide ho3') (by rw [List.length_take]; omega) (Nat.le_trans (unhide hsz') (Below.size hx3)) 26
          obtain ⟨A6, k6, rfl⟩ := own_slice ho4
          obtain ⟨W6, hW6, f1, f2, hk6, hb6, ho6, _, _⟩ := fld_step (i := 1) (unhide hk3') (unhide hnI') (unhide hb3') (unhide ho3') (ext_self1 w3 _) ho4 hg4 (by simp)
          rw [← unhide st'] at hW6 hb6 ho6
          rw [← unhide st'] at hrun
          have hk6' := hide hk6
          have hb6' := hide hb6
          have ho6' := hide ho6
          clear hk6 hb6 ho6 ho4 hg4 hbk
          generalize hgl : (SE.take (k + 1)).length = gl at *
          simp only [encE] at hrun
          refine lx_one (i := 6) (by kernel_rfl) rfl (by rfl) #[true,true,true,true,true,true,true,false,false,false] (by rfl) ?_
          go_simp
          refine lx_one (i := 7) (by kernel_rfl) rfl (by rfl) #[true,true,true,true,true,true,true,true,false,false] (by rfl) ?_
          rw [ex_append rfl (by rfl) (by rfl) hrun]
          go_simp
          refine lx_one (i := 8) (by kernel_rfl) rfl (by rfl) #[true,true,true,true,true,true,true,true,true,false] (by rfl) ?_
          go_simp
          refine lx_one (i := 9) (by kernel_rfl) rfl (by rfl) #[true,true,true,true,true,true,true,true,true,true] (by rfl) ?_
          go_simp
          refine wpX_done (by kernel_rfl) ?_
          try go_frame
          go_wp2
          go_roundw
          case rel =>
            subst hgl
            exact ⟨k + 1, _, by omega, by go_num, unhide hk6', unhide hb6', unhide ho6'⟩
          case measure => simp [intOf]; omega
        · have hkE : k = SE.length := by omega
          subst hkE
          have hfin := unhide hown'
          rw [List.take_length] at hfin
          have hfin' := hide hfin
          clear hfin
          obtain ⟨A2, c2, rfl⟩ := own_slice (unhide hfin')
          have hq4 := (unhide hb2V).keep (unhide hkeep') (by simp)
          have s0 := hq4.cell 0
          have s1 := hq4.cell 1
          have s2 := hq4.frozen 0
          have s3 := hq4.frozen 1
          have r0 := hbk.cells 0 (v := .slice A1 SV.length c1) rfl
          have r1 := hbk.cells 1 (v := .slice A2 SE.length c2) rfl
          simp at s0 s1
          clear hq4
          go_wp2
          refine bodyPost_ret (ret_cell1 rfl rfl (load_G2 wr n _ _ _ _ s0 s1)) rfl ?_
          have hxr : Ext w wr := (unhide hxV').of_new (unhide hkeep') (by simp; omega)
          have hoV := own_keep1 (unhide hoJ') (unhide hkeep') (by omega)
          obtain ⟨q1, q2⟩ := fin_row hxr (b4 := n) (by omega) hoV (by omega) (.slice A1 SV.length c1) (.slice A2 SE.length c2)
          obtain ⟨q3, q4⟩ := fin_row hxr (b4 := n) (by omega) (unhide hfin') (by omega) (.slice A1 SV.length c1) (.slice A2 SE.length c2)
          exact ⟨A1, c1, A2, c2, rfl, own_at q2 (fun _ => rfl), own_at q4 (fun _ => rfl), q1⟩
end Go.Proofs.YtjehhilijeajnaaGreatDoor
/- A GRAPH AND ITS LISTS: one word for both, and each operation by it. Conditions: see each theorem. -/
namespace Go.Proofs.YtjehhilijeajnaaGreatDoor
open Go Go.RowKit

/-- the graph in block g, whose sorted lists are V and E -/
def IsG (w : World) (g bv be : Nat) (V : List (Int × Thing)) (E : List ((Int × Int) × Thing)) : Prop := ∃ V' E', GraphAt w g bv be V' E' ∧ V.Perm V' ∧ E.Perm E' ∧ GInv V E
theorem IsG.ext {w w' : World} {g bv be : Nat} {V : List (Int × Thing)} {E : List ((Int × Int) × Thing)} (h : IsG w g bv be V E) (k : Ext w w') : IsG w' g bv be V E := by
  obtain ⟨V', E', h1, h2⟩ := h
  exact ⟨V', E', h1.ext k, h2⟩
theorem IsG.inv {w : World} {g bv be : Nat} {V : List (Int × Thing)} {E : List ((Int × Int) × Thing)} (h : IsG w g bv be V E) : GInv V E := by
  obtain ⟨V', E', _, _, _, h⟩ := h
  exact h
theorem IsG.lt {w : World} {g bv be : Nat} {V : List (Int × Thing)} {E : List ((Int × Int) × Thing)} (h : IsG w g bv be V E) : g < w.heap.size ∧ bv < w.heap.size ∧ be < w.heap.size := by
  obtain ⟨V', E', h, _⟩ := h
  exact ⟨h.blk.lt, h.vs.lt, h.es.lt⟩
/-- the graph stays where its three blocks stay -/
theorem IsG.keep {S : List Nat} {w w' : World} {g bv be : Nat} {V : List (Int × Thing)} {E : List ((Int × Int) × Thing)} (h : IsG w g bv be V E) (k : Keep S w w') (hg : g ∉ S) (hv : bv ∉ S) (he : be ∉ S) : IsG w' g bv be V E := by
  obtain ⟨V', E', h1, h2⟩ := h
  exact ⟨V', E', ⟨h1.blk.keep k hg, h1.vs.keep k hv, h1.es.keep k he, h1.ne⟩, h2⟩

/-- a slice's cells stay where only maps turn -/
theorem SlAt.keep_maps {α : Type} {enc : α → List Value} {k : Nat} {w w' : World} {A : Option Addr} {xs : List α} {g bv be : Nat} {V : List (Int × Thing)} {E : List ((Int × Int) × Thing)} (h : SlAt enc k w A xs) (hen : ∀ x : α, ∃ u : Value, (enc x)[0]? = some u) (hg : IsG w g bv be V E) (hk : Keep [bv, be] w w') : SlAt enc k w' A xs := fun hne => by
  have hcell : ∀ m es c, w.heap[m]? = some (.map es c) → ∀ b off, A = some ⟨b, off, none⟩ → b ≠ m := fun m es c hm b off hA e => by
    subst e
    obtain ⟨b', off', hA', _, hc⟩ := h hne
    rw [hA] at hA'
    cases hA'
    obtain ⟨x, xs', rfl⟩ := List.exists_cons_of_ne_nil hne
    obtain ⟨u, hu⟩ := hen x
    have := hc 0 x rfl 0 u hu
    simp [World.cell?, hm] at this
  obtain ⟨V', E', h1, _⟩ := hg
  obtain ⟨es, c, hm, _⟩ := h1.vs
  obtain ⟨es', c', hm', _⟩ := h1.es
  obtain ⟨b, off, hA, hlt, hc⟩ := h hne
  have n1 := hcell _ _ _ hm b off hA
  have n2 := hcell _ _ _ hm' b off hA
  have hb := hk.block b hlt (by simp [n1, n2])
  refine ⟨b, off, hA, Nat.lt_of_lt_of_le hlt hk.size, fun i x hx j u hu => ?_⟩
  rw [World.cell?_of_block hb]
  exact hc i x hx j u hu
theorem encV0 (x : Int × Thing) : ∃ u : Value, (encV x)[0]? = some u := ⟨_, rfl⟩
theorem encE0 (x : (Int × Int) × Thing) : ∃ u : Value, (encE x)[0]? = some u := ⟨_, rfl⟩

/-- the reference's Wrong -/
theorem rwrong_any (A B : Option Addr) (V : List (Int × Thing)) (E : List ((Int × Int) × Thing)) (cV cE : Nat) (op u v lab wt : Int) (w : World) (hV : SlAt encV 3 w A V) (hE : SlAt encE 4 w B E) (hl : V.length ≤ 4096) (hle : E.length ≤ 4096) :
    Calls Tryz.prog 109 #[.agg #[.slice A V.length cV, .slice B E.length cE], .agg #[.int .i64 op, .int .i64 u, .int .i64 v, .int .u8 lab, .int .i64 wt]] w fun e w' => e = .returned (.int .i64 (wrongR op u v wt V E)) ∧ Ext w w' := by
  cases h1 : w1B op with
  | true => exact wrongR_bad A B V E cV cE op u v lab wt w h1
  | false =>
    rcases op_cases h1 with rfl | rfl | rfl | rfl | rfl | rfl | rfl | rfl
    · exact wrongR_0 A B V E cV cE u v lab wt w hV hE hl
    · exact wrongR_1 A B V E cV cE u v lab wt w hV hE hl
    · exact wrongR_2 A B V E cV cE u v lab wt w hV hE hl hle
    · exact wrongR_3 A B V E cV cE u v lab wt w hV hE hl hle
    · exact wrongR_4 A B V E cV cE u v lab wt w hV hE hl
    · exact wrongR_5 A B V E cV cE u v lab wt w hV hE hl
    · exact wrongR_6 A B V E cV cE u v lab wt w hV hE hl hle
    · exact wrongR_7 A B V E cV cE u v lab wt w hV hE hl hle

/-- the reference's Do -/
theorem do_any (A B : Option Addr) (V : List (Int × Thing)) (E : List ((Int × Int) × Thing)) (cV cE : Nat) (op u v lab wt : Int) (w : World) (hV : SlAt encV 3 w A V) (hE : SlAt encE 4 w B E) (hl : V.length ≤ 4096) (hle : E.length ≤ 4096) :
    Calls Tryz.prog 66 #[.agg #[.slice A V.length cV, .slice B E.length cE], .agg #[.int .i64 op, .int .i64 u, .int .i64 v, .int .u8 lab, .int .i64 wt]] w fun e w' => ∃ A' cV' B' cE', e = .returned (.tuple #[.agg #[.slice A' (nxV op u v lab wt V E).length cV', .slice B' (nxE op u v lab wt V E).length cE'], .int .i64 (wrongR op u v wt V E)]) ∧
      SlAt encV 3 w' A' (nxV op u v lab wt V E) ∧ SlAt encE 4 w' B' (nxE op u v lab wt V E) ∧ Ext w w' := by
  by_cases h0 : wrongR op u v wt V E = 0
  · have eV : nxV op u v lab wt V E = refV op u lab wt V := if_pos h0
    have eE : nxE op u v lab wt V E = refE op u v lab wt E := if_pos h0
    rw [eV, eE]
    rcases (wrongR_0_iff h0).1 with rfl | rfl | rfl | rfl | rfl | rfl | rfl | rfl
    · refine (do_0 A B V E cV cE u v lab wt w hV hE hl hle h0).mono fun e w' ⟨A', c', he, h1, hx⟩ => ⟨A', c', B, cE, ?_, h1, hE.ext hx, hx⟩
      rw [h0]; exact he
    · rw [h0]; exact do_1 A B V E cV cE u v lab wt w hV hE hl hle h0
    · refine (do_2 A B V E cV cE u v lab wt w hV hE hl hle h0).mono fun e w' ⟨B', c', he, h1, hx⟩ => ⟨A, cV, B', c', ?_, hV.ext hx, h1, hx⟩
      rw [h0]; exact he
    · rw [h0]; exact do_3 A B V E cV cE u v lab wt w hV hE hl hle h0
    · rw [h0]; exact do_4 A B V E cV cE u v lab wt w hV hE hl hle h0
    · rw [h0]; exact do_5 A B V E cV cE u v lab wt w hV hE hl hle h0
    · rw [h0]; exact do_6 A B V E cV cE u v lab wt w hV hE hl hle h0
    · rw [h0]; exact do_7 A B V E cV cE u v lab wt w hV hE hl hle h0
  · have eV : nxV op u v lab wt V E = V := if_neg h0
    have eE : nxE op u v lab wt V E = E := if_neg h0
    rw [eV, eE]
    exact (do_err A B V E cV cE op u v lab wt _ w h0 fun W hW => rwrong_any A B V E cV cE op u v lab wt W (hV.ext hW) (hE.ext hW) hl hle).mono fun e w' ⟨he, hx⟩ => ⟨A, cV, B, cE, he, hV.ext hx, hE.ext hx, hx⟩

/-- graph.Apply -/
theorem apply_any (g bv be : Nat) (V : List (Int × Thing)) (E : List ((Int × Int) × Thing)) (op u v lab wt : Int) (w : World) (hg : IsG w g bv be V E) (hu : i64ok u) (hv : i64ok v) :
    Calls Tryz.prog 31 #[.pointer (some ⟨g, 0, none⟩), .agg #[.int .i64 op, .int .i64 u, .int .i64 v, .int .u8 lab, .int .i64 wt]] w fun e w' => e = .returned (.int .i64 (wrongR op u v wt V E)) ∧ IsG w' g bv be (nxV op u v lab wt V E) (nxE op u v lab wt V E) ∧ Keep [bv, be] w w' := by
  obtain ⟨V', E', h1, hV, hE, hi⟩ := hg
  have he := err_eq op u v wt hV hE hi
  by_cases h0 : wrongR op u v wt V E = 0
  · obtain ⟨p1, p2⟩ := step_perm (lab := lab) hV hE hi h0
    refine (apply_yes g bv be V' E' op u v lab wt w h1 hu hv (he.trans h0)).mono fun e w' ⟨hr, hG, hk⟩ => ⟨by rw [h0]; exact hr, ⟨_, _, hG, ?_, ?_, hi.next op u v lab wt⟩, hk⟩
    · unfold nxV; rw [if_pos h0]; exact p1
    · unfold nxE; rw [if_pos h0]; exact p2
  · refine (apply_no g bv be V' E' op u v lab wt w h1 hu hv (by rw [he]; exact h0)).mono fun e w' ⟨hr, hx⟩ => ⟨by rw [← he]; exact hr, ⟨V', E', h1.ext hx, ?_, ?_, hi.next op u v lab wt⟩, hx.keep _⟩
    · unfold nxV; rw [if_neg h0]; exact hV
    · unfold nxE; rw [if_neg h0]; exact hE

theorem IsG.nV {w : World} {g bv be : Nat} {V : List (Int × Thing)} {E : List ((Int × Int) × Thing)} (h : IsG w g bv be V E) : V.length ≤ 4096 := Nat.le_trans h.inv.nv (by omega)
theorem IsG.nE {w : World} {g bv be : Nat} {V : List (Int × Thing)} {E : List ((Int × Int) × Thing)} (h : IsG w g bv be V E) : E.length ≤ 4096 := Nat.le_trans h.inv.ne (by omega)

/-- graph.New -/
theorem new_rel (w : World) : Calls Tryz.prog 65 #[] w fun e w' => ∃ g bv be, e = .returned (.pointer (some ⟨g, 0, none⟩)) ∧ IsG w' g bv be [] [] ∧ Ext w w' ∧ w.heap.size ≤ g ∧ w.heap.size ≤ bv ∧ w.heap.size ≤ be :=
  (new_any w).mono fun _ _ ⟨g, bv, be, he, hG, h⟩ => ⟨g, bv, be, he, ⟨[], [], hG, List.Perm.refl _, List.Perm.refl _, GInv.nil⟩, h⟩

/-- law05.To -/
theorem to_rel (g bv be : Nat) (V : List (Int × Thing)) (E : List ((Int × Int) × Thing)) (w : World) (hg : IsG w g bv be V E) :
    Calls Tryz.prog 26 #[.pointer (some ⟨g, 0, none⟩)] w fun e w' => ∃ A cA B cB, e = .returned (.agg #[.slice A V.length cA, .slice B E.length cB]) ∧ SlAt encV 3 w' A V ∧ SlAt encE 4 w' B E ∧ Ext w w' := by
  have n1 := hg.nV
  have n2 := hg.nE
  obtain ⟨V', E', h1, hV, hE, hi⟩ := hg
  exact to_any g bv be V' V E' E w h1 hV hi.sv hE hi.se (by rw [← hV.length_eq]; exact n1) (by rw [← hE.length_eq]; exact n2)
end Go.Proofs.YtjehhilijeajnaaGreatDoor
/- ARGUMENTS OPENED: a slice of structs as a list. Conditions: see each theorem. -/
namespace Go.Proofs.YtjehhilijeajnaaGreatDoor
open Go Go.RowKit Go.ChangeShapes Go.WideShapes Go.Deep

section
variable {H : Type} {enc : TypeId × Value → H} {P : Program} {w : World} {base : Nat} {spare : Nat → Bool} {held : Bool}
theorem open_slice_fields {t e : TypeId} {fs : Array Field} {fuel : Nat} {cs : List Value} {x : DataW H × List MemPlace} (ht : P.underlying t = some (.slice e)) (he : P.underlying e = some (.struct fs))
    (hone : oneCellFields P fs = true) (hC : P.cellsOf e = fs.size) (h : DataW.trod enc P w base spare held fuel t cs = some x) :
    cs = [.slice none 0 0] ∨
    ∃ (a : Addr) (len cap n : Nat), cs = [.slice (some a) len cap] ∧ len ≤ cap ∧ cap ≤ maxLen ∧
      ∀ i, i < len → ∀ (j : Nat) (f : Field), fs[j]? = some f → ∃ (v : Value) (y : DataW H × List MemPlace), w.cell? (a.add (i * fs.size + j)) = some v ∧ DataW.trod enc P w base spare held n f.type [v] = some y := by
  rcases open_slice ht h with h0 | ⟨a, len, cap, m, n, D, Pl, hcs, hb, hl, hm, hmm, hx, hi⟩
  · exact .inl h0.1
  · cases n with
    | zero =>
      refine .inr ⟨a, len, cap, 0, hcs, hl, hm, fun i hil => ?_⟩
      have hle : len ≤ m := by rw [hmm]; split <;> omega
      obtain ⟨cs', hc, ht'⟩ := hi i (by omega)
      cases ht'
    | succ n =>
      refine .inr ⟨a, len, cap, n, hcs, hl, hm, fun i hil j f hj => ?_⟩
      have hle : len ≤ m := by rw [hmm]; split <;> omega
      obtain ⟨cs', hc, ht'⟩ := hi i (by omega)
      rw [hC] at hc
      obtain ⟨ys, n', hn', hy, hlen, hyl, hf⟩ := DataW.trod_struct he ht'
      obtain rfl : n' = n := by omega
      obtain ⟨_, hcl, hat⟩ := World.cells?_some hc
      obtain ⟨ho, hk⟩ := hone_of hone j f hj
      have hjl : j < fs.size := (Array.getElem?_eq_some_iff.1 hj).1
      have hcell := hat j hjl
      have hv : cs'[j]? = some (cs'[j]'(by omega)) := List.getElem?_eq_getElem (by omega)
      have h1 := hf j f hj
      rw [ho, hk] at h1
      have hone' : (cs'.drop j).take 1 = [cs'[j]'(by omega)] := by
        rw [List.drop_eq_getElem_cons (by omega)]
        rfl
      rw [hone'] at h1
      have hys : ys[j]? = some (ys[j]'(by omega)) := List.getElem?_eq_getElem (by omega)
      refine ⟨_, _, ?_, h1.trans hys⟩
      rw [← Go.Deep.add_add, hcell, hv]
end

/-- from cells by index to a list -/
theorem slAt_of {α : Type} [Inhabited α] {enc : α → List Value} {k : Nat} {w : World} {a : Addr} {len : Nat} {p : α → Prop} (h0 : ∀ x, ∃ u : Value, (enc x)[0]? = some u)
    (h : ∀ i, i < len → ∃ x : α, (∀ j u, (enc x)[j]? = some u → w.cell? (a.add (i * k + j)) = some u) ∧ p x) : ∃ L : List α, L.length = len ∧ SlAt enc k w (some a) L ∧ ∀ x ∈ L, p x := by
  obtain ⟨f, hf⟩ := choose_lt h
  refine ⟨(List.range len).map f, by simp, fun hne => ?_, fun x hx => ?_⟩
  · have hpos : 0 < len := by
      rcases Nat.eq_zero_or_pos len with h | h
      · subst h; simp at hne
      · exact h
    obtain ⟨u, hu⟩ := h0 (f 0)
    have hc := (hf 0 hpos).1 0 u hu
    obtain ⟨b, off, spot⟩ := a
    have hspot : spot = none := by simpa [Addr.add] using World.cell?_spot hc
    subst hspot
    have hlt := World.block_lt_of_cell? w _ hc
    refine ⟨b, off, rfl, by simpa [Addr.add] using hlt, fun i x hx j u hu => ?_⟩
    rw [List.getElem?_map] at hx
    obtain ⟨i', hi', rfl⟩ := Option.map_eq_some_iff.1 hx
    obtain ⟨hil, rfl⟩ := List.getElem?_eq_some_iff.1 hi'
    simp only [List.getElem_range] at hu
    have := (hf i (by simpa using hil)).1 j u hu
    unfold Addr.add at this
    split at this
    · rename_i hz
      rw [show off + i * k + j = off by omega]
      exact this
    · rw [show off + i * k + j = off + (i * k + j) by omega]
      exact this
  · obtain ⟨i, hi, rfl⟩ := List.mem_map.1 hx
    exact (hf i (List.mem_range.1 hi)).2

/-- an edit: what, u, v, label, weight -/
abbrev Ed := Int × Int × Int × Int × Int
def encD (d : Ed) : List Value := [.int .i64 d.1, .int .i64 d.2.1, .int .i64 d.2.2.1, .int .u8 d.2.2.2.1, .int .i64 d.2.2.2.2]
def okD (d : Ed) : Prop := i64ok d.1 ∧ i64ok d.2.1 ∧ i64ok d.2.2.1 ∧ i64ok d.2.2.2.2
def okV (d : Int × Thing) : Prop := i64ok d.1 ∧ i64ok d.2.2
def okEd (d : (Int × Int) × Thing) : Prop := i64ok d.1.1 ∧ i64ok d.1.2 ∧ i64ok d.2.2
theorem i64_of_wf {n : Int} (h : (Lit.int .i64 n).wf = true) : i64ok n := by
  have := Go.bounds_i64 h
  unfold i64ok
  omega
section
variable {H : Type} {enc : TypeId × Value → H} {w : World} {base : Nat} {spare : Nat → Bool} {held : Bool} {fuel : Nat} {x : DataW H × List MemPlace} {a : Option Addr} {len cap : Nat}
theorem open_edits (h : DataW.trod enc Tryz.prog w base spare held fuel 22 [.slice a len cap] = some x) : ∃ L : List Ed, L.length = len ∧ SlAt encD 5 w a L ∧ (∀ d ∈ L, okD d) ∧ len ≤ 9223372036854775807 ∧ len ≤ cap := by
  rcases open_slice_fields Tryz.underlying22 Tryz.underlying76 (by kernel_rfl) (by kernel_rfl) h with h0 | ⟨a', len', cap', n, hcs, hl, hm, hf⟩
  · simp at h0
    obtain ⟨rfl, rfl, rfl⟩ := h0
    exact ⟨[], rfl, SlAt.nil, by simp, by omega, by omega⟩
  · simp at hcs
    obtain ⟨rfl, rfl, rfl⟩ := hcs
    obtain ⟨L, h1, h2, h3⟩ := slAt_of (α := Ed) (enc := encD) (k := 5) (w := w) (a := a') (len := len) (p := okD) (fun x => ⟨_, rfl⟩) (fun i hi => by
      obtain ⟨v0, y0, c0, r0⟩ := hf i hi 0 _ rfl
      obtain ⟨v1, y1, c1, r1⟩ := hf i hi 1 _ rfl
      obtain ⟨v2, y2, c2, r2⟩ := hf i hi 2 _ rfl
      obtain ⟨v3, y3, c3, r3⟩ := hf i hi 3 _ rfl
      obtain ⟨v4, y4, c4, r4⟩ := hf i hi 4 _ rfl
      obtain ⟨n0, e0, _, w0⟩ := DataW.trod_int Tryz.underlying3 r0
      obtain ⟨n1, e1, _, w1⟩ := DataW.trod_int Tryz.underlying3 r1
      obtain ⟨n2, e2, _, w2⟩ := DataW.trod_int Tryz.underlying3 r2
      obtain ⟨n3, e3, _, w3⟩ := DataW.trod_int Tryz.underlying5 r3
      obtain ⟨n4, e4, _, w4⟩ := DataW.trod_int Tryz.underlying3 r4
      simp at e0 e1 e2 e3 e4
      subst e0 e1 e2 e3 e4
      refine ⟨(n0, n1, n2, n3, n4), fun j u hu => ?_, i64_of_wf w0, i64_of_wf w1, i64_of_wf w2, i64_of_wf w4⟩
      match j, hu with
      | 0, hu => simp [encD] at hu; subst hu; exact c0
      | 1, hu => simp [encD] at hu; subst hu; exact c1
      | 2, hu => simp [encD] at hu; subst hu; exact c2
      | 3, hu => simp [encD] at hu; subst hu; exact c3
      | 4, hu => simp [encD] at hu; subst hu; exact c4)
    exact ⟨L, h1, h2, h3, by unfold maxLen at hm; omega, hl⟩
theorem open_verts (h : DataW.trod enc Tryz.prog w base spare held fuel 103 [.slice a len cap] = some x) : ∃ L : List (Int × Thing), L.length = len ∧ SlAt encV 3 w a L ∧ (∀ d ∈ L, okV d) ∧ len ≤ 9223372036854775807 ∧ len ≤ cap := by
  rcases open_slice_fields Tryz.underlying103 Tryz.underlying102 (by kernel_rfl) (by kernel_rfl) h with h0 | ⟨a', len', cap', n, hcs, hl, hm, hf⟩
  · simp at h0
    obtain ⟨rfl, rfl, rfl⟩ := h0
    exact ⟨[], rfl, SlAt.nil, by simp, by omega, by omega⟩
  · simp at hcs
    obtain ⟨rfl, rfl, rfl⟩ := hcs
    obtain ⟨L, h1, h2, h3⟩ := slAt_of (α := Int × Thing) (enc := encV) (k := 3) (w := w) (a := a') (len := len) (p := okV) (fun x => ⟨_, rfl⟩) (fun i hi => by
      obtain ⟨v0, y0, c0, r0⟩ := hf i hi 0 _ rfl
      obtain ⟨v3, y3, c3, r3⟩ := hf i hi 1 _ rfl
      obtain ⟨v4, y4, c4, r4⟩ := hf i hi 2 _ rfl
      obtain ⟨n0, e0, _, w0⟩ := DataW.trod_int Tryz.underlying3 r0
      obtain ⟨n3, e3, _, w3⟩ := DataW.trod_int Tryz.underlying5 r3
      obtain ⟨n4, e4, _, w4⟩ := DataW.trod_int Tryz.underlying3 r4
      simp at e0 e3 e4
      subst e0 e3 e4
      refine ⟨(n0, n3, n4), fun j u hu => ?_, i64_of_wf w0, i64_of_wf w4⟩
      match j, hu with
      | 0, hu => simp [encV] at hu; subst hu; exact c0
      | 1, hu => simp [encV] at hu; subst hu; exact c3
      | 2, hu => simp [encV] at hu; subst hu; exact c4)
    exact ⟨L, h1, h2, h3, by unfold maxLen at hm; omega, hl⟩
theorem open_edges (h : DataW.trod enc Tryz.prog w base spare held fuel 46 [.slice a len cap] = some x) : ∃ L : List ((Int × Int) × Thing), L.length = len ∧ SlAt encE 4 w a L ∧ (∀ d ∈ L, okEd d) ∧ len ≤ 9223372036854775807 ∧ len ≤ cap := by
  rcases open_slice_fields Tryz.underlying46 Tryz.underlying62 (by kernel_rfl) (by kernel_rfl) h with h0 | ⟨a', len', cap', n, hcs, hl, hm, hf⟩
  · simp at h0
    obtain ⟨rfl, rfl, rfl⟩ := h0
    exact ⟨[], rfl, SlAt.nil, by simp, by omega, by omega⟩
  · simp at hcs
    obtain ⟨rfl, rfl, rfl⟩ := hcs
    obtain ⟨L, h1, h2, h3⟩ := slAt_of (α := (Int × Int) × Thing) (enc := encE) (k := 4) (w := w) (a := a') (len := len) (p := okEd) (fun x => ⟨_, rfl⟩) (fun i hi => by
      obtain ⟨v0, y0, c0, r0⟩ := hf i hi 0 _ rfl
      obtain ⟨v1, y1, c1, r1⟩ := hf i hi 1 _ rfl
      obtain ⟨v3, y3, c3, r3⟩ := hf i hi 2 _ rfl
      obtain ⟨v4, y4, c4, r4⟩ := hf i hi 3 _ rfl
      obtain ⟨n0, e0, _, w0⟩ := DataW.trod_int Tryz.underlying3 r0
      obtain ⟨n1, e1, _, w1⟩ := DataW.trod_int Tryz.underlying3 r1
      obtain ⟨n3, e3, _, w3⟩ := DataW.trod_int Tryz.underlying5 r3
      obtain ⟨n4, e4, _, w4⟩ := DataW.trod_int Tryz.underlying3 r4
      simp at e0 e1 e3 e4
      subst e0 e1 e3 e4
      refine ⟨((n0, n1), (n3, n4)), fun j u hu => ?_, i64_of_wf w0, i64_of_wf w1, i64_of_wf w4⟩
      match j, hu with
      | 0, hu => simp [encE] at hu; subst hu; exact c0
      | 1, hu => simp [encE] at hu; subst hu; exact c1
      | 2, hu => simp [encE] at hu; subst hu; exact c3
      | 3, hu => simp [encE] at hu; subst hu; exact c4)
    exact ⟨L, h1, h2, h3, by unfold maxLen at hm; omega, hl⟩
end
end Go.Proofs.YtjehhilijeajnaaGreatDoor
