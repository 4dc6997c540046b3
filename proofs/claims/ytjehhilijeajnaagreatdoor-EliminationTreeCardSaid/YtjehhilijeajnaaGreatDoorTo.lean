/- To: the graph in the reference's form. Conditions: see the theorem. -/
import Derived.Test.YtjehhilijeajnaaGreatDoorRq
namespace Go.Proofs.YtjehhilijeajnaaGreatDoor
open Go Go.RowKit
attribute [local go_sem] qUpon lUpon

theorem own_at {α : Type} {enc : α → List Value} {w : World} {base T k n c : Nat} {A : Option Addr} {xs : List α} (h : w.ownsRow base T k (.slice A n c) xs.length (xs.flatMap enc)) (hk : ∀ x, (enc x).length = k) : SlAt enc k w A xs := by
  obtain ⟨A', c', he, hs⟩ := SlAt.of_own h hk
  simp only [Value.slice.injEq] at he
  rw [he.1]
  exact hs

theorem own_keep1 {w w' : World} {base T k n b : Nat} {v : Value} {xs : List Value} (h : w.ownsRow base T k v n xs) (hk : Keep [b] w w') (hb : b < base) : w'.ownsRow base T k v n xs :=
  own_keep h hk (fun g hg e => by
    have h1 : g = b := by simpa using hg
    subst h1
    have := (own_base h e).1
    omega)

set_option maxRecDepth 100000 in
set_option maxHeartbeats 4000000 in
theorem to_any (g bv be : Nat) (V SV : List (Int × Thing)) (E SE : List ((Int × Int) × Thing)) (w : World) (hg : GraphAt w g bv be V E) (hpV : SV.Perm V) (hSV : SV.Pairwise ltV) (hpE : SE.Perm E) (hSE : SE.Pairwise ltE) (hl : V.length ≤ 4096) (hle : E.length ≤ 4096) :
    Calls Tryz.prog 26 #[.pointer (some ⟨g, 0, none⟩)] w fun e w' => ∃ A cA B cB, e = .returned (.agg #[.slice A SV.length cA, .slice B SE.length cB]) ∧ SlAt encV 3 w' A SV ∧ SlAt encE 4 w' B SE ∧ Ext w w' := by
  have hlV : SV.length ≤ 4096 := by rw [hpV.length_eq]; exact hl
  have hlE : SE.length ≤ 4096 := by rw [hpE.length_eq]; exact hle
  have hg' := hide hg
  have hb2 := (Blk.new w 28 #[.slice none 0 0, .slice none 0 0]).ext (ext_self1 _ (.cells #[.slice none 0 0, .slice none 0 0] 28))
  have hb3 := Blk.new (w.alloc (.cells #[.slice none 0 0, .slice none 0 0] 28)) 28 #[.slice none 0 0, .slice none 0 0]
  simp only [World.size_alloc] at hb3
  have hb2' := hide hb2
  have hb3' := hide hb3
  clear hg hb2 hb3
  go_enter Tryz.func26, Tryz.ntmps26
  go_wp2_with (first
    | (go_at_call 56; refine (vertices_any g bv be V E SV _ ((unhide hg').ext (ext_self2 _ _ _)) hpV hSV hl).mono ?_; rintro e w2 ⟨v2, rfl, ho2, hx2⟩; obtain ⟨Av, cv, rfl⟩ := own_slice ho2; have hx2' := hide hx2; have ho2' := hide ho2; clear ho2)
    | (go_at_call 57; refine (edges_any g bv be V E SE _ ((unhide hg').ext ((ext_self2 _ _ _).trans hx2)) hpE hSE hle).mono ?_; rintro e wI ⟨v3, rfl, ho3, hx3⟩; obtain ⟨Ae, ce, rfl⟩ := own_slice ho3; have hx3' := hide hx3; have ho3' := hide ho3; clear ho3))
  have hxI' := hide (((ext_self2 _ _ _).trans (unhide hx2')).trans (unhide hx3'))
  have hn1' := hide (show w.heap.size + 1 < w2.heap.size by have := (unhide hx2').size; simp at this; omega)
  have hn2' := hide (show w2.heap.size ≤ wI.heap.size from (unhide hx3').size)
  have hb2J := hide (((unhide hb2').ext (unhide hx2')).ext (unhide hx3'))
  have hb3J := ((unhide hb3').ext (unhide hx2')).ext (unhide hx3')
  have hoA := own_ext (unhide ho2') (unhide hx3')
  rw [World.size_alloc, World.size_alloc] at hoA
  have hoA' := hide hoA
  have hoE0 := hide (unhide ho3')
  clear hx2 hx3 hx2' hx3' hb2' hb3' ho2' hg' hoA
  generalize hn : w.heap.size = n at *
  generalize hm2 : w2.heap.size = m2 at *
  have hn1 := unhide hn1'
  have hn2 := unhide hn2'
  go_loopw [6] (fun i wr => ∃ (k : Nat) (vs : Value), k ≤ SV.length ∧ i = .int .i64 k ∧ Keep [n + 1] wI wr ∧ Blk wr (n + 1) 28 #[vs, .slice none 0 0] ∧ wr.ownsRow wI.heap.size 91 3 vs (SV.take k).length ((SV.take k).flatMap encV)) (fun i _ => SV.length - (intOf i).toNat)
  case atStart => exact ⟨0, _, Nat.zero_le _, rfl, Keep.refl _ _, hb3J, World.ownsRow_nil _ _ _ _⟩
  case round =>
    obtain ⟨k, vs, hk, rfl, hkeep, hbk, hown⟩ := hrel
    have hkeep' := hide hkeep
    have hbk' := hide hbk
    have hown' := hide hown
    have hsz' := hide (show wI.heap.size ≤ wr.heap.size from hkeep.size)
    have hnI' := hide (show n + 1 < wI.heap.size by omega)
    have hoS := hide (own_keep1 (unhide hoA') hkeep (by omega))
    clear hkeep hown
    by_cases hlt : k < SV.length
    · obtain ⟨b, off, rfl, c0, c1, c2⟩ := atV (own_at (unhide hoS) (fun _ => rfl)) hlt
      have st := List.take_succ_eq_append_getElem hlt
      generalize hy : SV[k] = y at c0 c1 c2 st
      obtain ⟨a, ⟨l, t⟩⟩ := y
      have st' := hide st
      clear hy st
      simp only at c0 c1 c2
      have r0 := hbk.cells 0 (v := vs) rfl
      go_wp2
      refine wp_region_still (P := Tryz.prog) [0,1,2,3,4,5] [7,8,9] 4 #[true,true,true,true,true,true,false,false,false,false] (by kernel_rfl) (by kernel_rfl) rfl (by rfl) ?_
      iterate 6
        refine ql_want (v := ?_) rfl (by rfl) (fun W hW => ?_) ?_
        rotate_left
        · go_simp
          first | done | rfl
        go_frame

      refine wpQL_nil (fun w3 hx3 => ?_)
      clear r0 c0 c1 c2
      have hk3' := hide ((unhide hkeep').trans (hx3.keep _))
      have hb3 := (unhide hbk').ext hx3
      have hb3' := hide hb3
      have ho3' := hide (own_ext (unhide hown') hx3)
      have hr0 := hb3.cells 0 (v := vs) rfl
      clear hb3
      obtain ⟨v4, w4, hrun, ho4, hg4⟩ := run_rV w3 wI.heap.size vs (SV.take k) (a, (l, t)) (unhide ho3') (by rw [List.length_take]; omega) (Nat.le_trans (unhide hsz') (Below.size hx3)) 25
      obtain ⟨A6, k6, rfl⟩ := own_slice ho4
      obtain ⟨W6, hW6, f1, f2, hk6, hb6, ho6, _, _⟩ := fld_step (i := 0) (unhide hk3') (unhide hnI') (unhide hb3') (unhide ho3') (ext_self1 w3 _) ho4 hg4 (by simp)
      rw [← unhide st'] at hW6 hb6 ho6
      rw [← unhide st'] at hrun
      have hk6' := hide hk6
      have hb6' := hide hb6
      have ho6' := hide ho6
      clear hk6 hb6 ho6 ho4 hg4 hbk
      generalize hgl : (SV.take (k + 1)).length = gl at *
      simp only [encV] at hrun
      refine lx_one (i := 6) (by kernel_rfl) rfl (by rfl) #[true,true,true,true,true,true,true,false,false,false] (by rfl) ?_
      go_simp
      refine lx_one (i := 7) (by kernel_rfl) rfl (by rfl) #[true,true,true,true,true,true,true,true,false,false] (by rfl) ?_
      rw [ex_append rfl (by rfl) (by rfl) hrun]
      go_simp
      refine lx_one (i := 8) (by kernel_rfl) rfl (by rfl) #[true,true,true,true,true,true,true,true,true,false] (by rfl) ?_
      go_simp
      refine lx_one (i := 9) (by kernel_rfl) rfl (by rfl) #[true,true,true,true,true,true,true,true,true,true] (by rfl) ?_
      go_simp
      refine wpX_done (by kernel_rfl) ?_
      try go_frame
      go_wp2
      go_roundw
      case rel =>
        subst hgl
        exact ⟨k + 1, _, by omega, by go_num, unhide hk6', unhide hb6', unhide ho6'⟩
      case measure => simp [intOf]; omega
    · have hkE : k = SV.length := by omega
      subst hkE
      have hfin := unhide hown'
      rw [List.take_length] at hfin
      obtain ⟨A1, c1, rfl⟩ := own_slice hfin
      have hoJ' := hide hfin
      have hb2V := hide ((unhide hb2J).keep (unhide hkeep') (by simp))
      have hbJ := hide hbk
      have hxV' := hide ((unhide hxI').of_new (unhide hkeep') (by simp; omega))
      have hoE' := hide (own_keep1 (unhide hoE0) (unhide hkeep') (by omega))
      have hszV := unhide hsz'
      rename World => wV
      clear hfin hbk hkeep' hbk' hown' hoS hsz' hnI'
      go_wp2
      go_loopw [7] (fun i wr => ∃ (k : Nat) (vs : Value), k ≤ SE.length ∧ i = .int .i64 k ∧ Keep [n + 1] wV wr ∧ Blk wr (n + 1) 28 #[.slice A1 SV.length c1, vs] ∧ wr.ownsRow wV.heap.size 72 4 vs (SE.take k).length ((SE.take k).flatMap encE)) (fun i _ => SE.length - (intOf i).toNat)
      case atStart => exact ⟨0, _, Nat.zero_le _, rfl, Keep.refl _ _, unhide hbJ, World.ownsRow_nil _ _ _ _⟩
      case round =>
        obtain ⟨k, vs, hk, rfl, hkeep, hbk, hown⟩ := hrel
        have hkeep' := hide hkeep
        have hbk' := hide hbk
        have hown' := hide hown
        have hsz' := hide (show wV.heap.size ≤ wr.heap.size from hkeep.size)
        have hnI' := hide (show n + 1 < wV.heap.size by omega)
        have hoS := hide (own_keep1 (unhide hoE') hkeep (by omega))
        clear hkeep hown
        by_cases hlt : k < SE.length
        · obtain ⟨b, off, rfl, c0, c1, c2, c3⟩ := atE (own_at (unhide hoS) (fun _ => rfl)) hlt
          have st := List.take_succ_eq_append_getElem hlt
          generalize hy : SE[k] = y at c0 c1 c2 c3 st
          obtain ⟨⟨a, b0⟩, ⟨l, t⟩⟩ := y
          have st' := hide st
          clear hy st
          simp only at c0 c1 c2 c3
          have r0 := hbk.cells 1 (v := vs) rfl
          go_wp2
          refine wp_region_still (P := Tryz.prog) [0,1,2,3,4,5] [7,8,9] 4 #[true,true,true,true,true,true,false,false,false,false] (by kernel_rfl) (by kernel_rfl) rfl (by rfl) ?_
          iterate 6
            refine ql_want (v := ?_) rfl (by rfl) (fun W hW => ?_) ?_
            rotate_left
            · go_simp
              first | done | rfl
            go_frame

          refine wpQL_nil (fun w3 hx3 => ?_)
          clear r0 c0 c1 c2 c3
          have hk3' := hide ((unhide hkeep').trans (hx3.keep _))
          have hb3 := (unhide hbk').ext hx3
          have hb3' := hide hb3
          have ho3' := hide (own_ext (unhide hown') hx3)
          have hr0 := hb3.cells 1 (v := vs) rfl
          clear hb3
          obtain ⟨v4, w4, hrun, ho4, hg4⟩ := run_rE w3 wV.heap.size vs (SE.take k) ((a, b0), (l, t)) (unhide ho3') (by rw [List.length_take]; omega) (Nat.le_trans (unhide hsz') (Below.size hx3)) 26
          obtain ⟨A6, k6, rfl⟩ := own_slice ho4
          obtain ⟨W6, hW6, f1, f2, hk6, hb6, ho6, _, _⟩ := fld_step (i := 1) (unhide hk3') (unhide hnI') (unhide hb3') (unhide ho3') (ext_self1 w3 _) ho4 hg4 (by simp)
          rw [← unhide st'] at hW6 hb6 ho6
          rw [← unhide st'] at hrun
          have hk6' := hide hk6
          have hb6' := hide hb6
          have ho6' := hide ho6
          clear hk6 hb6 ho6 ho4 hg4 hbk
          generalize hgl : (SE.take (k + 1)).length = gl at *
          simp only [encE] at hrun
          refine lx_one (i := 6) (by kernel_rfl) rfl (by rfl) #[true,true,true,true,true,true,true,false,false,false] (by rfl) ?_
          go_simp
          refine lx_one (i := 7) (by kernel_rfl) rfl (by rfl) #[true,true,true,true,true,true,true,true,false,false] (by rfl) ?_
          rw [ex_append rfl (by rfl) (by rfl) hrun]
          go_simp
          refine lx_one (i := 8) (by kernel_rfl) rfl (by rfl) #[true,true,true,true,true,true,true,true,true,false] (by rfl) ?_
          go_simp
          refine lx_one (i := 9) (by kernel_rfl) rfl (by rfl) #[true,true,true,true,true,true,true,true,true,true] (by rfl) ?_
          go_simp
          refine wpX_done (by kernel_rfl) ?_
          try go_frame
          go_wp2
          go_roundw
          case rel =>
            subst hgl
            exact ⟨k + 1, _, by omega, by go_num, unhide hk6', unhide hb6', unhide ho6'⟩
          case measure => simp [intOf]; omega
        · have hkE : k = SE.length := by omega
          subst hkE
          have hfin := unhide hown'
          rw [List.take_length] at hfin
          have hfin' := hide hfin
          clear hfin
          obtain ⟨A2, c2, rfl⟩ := own_slice (unhide hfin')
          have hq4 := (unhide hb2V).keep (unhide hkeep') (by simp)
          have s0 := hq4.cell 0
          have s1 := hq4.cell 1
          have s2 := hq4.frozen 0
          have s3 := hq4.frozen 1
          have r0 := hbk.cells 0 (v := .slice A1 SV.length c1) rfl
          have r1 := hbk.cells 1 (v := .slice A2 SE.length c2) rfl
          simp at s0 s1
          clear hq4
          go_wp2
          refine bodyPost_ret (ret_cell1 rfl rfl (load_G2 wr n _ _ _ _ s0 s1)) rfl ?_
          have hxr : Ext w wr := (unhide hxV').of_new (unhide hkeep') (by simp; omega)
          have hoV := own_keep1 (unhide hoJ') (unhide hkeep') (by omega)
          obtain ⟨q1, q2⟩ := fin_row hxr (b4 := n) (by omega) hoV (by omega) (.slice A1 SV.length c1) (.slice A2 SE.length c2)
          obtain ⟨q3, q4⟩ := fin_row hxr (b4 := n) (by omega) (unhide hfin') (by omega) (.slice A1 SV.length c1) (.slice A2 SE.length c2)
          exact ⟨A1, c1, A2, c2, rfl, own_at q2 (fun _ => rfl), own_at q4 (fun _ => rfl), q1⟩
end Go.Proofs.YtjehhilijeajnaaGreatDoor
