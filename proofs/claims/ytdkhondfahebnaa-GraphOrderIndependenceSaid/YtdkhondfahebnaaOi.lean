/- LAW GraphOrderIndependence, the walk. Conditions: see each theorem. -/
import Derived.Test.YtdkhondfahebnaaPo
import Derived.Test.YtdkhondfahebnaaKn
namespace Go.Proofs.Ytdkhondfahebnaa
open Go Go.RowKit
attribute [local go_sem] qUpon lUpon

set_option maxRecDepth 100000 in
set_option maxHeartbeats 4000000 in
theorem graphOrderIndependence_walk (A : Option Addr) (L : List Ed) (cL : Nat) (t : Int) (w : World) (hL : SlAt encD 5 w A L) (_hok : ∀ d ∈ L, okD d) (_hl : L.length ≤ 9223372036854775807) (_hc : L.length ≤ cL) (ht : 0 ≤ t ∧ t ≤ 255) :
    Calls Try.prog 5 #[.slice A L.length cL, .int .u8 t] w fun e w' => e = .returned (.bool true) ∧ Ext w w' := by
  obtain ⟨t1, t2⟩ := ht
  obtain ⟨T, rfl⟩ : ∃ T : Nat, t = (T : Int) := ⟨t.toNat, by omega⟩
  have hL' := hide hL
  clear hL
  go_enter Try.func5, Try.ntmps5
  go_wp2_with fail
  refine (made_any A L cL _ (unhide hL')).mono ?_
  rintro e w1 ⟨A1, cA, B1, cB, rfl, hs1, he1, hx1⟩
  have hinv := mdS_inv L
  generalize mdS L = S at *
  obtain ⟨V, E⟩ := S
  simp only at hs1 he1 hinv
  have hs1' := hide hs1
  have he1' := hide he1
  have hx1' := hide hx1
  have hi' := hide hinv
  have nV := hinv.nv
  have nE := hinv.ne
  clear hs1 he1 hx1 hinv
  go_wp2_with fail
  refine (from_any A1 B1 V E cA cB _ ((unhide hs1').ext (ext_self1 _ _)) ((unhide he1').ext (ext_self1 _ _)) (unhide hi')).mono ?_
  rintro e wr ⟨g, bv, be, rfl, hg0, hx0, n1, n2, n3⟩
  have hR : ApRel w wr g bv be w1.heap.size V E A1 B1 cA cB := by
    have h1 := Below.size (unhide hx1')
    simp at n1 n2 n3
    exact ⟨hg0, (Blk.new w1 _ _).ext hx0, ((unhide hs1').ext (ext_self1 _ _)).ext hx0, ((unhide he1').ext (ext_self1 _ _)).ext hx0, ((unhide hx1').trans (ext_self1 _ _)).trans hx0, by omega, by omega, by omega, h1⟩
  have hR' := hide hR
  clear hR hg0 hx0 n1 n2 n3 hs1' he1' hx1'
  generalize w1.heap.size = gw at *
  clear w1
  go_wp2_with fail
  refine (new_rel _).mono ?_
  rintro e w2 ⟨o, ov, oe, rfl, hg0, hx0, n1, n2, n3⟩
  have hlt := (unhide hR').isg.lt
  have hglt := hide ((unhide hR').blk.lt)
  have hR2 := hide ((unhide hR').go hx0)
  have hO := hide hg0
  have hlo := (unhide hR').lo
  have hsz := Below.size (unhide hR').ext
  have hov : ov ≠ g ∧ ov ≠ bv ∧ ov ≠ be ∧ w.heap.size ≤ ov := by omega
  have hoe : oe ≠ g ∧ oe ≠ bv ∧ oe ≠ be ∧ w.heap.size ≤ oe := by omega
  have hov' := hide hov
  have hoe' := hide hoe
  clear hR' hg0 hx0 n1 n2 n3 hlt hglt hlo hsz hov hoe
  go_wp2_with fail
  have hB := (unhide hR2).blk
  have q0 := hB.cells 0 (v := .slice A1 V.length cA) rfl
  have q1 := hB.cells 1 (v := .slice B1 E.length cB) rfl
  clear hB
  refine wp_region_still (P := Try.prog) [0,1,2,3,4,5,6,7] [] 0 #[true,true,true,true,true,true,true,true] (by kernel_rfl) (by kernel_rfl) rfl (by rfl) ?_
  iterate 8
    refine ql_want (v := ?_) rfl (by rfl) (fun W hW => ?_) ?_
    rotate_left
    · go_simp
      first | done | rfl
    go_frame
  refine wpQL_nil (fun w3 hx3 => ?_)
  refine wpX_done (by kernel_rfl) ?_
  try go_frame
  clear q0 q1
  have hR3 := hide ((unhide hR2).go hx3)
  have hO3 := hide ((unhide hO).ext hx3)
  clear hR2 hO hx3
  go_wp2_with fail
  go_loopw [10] (fun i wr => ∃ k : Nat, k ≤ V.length ∧ i = .int .i64 k ∧ ApRel w wr g bv be gw V E A1 B1 cA cB ∧ IsG wr o ov oe (((turned V T).take k).foldl stV ([], [])).1 (((turned V T).take k).foldl stV ([], [])).2) (fun i _ => V.length - (intOf i).toNat)
  case atStart => exact ⟨0, Nat.zero_le _, rfl, unhide hR3, unhide hO3⟩
  case round =>
    obtain ⟨k, hk, rfl, hR, hO⟩ := hrel
    have hR' := hide hR
    have hO' := hide hO
    clear hR hO hR3 hO3
    by_cases hlt : k < V.length
    · have hjl := idx_lt (t := T) hlt
      have hlk := turned_get (t := T) hlt (by rw [turned_len]; exact hlt)
      have hj : ((V.length : Int) - 1 - k + T).tmod V.length = (idx V.length T k : Nat) := by
        rw [show (V.length : Int) - 1 - k + T = ((V.length - 1 - k + T : Nat) : Int) by omega]
        rfl
      have hst := hide (fold_step (st := stV) (l := turned V T) (s := (([], []) : GS)) (k := k) (by rw [turned_len]; exact hlt))
      have hfs := fe_at (any_orderV (unhide hi') (turned_perm V T)).2 (k := k) (by rw [turned_len]; exact hlt)
      have hst' := unhide hst
      rw [hlk] at hfs hst'
      generalize ((turned V T).take k).foldl stV ([], []) = S at *
      obtain ⟨OV, OE⟩ := S
      obtain ⟨b, off, rfl, c0, c1, c2⟩ := atV (unhide hR').sv hjl
      have hB := (unhide hR').blk
      have q0 := hB.cells 0 (v := .slice (some ⟨b, off, none⟩) V.length cA) rfl
      generalize hy : V[idx V.length T k] = y at c0 c1 c2 hfs hst'
      obtain ⟨u, lab, wt⟩ := y
      have hok := (unhide hi').okV V[idx V.length T k] (List.getElem_mem hjl)
      rw [hy] at hok
      have hok' := hide hok.1
      have hst2 := hide hst'
      have hno : wrongR 0 u 0 wt OV OE = 0 := hfs
      have hno' := hide hno
      have hj0 : (0 : Int) ≤ ((idx V.length T k : Nat) : Int) := by omega
      have hj1 : ((idx V.length T k : Nat) : Int) < (V.length : Int) := by omega
      clear hst hst' hlk hfs hno hok hy hB
      simp only at c0 c1 c2
      go_wp2_with fail
      have hVe : ¬ V = [] := by
        rintro rfl
        simp at hlt
      have w0 : IntKind.i64.wrap (T : Int) = (T : Int) := IntWalk.i64_in _ (by omega)
      have w1 : IntKind.i64.wrap ((V.length : Int) - 1) = (V.length : Int) - 1 := IntWalk.i64_in _ (by omega)
      have w2 : IntKind.i64.wrap ((V.length : Int) - 1 - k) = (V.length : Int) - 1 - k := IntWalk.i64_in _ (by omega)
      have w3 : IntKind.i64.wrap ((V.length : Int) - 1 - k + T) = (V.length : Int) - 1 - k + T := IntWalk.i64_in _ (by omega)
      refine wp_region_still (P := Try.prog) [0,1,2,3,4,5,6,7,8,9,10,11,12] [] 2 #[true,true,true,true,true,true,true,true,true,true,true,true,true,false,false] (by kernel_rfl) (by kernel_rfl) rfl (by rfl) ?_
      iterate 13
        refine ql_want (v := ?_) rfl (by rfl) (fun W hW => ?_) ?_
        rotate_left
        · go_simp
          first | done | rfl
        go_frame
      refine wpQL_nil (fun w4 hx4 => ?_)
      clear hVe w0 w1 w2 w3 q0 c0 c1 c2 hj hj0 hj1
      refine lx_one (i := 13) (by kernel_rfl) rfl (by rfl) #[true,true,true,true,true,true,true,true,true,true,true,true,true,true,false] (by rfl) ?_
      go_simp
      refine lx_one (i := 14) (by kernel_rfl) rfl (by rfl) #[true,true,true,true,true,true,true,true,true,true,true,true,true,true,true] (by rfl) ?_
      go_simp
      refine wpX_done (by kernel_rfl) ?_
      try go_frame
      have hR4 := hide (((unhide hR').go hx4).go (ext_self1 w4 (.cells #[.int .i64 u, .int .u8 lab, .int .i64 wt] 43)))
      have hO4 := hide (((unhide hO').ext hx4).ext (ext_self1 w4 (.cells #[.int .i64 u, .int .u8 lab, .int .i64 wt] 43)))
      clear hR' hO' hx4
      go_wp2_with fail
      refine (apply_any o ov oe OV OE 0 u 0 lab wt _ (unhide hO4) (unhide hok') (by unfold i64ok; omega)).mono ?_
      rw [unhide hno']
      rintro e w5 ⟨rfl, hg5, hk5⟩
      have hR5 := hide ((unhide hR4).other (unhide hO4) hk5 (unhide hov') (unhide hoe'))
      have hO5 := hide hg5
      clear hg5 hk5 hR4 hO4
      go_wp2_with fail
      go_roundw
      case rel => exact ⟨k + 1, by omega, by go_num, unhide hR5, by rw [unhide hst2]; exact unhide hO5⟩
      case measure => simp [intOf]; omega
    · have hkV : k = V.length := by omega
      subst hkV
      have hfin := (any_orderV (unhide hi') (turned_perm V T)).1
      have hO1 := unhide hO'
      rw [List.take_of_length_le (by rw [turned_len]; omega), hfin] at hO1
      have hO2 := hide hO1
      have hR2 := hide (unhide hR')
      clear hO1 hO' hR' hfin
      go_wp2_with fail
      rename World => wV
      go_loopw [12] (fun i wr => ∃ k : Nat, k ≤ E.length ∧ i = .int .i64 k ∧ ApRel w wr g bv be gw V E A1 B1 cA cB ∧ IsG wr o ov oe ((((turned E T).map swE).take k).foldl stE (V, [])).1 ((((turned E T).map swE).take k).foldl stE (V, [])).2) (fun i _ => E.length - (intOf i).toNat)
      case atStart => exact ⟨0, Nat.zero_le _, rfl, unhide hR2, unhide hO2⟩
      case round =>
        obtain ⟨k, hk, rfl, hR, hO⟩ := hrel
        have hR' := hide hR
        have hO' := hide hO
        clear hR hO hR2 hO2
        by_cases hlt : k < E.length
        · have hjl := idx_lt (t := T) hlt
          have hlk : ((turned E T).map swE)[k]'(by rw [List.length_map, turned_len]; exact hlt) = swE (E[idx E.length T k]'hjl) := by
            rw [List.getElem_map, turned_get (t := T) hlt (by rw [turned_len]; exact hlt)]
          have hj : ((E.length : Int) - 1 - k + T).tmod E.length = (idx E.length T k : Nat) := by
            unfold idx
            rw [show (E.length : Int) - 1 - k + T = ((E.length - 1 - k + T : Nat) : Int) by omega]
            rfl
          have hst' := fold_step (st := stE) (l := (turned E T).map swE) (s := ((V, []) : GS)) (k := k) (by rw [List.length_map, turned_len]; exact hlt)
          have hfs := fe_at (any_orderE (unhide hi') (turned_perm E T)).2 (k := k) (by rw [List.length_map, turned_len]; exact hlt)
          rw [hlk] at hfs hst'
          generalize (((turned E T).map swE).take k).foldl stE (V, []) = S at *
          obtain ⟨OV, OE⟩ := S
          obtain ⟨b, off, rfl, c0, c1, c2, c3⟩ := atE (unhide hR').se hjl
          have hB := (unhide hR').blk
          have q1 := hB.cells 1 (v := .slice (some ⟨b, off, none⟩) E.length cB) rfl
          generalize hy : E[idx E.length T k] = y at c0 c1 c2 c3 hfs hst'
          obtain ⟨⟨u, v⟩, ⟨lab, wt⟩⟩ := y
          have hok := (unhide hi').okE E[idx E.length T k] (List.getElem_mem hjl)
          rw [hy] at hok
          have hok' := hide hok.1
          have hok2 := hide hok.2.1
          have hst2 := hide hst'
          have hno : wrongR 2 v u wt OV OE = 0 := hfs
          have hno' := hide hno
          have hj0 : (0 : Int) ≤ ((idx E.length T k : Nat) : Int) := by omega
          have hj1 : ((idx E.length T k : Nat) : Int) < (E.length : Int) := by omega
          clear hst' hlk hfs hno hok hy hB
          simp only at c0 c1 c2 c3
          go_wp2_with fail
          have hVe : ¬ E = [] := by
            rintro rfl
            simp at hlt
          have w0 : IntKind.i64.wrap (T : Int) = (T : Int) := IntWalk.i64_in _ (by omega)
          have w1 : IntKind.i64.wrap ((E.length : Int) - 1) = (E.length : Int) - 1 := IntWalk.i64_in _ (by omega)
          have w2 : IntKind.i64.wrap ((E.length : Int) - 1 - k) = (E.length : Int) - 1 - k := IntWalk.i64_in _ (by omega)
          have w3 : IntKind.i64.wrap ((E.length : Int) - 1 - k + T) = (E.length : Int) - 1 - k + T := IntWalk.i64_in _ (by omega)
          refine wp_region_still (P := Try.prog) [0,1,2,3,4,5,6,7,8,9,10,11,12] [] 2 #[true,true,true,true,true,true,true,true,true,true,true,true,true,false,false] (by kernel_rfl) (by kernel_rfl) rfl (by rfl) ?_
          iterate 13
            refine ql_want (v := ?_) rfl (by rfl) (fun W hW => ?_) ?_
            rotate_left
            · go_simp
              first | done | rfl
            go_frame
          refine wpQL_nil (fun w4 hx4 => ?_)
          clear hVe w0 w1 w2 w3 q1 c0 c1 c2 c3 hj hj0 hj1
          refine lx_one (i := 13) (by kernel_rfl) rfl (by rfl) #[true,true,true,true,true,true,true,true,true,true,true,true,true,true,false] (by rfl) ?_
          go_simp
          refine lx_one (i := 14) (by kernel_rfl) rfl (by rfl) #[true,true,true,true,true,true,true,true,true,true,true,true,true,true,true] (by rfl) ?_
          go_simp
          refine wpX_done (by kernel_rfl) ?_
          try go_frame
          have hR4 := hide (((unhide hR').go hx4).go (ext_self1 w4 (.cells #[.int .i64 u, .int .i64 v, .int .u8 lab, .int .i64 wt] 46)))
          have hO4 := hide (((unhide hO').ext hx4).ext (ext_self1 w4 (.cells #[.int .i64 u, .int .i64 v, .int .u8 lab, .int .i64 wt] 46)))
          clear hR' hO' hx4
          go_wp2_with fail
          refine (apply_any o ov oe OV OE 2 v u lab wt _ (unhide hO4) (unhide hok2) (unhide hok')).mono ?_
          rw [unhide hno']
          rintro e w5 ⟨rfl, hg5, hk5⟩
          have hR5 := hide ((unhide hR4).other (unhide hO4) hk5 (unhide hov') (unhide hoe'))
          have hO5 := hide hg5
          clear hg5 hk5 hR4 hO4
          go_wp2_with fail
          go_roundw
          case rel => exact ⟨k + 1, by omega, by go_num, unhide hR5, by rw [unhide hst2]; exact unhide hO5⟩
          case measure => simp [intOf]; omega
        · have hkE : k = E.length := by omega
          subst hkE
          have hfin := (any_orderE (unhide hi') (turned_perm E T)).1
          have hO1 := unhide hO'
          rw [List.take_of_length_le (by rw [List.length_map, turned_len]; omega), hfin] at hO1
          simp only at hO1
          have hO2 := hide hO1
          have hB := (unhide hR').blk
          have q0 := hB.cells 0 (v := .slice A1 V.length cA) rfl
          have q1 := hB.cells 1 (v := .slice B1 E.length cB) rfl
          clear hO1 hO' hfin hB
          go_wp2_with fail
          refine wp_region_ext (P := Try.prog) [0,1,2,3,4,5,6,7,8,9,10,11,12,14] [] 4 #[true,true,true,true,true,true,true,true,true,true,true,true,true,false,true,false,false,false] (by kernel_rfl) (by kernel_rfl) rfl (by rfl) ?_
          iterate 4
            refine ql_want (v := ?_) rfl (by rfl) (fun W hW => ?_) ?_
            rotate_left
            · go_simp
              first | done | rfl | ((go_at_call 16; refine (known_any _).mono ?_; rintro _ _ ⟨h1, h2⟩; refine ⟨_, h1, ?_, h2⟩; rfl))
            go_frame
          iterate 1
            refine ql_want (v := ?_) rfl (by rfl) (fun W hW => ?_) ?_
            rotate_left
            · go_simp
              first | done | rfl | ((go_at_call 21; refine (equal_self _ _ _ _ _ _ V E _ ((unhide hO2).ext hW) ((unhide hR').isg.ext hW)).mono ?_; rintro _ _ ⟨h1, h2⟩; refine ⟨_, h1, ?_, h2⟩; rfl))
            go_frame
          iterate 4
            refine ql_want (v := ?_) rfl (by rfl) (fun W hW => ?_) ?_
            rotate_left
            · go_simp
              first | done | rfl
            go_frame
          iterate 1
            refine ql_want (v := ?_) rfl (by rfl) (fun W hW => ?_) ?_
            rotate_left
            · go_simp
              first | done | rfl | ((go_at_call 21; refine (equal_self _ _ _ _ _ _ V E _ ((unhide hR').isg.ext hW) ((unhide hO2).ext hW)).mono ?_; rintro _ _ ⟨h1, h2⟩; refine ⟨_, h1, ?_, h2⟩; rfl))
            go_frame
          iterate 4
            refine ql_want (v := ?_) rfl (by rfl) (fun W hW => ?_) ?_
            rotate_left
            · go_simp
              first | done | rfl
            go_frame
          refine wpQL_nil (fun w6 hx6 => ?_)
          clear q0 q1
          refine lx_one (i := 13) (by kernel_rfl) rfl (by rfl) #[true,true,true,true,true,true,true,true,true,true,true,true,true,true,true,false,false,false] (by rfl) ?_
          go_simp
          refine (to_rel o ov oe V E _ ((unhide hO2).ext hx6)).mono ?_
          rintro e w7 ⟨A4, c4, B4, d4, rfl, hs7, he7, hx7⟩
          refine ⟨_, rfl, hx6.trans hx7, fun w8 hx8 => ?_⟩
          have hs8 := hide (hs7.ext hx8)
          have he8 := hide (he7.ext hx8)
          have hx68 := (hx6.trans hx7).trans hx8
          have hR8 := hide ((unhide hR').go hx68)
          clear hs7 he7
          refine lx_ext [15,16,17] [] 0 3 #[true,true,true,true,true,true,true,true,true,true,true,true,true,true,true,false,false,false] #[true,true,true,true,true,true,true,true,true,true,true,true,true,true,true,true,true,true] (by kernel_rfl) rfl (by rfl) hx68 ?_
          clear hx6 hx7 hx8
          iterate 3
            refine ql_want (v := ?_) rfl (by rfl) (fun W hW => ?_) ?_
            rotate_left
            · go_simp
              first | done | rfl | ((go_at_call 14; refine (same_refl A4 B4 A1 B1 V E c4 d4 cA cB _ ((unhide hs8).ext hW) ((unhide he8).ext hW) ((unhide hR8).sv.ext hW) ((unhide hR8).se.ext hW) (by omega) (by omega)).mono ?_; rintro _ _ ⟨h1, h2⟩; refine ⟨_, h1, ?_, h2⟩; rfl))
            go_frame
          refine wpQL_nil (fun w9 hx9 => ?_)
          refine wpX_done (by kernel_rfl) ?_
          try go_frame
          go_wp2_with fail
          go_ret
          exact ⟨rfl, (unhide hR8).ext.trans hx9⟩
end Go.Proofs.Ytdkhondfahebnaa
