/- Every input makes the law EliminationSteps answer true, and each argument reads behind the call as it read before: the given card, tied to the program's text. No condition. -/
import Derived.Test.YtjehhilijeajnaaGreatDoorC11
import Derived.Test.YtjehhilijeajnaaGreatDoorC10
import Derived.Test.YtjehhilijeajnaaGreatDoorCards
import Derived.Test.YtjehhilijeajnaaGreatDoorTie
import Derived.WalkKit
import Derived.ProofKit
import Derived.OpenShut
import Derived.ShutString
import Derived.ChangeOld
import Derived.Below
import Derived.SevenTiedAt
/- EliminationSteps: every input makes the law answer true: the walk. Conditions: see each theorem. -/
namespace Go.Proofs.YtjehhilijeajnaaGreatDoor
open Go Go.RowKit
attribute [local go_sem] qUpon lUpon

set_option maxRecDepth 100000 in
set_option maxHeartbeats 8000000 in
theorem eliminationSteps_walk (A0 : Option Addr) (D : List Ed) (cD : Nat) (A1 : Option Addr) (Bs : List Int) (cT : Nat) (w : World) (hD : SlAt encD 5 w A0 D) (hB : SlAt encU8 1 w A1 Bs) (hb : ∀ x ∈ Bs, 0 ≤ x ∧ x < 256) (hBl : Bs.length ≤ 9223372036854775807) (hT : Tab w) :
    Calls Tryz.prog 4 #[.slice A0 D.length cD, .slice A1 Bs.length cT] w fun e w' => e = .returned (.bool true) ∧ Ext w w' := by
  have hT' := hide hT
  have hmi := mdS_inv D
  have hml := mdS_len D
  have hbg := begun_any A0 D cD A1 Bs cT w hD hB hb hBl
  clear hT hD hB hb
  generalize mdS D = S at *
  obtain ⟨V, E⟩ := S
  simp only at hmi hml hbg
  have hbg' := hide hbg
  have hi' := hide hmi
  clear hbg
  go_enter Tryz.func4, Tryz.ntmps4
  go_wp2_with fail
  refine (unhide hbg').mono ?_
  rintro e w1 ⟨g, bv, be, A, B, cA, cB, C, L, cL, rfl, hg1, hV1, hE1, hL1, hord1, hx1, _, _, _⟩
  have hck := ord_check hord1 (hord1.len hmi)
  have hl : L.length ≤ 100 := by rw [hord1.len hmi]; omega
  have hnE : E.length ≤ 4096 := Nat.le_trans hmi.ne (by omega)
  have hck' := hide hck
  have hord := hide hord1
  have hB1 := hide (Blk.new w1 28 #[.slice A V.length cA, .slice B E.length cB])
  have hxa := ext_self1 w1 (.cells #[.slice A V.length cA, .slice B E.length cB] 28)
  have hg2 := hide (hg1.ext hxa)
  have hV2 := hide (hV1.ext hxa)
  have hE2 := hide (hE1.ext hxa)
  have hL2 := hide (hL1.ext hxa)
  have hx2 := hide (hx1.trans hxa)
  clear hg1 hV1 hE1 hL1 hord1 hx1 hxa hck hmi hbg'
  go_wp2_with fail
  generalize w1.alloc (.cells #[.slice A V.length cA, .slice B E.length cB] 28) = w2 at *
  generalize w1.heap.size = gw at *
  have hsl := hide (show (stepsK E L L.length).length = L.length by simp [stepsK])
  have hnl := hide (show (neasR E L L.length).length = L.length by simp [neasR])
  have hwe := hide (wid_eq (unhide hi') (unhide hord))
  have hfe := hide (comR_eq (unhide hi') (unhide hord))
  obtain ⟨F, hF⟩ : ∃ F, fillS (comeK E L L.length) = F := ⟨_, rfl⟩
  obtain ⟨nw, hnw⟩ : ∃ nw, widK E L L.length = nw := ⟨_, rfl⟩
  have hFn : F.length ≤ 5000 := by rw [← hF]; exact comeF_few (unhide hi') (unhide hord) hl
  replace hF := hide hF
  replace hnw := hide hnw
  have hFl := hide (show (F.map edgeP).length = F.length by simp)
  have hT2 := hide ((unhide hT').ext (unhide hx2))
  have hB2 := hB1
  have hx2' := hx2
  clear hx2 hT' hB1
  refine (steps_ok C L cL g bv be V E w2 (unhide hL2) (by omega) (unhide hg2) (unhide hT2) (unhide hck')).mono ?_
  rw [unhide hsl]
  rintro e w3 ⟨As, cs, rfl, hss, hx⟩
  have hss3 := hide (hss)
  have hL3 := hide ((unhide hL2).ext hx)
  have hg3 := hide ((unhide hg2).ext hx)
  have hV3 := hide ((unhide hV2).ext hx)
  have hE3 := hide ((unhide hE2).ext hx)
  have hB3 := hide ((unhide hB2).ext hx)
  have hT3 := hide ((unhide hT2).ext hx)
  have hx3' := hide ((unhide hx2').trans hx)
  clear hL2 hg2 hV2 hE2 hB2 hT2
  clear hx hx2'
  go_wp2_with fail
  refine (width_ok C L cL g bv be V E w3 (unhide hL3) (by omega) (unhide hg3) (unhide hT3) (unhide hck')).mono ?_
  rw [unhide hnw]
  rintro e w4 ⟨rfl, hx⟩
  have hL4 := hide ((unhide hL3).ext hx)
  have hg4 := hide ((unhide hg3).ext hx)
  have hV4 := hide ((unhide hV3).ext hx)
  have hE4 := hide ((unhide hE3).ext hx)
  have hB4 := hide ((unhide hB3).ext hx)
  have hT4 := hide ((unhide hT3).ext hx)
  have hss4 := hide ((unhide hss3).ext hx)
  have hx4' := hide ((unhide hx3').trans hx)
  clear hL3 hg3 hV3 hE3 hB3 hT3 hss3
  clear hx hx3'
  go_wp2_with fail
  refine (fill_ok C L cL g bv be V E w4 (unhide hL4) (by omega) (unhide hg4) (unhide hT4) (unhide hck')).mono ?_
  rw [unhide hF, unhide hFl]
  rintro e w5 ⟨Af, cf, rfl, hof, hx⟩
  have hsf5 := hide (own_at (enc := encE) (own_n (m := (F.map edgeP).length) hof (unhide hFl)) (fun _ => rfl))
  have hL5 := hide ((unhide hL4).ext hx)
  have hg5 := hide ((unhide hg4).ext hx)
  have hV5 := hide ((unhide hV4).ext hx)
  have hE5 := hide ((unhide hE4).ext hx)
  have hB5 := hide ((unhide hB4).ext hx)
  have hT5 := hide ((unhide hT4).ext hx)
  have hss5 := hide ((unhide hss4).ext hx)
  have hx5' := hide ((unhide hx4').trans hx)
  clear hL4 hg4 hV4 hE4 hB4 hT4 hss4
  clear hx hx4'
  clear hof
  have q0 := (unhide hB5).cells 0 (v := .slice A V.length cA) rfl
  have q1 := (unhide hB5).cells 1 (v := .slice B E.length cB) rfl
  have hself := Ext.refl w5
  go_wp2_with fail
  refine (near21_any A B V E cA cB C L cL w5 (unhide hE5) hnE (unhide hL5) hl).mono ?_
  rintro e w6 ⟨An, cn, Am, cm, vs, rfl, hsn, hsv, hsm, hx⟩
  have hsn6 := hide (hsn)
  have hsv6 := hide (hsv)
  have hL6 := hide ((unhide hL5).ext hx)
  have hg6 := hide ((unhide hg5).ext hx)
  have hV6 := hide ((unhide hV5).ext hx)
  have hE6 := hide ((unhide hE5).ext hx)
  have hB6 := hide ((unhide hB5).ext hx)
  have hT6 := hide ((unhide hT5).ext hx)
  have hss6 := hide ((unhide hss5).ext hx)
  have hsf6 := hide ((unhide hsf5).ext hx)
  have hx6' := hide ((unhide hx5').trans hx)
  clear hL5 hg5 hV5 hE5 hB5 hT5 hss5 hsf5
  clear hx hx5'
  rw [unhide hnl]
  clear hsn hsv hsm q0 q1 hself
  have q0 := (unhide hB6).cells 0 (v := .slice A V.length cA) rfl
  have q1 := (unhide hB6).cells 1 (v := .slice B E.length cB) rfl
  have hself := Ext.refl w6
  go_wp2_with fail
  refine (fill21_any A B V E cA cB C L cL w6 (unhide hE6) hnE (unhide hL6) hl).mono ?_
  rw [unhide hfe, unhide hF]
  rintro e w7 ⟨Aw, cw, rfl, hsw, hx⟩
  have hsw7 := hide (hsw)
  have hL7 := hide ((unhide hL6).ext hx)
  have hg7 := hide ((unhide hg6).ext hx)
  have hV7 := hide ((unhide hV6).ext hx)
  have hE7 := hide ((unhide hE6).ext hx)
  have hB7 := hide ((unhide hB6).ext hx)
  have hT7 := hide ((unhide hT6).ext hx)
  have hss7 := hide ((unhide hss6).ext hx)
  have hsf7 := hide ((unhide hsf6).ext hx)
  have hsn7 := hide ((unhide hsn6).ext hx)
  have hsv7 := hide ((unhide hsv6).ext hx)
  have hx7' := hide ((unhide hx6').trans hx)
  clear hL6 hg6 hV6 hE6 hB6 hT6 hss6 hsf6 hsn6 hsv6
  clear hx hx6'
  clear q0 q1 hself
  have q0 := (unhide hB7).cells 0 (v := .slice A V.length cA) rfl
  have q1 := (unhide hB7).cells 1 (v := .slice B E.length cB) rfl
  have hself := Ext.refl w7
  go_wp2_with fail
  refine (width21_any A B V E cA cB C L cL w7 (unhide hE7) hnE (unhide hL7) hl).mono ?_
  rw [unhide hwe, unhide hnw]
  rintro e w8 ⟨rfl, hx⟩
  have hL8 := hide ((unhide hL7).ext hx)
  have hg8 := hide ((unhide hg7).ext hx)
  have hV8 := hide ((unhide hV7).ext hx)
  have hE8 := hide ((unhide hE7).ext hx)
  have hB8 := hide ((unhide hB7).ext hx)
  have hT8 := hide ((unhide hT7).ext hx)
  have hss8 := hide ((unhide hss7).ext hx)
  have hsf8 := hide ((unhide hsf7).ext hx)
  have hsn8 := hide ((unhide hsn7).ext hx)
  have hsv8 := hide ((unhide hsv7).ext hx)
  have hsw8 := hide ((unhide hsw7).ext hx)
  have hx8' := hide ((unhide hx7').trans hx)
  clear hL7 hg7 hV7 hE7 hB7 hT7 hss7 hsf7 hsn7 hsv7 hsw7
  clear hx hx7'
  clear q0 q1 hself
  go_wp2_with fail
  go_loopw [17] (fun iv wr => ∃ k : Nat, k ≤ L.length ∧ iv = .int .i64 k ∧ Ext w8 wr) (fun iv _ => L.length - (intOf iv).toNat)
  case atStart => exact ⟨0, Nat.zero_le _, rfl, Ext.refl _⟩
  case round =>
    obtain ⟨k, hk, rfl, hx⟩ := hrel
    have hx' := hide hx
    clear hx
    by_cases hlt : k < L.length
    · have hks : k < (stepsK E L L.length).length := by rw [unhide hsl]; exact hlt
      have hkn : k < (neasR E L L.length).length := by rw [unhide hnl]; exact hlt
      have hgs : (stepsK E L L.length)[k] = (L[k], sAt E L k) := by simp [stepsK, hlt]
      have hgn : (neasR E L L.length)[k] = neaR E L k := by simp [neasR]
      obtain ⟨b1, o1, rfl, hc1⟩ := ((unhide hss8).ext (unhide hx')).at_ hks
      obtain ⟨b2, o2, A2, c2, rfl, d0, hd⟩ := atSls ((unhide hsn8).ext (unhide hx')) ((unhide hsv8).ext (unhide hx')) hkn
      obtain ⟨b3, o3, rfl, e0⟩ := atI ((unhide hL8).ext (unhide hx')) hlt
      rw [hgs] at hc1
      rw [hgn] at d0 hd
      have heq := hide (from_sAt (unhide hi') (unhide hord) hlt)
      have hnl4 := hide (show (neaR E L k).length ≤ 4096 by rw [neaR_eq (unhide hi') (unhide hord) hlt]; exact Nat.le_trans (toL_le _) (by omega))
      generalize hs : sAt E L k = s at *
      generalize hN : neaR E L k = N at *
      generalize hx0 : L[k] = x at *
      have c0 := hc1 0 (.int .i64 x) rfl
      rw [Nat.add_zero] at c0
      have c1 : ∀ W, Ext wr W → ∀ (j : Nat) v, (setC s)[j]? = some v → W.cell? ⟨b1, o1 + k * 17 + 1 + j, none⟩ = some v := fun W hW j v hv => by
        have := hc1 (1 + j) v (by have h := stepC_set x s j v hv; unfold encSt; simpa using h) W hW
        rw [show o1 + k * 17 + 1 + j = o1 + k * 17 + (1 + j) by omega]
        exact this
      replace c1 := hide c1
      have hd' := hide hd
      have hself := Ext.refl wr
      clear hgs hgn hks hkn hs hN hx0 hc1 hd
      go_wp2_with fail
      refine wp_region_ext (P := Tryz.prog) [0,1,2,3,4,5,6,7,8,9,10,11,12,13,14,15,16,17,18,19,20,21,22] [] 0 #[true,true,true,true,true,true,true,true,true,true,true,true,true,true,true,true,true,true,true,true,true,true,true] (by kernel_rfl) (by kernel_rfl) rfl (by rfl) ?_
      iterate 15
        refine ql_want (v := ?_) rfl (by rfl) (fun W hW => ?_) ?_
        rotate_left
        · go_simp
          first | done | rfl
        go_frame
      refine ql_want (v := .agg (setC s)) rfl (by rfl) (fun W hW => qUpon_of (load_SetR rfl (by rfl) (unhide c1 W hW))) ?_
      go_frame
      iterate 5
        refine ql_want (v := ?_) rfl (by rfl) (fun W hW => ?_) ?_
        rotate_left
        · go_simp
          first | done | rfl | (go_at_call 24; refine (from01_any A2 N c2 _ ((unhide hd').ext (by assumption)) (unhide hnl4)).mono ?_; rintro _ _ ⟨h1, h2⟩; refine ⟨_, h1, ?_, h2⟩; rfl)
        go_frame
      refine ql_want (v := .bool (!eqS s (fromS N))) rfl (by rfl) (fun W hW => qUpon_of (run_neq_Set rfl (by rfl) (by rfl))) ?_
      rw [unhide heq]
      go_frame
      iterate 1
        refine ql_want (v := ?_) rfl (by rfl) (fun W hW => ?_) ?_
        rotate_left
        · go_simp
          first | done | rfl
        go_frame
      refine wpQL_nil (fun w9 hx9 => ?_)
      refine wpX_done (by kernel_rfl) ?_
      try go_frame
      have hx9' := hide ((unhide hx').trans hx9)
      clear hx9 hx'
      go_wp2_with fail
      go_roundw
      case rel => exact ⟨k + 1, by omega, by go_num, unhide hx9'⟩
      case measure => simp [intOf]; omega
    · have hke : k = L.length := by omega
      subst hke
      generalize wr = w9 at *
      have hx := unhide hx'
      clear hx'
      have hL9 := hide ((unhide hL8).ext hx)
      have hg9 := hide ((unhide hg8).ext hx)
      have hV9 := hide ((unhide hV8).ext hx)
      have hE9 := hide ((unhide hE8).ext hx)
      have hB9 := hide ((unhide hB8).ext hx)
      have hT9 := hide ((unhide hT8).ext hx)
      have hss9 := hide ((unhide hss8).ext hx)
      have hsf9 := hide ((unhide hsf8).ext hx)
      have hsn9 := hide ((unhide hsn8).ext hx)
      have hsv9 := hide ((unhide hsv8).ext hx)
      have hsw9 := hide ((unhide hsw8).ext hx)
      have hx9' := hide ((unhide hx8').trans hx)
      clear hL8 hg8 hV8 hE8 hB8 hT8 hss8 hsf8 hsn8 hsv8 hsw8
      clear hx hx8'
      go_wp2_with fail
      go_loopw [18] (fun iv wr => ∃ k : Nat, k ≤ F.length ∧ iv = .int .i64 k ∧ Ext w9 wr) (fun iv _ => F.length - (intOf iv).toNat)
      case atStart => exact ⟨0, Nat.zero_le _, rfl, Ext.refl _⟩
      case round =>
        obtain ⟨k, hk, rfl, hx⟩ := hrel
        have hx' := hide hx
        clear hx
        by_cases hlt : k < F.length
        · have hkf : k < (F.map edgeP).length := by rw [List.length_map]; exact hlt
          obtain ⟨b1, o1, rfl, c0, c1, c2, c3⟩ := atE ((unhide hsf9).ext (unhide hx')) hkf
          obtain ⟨b2, o2, rfl, d0, d1⟩ := atP ((unhide hsw9).ext (unhide hx')) hlt
          have hge : (F.map edgeP)[k] = edgeP F[k] := by simp
          rw [hge] at c0 c1 c2 c3
          generalize F[k] = p at *
          obtain ⟨pu, pv⟩ := p
          simp only [edgeP] at c0 c1 c2 c3 d0 d1
          have hself := Ext.refl wr
          clear hge hkf
          go_wp2_with fail
          refine wp_region_ext (P := Tryz.prog) [0,1,2,3,4,5,6,7,8,9,10,11,12,13,14,15] [] 0 #[true,true,true,true,true,true,true,true,true,true,true,true,true,true,true,true] (by kernel_rfl) (by kernel_rfl) rfl (by rfl) ?_
          iterate 16
            refine ql_want (v := ?_) rfl (by rfl) (fun W hW => ?_) ?_
            rotate_left
            · go_simp
              first | done | rfl
            go_frame
          refine wpQL_nil (fun wz hxz => ?_)
          refine wpX_done (by kernel_rfl) ?_
          try go_frame
          go_wp2_with fail
          go_roundw
          case rel => exact ⟨k + 1, by omega, by go_num, (unhide hx').trans hxz⟩
          case measure => simp [intOf]; omega
        · have hke : k = F.length := by omega
          subst hke
          have hx := unhide hx'
          clear hx'
          have hL10 := hide ((unhide hL9).ext hx)
          have hg10 := hide ((unhide hg9).ext hx)
          have hV10 := hide ((unhide hV9).ext hx)
          have hE10 := hide ((unhide hE9).ext hx)
          have hB10 := hide ((unhide hB9).ext hx)
          have hT10 := hide ((unhide hT9).ext hx)
          have hss10 := hide ((unhide hss9).ext hx)
          have hsf10 := hide ((unhide hsf9).ext hx)
          have hsn10 := hide ((unhide hsn9).ext hx)
          have hsv10 := hide ((unhide hsv9).ext hx)
          have hswr := hide ((unhide hsw9).ext hx)
          have hx10' := hide ((unhide hx9').trans hx)
          clear hL9 hg9 hV9 hE9 hB9 hT9 hss9 hsf9 hsn9 hsv9 hsw9
          clear hx hx9'
          have q0 := (unhide hB10).cells 0 (v := .slice A V.length cA) rfl
          have q1 := (unhide hB10).cells 1 (v := .slice B E.length cB) rfl
          have hself := Ext.refl wr
          go_wp2_with fail
          refine wp_region_ext (P := Tryz.prog) [0,1,2,4] [] 4 #[true,true,true,false,true,false,false,false] (by kernel_rfl) (by kernel_rfl) rfl (by rfl) ?_
          iterate 4
            first
            | (refine ql_skip rfl (by rfl) ?_)
            | (refine ql_want (v := ?_) rfl (by rfl) (fun W hW => ?_) ?_; rotate_left; (go_simp; (first | done | rfl | (go_at_call 14; refine (known21_any _ ((unhide hT10).ext (by assumption))).mono ?_; rintro _ _ ⟨h1, h2⟩; refine ⟨_, h1, ?_, h2⟩; rfl))))
            try go_frame
          refine wpQL_nil (fun wa hxa => ?_)
          refine lx_one (i := 3) (by kernel_rfl) rfl (by rfl) #[true,true,true,true,true,false,false,false] (by rfl) ?_
          go_simp
          refine (to_rel g bv be V E _ ((unhide hg10).ext hxa)).mono ?_
          rintro e wb ⟨A7, c7, B7, d7, rfl, hs7, he7, hxb⟩
          refine ⟨_, rfl, ?_, fun wc hxc => ?_⟩
          · first | exact hxa.trans hxb | exact fun _ => hxa.trans hxb
          have hs8 := hide (hs7.ext hxc)
          have he8 := hide (he7.ext hxc)
          have hxd := (hxa.trans hxb).trans hxc
          have hsV := hide ((unhide hV10).ext hxd)
          have hsE := hide ((unhide hE10).ext hxd)
          have hxd' := hide hxd
          have hi3 := unhide hi'
          have hVl := hide (show V.length ≤ 4096 by omega)
          clear hs7 he7 q0 q1 hself hi3
          refine lx_ext [5,6,7] [] 0 3 #[true,true,true,true,true,false,false,false] #[true,true,true,true,true,true,true,true] (by kernel_rfl) rfl (by rfl) hxd ?_
          clear hxa hxb hxc hxd
          iterate 3
            first
            | (refine ql_skip rfl (by rfl) ?_)
            | (refine ql_want (v := ?_) rfl (by rfl) (fun W hW => ?_) ?_; rotate_left; (go_simp; (first | done | rfl | (go_at_call 25; refine (same_refl A7 B7 A B V E _ _ _ _ _ ((unhide hs8).ext (by assumption)) ((unhide he8).ext (by assumption)) ((unhide hsV).ext (by assumption)) ((unhide hsE).ext (by assumption)) (unhide hVl) hnE).mono ?_; rintro _ _ ⟨h1, h2⟩; refine ⟨_, h1, ?_, h2⟩; rfl))))
            try go_frame
          refine wpQL_nil (fun wz hxe => ?_)
          refine wpX_done (by kernel_rfl) ?_
          try go_frame
          have hxz := hide (((unhide hx10').trans (unhide hxd')).trans hxe)
          clear hxe
          go_wp2_with fail
          go_ret
          exact ⟨rfl, unhide hxz⟩
end Go.Proofs.YtjehhilijeajnaaGreatDoor
/- Every input makes the law EliminationSteps answer true, and each argument reads behind the call as it read before: the given card, tied to the program's text. No condition. -/
namespace Go.Proofs.YtjehhilijeajnaaGreatDoor.eliminationStepsRow
open Go.ChangeShapes Go.WideShapes Go.ChangeAt Go.RowKit
set_option linter.unusedVariables false

theorem own : ownKnob Tryz.prog.godebug = none := by kernel_rfl
theorem laidOut : laidOutB Tryz.prog = true := by kernel_rfl
theorem door_met (os : Os) (args : Array Value) : laidMetH Tryz.prog laidL ((World.doorLaid Tryz.prog 400 os).forCall (fun _ _ => 0) ⟨#[], args, []⟩).memory :=
  laidMetH_of_parts3 (fuel := 8) (laidMet_of_run' 8 (by kernel_rfl) (by kernel_rfl)) (by kernel_rfl) (by kernel_rfl)

set_option maxRecDepth 100000 in
theorem lifted (os : Os) (started : os.Started) (H : Type) (enc : TypeId × Value → H) :
    ReturnsInHanded {} Tryz.checked os 4 .any (fun w args => (Rows.eliminationStepsSpec.pre enc Tryz.prog Tryz.f4 [] false w args ∧ laidMetH Tryz.prog laidL w) ∧ sizedMet enc Tryz.prog Tryz.f4 (OpenSpec.ofChange Rows.eliminationStepsSpec) false w args)
      (Rows.eliminationStepsSpec.post enc Tryz.prog Tryz.f4 false true false false) := by
  refine returnsInHanded_of_change_and (C := Tryz.checked) (X := fun w _ => laidMetH Tryz.prog laidL w) (fun _ _ _ hh h => h.of_heap hh) own started (by kernel_rfl) Tryz.func4
    (ChangeSpec.witness_shaped (enc := enc) (C := Tryz.checked) (os := os) (X := fun w _ => laidMetH Tryz.prog laidL w) false (World.doorLaid Tryz.prog 400 os) #[.slice none 0 0, .slice none 0 0] 8 rfl (World.shaped_of_RefB (by kernel_rfl) (by kernel_rfl)) (by kernel_rfl) (by kernel_rfl) (by kernel_rfl) (door_met os _)) ?_
  intro W base args ds gs before hval0 hW _ _ hL _
  have hval : ∀ (j : Nat) t v, Tryz.f4.params[j]? = some t → args[j]? = some v → Value.okWide Tryz.prog W .any base t v := hval0
  have hW' := hW
  obtain ⟨p, q, hA0, hV, rfl, hfz, hnd⟩ := hW
  have hA : DataW.TrodAll enc Tryz.prog W 0 (fun _ => true) true Tryz.f4.params.toList args.toList ds p := hA0
  rw [Tryz.params4] at hA hval
  obtain ⟨v0, vs0, d0, ds0, p0, q0, hargs, rfl, rfl, h0, r0⟩ := trodAll_cons hA
  obtain ⟨v1, vs1, d1, ds1, p1, q1, rfl, rfl, rfl, h1, r1⟩ := trodAll_cons r0
  obtain ⟨rfl, rfl, rfl⟩ := trodAll_nil r1
  obtain rfl : args = #[v0, v1] := by cases args; simp_all
  obtain ⟨rfl, rfl⟩ := trodVars_none hV
  obtain ⟨a0, len0, cap0, rfl⟩ := okWide_slice Tryz.underlying22 (hval 0 22 v0 rfl rfl)
  have k0 := h0
  have lt0 : ∀ x ∈ p0, x.block < W.heap.size := by obtain ⟨m, hm⟩ := k0; exact DataW.trod_lt m _ _ _ hm
  obtain ⟨fu0, hf0⟩ := h0
  obtain ⟨L0, hn0, hs0, ho0, hm0, hz0⟩ := open_edits (by simpa [Value.cells] using hf0)
  subst hn0
  obtain ⟨a1, len1, cap1, rfl⟩ := okWide_slice Tryz.underlying23 (hval 1 23 v1 rfl rfl)
  have k1 := h1
  have lt1 : ∀ x ∈ p1, x.block < W.heap.size := by obtain ⟨m, hm⟩ := k1; exact DataW.trod_lt m _ _ _ hm
  obtain ⟨fu1, hf1⟩ := h1
  obtain ⟨L1, hn1, hs1, ho1, hm1, hz1⟩ := open_bytes (by simpa [Value.cells] using hf1)
  subst hn1
  clear hA0 hval0
  refine (eliminationSteps_walk a0 L0 cap0 a1 L1 cap1 W hs0 hs1 ho1 hm1 (tab_of_laid hL)).mono fun e W' ⟨he, bel⟩ => ?_
  subst he
  exact ⟨_, rfl, _, _, _, [], _, [], hW', trodAll_mk1 (shut_bool Tryz.underlying4 _), (trodAll_cons_mk (Below.trod laidOut (by kernel_rfl) (of_decide_eq_true (by kernel_rfl)) k0 bel lt0) (trodAll_cons_mk (Below.trod laidOut (by kernel_rfl) (of_decide_eq_true (by kernel_rfl)) k1 bel lt1) trodAll_mk0)), rfl, bel.frame _, fun h => by cases h⟩

theorem over : Rows.eliminationStepsRow.holds Tryz.pinned (OpenSpec.ofChange Rows.eliminationStepsSpec) :=
  OpenClaim.holds_of_wide 4 Tryz.f4 rfl rfl rfl rfl rfl rfl rfl ⟨rfl, rfl, rfl, rfl, rfl⟩ rfl rfl rfl rfl rfl (by kernel_rfl) Tryz.func4 (by kernel_rfl)
    (of_decide_eq_true (by kernel_rfl)) (by unfold Func.isWrapper; first | (rw [if_pos (by decide +kernel)]; kernel_rfl) | (rw [if_neg (by decide +kernel)]; exact ⟨rfl, rfl⟩))
    (fun os started H enc _ => lifted os started H enc)
end Go.Proofs.YtjehhilijeajnaaGreatDoor.eliminationStepsRow
namespace Go.Proofs.YtjehhilijeajnaaGreatDoor
open Go
/-- the given statement -/
theorem eliminationSteps_holds : Rows.EliminationStepsCardSaid :=
  Claim7.holds_tied_plain_at .later [] [.data] true (true, "0ceec30d3f7ff7f423cc43cb0ed385367f6dd2ec832c5276d81adf283899bfa9") true
    eliminationStepsRow.over (fun _ h => by cases h) (by kernel_rfl) (fun _ h => by cases h) eliminationSteps_row_tie rfl ⟨rfl, rfl⟩ (by kernel_rfl) rfl
    (fun f fn hf hfn => by
      obtain rfl : f = 4 := Option.some.inj ((show Tryz.prog.funcNamed "palmette/palmettelaw21.EliminationSteps" = some 4 by kernel_rfl).symm.trans hf) |>.symm
      obtain rfl : fn = Tryz.f4 := (Option.some.inj (Tryz.func4.symm.trans hfn)).symm
      exact ⟨by kernel_rfl, fun j t ht => by
        rw [Tryz.params4] at ht
        have h3 : t = 22 ∨ t = 23 := by
          rcases j with _ | _ | j
          · simp at ht; simp [ht]
          · simp at ht; simp [ht]
          · simp at ht
        rcases h3 with rfl | rfl
        · exact (show Tryz.prog.wantsStandIn 22 = false by kernel_rfl)
        · exact (show Tryz.prog.wantsStandIn 23 = false by kernel_rfl)⟩)
    (by kernel_rfl)
#print axioms eliminationSteps_holds
end Go.Proofs.YtjehhilijeajnaaGreatDoor
