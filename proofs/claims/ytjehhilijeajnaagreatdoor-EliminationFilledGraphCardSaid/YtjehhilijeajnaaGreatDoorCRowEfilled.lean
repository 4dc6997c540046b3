/- Every input makes the law EliminationFilledGraph answer true, and each argument reads behind the call as it read before: the given card, tied to the program's text. No condition. -/
import Derived.Test.YtjehhilijeajnaaGreatDoorC10
import Derived.Test.YtjehhilijeajnaaGreatDoorC11
import Derived.Test.YtjehhilijeajnaaGreatDoorCards
import Derived.Test.YtjehhilijeajnaaGreatDoorTie
import Derived.WalkKit
import Derived.ProofKit
import Derived.OpenShut
import Derived.ShutString
import Derived.ChangeOld
import Derived.Below
import Derived.SevenTiedAt
/- EliminationFilledGraph: every input makes the law answer true: the walk. Conditions: see each theorem. -/
namespace Go.Proofs.YtjehhilijeajnaaGreatDoor
open Go Go.RowKit
attribute [local go_sem] qUpon lUpon

set_option maxRecDepth 100000 in
set_option maxHeartbeats 16000000 in
theorem eliminationFilledGraph_walk (A0 : Option Addr) (D : List Ed) (cD : Nat) (A1 : Option Addr) (Bs : List Int) (cT : Nat) (w : World) (hD : SlAt encD 5 w A0 D) (hB : SlAt encU8 1 w A1 Bs) (hb : ∀ x ∈ Bs, 0 ≤ x ∧ x < 256) (hBl : Bs.length ≤ 9223372036854775807) (hT : Tab w) :
    Calls Tryz.prog 8 #[.slice A0 D.length cD, .slice A1 Bs.length cT] w fun e w' => e = .returned (.bool true) ∧ Ext w w' := by
  have hT' := hide hT
  have hmi := mdS_inv D
  have hml := mdS_len D
  have hbg := begun_any A0 D cD A1 Bs cT w hD hB hb hBl
  clear hT hD hB hb
  generalize mdS D = S at *
  obtain ⟨V, E⟩ := S
  simp only at hmi hml hbg
  have hbg' := hide hbg
  have hi' := hide hmi
  clear hbg
  go_enter Tryz.func8, Tryz.ntmps8
  go_wp2_with fail
  refine (unhide hbg').mono ?_
  rintro e w1 ⟨g, bv, be, A, B, cA, cB, C, L, cL, rfl, hg1, hV1, hE1, hL1, hord1, hx1, _, _, _⟩
  have hck := ord_check hord1 (hord1.len hmi)
  have hl : L.length ≤ 100 := by rw [hord1.len hmi]; omega
  have hnE : E.length ≤ 4096 := Nat.le_trans hmi.ne (by omega)
  have hck' := hide hck
  have hord := hide hord1
  have hB1 := hide (Blk.new w1 28 #[.slice A V.length cA, .slice B E.length cB])
  have hxa := ext_self1 w1 (.cells #[.slice A V.length cA, .slice B E.length cB] 28)
  have hg2 := hide (hg1.ext hxa)
  have hV2 := hide (hV1.ext hxa)
  have hE2 := hide (hE1.ext hxa)
  have hL2 := hide (hL1.ext hxa)
  have hx2 := hide (hx1.trans hxa)
  clear hg1 hV1 hE1 hL1 hord1 hx1 hxa hck hmi hbg'
  go_wp2_with fail
  generalize w1.alloc (.cells #[.slice A V.length cA, .slice B E.length cB] 28) = w2 at *
  generalize w1.heap.size = gw at *
  have hsl := hide (show (stepsK E L L.length).length = L.length by simp [stepsK])
  have hhl := hide (show (highK E L L.length).length = L.length by simp [highK])
  have hT2 := hide ((unhide hT').ext (unhide hx2))
  have hB2 := hB1
  have hx2' := hx2
  have hfl := hide (filled_ok C L cL g bv be V E w2 (unhide hL2) hl (unhide hg2) (unhide hT2) (unhide hck'))
  have hfd := hide (fun (W : World) (hW : Ext w2 W) => filled21_any A B V E cA cB C L cL W (unhide hi') (unhide hord) ((unhide hV2).ext hW) ((unhide hE2).ext hW) ((unhide hL2).ext hW) hl)
  have hfa := hide (filled_adj (unhide hi') (unhide hord))
  clear hx2 hT' hB1
  refine (unhide hfl).mono ?_
  rintro e w3 hfp
  have hfp : FlPost V E (comeE E L) w2 e w3 := hfp
  clear hfl
  by_cases h0 : addErr V E (comeE E L) = 0
  · obtain ⟨hvv, hgi, hadj⟩ := unhide hfa h0
    obtain ⟨_, g2, bv2, be2, rfl, hgf, hx, _, _, _⟩ := hfp.resolve_right (fun h => h.1 h0)
    have hfr : filledR V E (comeE E L) = addS V E (comeE E L) := by unfold filledR; rw [if_pos h0]
    have hfd2 := unhide hfd w3 hx
    unfold FdPost at hfd2
    rw [hfr, h0] at hfd2
    generalize addS V E (comeE E L) = S at *
    obtain ⟨V3, E2⟩ := S
    simp only at hvv hgi hadj hgf hfd2
    have hvv := hvv.symm
    subst hvv
    have hff := hide (full_fill (unhide hi') (unhide hord) hgi (unhide hord) hadj)
    have hfw := hide (full_wid (unhide hi') (unhide hord) hgi (unhide hord) hadj)
    have hfi := hide hgi
    have hfd2' := hide hfd2
    clear hfa hfp hfr hgi hadj h0 hfd2 hfd
    have hgf3 := hide (hgf)
    have hL3 := hide ((unhide hL2).ext hx)
    have hg3 := hide ((unhide hg2).ext hx)
    have hV3 := hide ((unhide hV2).ext hx)
    have hE3 := hide ((unhide hE2).ext hx)
    have hB3 := hide ((unhide hB2).ext hx)
    have hT3 := hide ((unhide hT2).ext hx)
    have hx3' := hide ((unhide hx2').trans hx)
    clear hL2 hg2 hV2 hE2 hB2 hT2
    clear hx hx2'
    clear hgf
    have q0 := (unhide hB3).cells 0 (v := .slice A V.length cA) rfl
    have q1 := (unhide hB3).cells 1 (v := .slice B E.length cB) rfl
    have hself := Ext.refl w3
    go_wp2_with fail
    refine (unhide hfd2').mono ?_
    rintro e w4 ⟨Ax, cAx, Bx, cBx, rfl, hsx, hsy, hx⟩
    have hsx4 := hide (hsx)
    have hsy4 := hide (hsy)
    have hL4 := hide ((unhide hL3).ext hx)
    have hg4 := hide ((unhide hg3).ext hx)
    have hV4 := hide ((unhide hV3).ext hx)
    have hE4 := hide ((unhide hE3).ext hx)
    have hB4 := hide ((unhide hB3).ext hx)
    have hT4 := hide ((unhide hT3).ext hx)
    have hgf4 := hide ((unhide hgf3).ext hx)
    have hx4' := hide ((unhide hx3').trans hx)
    clear hL3 hg3 hV3 hE3 hB3 hT3 hgf3
    clear hx hx3'
    clear hsx hsy q0 q1 hself hfd2'
    go_wp2_with fail
    have hBx5 := hide (Blk.new w4 28 #[.slice Ax V.length cAx, .slice Bx E2.length cBx])
    have hx := ext_self1 w4 (.cells #[.slice Ax V.length cAx, .slice Bx E2.length cBx] 28)
    have hL5 := hide ((unhide hL4).ext hx)
    have hg5 := hide ((unhide hg4).ext hx)
    have hV5 := hide ((unhide hV4).ext hx)
    have hE5 := hide ((unhide hE4).ext hx)
    have hB5 := hide ((unhide hB4).ext hx)
    have hT5 := hide ((unhide hT4).ext hx)
    have hgf5 := hide ((unhide hgf4).ext hx)
    have hsx5 := hide ((unhide hsx4).ext hx)
    have hsy5 := hide ((unhide hsy4).ext hx)
    have hx5' := hide ((unhide hx4').trans hx)
    clear hL4 hg4 hV4 hE4 hB4 hT4 hgf4 hsx4 hsy4
    clear hx hx4'
    generalize w4.alloc (.cells #[.slice Ax V.length cAx, .slice Bx E2.length cBx] 28) = w5 at *
    generalize w4.heap.size = gx at *
    have q0 := (unhide hBx5).cells 0 (v := .slice Ax V.length cAx) rfl
    have q1 := (unhide hBx5).cells 1 (v := .slice Bx E2.length cBx) rfl
    have hself := Ext.refl w5
    refine wp_region_ext (P := Tryz.prog) [0,1,2,3,4,5,6,7,8,9,10,11,12,13,14,16] [] 5 #[true,true,true,true,true,true,true,true,true,true,true,true,true,true,true,false,true,false,false,false,false] (by kernel_rfl) (by kernel_rfl) rfl (by rfl) ?_
    iterate 16
      first
      | (refine ql_skip rfl (by rfl) ?_)
      | (refine ql_want (v := ?_) rfl (by rfl) (fun W hW => ?_) ?_; rotate_left; (go_simp; (first | done | rfl)))
      try go_frame
    refine wpQL_nil (fun wa hxa => ?_)
    refine lx_one (i := 15) (by kernel_rfl) rfl (by rfl) #[true,true,true,true,true,true,true,true,true,true,true,true,true,true,true,true,true,false,false,false,false] (by rfl) ?_
    go_simp
    refine (to_rel g2 bv2 be2 V E2 _ ((unhide hgf5).ext hxa)).mono ?_
    rintro e wb ⟨A7, c7, B7, d7, rfl, hs7, he7, hxb⟩
    refine ⟨_, rfl, ?_, fun wc hxc => ?_⟩
    · first | exact hxa.trans hxb | exact fun _ => hxa.trans hxb
    have hs8 := hide (hs7.ext hxc)
    have he8 := hide (he7.ext hxc)
    have hxd := (hxa.trans hxb).trans hxc
    have hsV := hide ((unhide hsx5).ext hxd)
    have hsE := hide ((unhide hsy5).ext hxd)
    have hxd' := hide hxd
    have hVl := hide (show V.length ≤ 4096 by omega)
    have hEl := hide (Nat.le_trans (unhide hfi).ne (show 1024 ≤ 4096 by omega))
    clear hs7 he7 q0 q1 hself
    refine lx_ext [17,18,19,20] [] 0 4 #[true,true,true,true,true,true,true,true,true,true,true,true,true,true,true,true,true,false,false,false,false] #[true,true,true,true,true,true,true,true,true,true,true,true,true,true,true,true,true,true,true,true,true] (by kernel_rfl) rfl (by rfl) hxd ?_
    clear hxa hxb hxc hxd
    iterate 4
      first
      | (refine ql_skip rfl (by rfl) ?_)
      | (refine ql_want (v := ?_) rfl (by rfl) (fun W hW => ?_) ?_; rotate_left; (go_simp; (first | done | rfl | (go_at_call 25; refine (same_refl A7 B7 Ax Bx V E2 _ _ _ _ _ ((unhide hs8).ext (by assumption)) ((unhide he8).ext (by assumption)) ((unhide hsV).ext (by assumption)) ((unhide hsE).ext (by assumption)) (unhide hVl) (unhide hEl)).mono ?_; rintro _ _ ⟨h1, h2⟩; refine ⟨_, h1, ?_, h2⟩; rfl))))
      try go_frame
    refine wpQL_nil (fun wz hxe => ?_)
    refine wpX_done (by kernel_rfl) ?_
    try go_frame
    have hx := (unhide hxd').trans hxe
    clear hxe hxd' hs8 he8 hsV hsE
    have hL6 := hide ((unhide hL5).ext hx)
    have hg6 := hide ((unhide hg5).ext hx)
    have hV6 := hide ((unhide hV5).ext hx)
    have hE6 := hide ((unhide hE5).ext hx)
    have hB6 := hide ((unhide hB5).ext hx)
    have hT6 := hide ((unhide hT5).ext hx)
    have hgf6 := hide ((unhide hgf5).ext hx)
    have hx6' := hide ((unhide hx5').trans hx)
    clear hL5 hg5 hV5 hE5 hB5 hT5 hgf5 hsx5 hsy5 hBx5
    clear hx hx5'
    generalize wz = w6 at *
    go_wp2_with fail
    refine (high_ok C L cL g bv be V E w6 (unhide hL6) (by omega) (unhide hg6) (unhide hT6) (unhide hck')).mono ?_
    rw [unhide hhl]
    rintro e w7 ⟨Ah, ch, rfl, hsh, hx⟩
    have hsh7 := hide (hsh)
    have hL7 := hide ((unhide hL6).ext hx)
    have hg7 := hide ((unhide hg6).ext hx)
    have hV7 := hide ((unhide hV6).ext hx)
    have hE7 := hide ((unhide hE6).ext hx)
    have hB7 := hide ((unhide hB6).ext hx)
    have hT7 := hide ((unhide hT6).ext hx)
    have hgf7 := hide ((unhide hgf6).ext hx)
    have hx7' := hide ((unhide hx6').trans hx)
    clear hL6 hg6 hV6 hE6 hB6 hT6 hgf6
    clear hx hx6'
    clear hsh
    go_wp2_with fail
    refine (steps_ok C L cL g bv be V E w7 (unhide hL7) (by omega) (unhide hg7) (unhide hT7) (unhide hck')).mono ?_
    rw [unhide hsl]
    rintro e w8 ⟨As, cs, rfl, hss, hx⟩
    have hss8 := hide (hss)
    have hL8 := hide ((unhide hL7).ext hx)
    have hg8 := hide ((unhide hg7).ext hx)
    have hV8 := hide ((unhide hV7).ext hx)
    have hE8 := hide ((unhide hE7).ext hx)
    have hB8 := hide ((unhide hB7).ext hx)
    have hT8 := hide ((unhide hT7).ext hx)
    have hgf8 := hide ((unhide hgf7).ext hx)
    have hsh8 := hide ((unhide hsh7).ext hx)
    have hx8' := hide ((unhide hx7').trans hx)
    clear hL7 hg7 hV7 hE7 hB7 hT7 hgf7 hsh7
    clear hx hx7'
    clear hss
    go_wp2_with fail
    go_loopw [16] (fun iv wr => ∃ k : Nat, k ≤ L.length ∧ iv = .int .i64 k ∧ Ext w8 wr) (fun iv _ => L.length - (intOf iv).toNat)
    case atStart => exact ⟨0, Nat.zero_le _, rfl, Ext.refl _⟩
    case round =>
      obtain ⟨k, hk, rfl, hx⟩ := hrel
      have hx' := hide hx
      clear hx
      by_cases hlt : k < L.length
      · have hks : k < (stepsK E L L.length).length := by rw [unhide hsl]; exact hlt
        have hkh : k < (highK E L L.length).length := by rw [unhide hhl]; exact hlt
        have hgs : (stepsK E L L.length)[k] = (L[k], sAt E L k) := by simp [stepsK, hlt]
        have hgh : (highK E L L.length)[k] = sAt E L k := by simp [highK]
        obtain ⟨b1, o1, rfl, hc1⟩ := ((unhide hss8).ext (unhide hx')).at_ hks
        obtain ⟨b2, o2, rfl, hc2⟩ := ((unhide hsh8).ext (unhide hx')).at_ hkh
        rw [hgs] at hc1
        rw [hgh] at hc2
        generalize hs : sAt E L k = s at *
        generalize hx0 : L[k] = x at *
        have c1 : ∀ W, Ext wr W → ∀ (j : Nat) v, (setC s)[j]? = some v → W.cell? ⟨b1, o1 + k * 17 + 1 + j, none⟩ = some v := fun W hW j v hv => by
          have := hc1 (1 + j) v (by have h := stepC_set x s j v hv; unfold encSt; simpa using h) W hW
          rw [show o1 + k * 17 + 1 + j = o1 + k * 17 + (1 + j) by omega]
          exact this
        have c2 : ∀ W, Ext wr W → ∀ (j : Nat) v, (setC s)[j]? = some v → W.cell? ⟨b2, o2 + k * 16 + j, none⟩ = some v := fun W hW j v hv => hc2 j v (by unfold encS; simpa using hv) W hW
        replace c1 := hide c1
        replace c2 := hide c2
        have hself := Ext.refl wr
        clear hgs hgh hks hkh hs hx0 hc1 hc2
        go_wp2_with fail
        refine wp_region_ext (P := Tryz.prog) [0,1,2,3,4,5,6,7,8,9] [] 0 #[true,true,true,true,true,true,true,true,true,true] (by kernel_rfl) (by kernel_rfl) rfl (by rfl) ?_
        iterate 3
          refine ql_want (v := ?_) rfl (by rfl) (fun W hW => ?_) ?_
          rotate_left
          · go_simp
            first | done | rfl
          go_frame
        refine ql_want (v := .agg (setC s)) rfl (by rfl) (fun W hW => qUpon_of (load_SetR rfl (by rfl) (unhide c2 W hW))) ?_
        go_frame
        iterate 4
          refine ql_want (v := ?_) rfl (by rfl) (fun W hW => ?_) ?_
          rotate_left
          · go_simp
            first | done | rfl
          go_frame
        refine ql_want (v := .agg (setC s)) rfl (by rfl) (fun W hW => qUpon_of (load_SetR rfl (by rfl) (unhide c1 W hW))) ?_
        go_frame
        refine ql_want (v := .bool (!eqS s s)) rfl (by rfl) (fun W hW => qUpon_of (run_neq_Set rfl (by rfl) (by rfl))) ?_
        rw [eqS_self]
        go_frame
        refine wpQL_nil (fun wz hxz => ?_)
        refine wpX_done (by kernel_rfl) ?_
        try go_frame
        have hx9' := hide ((unhide hx').trans hxz)
        clear hxz hx'
        go_wp2_with fail
        go_roundw
        case rel => exact ⟨k + 1, by omega, by go_num, unhide hx9'⟩
        case measure => simp [intOf]; omega
      · have hke : k = L.length := by omega
        subst hke
        have hx := unhide hx'
        clear hx'
        have hL9 := hide ((unhide hL8).ext hx)
        have hg9 := hide ((unhide hg8).ext hx)
        have hV9 := hide ((unhide hV8).ext hx)
        have hE9 := hide ((unhide hE8).ext hx)
        have hB9 := hide ((unhide hB8).ext hx)
        have hT9 := hide ((unhide hT8).ext hx)
        have hgf9 := hide ((unhide hgf8).ext hx)
        have hsh9 := hide ((unhide hsh8).ext hx)
        have hss9 := hide ((unhide hss8).ext hx)
        have hx9' := hide ((unhide hx8').trans hx)
        clear hL8 hg8 hV8 hE8 hB8 hT8 hgf8 hsh8 hss8
        clear hx hx8'
        generalize wr = w9 at *
        go_wp2_with fail
        refine (fill_ok C L cL g2 bv2 be2 V E2 w9 (unhide hL9) hl (unhide hgf9) (unhide hT9) (unhide hck')).mono ?_
        rw [unhide hff]
        rintro e w10 ⟨Af, cf, rfl, hof, hx⟩
        have hL10 := hide ((unhide hL9).ext hx)
        have hg10 := hide ((unhide hg9).ext hx)
        have hV10 := hide ((unhide hV9).ext hx)
        have hE10 := hide ((unhide hE9).ext hx)
        have hB10 := hide ((unhide hB9).ext hx)
        have hT10 := hide ((unhide hT9).ext hx)
        have hgf10 := hide ((unhide hgf9).ext hx)
        have hsh10 := hide ((unhide hsh9).ext hx)
        have hss10 := hide ((unhide hss9).ext hx)
        have hx10' := hide ((unhide hx9').trans hx)
        clear hL9 hg9 hV9 hE9 hB9 hT9 hgf9 hsh9 hss9
        clear hx hx9'
        clear hof
        go_wp2_with fail
        refine (width_ok C L cL g2 bv2 be2 V E2 w10 (unhide hL10) (by omega) (unhide hgf10) (unhide hT10) (unhide hck')).mono ?_
        rw [unhide hfw]
        rintro e w11 ⟨rfl, hx⟩
        have hL11 := hide ((unhide hL10).ext hx)
        have hg11 := hide ((unhide hg10).ext hx)
        have hV11 := hide ((unhide hV10).ext hx)
        have hE11 := hide ((unhide hE10).ext hx)
        have hB11 := hide ((unhide hB10).ext hx)
        have hT11 := hide ((unhide hT10).ext hx)
        have hgf11 := hide ((unhide hgf10).ext hx)
        have hsh11 := hide ((unhide hsh10).ext hx)
        have hss11 := hide ((unhide hss10).ext hx)
        have hx11' := hide ((unhide hx10').trans hx)
        clear hL10 hg10 hV10 hE10 hB10 hT10 hgf10 hsh10 hss10
        clear hx hx10'
        go_wp2_with fail
        refine (width_ok C L cL g bv be V E w11 (unhide hL11) (by omega) (unhide hg11) (unhide hT11) (unhide hck')).mono ?_
        rintro e w12 ⟨rfl, hx⟩
        have hL12 := hide ((unhide hL11).ext hx)
        have hg12 := hide ((unhide hg11).ext hx)
        have hV12 := hide ((unhide hV11).ext hx)
        have hE12 := hide ((unhide hE11).ext hx)
        have hB12 := hide ((unhide hB11).ext hx)
        have hT12 := hide ((unhide hT11).ext hx)
        have hgf12 := hide ((unhide hgf11).ext hx)
        have hsh12 := hide ((unhide hsh11).ext hx)
        have hss12 := hide ((unhide hss11).ext hx)
        have hx12' := hide ((unhide hx11').trans hx)
        clear hL11 hg11 hV11 hE11 hB11 hT11 hgf11 hsh11 hss11
        clear hx hx11'
        go_wp2_with fail
        refine (known21_any w12 (unhide hT12)).mono ?_
        rintro e w13 ⟨rfl, hx⟩
        have hL13 := hide ((unhide hL12).ext hx)
        have hg13 := hide ((unhide hg12).ext hx)
        have hV13 := hide ((unhide hV12).ext hx)
        have hE13 := hide ((unhide hE12).ext hx)
        have hB13 := hide ((unhide hB12).ext hx)
        have hT13 := hide ((unhide hT12).ext hx)
        have hgf13 := hide ((unhide hgf12).ext hx)
        have hsh13 := hide ((unhide hsh12).ext hx)
        have hss13 := hide ((unhide hss12).ext hx)
        have hx13' := hide ((unhide hx12').trans hx)
        clear hL12 hg12 hV12 hE12 hB12 hT12 hgf12 hsh12 hss12
        clear hx hx12'
        go_wp2_with fail
        go_ret
        exact ⟨rfl, unhide hx13'⟩
  · obtain ⟨_, rfl, hx⟩ := hfp.resolve_left (fun h => h0 h.1)
    have hfr : filledR V E (comeE E L) = ([], []) := by unfold filledR; rw [if_neg h0]
    have hfd2 := unhide hfd w3 hx
    unfold FdPost at hfd2
    rw [hfr] at hfd2
    generalize addErr V E (comeE E L) = er at *
    have her1 : (er != 0) = true := by simpa using h0
    have her2 : (er == 0) = false := by simpa using h0
    have her3 : decide (er = 0) = false := by simpa using h0
    have hfd2' := hide hfd2
    clear hfa hfp hfr hfd2 hfd
    have hL3 := hide ((unhide hL2).ext hx)
    have hg3 := hide ((unhide hg2).ext hx)
    have hV3 := hide ((unhide hV2).ext hx)
    have hE3 := hide ((unhide hE2).ext hx)
    have hB3 := hide ((unhide hB2).ext hx)
    have hT3 := hide ((unhide hT2).ext hx)
    have hx3' := hide ((unhide hx2').trans hx)
    clear hL2 hg2 hV2 hE2 hB2 hT2
    clear hx hx2'
    have q0 := (unhide hB3).cells 0 (v := .slice A V.length cA) rfl
    have q1 := (unhide hB3).cells 1 (v := .slice B E.length cB) rfl
    have hself := Ext.refl w3
    go_wp2_with fail
    refine (unhide hfd2').mono ?_
    rintro e w4 ⟨Ax, cAx, Bx, cBx, rfl, hsx, hsy, hx⟩
    have hL4 := hide ((unhide hL3).ext hx)
    have hg4 := hide ((unhide hg3).ext hx)
    have hV4 := hide ((unhide hV3).ext hx)
    have hE4 := hide ((unhide hE3).ext hx)
    have hB4 := hide ((unhide hB3).ext hx)
    have hT4 := hide ((unhide hT3).ext hx)
    have hx4' := hide ((unhide hx3').trans hx)
    clear hL3 hg3 hV3 hE3 hB3 hT3
    clear hx hx3'
    clear hsx hsy q0 q1 hself hfd2'
    go_wp2_with fail
    have hx := ext_self1 w4 (.cells #[.slice Ax 0 cAx, .slice Bx 0 cBx] 28)
    have hL5 := hide ((unhide hL4).ext hx)
    have hg5 := hide ((unhide hg4).ext hx)
    have hV5 := hide ((unhide hV4).ext hx)
    have hE5 := hide ((unhide hE4).ext hx)
    have hB5 := hide ((unhide hB4).ext hx)
    have hT5 := hide ((unhide hT4).ext hx)
    have hx5' := hide ((unhide hx4').trans hx)
    clear hL4 hg4 hV4 hE4 hB4 hT4
    clear hx hx4'
    generalize w4.alloc (.cells #[.slice Ax 0 cAx, .slice Bx 0 cBx] 28) = w5 at *
    have hself := Ext.refl w5
    refine wp_region_ext (P := Tryz.prog) [0,1,2,3,4,5,6,7,8,9,10,11,12,13,14,15,16,17,18,19,20] [] 0 #[true,true,true,true,true,true,true,true,true,true,true,true,true,true,true,true,true,true,true,true,true] (by kernel_rfl) (by kernel_rfl) rfl (by rfl) ?_
    iterate 21
      first
      | (refine ql_skip rfl (by rfl) ?_)
      | (refine ql_want (v := ?_) rfl (by rfl) (fun W hW => ?_) ?_; rotate_left; (go_simp; (first | done | rfl)))
      try go_frame
    refine wpQL_nil (fun wz hxe => ?_)
    refine wpX_done (by kernel_rfl) ?_
    try go_frame
    have hx := hxe
    clear hxe hself
    have hL6 := hide ((unhide hL5).ext hx)
    have hg6 := hide ((unhide hg5).ext hx)
    have hV6 := hide ((unhide hV5).ext hx)
    have hE6 := hide ((unhide hE5).ext hx)
    have hB6 := hide ((unhide hB5).ext hx)
    have hT6 := hide ((unhide hT5).ext hx)
    have hx6' := hide ((unhide hx5').trans hx)
    clear hL5 hg5 hV5 hE5 hB5 hT5
    clear hx hx5'
    generalize wz = w6 at *
    go_wp2_with fail
    refine (high_ok C L cL g bv be V E w6 (unhide hL6) (by omega) (unhide hg6) (unhide hT6) (unhide hck')).mono ?_
    rw [unhide hhl]
    rintro e w7 ⟨Ah, ch, rfl, hsh, hx⟩
    have hsh7 := hide (hsh)
    have hL7 := hide ((unhide hL6).ext hx)
    have hg7 := hide ((unhide hg6).ext hx)
    have hV7 := hide ((unhide hV6).ext hx)
    have hE7 := hide ((unhide hE6).ext hx)
    have hB7 := hide ((unhide hB6).ext hx)
    have hT7 := hide ((unhide hT6).ext hx)
    have hx7' := hide ((unhide hx6').trans hx)
    clear hL6 hg6 hV6 hE6 hB6 hT6
    clear hx hx6'
    clear hsh
    go_wp2_with fail
    refine (steps_ok C L cL g bv be V E w7 (unhide hL7) (by omega) (unhide hg7) (unhide hT7) (unhide hck')).mono ?_
    rw [unhide hsl]
    rintro e w8 ⟨As, cs, rfl, hss, hx⟩
    have hss8 := hide (hss)
    have hL8 := hide ((unhide hL7).ext hx)
    have hg8 := hide ((unhide hg7).ext hx)
    have hV8 := hide ((unhide hV7).ext hx)
    have hE8 := hide ((unhide hE7).ext hx)
    have hB8 := hide ((unhide hB7).ext hx)
    have hT8 := hide ((unhide hT7).ext hx)
    have hsh8 := hide ((unhide hsh7).ext hx)
    have hx8' := hide ((unhide hx7').trans hx)
    clear hL7 hg7 hV7 hE7 hB7 hT7 hsh7
    clear hx hx7'
    clear hss
    go_wp2_with fail
    go_loopw [16] (fun iv wr => ∃ k : Nat, k ≤ L.length ∧ iv = .int .i64 k ∧ Ext w8 wr) (fun iv _ => L.length - (intOf iv).toNat)
    case atStart => exact ⟨0, Nat.zero_le _, rfl, Ext.refl _⟩
    case round =>
      obtain ⟨k, hk, rfl, hx⟩ := hrel
      have hx' := hide hx
      clear hx
      by_cases hlt : k < L.length
      · have hks : k < (stepsK E L L.length).length := by rw [unhide hsl]; exact hlt
        have hkh : k < (highK E L L.length).length := by rw [unhide hhl]; exact hlt
        have hgs : (stepsK E L L.length)[k] = (L[k], sAt E L k) := by simp [stepsK, hlt]
        have hgh : (highK E L L.length)[k] = sAt E L k := by simp [highK]
        obtain ⟨b1, o1, rfl, hc1⟩ := ((unhide hss8).ext (unhide hx')).at_ hks
        obtain ⟨b2, o2, rfl, hc2⟩ := ((unhide hsh8).ext (unhide hx')).at_ hkh
        rw [hgs] at hc1
        rw [hgh] at hc2
        generalize hs : sAt E L k = s at *
        generalize hx0 : L[k] = x at *
        have c1 : ∀ W, Ext wr W → ∀ (j : Nat) v, (setC s)[j]? = some v → W.cell? ⟨b1, o1 + k * 17 + 1 + j, none⟩ = some v := fun W hW j v hv => by
          have := hc1 (1 + j) v (by have h := stepC_set x s j v hv; unfold encSt; simpa using h) W hW
          rw [show o1 + k * 17 + 1 + j = o1 + k * 17 + (1 + j) by omega]
          exact this
        have c2 : ∀ W, Ext wr W → ∀ (j : Nat) v, (setC s)[j]? = some v → W.cell? ⟨b2, o2 + k * 16 + j, none⟩ = some v := fun W hW j v hv => hc2 j v (by unfold encS; simpa using hv) W hW
        replace c1 := hide c1
        replace c2 := hide c2
        have hself := Ext.refl wr
        clear hgs hgh hks hkh hs hx0 hc1 hc2
        go_wp2_with fail
        refine wp_region_ext (P := Tryz.prog) [0,1,2,3,4,5,6,7,8,9] [] 0 #[true,true,true,true,true,true,true,true,true,true] (by kernel_rfl) (by kernel_rfl) rfl (by rfl) ?_
        iterate 3
          refine ql_want (v := ?_) rfl (by rfl) (fun W hW => ?_) ?_
          rotate_left
          · go_simp
            first | done | rfl
          go_frame
        refine ql_want (v := .agg (setC s)) rfl (by rfl) (fun W hW => qUpon_of (load_SetR rfl (by rfl) (unhide c2 W hW))) ?_
        go_frame
        iterate 4
          refine ql_want (v := ?_) rfl (by rfl) (fun W hW => ?_) ?_
          rotate_left
          · go_simp
            first | done | rfl
          go_frame
        refine ql_want (v := .agg (setC s)) rfl (by rfl) (fun W hW => qUpon_of (load_SetR rfl (by rfl) (unhide c1 W hW))) ?_
        go_frame
        refine ql_want (v := .bool (!eqS s s)) rfl (by rfl) (fun W hW => qUpon_of (run_neq_Set rfl (by rfl) (by rfl))) ?_
        rw [eqS_self]
        go_frame
        refine wpQL_nil (fun wz hxz => ?_)
        refine wpX_done (by kernel_rfl) ?_
        try go_frame
        have hx9' := hide ((unhide hx').trans hxz)
        clear hxz hx'
        go_wp2_with fail
        go_roundw
        case rel => exact ⟨k + 1, by omega, by go_num, unhide hx9'⟩
        case measure => simp [intOf]; omega
      · have hke : k = L.length := by omega
        subst hke
        have hx := unhide hx'
        clear hx'
        have hL9 := hide ((unhide hL8).ext hx)
        have hg9 := hide ((unhide hg8).ext hx)
        have hV9 := hide ((unhide hV8).ext hx)
        have hE9 := hide ((unhide hE8).ext hx)
        have hB9 := hide ((unhide hB8).ext hx)
        have hT9 := hide ((unhide hT8).ext hx)
        have hsh9 := hide ((unhide hsh8).ext hx)
        have hss9 := hide ((unhide hss8).ext hx)
        have hx9' := hide ((unhide hx8').trans hx)
        clear hL8 hg8 hV8 hE8 hB8 hT8 hsh8 hss8
        clear hx hx8'
        generalize wr = w9 at *
        go_wp2_with fail
        refine (known21_any w9 (unhide hT9)).mono ?_
        rintro e w10 ⟨rfl, hx⟩
        have hL10 := hide ((unhide hL9).ext hx)
        have hg10 := hide ((unhide hg9).ext hx)
        have hV10 := hide ((unhide hV9).ext hx)
        have hE10 := hide ((unhide hE9).ext hx)
        have hB10 := hide ((unhide hB9).ext hx)
        have hT10 := hide ((unhide hT9).ext hx)
        have hsh10 := hide ((unhide hsh9).ext hx)
        have hss10 := hide ((unhide hss9).ext hx)
        have hx10' := hide ((unhide hx9').trans hx)
        clear hL9 hg9 hV9 hE9 hB9 hT9 hsh9 hss9
        clear hx hx9'
        go_wp2_with fail
        go_ret
        exact ⟨rfl, unhide hx10'⟩
end Go.Proofs.YtjehhilijeajnaaGreatDoor
/- Every input makes the law EliminationFilledGraph answer true, and each argument reads behind the call as it read before: the given card, tied to the program's text. No condition. -/
namespace Go.Proofs.YtjehhilijeajnaaGreatDoor.eliminationFilledGraphRow
open Go.ChangeShapes Go.WideShapes Go.ChangeAt Go.RowKit
set_option linter.unusedVariables false

theorem own : ownKnob Tryz.prog.godebug = none := by kernel_rfl
theorem laidOut : laidOutB Tryz.prog = true := by kernel_rfl
theorem door_met (os : Os) (args : Array Value) : laidMetH Tryz.prog laidL ((World.doorLaid Tryz.prog 400 os).forCall (fun _ _ => 0) ⟨#[], args, []⟩).memory :=
  laidMetH_of_parts3 (fuel := 8) (laidMet_of_run' 8 (by kernel_rfl) (by kernel_rfl)) (by kernel_rfl) (by kernel_rfl)

set_option maxRecDepth 100000 in
theorem lifted (os : Os) (started : os.Started) (H : Type) (enc : TypeId × Value → H) :
    ReturnsInHanded {} Tryz.checked os 8 .any (fun w args => (Rows.eliminationFilledGraphSpec.pre enc Tryz.prog Tryz.f8 [] false w args ∧ laidMetH Tryz.prog laidL w) ∧ sizedMet enc Tryz.prog Tryz.f8 (OpenSpec.ofChange Rows.eliminationFilledGraphSpec) false w args)
      (Rows.eliminationFilledGraphSpec.post enc Tryz.prog Tryz.f8 false true false false) := by
  refine returnsInHanded_of_change_and (C := Tryz.checked) (X := fun w _ => laidMetH Tryz.prog laidL w) (fun _ _ _ hh h => h.of_heap hh) own started (by kernel_rfl) Tryz.func8
    (ChangeSpec.witness_shaped (enc := enc) (C := Tryz.checked) (os := os) (X := fun w _ => laidMetH Tryz.prog laidL w) false (World.doorLaid Tryz.prog 400 os) #[.slice none 0 0, .slice none 0 0] 8 rfl (World.shaped_of_RefB (by kernel_rfl) (by kernel_rfl)) (by kernel_rfl) (by kernel_rfl) (by kernel_rfl) (door_met os _)) ?_
  intro W base args ds gs before hval0 hW _ _ hL _
  have hval : ∀ (j : Nat) t v, Tryz.f8.params[j]? = some t → args[j]? = some v → Value.okWide Tryz.prog W .any base t v := hval0
  have hW' := hW
  obtain ⟨p, q, hA0, hV, rfl, hfz, hnd⟩ := hW
  have hA : DataW.TrodAll enc Tryz.prog W 0 (fun _ => true) true Tryz.f8.params.toList args.toList ds p := hA0
  rw [Tryz.params8] at hA hval
  obtain ⟨v0, vs0, d0, ds0, p0, q0, hargs, rfl, rfl, h0, r0⟩ := trodAll_cons hA
  obtain ⟨v1, vs1, d1, ds1, p1, q1, rfl, rfl, rfl, h1, r1⟩ := trodAll_cons r0
  obtain ⟨rfl, rfl, rfl⟩ := trodAll_nil r1
  obtain rfl : args = #[v0, v1] := by cases args; simp_all
  obtain ⟨rfl, rfl⟩ := trodVars_none hV
  obtain ⟨a0, len0, cap0, rfl⟩ := okWide_slice Tryz.underlying22 (hval 0 22 v0 rfl rfl)
  have k0 := h0
  have lt0 : ∀ x ∈ p0, x.block < W.heap.size := by obtain ⟨m, hm⟩ := k0; exact DataW.trod_lt m _ _ _ hm
  obtain ⟨fu0, hf0⟩ := h0
  obtain ⟨L0, hn0, hs0, ho0, hm0, hz0⟩ := open_edits (by simpa [Value.cells] using hf0)
  subst hn0
  obtain ⟨a1, len1, cap1, rfl⟩ := okWide_slice Tryz.underlying23 (hval 1 23 v1 rfl rfl)
  have k1 := h1
  have lt1 : ∀ x ∈ p1, x.block < W.heap.size := by obtain ⟨m, hm⟩ := k1; exact DataW.trod_lt m _ _ _ hm
  obtain ⟨fu1, hf1⟩ := h1
  obtain ⟨L1, hn1, hs1, ho1, hm1, hz1⟩ := open_bytes (by simpa [Value.cells] using hf1)
  subst hn1
  clear hA0 hval0
  refine (eliminationFilledGraph_walk a0 L0 cap0 a1 L1 cap1 W hs0 hs1 ho1 hm1 (tab_of_laid hL)).mono fun e W' ⟨he, bel⟩ => ?_
  subst he
  exact ⟨_, rfl, _, _, _, [], _, [], hW', trodAll_mk1 (shut_bool Tryz.underlying4 _), (trodAll_cons_mk (Below.trod laidOut (by kernel_rfl) (of_decide_eq_true (by kernel_rfl)) k0 bel lt0) (trodAll_cons_mk (Below.trod laidOut (by kernel_rfl) (of_decide_eq_true (by kernel_rfl)) k1 bel lt1) trodAll_mk0)), rfl, bel.frame _, fun h => by cases h⟩

theorem over : Rows.eliminationFilledGraphRow.holds Tryz.pinned (OpenSpec.ofChange Rows.eliminationFilledGraphSpec) :=
  OpenClaim.holds_of_wide 8 Tryz.f8 rfl rfl rfl rfl rfl rfl rfl ⟨rfl, rfl, rfl, rfl, rfl⟩ rfl rfl rfl rfl rfl (by kernel_rfl) Tryz.func8 (by kernel_rfl)
    (of_decide_eq_true (by kernel_rfl)) (by unfold Func.isWrapper; first | (rw [if_pos (by decide +kernel)]; kernel_rfl) | (rw [if_neg (by decide +kernel)]; exact ⟨rfl, rfl⟩))
    (fun os started H enc _ => lifted os started H enc)
end Go.Proofs.YtjehhilijeajnaaGreatDoor.eliminationFilledGraphRow
namespace Go.Proofs.YtjehhilijeajnaaGreatDoor
open Go
/-- the given statement -/
theorem eliminationFilledGraph_holds : Rows.EliminationFilledGraphCardSaid :=
  Claim7.holds_tied_plain_at .later [] [.data] true (true, "0ceec30d3f7ff7f423cc43cb0ed385367f6dd2ec832c5276d81adf283899bfa9") true
    eliminationFilledGraphRow.over (fun _ h => by cases h) (by kernel_rfl) (fun _ h => by cases h) eliminationFilledGraph_row_tie rfl ⟨rfl, rfl⟩ (by kernel_rfl) rfl
    (fun f fn hf hfn => by
      obtain rfl : f = 8 := Option.some.inj ((show Tryz.prog.funcNamed "palmette/palmettelaw21.EliminationFilledGraph" = some 8 by kernel_rfl).symm.trans hf) |>.symm
      obtain rfl : fn = Tryz.f8 := (Option.some.inj (Tryz.func8.symm.trans hfn)).symm
      exact ⟨by kernel_rfl, fun j t ht => by
        rw [Tryz.params8] at ht
        have h3 : t = 22 ∨ t = 23 := by
          rcases j with _ | _ | j
          · simp at ht; simp [ht]
          · simp at ht; simp [ht]
          · simp at ht
        rcases h3 with rfl | rfl
        · exact (show Tryz.prog.wantsStandIn 22 = false by kernel_rfl)
        · exact (show Tryz.prog.wantsStandIn 23 = false by kernel_rfl)⟩)
    (by kernel_rfl)
#print axioms eliminationFilledGraph_holds
end Go.Proofs.YtjehhilijeajnaaGreatDoor
