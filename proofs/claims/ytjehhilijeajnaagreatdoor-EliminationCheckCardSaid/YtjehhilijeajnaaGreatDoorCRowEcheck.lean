/- Every input makes the law EliminationCheck answer true, and each argument reads behind the call as it read before: the given card, tied to the program's text. No condition. -/
import Derived.Test.YtjehhilijeajnaaGreatDoorC10
import Derived.Test.YtjehhilijeajnaaGreatDoorC7
import Derived.Test.YtjehhilijeajnaaGreatDoorC8
import Derived.Test.YtjehhilijeajnaaGreatDoorCards
import Derived.Test.YtjehhilijeajnaaGreatDoorTie
import Derived.WalkKit
import Derived.ProofKit
import Derived.OpenShut
import Derived.ShutString
import Derived.ChangeOld
import Derived.Below
import Derived.SevenTiedAt
/- EliminationCheck: every input makes the law answer true: the walk. Conditions: see each theorem. -/
namespace Go.Proofs.YtjehhilijeajnaaGreatDoor
open Go Go.RowKit
attribute [local go_sem] qUpon lUpon

set_option maxRecDepth 100000 in
set_option maxHeartbeats 16000000 in
theorem eliminationCheck_walk (A : Option Addr) (L : List Ed) (cL : Nat) (A0 : Option Addr) (O : List Int) (cO : Nat) (w : World) (hL : SlAt encD 5 w A L) (hO : SlAt encI 1 w A0 O) (hok : ∀ x ∈ O, i64ok x) (hOl : O.length ≤ 9223372036854775807) (hOc : O.length ≤ cO) (hT : Tab w) :
    Calls Tryz.prog 10 #[.slice A L.length cL, .slice A0 O.length cO] w fun e w' => e = .returned (.bool true) ∧ Ext w w' := by
  have hT' := hide hT
  have hL' := hide hL
  have hfew := hide (mdS_few L)
  have hmin : min (O.length : Int) 80 = ((min O.length 80 : Nat) : Int) := by omega
  have hkc : min O.length 80 ≤ cO := by omega
  clear hT hL
  go_enter Tryz.func10, Tryz.ntmps10
  try dsimp only
  repeat ((fail_if_success (with_reducible refine wp_reg (id := 1) ?_)); (first | go_values | go_skip | go_step | go_guarded | go_upon | go_in | go_back | fail))
  with_reducible refine wp_reg (id := 1) ?_
  iterate 4
    refine wpO_want rfl ?_
    go_simp
  refine wpO_val rfl (run_sl_to (k := min O.length 80) rfl rfl (by rfl) Tryz.underlying29 (Tryz.sizeOf3 w) hkc) ?_
  refine wpO_want rfl ?_
  go_simp
  refine wpO_done ?_
  try go_frame
  clear hmin hkc
  obtain ⟨M, hM⟩ : ∃ M, O.take (min O.length 80) = M := ⟨_, rfl⟩
  have hMl : min O.length 80 = M.length := by rw [← hM, List.length_take]; omega
  have hM80 : M.length ≤ 80 := by omega
  have hSM := hide (hM ▸ hO.upto (min O.length 80))
  have hMk := hide (show ∀ x ∈ M, i64ok x from fun x hx => hok x (by rw [← hM] at hx; exact List.mem_of_mem_take hx))
  rw [hMl]
  clear hM hMl hO hok hOl hOc
  go_wp2_with fail
  refine (made_any A L cL _ (unhide hL')).mono ?_
  rintro e w1 ⟨A1, cA, B1, cB, rfl, hs1, he1, hx1⟩
  have hinv := mdS_inv L
  generalize mdS L = S at *
  obtain ⟨V, E⟩ := S
  simp only at hs1 he1 hinv
  have hs1' := hide hs1
  have he1' := hide he1
  have hx1' := hide hx1
  have hi' := hide hinv
  have nV := hinv.nv
  have nE := hinv.ne
  clear hs1 he1 hx1 hinv
  go_wp2_with fail
  refine (from_any A1 B1 V E cA cB _ ((unhide hs1').ext (ext_self1 _ _)) ((unhide he1').ext (ext_self1 _ _)) (unhide hi')).mono ?_
  rintro e wr ⟨g, bv, be, rfl, hg0, hx0, n1, n2, n3⟩
  have hR : ApRel w wr g bv be w1.heap.size V E A1 B1 cA cB := by
    have h1 := Below.size (unhide hx1')
    simp at n1 n2 n3
    exact ⟨hg0, (Blk.new w1 _ _).ext hx0, ((unhide hs1').ext (ext_self1 _ _)).ext hx0, ((unhide he1').ext (ext_self1 _ _)).ext hx0, ((unhide hx1').trans (ext_self1 _ _)).trans hx0, by omega, by omega, by omega, h1⟩
  have hR' := hide hR
  clear hR hg0 hx0 n1 n2 n3 hs1' he1' hx1'
  generalize w1.heap.size = gw at *
  clear w1
  have hfew' : V.length + E.length ≤ 60 := unhide hfew
  have hT1 := hide ((unhide hT').ext (unhide hR').ext)
  have hSM1 := hide ((unhide hSM).ext (unhide hR').ext)
  have hg1 := hide (unhide hR').isg
  have hV1 := hide (unhide hR').sv
  have q0 := (unhide hR').blk.cells 0 (v := .slice A1 V.length cA) rfl
  have q1 := (unhide hR').blk.cells 1 (v := .slice B1 E.length cB) rfl
  have hx1' := hide (unhide hR').ext
  have hself := Ext.refl wr
  clear hR' hT' hSM hfew hL'
  generalize wr = w1 at *
  go_wp2_with fail
  refine (ckref_any A1 B1 V E cA cB A0 M cO w1 (unhide hi') (unhide hV1) (unhide hSM1) (by omega)).mono ?_
  rintro e w2 ⟨rfl, hx⟩
  have hT2 := hide ((unhide hT1).ext hx)
  have hSM2 := hide ((unhide hSM1).ext hx)
  have hg2 := hide ((unhide hg1).ext hx)
  have hV2 := hide ((unhide hV1).ext hx)
  have hx2' := hide ((unhide hx1').trans hx)
  clear hT1 hSM1 hg1 hV1
  clear hx hx1'
  clear q0 q1 hself
  have hc3 : checkS M V = 0 ∨ checkS M V = 3 := by unfold checkS; split <;> simp
  obtain ⟨no, hno⟩ : ∃ no, checkS M V = no := ⟨_, rfl⟩
  rw [hno] at hc3 ⊢
  have hno := hide hno
  go_wp2_with fail
  refine (reversed_any A0 M cO w2 (unhide hSM2) (by omega)).mono ?_
  rintro e w3 ⟨At, ct, rfl, hst, hx⟩
  have hst3 := hide (hst)
  have hT3 := hide ((unhide hT2).ext hx)
  have hSM3 := hide ((unhide hSM2).ext hx)
  have hg3 := hide ((unhide hg2).ext hx)
  have hV3 := hide ((unhide hV2).ext hx)
  have hx3' := hide ((unhide hx2').trans hx)
  clear hT2 hSM2 hg2 hV2
  clear hx hx2'
  rw [List.length_reverse]
  clear hst
  go_wp2_with fail
  refine (check_any A0 M cO g bv be V E w3 (unhide hSM3) (by omega) (unhide hg3)).mono ?_
  rw [unhide hno]
  rintro e w4 ⟨rfl, hx⟩
  have hT4 := hide ((unhide hT3).ext hx)
  have hSM4 := hide ((unhide hSM3).ext hx)
  have hg4 := hide ((unhide hg3).ext hx)
  have hV4 := hide ((unhide hV3).ext hx)
  have hst4 := hide ((unhide hst3).ext hx)
  have hx4' := hide ((unhide hx3').trans hx)
  clear hT3 hSM3 hg3 hV3 hst3
  clear hx hx3'
  have hnn : (no != no) = false := by simp
  have hmm : ((M.length : Int) != (M.length : Int)) = false := by simp
  go_wp2_with fail
  clear hnn hmm
  go_loopw [10] (fun iv wr => ∃ k : Nat, k ≤ M.length ∧ iv = .int .i64 k ∧ Ext w4 wr) (fun iv _ => M.length - (intOf iv).toNat)
  case atStart => exact ⟨0, Nat.zero_le _, rfl, Ext.refl _⟩
  case round =>
    obtain ⟨k, hk, rfl, hx⟩ := hrel
    have hx' := hide hx
    clear hx
    by_cases hlt : k < M.length
    · have hkr : k < M.reverse.length := by rw [List.length_reverse]; exact hlt
      have hk2 : M.length - 1 - k < M.length := by omega
      obtain ⟨b1, o1, rfl, c0⟩ := atI ((unhide hst4).ext (unhide hx')) hkr
      obtain ⟨b2, o2, rfl, e0⟩ := atI ((unhide hSM4).ext (unhide hx')) hk2
      have hge : M.reverse[k] = M[M.length - 1 - k] := List.getElem_reverse _
      rw [hge] at c0
      generalize M[M.length - 1 - k] = x at c0 e0
      have ha1 : (M.length : Int) - 1 - (k : Int) = ((M.length - 1 - k : Nat) : Int) := by omega
      generalize M.length - 1 - k = kk at *
      have hwk : IntKind.i64.wrap (kk : Int) = (kk : Int) := IntWalk.i64_in _ (by omega)
      have hwm : IntKind.i64.wrap ((M.length : Int) - 1) = (M.length : Int) - 1 := IntWalk.i64_in _ (by omega)
      have hself := Ext.refl wr
      clear hge hkr
      go_wp2_with fail
      refine wp_region_ext (P := Tryz.prog) [0,1,2,3,4,5,6,7,8,9,10,11,12] [] 0 #[true,true,true,true,true,true,true,true,true,true,true,true,true] (by kernel_rfl) (by kernel_rfl) rfl (by rfl) ?_
      iterate 13
        refine ql_want (v := ?_) rfl (by rfl) (fun W hW => ?_) ?_
        rotate_left
        · go_simp
          first | done | rfl
        go_frame
      refine wpQL_nil (fun wz hxz => ?_)
      refine wpX_done (by kernel_rfl) ?_
      try go_frame
      go_wp2_with fail
      go_roundw
      case rel => exact ⟨k + 1, by omega, by go_num, (unhide hx').trans hxz⟩
      case measure => simp [intOf]; omega
    · have hke : k = M.length := by omega
      subst hke
      have hx := unhide hx'
      clear hx'
      have hT5 := hide ((unhide hT4).ext hx)
      have hSM5 := hide ((unhide hSM4).ext hx)
      have hg5 := hide ((unhide hg4).ext hx)
      have hV5 := hide ((unhide hV4).ext hx)
      have hst5 := hide ((unhide hst4).ext hx)
      have hx5' := hide ((unhide hx4').trans hx)
      clear hT4 hSM4 hg4 hV4 hst4
      clear hx hx4'
      generalize wr = w5 at *
      rcases hc3 with rfl | rfl
      · have hord := hide (check_ord (unhide hi') (unhide hno))
        have hz0 := hide (filled_zero (unhide hi') (unhide hord) hfew')
        go_wp2_with fail
        refine (steps_ok A0 M cO g bv be V E w5 (unhide hSM5) (by omega) (unhide hg5) (unhide hT5) (unhide hno)).mono ?_
        rintro e w6 ⟨As, cs, rfl, hss, hx⟩
        have hT6 := hide ((unhide hT5).ext hx)
        have hSM6 := hide ((unhide hSM5).ext hx)
        have hg6 := hide ((unhide hg5).ext hx)
        have hV6 := hide ((unhide hV5).ext hx)
        have hst6 := hide ((unhide hst5).ext hx)
        have hx6' := hide ((unhide hx5').trans hx)
        clear hT5 hSM5 hg5 hV5 hst5
        clear hx hx5'
        clear hss
        go_wp2_with fail
        refine (fill_ok A0 M cO g bv be V E w6 (unhide hSM6) (by omega) (unhide hg6) (unhide hT6) (unhide hno)).mono ?_
        rintro e w7 ⟨Af, cf, rfl, hof, hx⟩
        have hT7 := hide ((unhide hT6).ext hx)
        have hSM7 := hide ((unhide hSM6).ext hx)
        have hg7 := hide ((unhide hg6).ext hx)
        have hV7 := hide ((unhide hV6).ext hx)
        have hst7 := hide ((unhide hst6).ext hx)
        have hx7' := hide ((unhide hx6').trans hx)
        clear hT6 hSM6 hg6 hV6 hst6
        clear hx hx6'
        clear hof
        go_wp2_with fail
        have hfl := filled_ok A0 M cO g bv be V E w7 (unhide hSM7) (by omega) (unhide hg7) (unhide hT7) (unhide hno)
        refine hfl.mono ?_
        rintro e wq hfp
        have hfp : FlPost V E (comeE E M) w7 e wq := hfp
        obtain ⟨_, g2, bv2, be2, rfl, hgf, hx, _, _, _⟩ := hfp.resolve_right (fun h => h.1 (unhide hz0))
        clear hfl hfp hgf
        have hT8 := hide ((unhide hT7).ext hx)
        have hSM8 := hide ((unhide hSM7).ext hx)
        have hg8 := hide ((unhide hg7).ext hx)
        have hV8 := hide ((unhide hV7).ext hx)
        have hst8 := hide ((unhide hst7).ext hx)
        have hx8' := hide ((unhide hx7').trans hx)
        clear hT7 hSM7 hg7 hV7 hst7
        clear hx hx7'
        generalize wq = w8 at *
        go_wp2_with fail
        refine (high_ok A0 M cO g bv be V E w8 (unhide hSM8) (by omega) (unhide hg8) (unhide hT8) (unhide hno)).mono ?_
        rintro e w9 ⟨Ah, ch, rfl, hsh, hx⟩
        have hT9 := hide ((unhide hT8).ext hx)
        have hSM9 := hide ((unhide hSM8).ext hx)
        have hg9 := hide ((unhide hg8).ext hx)
        have hV9 := hide ((unhide hV8).ext hx)
        have hst9 := hide ((unhide hst8).ext hx)
        have hx9' := hide ((unhide hx8').trans hx)
        clear hT8 hSM8 hg8 hV8 hst8
        clear hx hx8'
        clear hsh
        go_wp2_with fail
        refine (parents_ok A0 M cO g bv be V E w9 (unhide hSM9) (by omega) (unhide hg9) (unhide hT9) (unhide hno)).mono ?_
        rintro e w10 ⟨Ap, cp, rfl, hsp, hx⟩
        have hT10 := hide ((unhide hT9).ext hx)
        have hSM10 := hide ((unhide hSM9).ext hx)
        have hg10 := hide ((unhide hg9).ext hx)
        have hV10 := hide ((unhide hV9).ext hx)
        have hst10 := hide ((unhide hst9).ext hx)
        have hx10' := hide ((unhide hx9').trans hx)
        clear hT9 hSM9 hg9 hV9 hst9
        clear hx hx9'
        clear hsp
        go_wp2_with fail
        refine (width_ok A0 M cO g bv be V E w10 (unhide hSM10) (by omega) (unhide hg10) (unhide hT10) (unhide hno)).mono ?_
        rintro e w11 ⟨rfl, hx⟩
        have hT11 := hide ((unhide hT10).ext hx)
        have hSM11 := hide ((unhide hSM10).ext hx)
        have hg11 := hide ((unhide hg10).ext hx)
        have hV11 := hide ((unhide hV10).ext hx)
        have hst11 := hide ((unhide hst10).ext hx)
        have hx11' := hide ((unhide hx10').trans hx)
        clear hT10 hSM10 hg10 hV10 hst10
        clear hx hx10'
        go_wp2_with fail
        refine (hgt_ok A0 M cO g bv be V E w11 (unhide hSM11) (by omega) (unhide hg11) (unhide hT11) (unhide hord)).mono ?_
        rintro e w12 ⟨rfl, hx⟩
        have hT12 := hide ((unhide hT11).ext hx)
        have hSM12 := hide ((unhide hSM11).ext hx)
        have hg12 := hide ((unhide hg11).ext hx)
        have hV12 := hide ((unhide hV11).ext hx)
        have hst12 := hide ((unhide hst11).ext hx)
        have hx12' := hide ((unhide hx11').trans hx)
        clear hT11 hSM11 hg11 hV11 hst11
        clear hx hx11'
        go_wp2_with fail
        refine (known21_any w12 (unhide hT12)).mono ?_
        rintro e w13 ⟨rfl, hx⟩
        have hT13 := hide ((unhide hT12).ext hx)
        have hSM13 := hide ((unhide hSM12).ext hx)
        have hg13 := hide ((unhide hg12).ext hx)
        have hV13 := hide ((unhide hV12).ext hx)
        have hst13 := hide ((unhide hst12).ext hx)
        have hx13' := hide ((unhide hx12').trans hx)
        clear hT12 hSM12 hg12 hV12 hst12
        clear hx hx12'
        go_wp2_with fail
        go_ret
        exact ⟨rfl, unhide hx13'⟩
      · go_wp2_with fail
        refine (steps_err _ A0 M.length cO 3 w5 (werr_bad A0 M cO g bv be V E w5 (unhide hSM5) (by omega) (unhide hg5) (unhide hno))).mono ?_
        rintro e w6 ⟨rfl, hx⟩
        have hT6 := hide ((unhide hT5).ext hx)
        have hSM6 := hide ((unhide hSM5).ext hx)
        have hg6 := hide ((unhide hg5).ext hx)
        have hV6 := hide ((unhide hV5).ext hx)
        have hst6 := hide ((unhide hst5).ext hx)
        have hx6' := hide ((unhide hx5').trans hx)
        clear hT5 hSM5 hg5 hV5 hst5
        clear hx hx5'
        go_wp2_with fail
        refine (fill_err _ A0 M.length cO 3 w6 (werr_bad A0 M cO g bv be V E w6 (unhide hSM6) (by omega) (unhide hg6) (unhide hno))).mono ?_
        rintro e w7 ⟨rfl, hx⟩
        have hT7 := hide ((unhide hT6).ext hx)
        have hSM7 := hide ((unhide hSM6).ext hx)
        have hg7 := hide ((unhide hg6).ext hx)
        have hV7 := hide ((unhide hV6).ext hx)
        have hst7 := hide ((unhide hst6).ext hx)
        have hx7' := hide ((unhide hx6').trans hx)
        clear hT6 hSM6 hg6 hV6 hst6
        clear hx hx6'
        go_wp2_with fail
        refine (filled_err _ A0 M.length cO 3 w7 (werr_bad A0 M cO g bv be V E w7 (unhide hSM7) (by omega) (unhide hg7) (unhide hno)) (by decide)).mono ?_
        rintro e w8 ⟨rfl, hx⟩
        have hT8 := hide ((unhide hT7).ext hx)
        have hSM8 := hide ((unhide hSM7).ext hx)
        have hg8 := hide ((unhide hg7).ext hx)
        have hV8 := hide ((unhide hV7).ext hx)
        have hst8 := hide ((unhide hst7).ext hx)
        have hx8' := hide ((unhide hx7').trans hx)
        clear hT7 hSM7 hg7 hV7 hst7
        clear hx hx7'
        go_wp2_with fail
        refine (high_err _ A0 M.length cO 3 w8 (werr_bad A0 M cO g bv be V E w8 (unhide hSM8) (by omega) (unhide hg8) (unhide hno))).mono ?_
        rintro e w9 ⟨rfl, hx⟩
        have hT9 := hide ((unhide hT8).ext hx)
        have hSM9 := hide ((unhide hSM8).ext hx)
        have hg9 := hide ((unhide hg8).ext hx)
        have hV9 := hide ((unhide hV8).ext hx)
        have hst9 := hide ((unhide hst8).ext hx)
        have hx9' := hide ((unhide hx8').trans hx)
        clear hT8 hSM8 hg8 hV8 hst8
        clear hx hx8'
        go_wp2_with fail
        refine (parents_err _ A0 M cO 3 w9 (werr_bad A0 M cO g bv be V E w9 (unhide hSM9) (by omega) (unhide hg9) (unhide hno)) (unhide hSM9) (by omega) (unhide hMk)).mono ?_
        rintro e w10 ⟨rfl, hx⟩
        have hT10 := hide ((unhide hT9).ext hx)
        have hSM10 := hide ((unhide hSM9).ext hx)
        have hg10 := hide ((unhide hg9).ext hx)
        have hV10 := hide ((unhide hV9).ext hx)
        have hst10 := hide ((unhide hst9).ext hx)
        have hx10' := hide ((unhide hx9').trans hx)
        clear hT9 hSM9 hg9 hV9 hst9
        clear hx hx9'
        go_wp2_with fail
        refine (width_err _ A0 M.length cO 3 w10 (werr_bad A0 M cO g bv be V E w10 (unhide hSM10) (by omega) (unhide hg10) (unhide hno)) (by decide)).mono ?_
        rintro e w11 ⟨rfl, hx⟩
        have hT11 := hide ((unhide hT10).ext hx)
        have hSM11 := hide ((unhide hSM10).ext hx)
        have hg11 := hide ((unhide hg10).ext hx)
        have hV11 := hide ((unhide hV10).ext hx)
        have hst11 := hide ((unhide hst10).ext hx)
        have hx11' := hide ((unhide hx10').trans hx)
        clear hT10 hSM10 hg10 hV10 hst10
        clear hx hx10'
        go_wp2_with fail
        refine (height_err _ A0 M cO 3 w11 (werr_bad A0 M cO g bv be V E w11 (unhide hSM11) (by omega) (unhide hg11) (unhide hno)) (unhide hSM11) (by omega) (unhide hMk)).mono ?_
        rintro e w12 ⟨rfl, hx⟩
        have hT12 := hide ((unhide hT11).ext hx)
        have hSM12 := hide ((unhide hSM11).ext hx)
        have hg12 := hide ((unhide hg11).ext hx)
        have hV12 := hide ((unhide hV11).ext hx)
        have hst12 := hide ((unhide hst11).ext hx)
        have hx12' := hide ((unhide hx11').trans hx)
        clear hT11 hSM11 hg11 hV11 hst11
        clear hx hx11'
        go_wp2_with fail
        refine (known21_any w12 (unhide hT12)).mono ?_
        rintro e w13 ⟨rfl, hx⟩
        have hT13 := hide ((unhide hT12).ext hx)
        have hSM13 := hide ((unhide hSM12).ext hx)
        have hg13 := hide ((unhide hg12).ext hx)
        have hV13 := hide ((unhide hV12).ext hx)
        have hst13 := hide ((unhide hst12).ext hx)
        have hx13' := hide ((unhide hx12').trans hx)
        clear hT12 hSM12 hg12 hV12 hst12
        clear hx hx12'
        go_wp2_with fail
        go_ret
        exact ⟨rfl, unhide hx13'⟩
end Go.Proofs.YtjehhilijeajnaaGreatDoor
/- Every input makes the law EliminationCheck answer true, and each argument reads behind the call as it read before: the given card, tied to the program's text. No condition. -/
namespace Go.Proofs.YtjehhilijeajnaaGreatDoor.eliminationCheckRow
open Go.ChangeShapes Go.WideShapes Go.ChangeAt Go.RowKit
set_option linter.unusedVariables false

theorem own : ownKnob Tryz.prog.godebug = none := by kernel_rfl
theorem laidOut : laidOutB Tryz.prog = true := by kernel_rfl
theorem door_met (os : Os) (args : Array Value) : laidMetH Tryz.prog laidL ((World.doorLaid Tryz.prog 400 os).forCall (fun _ _ => 0) ⟨#[], args, []⟩).memory :=
  laidMetH_of_parts3 (fuel := 8) (laidMet_of_run' 8 (by kernel_rfl) (by kernel_rfl)) (by kernel_rfl) (by kernel_rfl)

set_option maxRecDepth 100000 in
theorem lifted (os : Os) (started : os.Started) (H : Type) (enc : TypeId × Value → H) :
    ReturnsInHanded {} Tryz.checked os 10 .any (fun w args => (Rows.eliminationCheckSpec.pre enc Tryz.prog Tryz.f10 [] false w args ∧ laidMetH Tryz.prog laidL w) ∧ sizedMet enc Tryz.prog Tryz.f10 (OpenSpec.ofChange Rows.eliminationCheckSpec) false w args)
      (Rows.eliminationCheckSpec.post enc Tryz.prog Tryz.f10 false true false false) := by
  refine returnsInHanded_of_change_and (C := Tryz.checked) (X := fun w _ => laidMetH Tryz.prog laidL w) (fun _ _ _ hh h => h.of_heap hh) own started (by kernel_rfl) Tryz.func10
    (ChangeSpec.witness_shaped (enc := enc) (C := Tryz.checked) (os := os) (X := fun w _ => laidMetH Tryz.prog laidL w) false (World.doorLaid Tryz.prog 400 os) #[.slice none 0 0, .slice none 0 0] 8 rfl (World.shaped_of_RefB (by kernel_rfl) (by kernel_rfl)) (by kernel_rfl) (by kernel_rfl) (by kernel_rfl) (door_met os _)) ?_
  intro W base args ds gs before hval0 hW _ _ hL _
  have hval : ∀ (j : Nat) t v, Tryz.f10.params[j]? = some t → args[j]? = some v → Value.okWide Tryz.prog W .any base t v := hval0
  have hW' := hW
  obtain ⟨p, q, hA0, hV, rfl, hfz, hnd⟩ := hW
  have hA : DataW.TrodAll enc Tryz.prog W 0 (fun _ => true) true Tryz.f10.params.toList args.toList ds p := hA0
  rw [Tryz.params10] at hA hval
  obtain ⟨v0, vs0, d0, ds0, p0, q0, hargs, rfl, rfl, h0, r0⟩ := trodAll_cons hA
  obtain ⟨v1, vs1, d1, ds1, p1, q1, rfl, rfl, rfl, h1, r1⟩ := trodAll_cons r0
  obtain ⟨rfl, rfl, rfl⟩ := trodAll_nil r1
  obtain rfl : args = #[v0, v1] := by cases args; simp_all
  obtain ⟨rfl, rfl⟩ := trodVars_none hV
  obtain ⟨a0, len0, cap0, rfl⟩ := okWide_slice Tryz.underlying22 (hval 0 22 v0 rfl rfl)
  have k0 := h0
  have lt0 : ∀ x ∈ p0, x.block < W.heap.size := by obtain ⟨m, hm⟩ := k0; exact DataW.trod_lt m _ _ _ hm
  obtain ⟨fu0, hf0⟩ := h0
  obtain ⟨L0, hn0, hs0, ho0, hm0, hz0⟩ := open_edits (by simpa [Value.cells] using hf0)
  subst hn0
  obtain ⟨a1, len1, cap1, rfl⟩ := okWide_slice Tryz.underlying29 (hval 1 29 v1 rfl rfl)
  have k1 := h1
  have lt1 : ∀ x ∈ p1, x.block < W.heap.size := by obtain ⟨m, hm⟩ := k1; exact DataW.trod_lt m _ _ _ hm
  obtain ⟨fu1, hf1⟩ := h1
  obtain ⟨L1, hn1, hs1, ho1, hm1, hz1⟩ := open_ints (by simpa [Value.cells] using hf1)
  subst hn1
  clear hA0 hval0
  refine (eliminationCheck_walk a0 L0 cap0 a1 L1 cap1 W hs0 hs1 ho1 hm1 hz1 (tab_of_laid hL)).mono fun e W' ⟨he, bel⟩ => ?_
  subst he
  exact ⟨_, rfl, _, _, _, [], _, [], hW', trodAll_mk1 (shut_bool Tryz.underlying4 _), (trodAll_cons_mk (Below.trod laidOut (by kernel_rfl) (of_decide_eq_true (by kernel_rfl)) k0 bel lt0) (trodAll_cons_mk (Below.trod laidOut (by kernel_rfl) (of_decide_eq_true (by kernel_rfl)) k1 bel lt1) trodAll_mk0)), rfl, bel.frame _, fun h => by cases h⟩

theorem over : Rows.eliminationCheckRow.holds Tryz.pinned (OpenSpec.ofChange Rows.eliminationCheckSpec) :=
  OpenClaim.holds_of_wide 10 Tryz.f10 rfl rfl rfl rfl rfl rfl rfl ⟨rfl, rfl, rfl, rfl, rfl⟩ rfl rfl rfl rfl rfl (by kernel_rfl) Tryz.func10 (by kernel_rfl)
    (of_decide_eq_true (by kernel_rfl)) (by unfold Func.isWrapper; first | (rw [if_pos (by decide +kernel)]; kernel_rfl) | (rw [if_neg (by decide +kernel)]; exact ⟨rfl, rfl⟩))
    (fun os started H enc _ => lifted os started H enc)
end Go.Proofs.YtjehhilijeajnaaGreatDoor.eliminationCheckRow
namespace Go.Proofs.YtjehhilijeajnaaGreatDoor
open Go
/-- the given statement -/
theorem eliminationCheck_holds : Rows.EliminationCheckCardSaid :=
  Claim7.holds_tied_plain_at .later [] [.data] true (true, "0ceec30d3f7ff7f423cc43cb0ed385367f6dd2ec832c5276d81adf283899bfa9") true
    eliminationCheckRow.over (fun _ h => by cases h) (by kernel_rfl) (fun _ h => by cases h) eliminationCheck_row_tie rfl ⟨rfl, rfl⟩ (by kernel_rfl) rfl
    (fun f fn hf hfn => by
      obtain rfl : f = 10 := Option.some.inj ((show Tryz.prog.funcNamed "palmette/palmettelaw21.EliminationCheck" = some 10 by kernel_rfl).symm.trans hf) |>.symm
      obtain rfl : fn = Tryz.f10 := (Option.some.inj (Tryz.func10.symm.trans hfn)).symm
      exact ⟨by kernel_rfl, fun j t ht => by
        rw [Tryz.params10] at ht
        have h3 : t = 22 ∨ t = 29 := by
          rcases j with _ | _ | j
          · simp at ht; simp [ht]
          · simp at ht; simp [ht]
          · simp at ht
        rcases h3 with rfl | rfl
        · exact (show Tryz.prog.wantsStandIn 22 = false by kernel_rfl)
        · exact (show Tryz.prog.wantsStandIn 29 = false by kernel_rfl)⟩)
    (by kernel_rfl)
#print axioms eliminationCheck_holds
end Go.Proofs.YtjehhilijeajnaaGreatDoor
