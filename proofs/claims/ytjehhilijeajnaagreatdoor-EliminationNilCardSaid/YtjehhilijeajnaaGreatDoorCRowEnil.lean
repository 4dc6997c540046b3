/- Every input makes the law EliminationNil answer true, and each argument reads behind the call as it read before: the given card, tied to the program's text. No condition. -/
import Derived.Test.YtjehhilijeajnaaGreatDoorC7
import Derived.Test.YtjehhilijeajnaaGreatDoorC10
import Derived.Test.YtjehhilijeajnaaGreatDoorCards
import Derived.Test.YtjehhilijeajnaaGreatDoorTie
import Derived.WalkKit
import Derived.ProofKit
import Derived.OpenShut
import Derived.ShutString
import Derived.ChangeOld
import Derived.Below
import Derived.SevenTiedAt
/- EliminationNil: every input makes the law answer true: the walk. Conditions: see each theorem. -/
namespace Go.Proofs.YtjehhilijeajnaaGreatDoor
open Go Go.RowKit
attribute [local go_sem] qUpon lUpon

set_option maxRecDepth 100000 in
set_option maxHeartbeats 8000000 in
theorem eliminationNil_walk (A : Option Addr) (L : List Int) (cL : Nat) (w : World) (hL : SlAt encI 1 w A L) (hok : ∀ x ∈ L, i64ok x) (hl : L.length ≤ 9223372036854775807) (hT : Tab w) :
    Calls Tryz.prog 9 #[.slice A L.length cL] w fun e w' => e = .returned (.bool true) ∧ Ext w w' := by
  have hT1 := hide hT
  have hL1 := hide hL
  have hok' := hide hok
  have hx1 := hide (Ext.refl w)
  clear hT hL hok
  go_enter Tryz.func9, Tryz.ntmps9
  go_wp2_with fail
  refine (steps_err _ A L.length cL 1 w (werr_nil A L.length cL w)).mono ?_
  rintro e w2 ⟨rfl, hx2⟩
  have hx2' := hide hx2
  clear hx2
  go_wp2_with fail
  refine (width_err _ A L.length cL 1 w2 (werr_nil A L.length cL w2) (by decide)).mono ?_
  rintro e w3 ⟨rfl, hx3⟩
  have hx3' := hide ((unhide hx2').trans hx3)
  clear hx3 hx2'
  go_wp2_with fail
  refine (fill_err _ A L.length cL 1 w3 (werr_nil A L.length cL w3)).mono ?_
  rintro e w4 ⟨rfl, hx4⟩
  have hx4' := hide ((unhide hx3').trans hx4)
  clear hx4 hx3'
  go_wp2_with fail
  refine (filled_err _ A L.length cL 1 w4 (werr_nil A L.length cL w4) (by decide)).mono ?_
  rintro e w5 ⟨rfl, hx5⟩
  have hx5' := hide ((unhide hx4').trans hx5)
  clear hx5 hx4'
  go_wp2_with fail
  refine (high_err _ A L.length cL 1 w5 (werr_nil A L.length cL w5)).mono ?_
  rintro e w6 ⟨rfl, hx6⟩
  have hx6' := hide ((unhide hx5').trans hx6)
  clear hx6 hx5'
  go_wp2_with fail
  refine (parents_err _ A L cL 1 w6 (werr_nil A L.length cL w6) ((unhide hL1).ext (unhide hx6')) hl (unhide hok')).mono ?_
  rintro e w7 ⟨rfl, hx7⟩
  have hx7' := hide ((unhide hx6').trans hx7)
  clear hx7 hx6'
  go_wp2_with fail
  refine (height_err _ A L cL 1 w7 (werr_nil A L.length cL w7) ((unhide hL1).ext (unhide hx7')) hl (unhide hok')).mono ?_
  rintro e w8 ⟨rfl, hx8⟩
  have hx8' := hide ((unhide hx7').trans hx8)
  clear hx8 hx7'
  go_wp2_with fail
  refine (known21_any w8 ((unhide hT1).ext (unhide hx8'))).mono ?_
  rintro e w9 ⟨rfl, hx9⟩
  have hx9' := hide ((unhide hx8').trans hx9)
  clear hx9 hx8'
  go_wp2_with fail
  refine (check_nil A L.length cL w9).mono ?_
  rintro e w10 ⟨rfl, hx10⟩
  have hx10' := hide ((unhide hx9').trans hx10)
  clear hx10 hx9'
  go_wp2_with fail
  go_ret
  exact ⟨rfl, unhide hx10'⟩
end Go.Proofs.YtjehhilijeajnaaGreatDoor
/- Every input makes the law EliminationNil answer true, and each argument reads behind the call as it read before: the given card, tied to the program's text. No condition. -/
namespace Go.Proofs.YtjehhilijeajnaaGreatDoor.eliminationNilRow
open Go.ChangeShapes Go.WideShapes Go.ChangeAt Go.RowKit
set_option linter.unusedVariables false

theorem own : ownKnob Tryz.prog.godebug = none := by kernel_rfl
theorem laidOut : laidOutB Tryz.prog = true := by kernel_rfl
theorem door_met (os : Os) (args : Array Value) : laidMetH Tryz.prog laidL ((World.doorLaid Tryz.prog 400 os).forCall (fun _ _ => 0) ⟨#[], args, []⟩).memory :=
  laidMetH_of_parts3 (fuel := 8) (laidMet_of_run' 8 (by kernel_rfl) (by kernel_rfl)) (by kernel_rfl) (by kernel_rfl)

set_option maxRecDepth 100000 in
theorem lifted (os : Os) (started : os.Started) (H : Type) (enc : TypeId × Value → H) :
    ReturnsInHanded {} Tryz.checked os 9 .any (fun w args => (Rows.eliminationNilSpec.pre enc Tryz.prog Tryz.f9 [] false w args ∧ laidMetH Tryz.prog laidL w) ∧ sizedMet enc Tryz.prog Tryz.f9 (OpenSpec.ofChange Rows.eliminationNilSpec) false w args)
      (Rows.eliminationNilSpec.post enc Tryz.prog Tryz.f9 false true false false) := by
  refine returnsInHanded_of_change_and (C := Tryz.checked) (X := fun w _ => laidMetH Tryz.prog laidL w) (fun _ _ _ hh h => h.of_heap hh) own started (by kernel_rfl) Tryz.func9
    (ChangeSpec.witness_shaped (enc := enc) (C := Tryz.checked) (os := os) (X := fun w _ => laidMetH Tryz.prog laidL w) false (World.doorLaid Tryz.prog 400 os) #[.slice none 0 0] 8 rfl (World.shaped_of_RefB (by kernel_rfl) (by kernel_rfl)) (by kernel_rfl) (by kernel_rfl) (by kernel_rfl) (door_met os _)) ?_
  intro W base args ds gs before hval0 hW _ _ hL _
  have hval : ∀ (j : Nat) t v, Tryz.f9.params[j]? = some t → args[j]? = some v → Value.okWide Tryz.prog W .any base t v := hval0
  have hW' := hW
  obtain ⟨p, q, hA0, hV, rfl, hfz, hnd⟩ := hW
  have hA : DataW.TrodAll enc Tryz.prog W 0 (fun _ => true) true Tryz.f9.params.toList args.toList ds p := hA0
  rw [Tryz.params9] at hA hval
  obtain ⟨v0, vs0, d0, ds0, p0, q0, hargs, rfl, rfl, h0, r0⟩ := trodAll_cons hA
  obtain ⟨rfl, rfl, rfl⟩ := trodAll_nil r0
  obtain rfl : args = #[v0] := by cases args; simp_all
  obtain ⟨rfl, rfl⟩ := trodVars_none hV
  obtain ⟨a0, len0, cap0, rfl⟩ := okWide_slice Tryz.underlying29 (hval 0 29 v0 rfl rfl)
  have k0 := h0
  have lt0 : ∀ x ∈ p0, x.block < W.heap.size := by obtain ⟨m, hm⟩ := k0; exact DataW.trod_lt m _ _ _ hm
  obtain ⟨fu0, hf0⟩ := h0
  obtain ⟨L0, hn0, hs0, ho0, hm0, hz0⟩ := open_ints (by simpa [Value.cells] using hf0)
  subst hn0
  clear hA0 hval0
  refine (eliminationNil_walk a0 L0 cap0 W hs0 ho0 hm0 (tab_of_laid hL)).mono fun e W' ⟨he, bel⟩ => ?_
  subst he
  exact ⟨_, rfl, _, _, _, [], _, [], hW', trodAll_mk1 (shut_bool Tryz.underlying4 _), (trodAll_cons_mk (Below.trod laidOut (by kernel_rfl) (of_decide_eq_true (by kernel_rfl)) k0 bel lt0) trodAll_mk0), rfl, bel.frame _, fun h => by cases h⟩

theorem over : Rows.eliminationNilRow.holds Tryz.pinned (OpenSpec.ofChange Rows.eliminationNilSpec) :=
  OpenClaim.holds_of_wide 9 Tryz.f9 rfl rfl rfl rfl rfl rfl rfl ⟨rfl, rfl, rfl, rfl, rfl⟩ rfl rfl rfl rfl rfl (by kernel_rfl) Tryz.func9 (by kernel_rfl)
    (of_decide_eq_true (by kernel_rfl)) (by unfold Func.isWrapper; first | (rw [if_pos (by decide +kernel)]; kernel_rfl) | (rw [if_neg (by decide +kernel)]; exact ⟨rfl, rfl⟩))
    (fun os started H enc _ => lifted os started H enc)
end Go.Proofs.YtjehhilijeajnaaGreatDoor.eliminationNilRow
namespace Go.Proofs.YtjehhilijeajnaaGreatDoor
open Go
/-- the given statement -/
theorem eliminationNil_holds : Rows.EliminationNilCardSaid :=
  Claim7.holds_tied_plain_at .later [] [.data] true (true, "0ceec30d3f7ff7f423cc43cb0ed385367f6dd2ec832c5276d81adf283899bfa9") true
    eliminationNilRow.over (fun _ h => by cases h) (by kernel_rfl) (fun _ h => by cases h) eliminationNil_row_tie rfl ⟨rfl, rfl⟩ (by kernel_rfl) rfl
    (fun f fn hf hfn => by
      obtain rfl : f = 9 := Option.some.inj ((show Tryz.prog.funcNamed "palmette/palmettelaw21.EliminationNil" = some 9 by kernel_rfl).symm.trans hf) |>.symm
      obtain rfl : fn = Tryz.f9 := (Option.some.inj (Tryz.func9.symm.trans hfn)).symm
      exact ⟨by kernel_rfl, fun j t ht => by
        rw [Tryz.params9] at ht
        have h3 : t = 29 := by
          rcases j with _ | j
          · simp at ht; simp [ht]
          · simp at ht
        rcases h3 with rfl
        · exact (show Tryz.prog.wantsStandIn 29 = false by kernel_rfl)⟩)
    (by kernel_rfl)
#print axioms eliminationNil_holds
end Go.Proofs.YtjehhilijeajnaaGreatDoor
