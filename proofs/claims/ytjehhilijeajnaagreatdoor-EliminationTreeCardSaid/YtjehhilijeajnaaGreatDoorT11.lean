/- Every input makes the law EliminationTree answer true, and each argument reads behind the call as it read before: the given card, tied to the program's text. No condition. -/
import Derived.Test.YtjehhilijeajnaaGreatDoorT10
import Derived.Test.YtjehhilijeajnaaGreatDoorT1
import Derived.LaidMore
import Derived.Stop.Joined
import Derived.MakeChecks
import Derived.Test.YtjehhilijeajnaaGreatDoorCards
import Derived.Test.YtjehhilijeajnaaGreatDoorTie
import Derived.WalkKit
import Derived.ProofKit
import Derived.OpenShut
import Derived.ShutString
import Derived.ChangeOld
import Derived.Below
import Derived.SevenTiedAt
/- EliminationTree: every input makes the law answer true: the walk. Conditions: see each theorem. -/
namespace Go.Proofs.YtjehhilijeajnaaGreatDoor
open Go Go.RowKit
attribute [local go_sem] qUpon lUpon

set_option maxRecDepth 100000 in
set_option maxHeartbeats 8000000 in
theorem eliminationTree_walk (A0 : Option Addr) (D : List Ed) (cD : Nat) (A1 : Option Addr) (Bs : List Int) (cT : Nat) (w : World) (hD : SlAt encD 5 w A0 D) (hB : SlAt encU8 1 w A1 Bs) (hb : ∀ x ∈ Bs, 0 ≤ x ∧ x < 256) (hBl : Bs.length ≤ 9223372036854775807) (hT : Tab w) :
    Calls Tryz.prog 3 #[.slice A0 D.length cD, .slice A1 Bs.length cT] w fun e w' => e = .returned (.bool true) ∧ Ext w w' := by
  have hT' := hide hT
  have hmi := mdS_inv D
  have hml := mdS_len D
  have hbg := begun_any A0 D cD A1 Bs cT w hD hB hb hBl
  clear hT hD hB hb
  generalize mdS D = S at *
  obtain ⟨V, E⟩ := S
  simp only at hmi hml hbg
  have hbg' := hide hbg
  have hi' := hide hmi
  clear hbg
  go_enter Tryz.func3, Tryz.ntmps3
  go_wp2_with fail
  refine (unhide hbg').mono ?_
  rintro e w1 ⟨g, bv, be, A, B, cA, cB, C, L, cL, rfl, hg1, hV1, hE1, hL1, hord1, hx1, _, _, _⟩
  have hck := ord_check hord1 (hord1.len hmi)
  have hl : L.length ≤ 100 := by rw [hord1.len hmi]; omega
  have hnE : E.length ≤ 4096 := Nat.le_trans hmi.ne (by omega)
  have hck' := hide hck
  have hord := hide hord1
  have hB1 := hide (Blk.new w1 28 #[.slice A V.length cA, .slice B E.length cB])
  have hxa := ext_self1 w1 (.cells #[.slice A V.length cA, .slice B E.length cB] 28)
  have hg2 := hide (hg1.ext hxa)
  have hV2 := hide (hV1.ext hxa)
  have hE2 := hide (hE1.ext hxa)
  have hL2 := hide (hL1.ext hxa)
  have hx2 := hide (hx1.trans hxa)
  clear hg1 hV1 hE1 hL1 hord1 hx1 hxa hck hmi hbg'
  go_wp2_with fail
  generalize w1.alloc (.cells #[.slice A V.length cA, .slice B E.length cB] 28) = w2 at *
  generalize w1.heap.size = gw at *
  have hte := tree_eq (unhide hi') (unhide hord)
  have htu := hide (tree_up (unhide hi') (unhide hord))
  have hhe := hide (hgt_eq (treeR E L L.length))
  have htl := hide (treeR_len E L L.length)
  have hpar := fun (W : World) (hW : Ext w2 W) => parents_ok C L cL g bv be V E W ((unhide hL2).ext hW) (by omega) ((unhide hg2).ext hW) ((unhide hT').ext ((unhide hx2).trans hW)) (unhide hck')
  rw [hte] at hpar
  have hpar' := hide hpar
  clear hpar hte
  refine (unhide hpar' w2 (Ext.refl _)).mono ?_
  rintro e w3 ⟨A3, c3, rfl, hs3, hx3⟩
  have hs3' := hide hs3
  have hx3' := hide hx3
  clear hs3 hx3
  go_wp2_with fail
  refine (height_gen (.pointer (some ⟨g, 0, none⟩)) (.slice C L.length cL) (treeR E L L.length) 0 w3 (unhide htu) (by rw [unhide htl]; omega) ((unhide hpar' w3 (unhide hx3')).mono fun e w' h => by
    obtain ⟨A', c', h1, h2, h3⟩ := h
    exact ⟨A', c', h1, h2, h3⟩)).mono ?_
  rw [unhide hhe, unhide htl]
  rintro e w4 ⟨rfl, hx4⟩
  have hs4 := hide ((unhide hs3').ext hx4)
  have hx4' := hide ((unhide hx3').trans hx4)
  clear hx4 hs3' hx3'
  go_wp2_with fail
  refine (known21_any w4 ((unhide hT').ext ((unhide hx2).trans (unhide hx4')))).mono ?_
  rintro e w5 ⟨rfl, hx5⟩
  have hs5 := hide ((unhide hs4).ext hx5)
  have hx5' := hide ((unhide hx4').trans hx5)
  have hB5 := (unhide hB1).ext (unhide hx5')
  have q0 := hB5.cells 0 (v := .slice A V.length cA) rfl
  have q1 := hB5.cells 1 (v := .slice B E.length cB) rfl
  have hself := Ext.refl w5
  clear hx5 hs4 hx4' hB5
  go_wp2_with fail
  refine (tree21_any A B V E cA cB C L cL w5 ((unhide hE2).ext (unhide hx5')) hnE ((unhide hL2).ext (unhide hx5')) hl).mono ?_
  rintro e w6 ⟨A6, c6, rfl, hs6, hx6⟩
  have hs56 := hide ((unhide hs5).ext hx6)
  have hs6' := hide hs6
  have hx6' := hide ((unhide hx5').trans hx6)
  clear q0 q1 hself hs6 hx6 hs5 hx5'
  rw [unhide htl]
  go_wp2_with fail
  have hin := ints_any A3 A6 (treeR E L L.length) (treeR E L L.length) c3 c6 w6 (unhide hs56) (unhide hs6') (by rw [unhide htl]; omega)
  rw [unhide htl] at hin
  refine hin.mono ?_
  rw [decide_eq_true rfl]
  rintro e w7 ⟨rfl, hx7⟩
  have hx7' := hide ((unhide hx6').trans hx7)
  have hB7 := (unhide hB1).ext (unhide hx7')
  have q0 := hB7.cells 0 (v := .slice A V.length cA) rfl
  have q1 := hB7.cells 1 (v := .slice B E.length cB) rfl
  have hself := Ext.refl w7
  clear hin hx7 hx6' hs6' hs56 hB7
  go_wp2_with fail
  refine (depth21_any A B V E cA cB C L cL w7 ((unhide hE2).ext (unhide hx7')) hnE ((unhide hL2).ext (unhide hx7')) hl (unhide htu)).mono ?_
  rintro e w8 ⟨rfl, hx8⟩
  have hx8' := hide (((unhide hx2).trans (unhide hx7')).trans hx8)
  clear q0 q1 hself hx8 hx7'
  go_wp2_with fail
  go_ret
  exact ⟨rfl, unhide hx8'⟩
end Go.Proofs.YtjehhilijeajnaaGreatDoor
/- ARGUMENTS OPENED, further: slices of ints and of bytes; the table that the row lists as laid. Conditions: see each theorem. -/
namespace Go.Proofs.YtjehhilijeajnaaGreatDoor
open Go Go.RowKit Go.ChangeShapes Go.WideShapes Go.Deep

section
variable {H : Type} {enc : TypeId × Value → H} {w : World} {base : Nat} {spare : Nat → Bool} {held : Bool} {fuel : Nat} {x : DataW H × List MemPlace} {a : Option Addr} {len cap : Nat}
theorem open_bytes (h : DataW.trod enc Tryz.prog w base spare held fuel 23 [.slice a len cap] = some x) : ∃ L : List Int, L.length = len ∧ SlAt encU8 1 w a L ∧ (∀ d ∈ L, 0 ≤ d ∧ d < 256) ∧ len ≤ 9223372036854775807 ∧ len ≤ cap := by
  rcases open_slice Tryz.underlying23 h with h0 | ⟨a', len', cap', m, n, D, Pl, hcs, hb, hl, hm, hmm, hx, hi⟩
  · have h0 := h0.1
    simp at h0
    obtain ⟨rfl, rfl, rfl⟩ := h0
    exact ⟨[], rfl, SlAt.nil, by simp, by omega, by omega⟩
  · simp at hcs
    obtain ⟨rfl, rfl, rfl⟩ := hcs
    obtain ⟨L, h1, h2, h3⟩ := slAt_of (α := Int) (enc := encU8) (k := 1) (w := w) (a := a') (len := len) (p := fun d => 0 ≤ d ∧ d < 256) (fun x => ⟨_, rfl⟩) (fun i hil => by
      have hle : len ≤ m := by rw [hmm]; split <;> omega
      obtain ⟨cs', hc, ht'⟩ := hi i (by omega)
      obtain ⟨k, e, _, wk⟩ := DataW.trod_int Tryz.underlying5 ht'
      subst e
      obtain ⟨_, hcl, hat⟩ := World.cells?_some hc
      have hk : Tryz.prog.cellsOf 5 = 1 := by kernel_rfl
      refine ⟨k, fun j u hu => ?_, by have := Go.bounds_u8 wk; omega⟩
      match j, hu with
      | 0, hu =>
        simp [encU8] at hu
        subst hu
        have h0 := hat 0 (by rw [hk]; omega)
        rw [hk] at h0
        rw [Go.Deep.add_add] at h0
        simpa using h0)
    exact ⟨L, h1, h2, h3, by have := hm; unfold maxLen at this; omega, hl⟩
theorem open_ints (h : DataW.trod enc Tryz.prog w base spare held fuel 29 [.slice a len cap] = some x) : ∃ L : List Int, L.length = len ∧ SlAt encI 1 w a L ∧ (∀ d ∈ L, i64ok d) ∧ len ≤ 9223372036854775807 ∧ len ≤ cap := by
  rcases open_slice Tryz.underlying29 h with h0 | ⟨a', len', cap', m, n, D, Pl, hcs, hb, hl, hm, hmm, hx, hi⟩
  · have h0 := h0.1
    simp at h0
    obtain ⟨rfl, rfl, rfl⟩ := h0
    exact ⟨[], rfl, SlAt.nil, by simp, by omega, by omega⟩
  · simp at hcs
    obtain ⟨rfl, rfl, rfl⟩ := hcs
    obtain ⟨L, h1, h2, h3⟩ := slAt_of (α := Int) (enc := encI) (k := 1) (w := w) (a := a') (len := len) (p := i64ok) (fun x => ⟨_, rfl⟩) (fun i hil => by
      have hle : len ≤ m := by rw [hmm]; split <;> omega
      obtain ⟨cs', hc, ht'⟩ := hi i (by omega)
      obtain ⟨k, e, _, wk⟩ := DataW.trod_int Tryz.underlying3 ht'
      subst e
      obtain ⟨_, hcl, hat⟩ := World.cells?_some hc
      have hk : Tryz.prog.cellsOf 3 = 1 := by kernel_rfl
      refine ⟨k, fun j u hu => ?_, i64_of_wf wk⟩
      match j, hu with
      | 0, hu =>
        simp [encI] at hu
        subst hu
        have h0 := hat 0 (by rw [hk]; omega)
        rw [hk] at h0
        rw [Go.Deep.add_add] at h0
        simpa using h0)
    exact ⟨L, h1, h2, h3, by have := hm; unfold maxLen at this; omega, hl⟩
end

theorem gTab : Tryz.prog.globalNamed "math/bits.deBruijn64tab" = some 0 := by kernel_rfl
theorem tTab : (Tryz.prog.globals[0]?).map (·.type) = some 173 := by kernel_rfl
def laidL : List (String × DataW Unit) := [("math/bits.deBruijn64tab", Rows.laid_math_bits_deBruijn64tab)]
theorem laid_list {H : Type} : (Rows.laid_math_bits_deBruijn64tab : DataW H) = .agg (Lib.deBruijn64tab.map fun (n : Nat) => DataW.lit (.int .u8 (n : Int))) := by kernel_rfl
theorem tab_len : Lib.deBruijn64tab.length = 64 := by decide
theorem tab_of_laid {W : World} (h : laidMetH Tryz.prog laidL W) : Tab W := by
  rw [MakeChecks.laidMetH_plain _ _ _ (by kernel_rfl)] at h
  obtain ⟨ps, ⟨g0, t0, cs0, f0, p0, q0, hg0, ht0, hv0, hd0, _⟩, _⟩ := h
  obtain rfl := Option.some.inj (gTab.symm.trans hg0)
  obtain rfl := Option.some.inj (tTab.symm.trans ht0)
  obtain ⟨xs, m1, rfl, hx1, hlen, hn3, hel⟩ := DataW.trod_array Tryz.underlying173 hd0
  rw [laid_list] at hx1
  simp only [Prod.mk.injEq, DataW.agg.injEq] at hx1
  have hc8 : Tryz.prog.cellsOf 5 = 1 := by kernel_rfl
  intro j hj
  have hj64 : j < 64 := by rw [tab_len] at hj; exact hj
  have hjx : j < xs.length := by omega
  have h0 := hel j hj64
  rw [List.getElem?_eq_getElem hjx] at h0
  obtain ⟨k, e1, e2, _⟩ := DataW.trod_int Tryz.underlying5 h0
  have hl := congrArg (fun l => l[j]?) hx1.1
  simp only [List.getElem?_map, List.getElem?_eq_getElem hjx, List.getElem?_eq_getElem hj, Option.map_some, e2, Option.some.injEq, DataW.lit.injEq, Lit.int.injEq, true_and] at hl
  rw [World.var?_cell hg0 hv0 j]
  rw [hc8, Nat.mul_one] at e1
  have e3 : (cs0.toList.drop j)[0]? = some (.int .u8 k) := by
    have := congrArg (fun l => l[0]?) e1
    simpa using this
  rw [List.getElem?_drop, Nat.add_zero, Array.getElem?_toList] at e3
  rw [e3, ← hl]
  simp [hj]
end Go.Proofs.YtjehhilijeajnaaGreatDoor
/- Every input makes the law EliminationTree answer true, and each argument reads behind the call as it read before: the given card, tied to the program's text. No condition. -/
namespace Go.Proofs.YtjehhilijeajnaaGreatDoor.eliminationTreeRow
open Go.ChangeShapes Go.WideShapes Go.ChangeAt Go.RowKit
set_option linter.unusedVariables false

theorem own : ownKnob Tryz.prog.godebug = none := by kernel_rfl
theorem laidOut : laidOutB Tryz.prog = true := by kernel_rfl
theorem door_met (os : Os) (args : Array Value) : laidMetH Tryz.prog laidL ((World.doorLaid Tryz.prog 400 os).forCall (fun _ _ => 0) ⟨#[], args, []⟩).memory :=
  laidMetH_of_parts3 (fuel := 8) (laidMet_of_run' 8 (by kernel_rfl) (by kernel_rfl)) (by kernel_rfl) (by kernel_rfl)

set_option maxRecDepth 100000 in
theorem lifted (os : Os) (started : os.Started) (H : Type) (enc : TypeId × Value → H) :
    ReturnsInHanded {} Tryz.checked os 3 .any (fun w args => (Rows.eliminationTreeSpec.pre enc Tryz.prog Tryz.f3 [] false w args ∧ laidMetH Tryz.prog laidL w) ∧ sizedMet enc Tryz.prog Tryz.f3 (OpenSpec.ofChange Rows.eliminationTreeSpec) false w args)
      (Rows.eliminationTreeSpec.post enc Tryz.prog Tryz.f3 false true false false) := by
  refine returnsInHanded_of_change_and (C := Tryz.checked) (X := fun w _ => laidMetH Tryz.prog laidL w) (fun _ _ _ hh h => h.of_heap hh) own started (by kernel_rfl) Tryz.func3
    (ChangeSpec.witness_shaped (enc := enc) (C := Tryz.checked) (os := os) (X := fun w _ => laidMetH Tryz.prog laidL w) false (World.doorLaid Tryz.prog 400 os) #[.slice none 0 0, .slice none 0 0] 8 rfl (World.shaped_of_RefB (by kernel_rfl) (by kernel_rfl)) (by kernel_rfl) (by kernel_rfl) (by kernel_rfl) (door_met os _)) ?_
  intro W base args ds gs before hval0 hW _ _ hL _
  have hval : ∀ (j : Nat) t v, Tryz.f3.params[j]? = some t → args[j]? = some v → Value.okWide Tryz.prog W .any base t v := hval0
  have hW' := hW
  obtain ⟨p, q, hA0, hV, rfl, hfz, hnd⟩ := hW
  have hA : DataW.TrodAll enc Tryz.prog W 0 (fun _ => true) true Tryz.f3.params.toList args.toList ds p := hA0
  rw [Tryz.params3] at hA hval
  obtain ⟨v0, vs0, d0, ds0, p0, q0, hargs, rfl, rfl, h0, r0⟩ := trodAll_cons hA
  obtain ⟨v1, vs1, d1, ds1, p1, q1, rfl, rfl, rfl, h1, r1⟩ := trodAll_cons r0
  obtain ⟨rfl, rfl, rfl⟩ := trodAll_nil r1
  obtain rfl : args = #[v0, v1] := by cases args; simp_all
  obtain ⟨rfl, rfl⟩ := trodVars_none hV
  obtain ⟨a0, len0, cap0, rfl⟩ := okWide_slice Tryz.underlying22 (hval 0 22 v0 rfl rfl)
  have k0 := h0
  have lt0 : ∀ x ∈ p0, x.block < W.heap.size := by obtain ⟨m, hm⟩ := k0; exact DataW.trod_lt m _ _ _ hm
  obtain ⟨fu0, hf0⟩ := h0
  obtain ⟨L0, hn0, hs0, ho0, hm0, hz0⟩ := open_edits (by simpa [Value.cells] using hf0)
  subst hn0
  obtain ⟨a1, len1, cap1, rfl⟩ := okWide_slice Tryz.underlying23 (hval 1 23 v1 rfl rfl)
  have k1 := h1
  have lt1 : ∀ x ∈ p1, x.block < W.heap.size := by obtain ⟨m, hm⟩ := k1; exact DataW.trod_lt m _ _ _ hm
  obtain ⟨fu1, hf1⟩ := h1
  obtain ⟨L1, hn1, hs1, ho1, hm1, hz1⟩ := open_bytes (by simpa [Value.cells] using hf1)
  subst hn1
  clear hA0 hval0
  refine (eliminationTree_walk a0 L0 cap0 a1 L1 cap1 W hs0 hs1 ho1 hm1 (tab_of_laid hL)).mono fun e W' ⟨he, bel⟩ => ?_
  subst he
  exact ⟨_, rfl, _, _, _, [], _, [], hW', trodAll_mk1 (shut_bool Tryz.underlying4 _), (trodAll_cons_mk (Below.trod laidOut (by kernel_rfl) (of_decide_eq_true (by kernel_rfl)) k0 bel lt0) (trodAll_cons_mk (Below.trod laidOut (by kernel_rfl) (of_decide_eq_true (by kernel_rfl)) k1 bel lt1) trodAll_mk0)), rfl, bel.frame _, fun h => by cases h⟩

theorem over : Rows.eliminationTreeRow.holds Tryz.pinned (OpenSpec.ofChange Rows.eliminationTreeSpec) :=
  OpenClaim.holds_of_wide 3 Tryz.f3 rfl rfl rfl rfl rfl rfl rfl ⟨rfl, rfl, rfl, rfl, rfl⟩ rfl rfl rfl rfl rfl (by kernel_rfl) Tryz.func3 (by kernel_rfl)
    (of_decide_eq_true (by kernel_rfl)) (by unfold Func.isWrapper; first | (rw [if_pos (by decide +kernel)]; kernel_rfl) | (rw [if_neg (by decide +kernel)]; exact ⟨rfl, rfl⟩))
    (fun os started H enc _ => lifted os started H enc)
end Go.Proofs.YtjehhilijeajnaaGreatDoor.eliminationTreeRow
namespace Go.Proofs.YtjehhilijeajnaaGreatDoor
open Go
/-- the given statement -/
theorem eliminationTree_holds : Rows.EliminationTreeCardSaid :=
  Claim7.holds_tied_plain_at .later [] [.data] true (true, "0ceec30d3f7ff7f423cc43cb0ed385367f6dd2ec832c5276d81adf283899bfa9") true
    eliminationTreeRow.over (fun _ h => by cases h) (by kernel_rfl) (fun _ h => by cases h) eliminationTree_row_tie rfl ⟨rfl, rfl⟩ (by kernel_rfl) rfl
    (fun f fn hf hfn => by
      obtain rfl : f = 3 := Option.some.inj ((show Tryz.prog.funcNamed "palmette/palmettelaw21.EliminationTree" = some 3 by kernel_rfl).symm.trans hf) |>.symm
      obtain rfl : fn = Tryz.f3 := (Option.some.inj (Tryz.func3.symm.trans hfn)).symm
      exact ⟨by kernel_rfl, fun j t ht => by
        rw [Tryz.params3] at ht
        have h3 : t = 22 ∨ t = 23 := by
          rcases j with _ | _ | j
          · simp at ht; simp [ht]
          · simp at ht; simp [ht]
          · simp at ht
        rcases h3 with rfl | rfl
        · exact (show Tryz.prog.wantsStandIn 22 = false by kernel_rfl)
        · exact (show Tryz.prog.wantsStandIn 23 = false by kernel_rfl)⟩)
    (by kernel_rfl)
#print axioms eliminationTree_holds
end Go.Proofs.YtjehhilijeajnaaGreatDoor
