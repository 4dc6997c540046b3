/- Every input makes the law ChordalNil answer true, and each argument reads behind the call as it read before: the given card, tied to the program's text. No condition. -/
import Derived.Test.YtmfkkkhddigkfaaGreatDoorE5
import Derived.Test.YtmfkkkhddigkfaaGreatDoorE7
import Derived.Test.YtmfkkkhddigkfaaGreatDoorE11
import Derived.Test.YtmfkkkhddigkfaaGreatDoorE12
import Derived.Test.YtmfkkkhddigkfaaGreatDoorE13
import Derived.Test.YtmfkkkhddigkfaaGreatDoorE15
import Derived.Test.YtmfkkkhddigkfaaGreatDoorE9
import Derived.Test.YtmfkkkhddigkfaaGreatDoorE18
import Derived.Test.YtmfkkkhddigkfaaGreatDoorE10
import Derived.Test.YtmfkkkhddigkfaaGreatDoorE22
import Derived.Test.YtmfkkkhddigkfaaGreatDoorE4
import Derived.Test.YtmfkkkhddigkfaaGreatDoorE1
import Derived.WalkKit
import Derived.ProofKit
import Derived.WideShapes
import Derived.OpenShut
import Derived.Test.YtmfkkkhddigkfaaGreatDoorCards
import Derived.Test.YtmfkkkhddigkfaaGreatDoorTie
import Derived.ShutString
import Derived.ChangeOld
import Derived.Below
import Derived.SevenTiedAt
/- bitset.Of. Conditions: see each theorem. -/
namespace Go.Proofs.YtmfkkkhddigkfaaGreatDoor
open Go Go.RowKit
attribute [local go_sem] qUpon lUpon

set_option maxRecDepth 100000 in
set_option maxHeartbeats 4000000 in
theorem of_big (A : Option Addr) (L : List Int) (cL : Nat) (w : World) (hL : SlAt encI 1 w A L) (hl : L.length ≤ 9223372036854775807) :
    Calls Tryz.prog 66 #[.slice A L.length cL] w fun e w' => e = .returned (.agg (setC (fromS L))) ∧ Ext w w' := by
  have hL' := hide hL
  have hB2 := hide ((Blk.new w 51 (setC 0)).ext (ext_self1 _ (.cells (setC 0) 51)))
  have hB3 := hide (Blk.new (w.alloc (.cells (setC 0) 51)) 51 (setC 0))
  have hx1 := hide (ext_self2 w (.cells (setC 0) 51) (.cells (setC 0) 51))
  simp only [World.size_alloc] at hB3
  clear hL
  go_enter Tryz.func66, Tryz.ntmps66
  go_wp2_with fail
  have hz : setC 0 = #[.int .u64 0, .int .u64 0, .int .u64 0, .int .u64 0, .int .u64 0, .int .u64 0, .int .u64 0, .int .u64 0, .int .u64 0, .int .u64 0, .int .u64 0, .int .u64 0, .int .u64 0, .int .u64 0, .int .u64 0, .int .u64 0] := rfl
  rw [hz] at hx1 hB2 hB3
  generalize (w.alloc (.cells #[.int .u64 0, .int .u64 0, .int .u64 0, .int .u64 0, .int .u64 0, .int .u64 0, .int .u64 0, .int .u64 0, .int .u64 0, .int .u64 0, .int .u64 0, .int .u64 0, .int .u64 0, .int .u64 0, .int .u64 0, .int .u64 0] 51)).alloc (.cells #[.int .u64 0, .int .u64 0, .int .u64 0, .int .u64 0, .int .u64 0, .int .u64 0, .int .u64 0, .int .u64 0, .int .u64 0, .int .u64 0, .int .u64 0, .int .u64 0, .int .u64 0, .int .u64 0, .int .u64 0, .int .u64 0] 51) = W1 at *
  rw [← hz] at hB2 hB3
  clear hz
  go_loopw [8] (fun i wr => ∃ k : Nat, k ≤ L.length ∧ i = .int .i64 k ∧ Blk wr w.heap.size 51 (setC 0) ∧ Blk wr (w.heap.size + 1) 51 (setC (fromS (L.take k))) ∧ Ext w wr) (fun i _ => L.length - (intOf i).toNat)
  case atStart => exact ⟨0, Nat.zero_le _, rfl, unhide hB2, by rw [List.take_zero]; exact unhide hB3, unhide hx1⟩
  case round =>
    obtain ⟨k, hk, rfl, hB, hC, hx⟩ := hrel
    have hB' := hide hB
    have hC' := hide hC
    have hx' := hide hx
    clear hB2 hB3 hx1
    by_cases hlt : k < L.length
    · have hLr := (unhide hL').ext hx
      obtain ⟨b, off, rfl, c0⟩ := atI hLr hlt
      have hst := hide (fromS_next L k hlt)
      generalize L[k] = x at c0 hst
      have hself := Ext.refl wr
      clear hB hC hx hLr
      try dsimp only
      repeat (first | (with_reducible refine wp_reg (id := 5) ?_) | go_values | go_step | go_guarded | go_upon | go_in | go_back | fail)
      refine wpO_val rfl (load_SetR (N := fromS (L.take k)) rfl rfl (unhide hC').whole) ?_
      refine wpO_want rfl ?_
      go_simp
      refine wpO_want rfl ?_
      go_simp
      refine (with_any (fromS (L.take k)) x wr).mono ?_
      rintro e W7 ⟨rfl, hx7⟩
      refine ⟨_, rfl, ?_⟩
      have hC7 := (unhide hC').ext hx7
      refine wpO_skip rfl (store_SetR (N := withS (fromS (L.take k)) x) rfl rfl rfl hC7) (wpO_done ?_)
      rw [← unhide hst]
      have hC8 := hide (hC7.row (setC (fromS (L.take (k + 1)))))
      have hB8 := hide (((unhide hB').ext hx7).keep (Keep.setRow W7 (w.heap.size + 1) (setC (fromS (L.take (k + 1))))) (by simp))
      have hx8 := hide (((unhide hx').trans hx7).of_new (Keep.setRow W7 (w.heap.size + 1) (setC (fromS (L.take (k + 1))))) (by simp))
      clear hB' hC' hx' hx7 hC7 c0 hself
      generalize W7.setRow (w.heap.size + 1) (setC (fromS (L.take (k + 1)))) = W8 at *
      go_wp2_with fail
      go_roundw
      case rel => exact ⟨k + 1, by omega, by go_num, unhide hB8, unhide hC8, unhide hx8⟩
      case measure => simp [intOf]; omega
    · have hke : k = L.length := by omega
      subst hke
      rw [List.take_length] at hC'
      clear hB hC hx
      try dsimp only
      repeat (first | (with_reducible refine wp_reg (id := 7) ?_) | go_values | go_step | go_guarded | go_upon | go_in | go_back | fail)
      refine wpO_val rfl (load_SetR (N := fromS L) rfl rfl (unhide hC').whole) ?_
      refine wpO_skip rfl (store_SetR (N := fromS L) rfl rfl rfl (unhide hB')) (wpO_done ?_)
      go_wp2_with fail
      refine bodyPost_ret (ret_cell1 rfl rfl (load_Set _ w.heap.size (fromS L) ((unhide hB').row _))) rfl ?_
      exact ⟨rfl, (unhide hx').of_new (Keep.setRow wr w.heap.size _) (by simp)⟩
theorem of_nb (A : Option Addr) (L : List Int) (n cL : Nat) (w : World) (hn : n = L.length) (hL : SlAt encI 1 w A L) (hl : L.length ≤ 9223372036854775807) :
    Calls Tryz.prog 66 #[.slice A n cL] w fun e w' => e = .returned (.agg (setC (fromS L))) ∧ Ext w w' := by
  subst hn
  exact of_big A L cL w hL hl
end Go.Proofs.YtmfkkkhddigkfaaGreatDoor
/- chordal.IsPerfect. Conditions: see each theorem. -/
namespace Go.Proofs.YtmfkkkhddigkfaaGreatDoor
open Go Go.RowKit Go.Shelf
attribute [local go_sem] qUpon lUpon
attribute [local irreducible] wpO wpX wpQL

theorem cnt_toK (N : Nat) : ∀ k, cntF N k = (toK N k).length
  | 0 => rfl
  | k + 1 => by
    rw [toK_next]
    show cntF N k + (N.testBit k).toNat = _
    rw [cnt_toK N k]
    cases N.testBit k <;> simp
/-- what IsPerfect answers -/
def okS (V : List (Int × Thing)) (L : List Int) : Bool := eqS (fromS L) (vS V) && decide ((L.length : Int) = (cntF (vS V) 1024 : Nat))
def isPerS (V : List (Int × Thing)) (E : List ((Int × Int) × Thing)) (L : List Int) : Bool × Int := if okS V L = true then (perS E L (vS V), 0) else (false, 3)

set_option maxRecDepth 100000 in
set_option maxHeartbeats 16000000 in
theorem isPerfect_any (og : Option Addr) (V : List (Int × Thing)) (E : List ((Int × Int) × Thing)) (C : Option Addr) (L : List Int) (n cL : Nat) (w : World) (hg : GL w og V E) (hT : Tab w) (hL : SlAt encI 1 w C L) (hn : n = L.length) (hl : n ≤ 9223372036854775807) :
    Calls Tryz.prog 30 #[.pointer og, .slice C n cL] w fun e w' => e = .returned (.tuple #[.bool (isPerS V E L).1, .int .i64 (isPerS V E L).2]) ∧ Ext w w' := by
  have hg' := hide hg
  have hT' := hide hT
  have hL' := hide hL
  have hn' := hide hn
  obtain ⟨b1, hb1⟩ : ∃ b, b = eqS (fromS L) (vS V) := ⟨_, rfl⟩
  obtain ⟨ct, hct⟩ : ∃ c, c = cntF (vS V) 1024 := ⟨_, rfl⟩
  have hr : isPerS V E L = if (b1 && decide ((n : Int) = (ct : Nat))) = true then (perS E L (vS V), 0) else (false, 3) := by rw [hb1, hct, hn]; rfl
  generalize isPerS V E L = res at *
  have hres := hide hr
  have hb1' := hide hb1
  have hct' := hide hct
  clear hg hT hL hn hr hb1 hct
  have hP := hide (Sp.new w)
  refine callsIn_wide.1 (callsIn_of_wp_marks (n := 0) Tryz.func30 rfl trivial (wpIn_wide.2 ?_))
  simp only [Tryz.ntmps30, List.size_toArray, List.length_cons, List.length_nil, Nat.reduceAdd, Nat.reduceSub, Array.replicate_succ, Array.replicate_zero, List.push_toArray, List.append_toArray, List.nil_append, List.cons_append]
  try dsimp only
  repeat ((fail_if_success (with_reducible refine wp_reg (id := 0) ?_)); (first | go_values | go_skip | go_step | go_guarded | go_upon | go_in | go_back | fail))
  with_reducible refine wp_reg (id := 0) ?_
  iterate 2
    refine wpO_want rfl ?_
    go_simp
  refine wpO_done ?_
  try go_frame
  try dsimp only
  repeat ((fail_if_success (with_reducible refine wp_reg (id := 1) ?_)); (first | go_values | go_skip | go_step | go_guarded | go_upon | go_in | go_back | fail))
  with_reducible refine wp_reg (id := 1) ?_
  refine wpO_val rfl (run_move rfl rfl) ?_
  go_frame
  refine wpO_want rfl ?_
  go_simp
  refine (vsetG og V E _ ((unhide hg').ext (unhide hP).extf)).mono ?_
  rintro _ y1 ⟨rfl, hxc⟩
  refine ⟨_, rfl, ?_⟩
  replace hP : Hid (Sp w [] w [] [] [] y1) := hide ((unhide hP).ext hxc)
  clear hxc
  refine (unhide hP).allocO 51 (setC 0) rfl (run_alloc_set rfl) ?_
  intro r6 y2 hQ
  replace hP : Hid (Sp w [] w [] [(r6, 51, setC 0)] [] y2) := hide hQ
  clear hQ
  refine (unhide hP).setO 0 (setC (vS V)) rfl rfl (fun hb => store_SetR (N := vS V) rfl rfl rfl hb) ?_
  intro y3 hQ
  replace hP : Hid (Sp w [] w [] [(r6, 51, setC (vS V))] [] y3) := hide hQ
  clear hQ
  refine wpO_done ?_
  try go_frame
  go_wp2_with fail
  cases b1
  · skip
    refine wp_regionK (P := Tryz.prog) [] [0,1,2,3,4,5,6,7,8,9,10] [] 0 #[true,true,true,true,true,true,true,true,true,true,true] (by kernel_rfl) (by kernel_rfl) rfl (by rfl) ?_
    iterate 1
      refine ql_want (v := ?_) rfl (by rfl) (fun W hW => ?_) ?_
      rotate_left
      · go_simp
        first | done | rfl
      go_frame
    refine ql_want (v := .agg (setC (fromS L))) rfl (by rfl) (fun W hW => ?_) ?_
    · go_simp
      refine (of_nb C L n cL W (unhide hn') ((unhide hL').ext ((unhide hP).extf.trans ((Ext.refl _).of_new hW (by simp)))) (by rw [← unhide hn']; exact hl)).mono ?_
      rintro _ _ ⟨h1, h2⟩
      exact ⟨_, h1, rfl, h2⟩
    go_frame
    refine ql_want (v := .agg (setC (vS V))) rfl (by rfl) (fun W hW => qUpon_ofX (load_SetR rfl rfl ((unhide hP).wholeK 0 rfl hW (by simp)))) ?_
    go_frame
    refine ql_want (v := .bool (!false)) rfl (by rfl) (fun W hW => qUpon_ofX (by rw [run_neq_Set (N := fromS L) (M := vS V) rfl (by rfl) (by rfl), ← unhide hb1'])) ?_
    go_frame
    simp only [Bool.not_false]
    try go_frame
    iterate 7
      first
      | (refine ql_skip rfl (by rfl) ?_)
      | (refine ql_want (v := ?_) rfl (by rfl) (fun W hW => ?_) ?_; rotate_left; (go_simp; (first | done | rfl)))
      try go_frame
    refine wpQL_nil (fun y4 hxq => ?_)
    replace hP : Hid (Sp w [] w [] [(r6, 51, setC (vS V))] [] y4) := hide ((unhide hP).ext hxq)
    clear hxq
    refine wpX_done (by kernel_rfl) ?_
    try go_frame
    go_wp2_with fail
    refine Sp.leaves0 ?_
    exact ⟨_, results_tmp2 rfl _ _ _, by rw [unhide hres]; rfl, (unhide hP).extf⟩
  · by_cases hnc : (n : Int) = (ct : Int)
    · have hcb : ((n : Int) != (ct : Int)) = false := by simp; omega
      replace hnc := hide hnc
      refine wp_regionK (P := Tryz.prog) [] [0,1,2,3,4,5,6,7,8,9,10] [] 0 #[true,true,true,true,true,true,true,true,true,true,true] (by kernel_rfl) (by kernel_rfl) rfl (by rfl) ?_
      iterate 1
        refine ql_want (v := ?_) rfl (by rfl) (fun W hW => ?_) ?_
        rotate_left
        · go_simp
          first | done | rfl
        go_frame
      refine ql_want (v := .agg (setC (fromS L))) rfl (by rfl) (fun W hW => ?_) ?_
      · go_simp
        refine (of_nb C L n cL W (unhide hn') ((unhide hL').ext ((unhide hP).extf.trans ((Ext.refl _).of_new hW (by simp)))) (by rw [← unhide hn']; exact hl)).mono ?_
        rintro _ _ ⟨h1, h2⟩
        exact ⟨_, h1, rfl, h2⟩
      go_frame
      refine ql_want (v := .agg (setC (vS V))) rfl (by rfl) (fun W hW => qUpon_ofX (load_SetR rfl rfl ((unhide hP).wholeK 0 rfl hW (by simp)))) ?_
      go_frame
      refine ql_want (v := .bool (!true)) rfl (by rfl) (fun W hW => qUpon_ofX (by rw [run_neq_Set (N := fromS L) (M := vS V) rfl (by rfl) (by rfl), ← unhide hb1'])) ?_
      go_frame
      simp only [Bool.not_true]
      try go_frame
      iterate 3
        refine ql_want (v := ?_) rfl (by rfl) (fun W hW => ?_) ?_
        rotate_left
        · go_simp
          first | done | rfl
        go_frame
      refine ql_want (v := .agg (setC (vS V))) rfl (by rfl) (fun W hW => qUpon_ofX (load_SetR rfl rfl ((unhide hP).wholeK 0 rfl hW (by simp)))) ?_
      go_frame
      refine ql_want (v := .int .i64 (ct : Nat)) rfl (by rfl) (fun W hW => ?_) ?_
      · go_simp
        refine (slen_any (vS V) W).mono ?_
        rw [← unhide hct']
        rintro _ _ ⟨h1, h2⟩
        exact ⟨_, h1, rfl, h2⟩
      go_frame
      iterate 2
        refine ql_want (v := ?_) rfl (by rfl) (fun W hW => ?_) ?_
        rotate_left
        · go_simp
          first | done | rfl
        go_frame
      refine wpQL_nil (fun y4 hxq => ?_)
      replace hP : Hid (Sp w [] w [] [(r6, 51, setC (vS V))] [] y4) := hide ((unhide hP).ext hxq)
      clear hxq
      refine wpX_done (by kernel_rfl) ?_
      try go_frame
      have hres2 := hide (show res = (perS E L (vS V), 0) by rw [unhide hres, Bool.true_and, if_pos (decide_eq_true (unhide hnc))])
      clear hres hcb
      try dsimp only
      repeat ((fail_if_success (with_reducible refine wp_reg (id := 4) ?_)); (first | go_values | go_skip | go_step | go_guarded | go_upon | go_in | go_back | fail))
      with_reducible refine wp_reg (id := 4) ?_
      iterate 3
        refine wpO_want rfl ?_
        go_simp
      refine wpO_done ?_
      try go_frame
      go_wp2_with fail
      refine wp_loop_ix (fun fi a' wr => ∃ (k : Nat), ∃ (N : Nat), a'.tmps.size = 37 ∧ a'.tmps.getD 0 undef = .pointer og ∧ a'.tmps.getD 6 undef = .pointer (some ⟨r6, 0, none⟩) ∧ a'.tmps.getD 22 undef = .slice C n cL ∧ a'.tmps.getD 23 undef = .int .i64 (n : Nat) ∧ a'.tmps.getD 24 undef = .int .i64 (k : Nat) ∧ a'.defers = [] ∧ k ≤ n ∧ perS E L (vS V) = perS E (L.drop k) N ∧ Sp w [] w [] [(r6, 51, setC N)] [] wr ∧ fi = n - k) (n - 0) ?_ ?_
      · exact ⟨0, vS V, rfl, rfl, rfl, rfl, rfl, rfl, rfl, Nat.zero_le _, rfl, unhide hP, rfl⟩
      · rintro fi ⟨tm, dfs⟩ wr ⟨k, N, hsz, e0, e6, e22, e23, e24, hdf, hk, hpe, hPr, hfm⟩
        obtain ⟨us, rfl⟩ : ∃ us : Nat → Value, tm = #[us 0, us 1, us 2, us 3, us 4, us 5, us 6, us 7, us 8, us 9, us 10, us 11, us 12, us 13, us 14, us 15, us 16, us 17, us 18, us 19, us 20, us 21, us 22, us 23, us 24, us 25, us 26, us 27, us 28, us 29, us 30, us 31, us 32, us 33, us 34, us 35, us 36] := ⟨fun i => tm.getD i undef, arr_fn hsz⟩
        have h0 : us 0 = .pointer og := e0
        have h6 : us 6 = .pointer (some ⟨r6, 0, none⟩) := e6
        have h22 : us 22 = .slice C n cL := e22
        have h23 : us 23 = .int .i64 (n : Nat) := e23
        have h24 : us 24 = .int .i64 (k : Nat) := e24
        have hdf2 : dfs = [] := hdf
        subst hdf2
        clear hdf hsz e0 e6 e22 e23 e24
        simp only [h0, h6, h22, h23, h24]
        clear h0 h6 h22 h23 h24
        clear hP
        have hP := hide hPr
        have hpe' := hide hpe
        have hfm' := hide hfm
        clear hPr hpe hfm
        by_cases hlt : k < n
        · have hkl : (k : Int) < (n : Int) := by omega
          have hkL : k < L.length := by have := unhide hn'; omega
          have hlt' := hide hlt
          have hkb : (k : Int) ≤ 9223372036854775806 := by omega
          obtain ⟨b, off, rfl, _⟩ := cellI (unhide hL') hkL
          obtain ⟨v, hv⟩ : ∃ v, v = L[k] := ⟨_, rfl⟩
          have hdr := hide (show perS E L (vS V) = (simpleS E v N && perS E (L.drop (k + 1)) (withoutS N v)) by rw [unhide hpe', List.drop_eq_getElem_cons hkL, ← hv]; rfl)
          have hv' := hide hv
          clear hv hpe'
          try dsimp only
          repeat ((fail_if_success (with_reducible refine wp_reg (id := 5) ?_)); (first | go_values | go_skip | go_step | go_guarded | go_upon | go_in | go_back | fail))
          with_reducible refine wp_reg (id := 5) ?_
          refine wpO_want rfl ?_
          go_simp
          refine wpO_done ?_
          try go_frame
          have c0 := slE ((unhide hL').ext (unhide hP).extf) hkL
          rw [← unhide hv'] at c0
          have hself := Ext.refl wr
          try dsimp only
          repeat ((fail_if_success (with_reducible refine wp_reg (id := 6) ?_)); (first | go_values | go_skip | go_step | go_guarded | go_upon | go_in | go_back | fail))
          with_reducible refine wp_reg (id := 6) ?_
          iterate 3
            refine wpO_want rfl ?_
            go_simp
          clear c0 hself
          refine wpO_done ?_
          try go_frame
          try dsimp only
          repeat ((fail_if_success (with_reducible refine wp_reg (id := 7) ?_)); (first | go_values | go_skip | go_step | go_guarded | go_upon | go_in | go_back | fail))
          with_reducible refine wp_reg (id := 7) ?_
          iterate 2
            refine wpO_want rfl ?_
            go_simp
          refine wpO_val rfl (load_SetR (N := N) rfl rfl ((unhide hP).get 0 rfl).whole) ?_
          refine wpO_want rfl ?_
          go_simp
          obtain ⟨q, hq⟩ : ∃ q, q = simpleS E v N := ⟨_, rfl⟩
          rw [← hq] at hdr
          have hq' := hide hq
          clear hq
          have hca := simple_any og V E v N wr ((unhide hg').ext (unhide hP).extf) ((unhide hT').ext (unhide hP).extf)
          rw [← unhide hq'] at hca
          refine (hca).mono ?_
          rintro _ y5 ⟨rfl, hxc⟩
          clear hca
          refine ⟨_, rfl, ?_⟩
          replace hP : Hid (Sp w [] w [] [(r6, 51, setC N)] [] y5) := hide ((unhide hP).ext hxc)
          clear hxc
          refine wpO_want rfl ?_
          go_simp
          refine wpO_done ?_
          try go_frame
          cases q
          · have hre := hide (show res = (false, 0) by rw [unhide hres2, unhide hdr]; rfl)
            go_wp2_with fail
            refine Sp.leaves0 ?_
            exact ⟨_, results_tmp2 rfl _ _ _, by rw [unhide hre]; rfl, (unhide hP).extf⟩
          · have hpn := hide (show perS E L (vS V) = perS E (L.drop (k + 1)) (withoutS N v) by rw [unhide hdr]; rfl)
            try dsimp only
            repeat ((fail_if_success (with_reducible refine wp_reg (id := 9) ?_)); (first | go_values | go_skip | go_step | go_guarded | go_upon | go_in | go_back | fail))
            with_reducible refine wp_reg (id := 9) ?_
            refine wpO_val rfl (load_SetR (N := N) rfl rfl ((unhide hP).get 0 rfl).whole) ?_
            refine wpO_want rfl ?_
            go_simp
            refine wpO_want rfl ?_
            go_simp
            refine (without_S N v _).mono ?_
            rintro _ y6 ⟨rfl, hxc⟩
            refine ⟨_, rfl, ?_⟩
            replace hP : Hid (Sp w [] w [] [(r6, 51, setC N)] [] y6) := hide ((unhide hP).ext hxc)
            clear hxc
            refine (unhide hP).setO 0 (setC (withoutS N v)) rfl rfl (fun hb => store_SetR (N := withoutS N v) rfl rfl rfl hb) ?_
            intro y7 hQ
            replace hP : Hid (Sp w [] w [] [(r6, 51, setC (withoutS N v))] [] y7) := hide hQ
            clear hQ
            refine wpO_done ?_
            try go_frame
            have hw1 : IntKind.i64.wrap ((k : Int) + 1) = (k : Int) + 1 := IntWalk.i64_in _ (by omega)
            try dsimp only
            repeat ((fail_if_success (with_reducible refine wp_reg (id := 10) ?_)); (first | go_values | go_skip | go_step | go_guarded | go_upon | go_in | go_back | fail))
            with_reducible refine wp_reg (id := 10) ?_
            iterate 2
              refine wpO_want rfl ?_
              go_simp
            refine wpO_done ?_
            try go_frame
            go_wp2_with fail
            have h1 := unhide hlt'
            first
            | exact ⟨n - (k + 1), ⟨k + 1, withoutS N v, (by first | rfl | trivial), (by first | rfl | trivial), (by first | rfl | trivial), (by first | rfl | trivial), (by first | rfl | trivial), (by first | rfl | (show _ = Value.int _ _; go_num) | go_num), (by first | rfl | trivial), by omega, unhide hpn, unhide hP, rfl⟩, by have := unhide hfm'; omega⟩
            | exact ⟨n - (k + 1), ⟨k + 1, withoutS N v, (by first | omega | go_num), by omega, unhide hpn, unhide hP, rfl⟩, by have := unhide hfm'; omega⟩
        · have hke : ¬ (k : Int) < (n : Int) := by omega
          have hre := hide (show res = (true, 0) by rw [unhide hres2, unhide hpe', List.drop_eq_nil_of_le (by have := unhide hn'; omega)]; rfl)
          go_wp2_with fail
          refine Sp.leaves0 ?_
          exact ⟨_, results_tmp2 rfl _ _ _, by rw [unhide hre]; rfl, (unhide hP).extf⟩
    · have hcb : ((n : Int) != (ct : Int)) = true := by simp; omega
      replace hnc := hide hnc
      refine wp_regionK (P := Tryz.prog) [] [0,1,2,3,4,5,6,7,8,9,10] [] 0 #[true,true,true,true,true,true,true,true,true,true,true] (by kernel_rfl) (by kernel_rfl) rfl (by rfl) ?_
      iterate 1
        refine ql_want (v := ?_) rfl (by rfl) (fun W hW => ?_) ?_
        rotate_left
        · go_simp
          first | done | rfl
        go_frame
      refine ql_want (v := .agg (setC (fromS L))) rfl (by rfl) (fun W hW => ?_) ?_
      · go_simp
        refine (of_nb C L n cL W (unhide hn') ((unhide hL').ext ((unhide hP).extf.trans ((Ext.refl _).of_new hW (by simp)))) (by rw [← unhide hn']; exact hl)).mono ?_
        rintro _ _ ⟨h1, h2⟩
        exact ⟨_, h1, rfl, h2⟩
      go_frame
      refine ql_want (v := .agg (setC (vS V))) rfl (by rfl) (fun W hW => qUpon_ofX (load_SetR rfl rfl ((unhide hP).wholeK 0 rfl hW (by simp)))) ?_
      go_frame
      refine ql_want (v := .bool (!true)) rfl (by rfl) (fun W hW => qUpon_ofX (by rw [run_neq_Set (N := fromS L) (M := vS V) rfl (by rfl) (by rfl), ← unhide hb1'])) ?_
      go_frame
      simp only [Bool.not_true]
      try go_frame
      iterate 3
        refine ql_want (v := ?_) rfl (by rfl) (fun W hW => ?_) ?_
        rotate_left
        · go_simp
          first | done | rfl
        go_frame
      refine ql_want (v := .agg (setC (vS V))) rfl (by rfl) (fun W hW => qUpon_ofX (load_SetR rfl rfl ((unhide hP).wholeK 0 rfl hW (by simp)))) ?_
      go_frame
      refine ql_want (v := .int .i64 (ct : Nat)) rfl (by rfl) (fun W hW => ?_) ?_
      · go_simp
        refine (slen_any (vS V) W).mono ?_
        rw [← unhide hct']
        rintro _ _ ⟨h1, h2⟩
        exact ⟨_, h1, rfl, h2⟩
      go_frame
      iterate 2
        refine ql_want (v := ?_) rfl (by rfl) (fun W hW => ?_) ?_
        rotate_left
        · go_simp
          first | done | rfl
        go_frame
      refine wpQL_nil (fun y4 hxq => ?_)
      replace hP : Hid (Sp w [] w [] [(r6, 51, setC (vS V))] [] y4) := hide ((unhide hP).ext hxq)
      clear hxq
      refine wpX_done (by kernel_rfl) ?_
      try go_frame
      go_wp2_with fail
      refine Sp.leaves0 ?_
      exact ⟨_, results_tmp2 rfl _ _ _, by rw [unhide hres, Bool.true_and, if_neg (by rw [decide_eq_true_eq]; exact unhide hnc)]; rfl, (unhide hP).extf⟩
end Go.Proofs.YtmfkkkhddigkfaaGreatDoor
/- chordal.IsSimplicial. Conditions: see the theorem. -/
namespace Go.Proofs.YtmfkkkhddigkfaaGreatDoor
open Go Go.RowKit Go.Shelf
attribute [local go_sem] qUpon lUpon

set_option maxRecDepth 100000 in
set_option maxHeartbeats 1000000 in
theorem isSimplicial_any (og : Option Addr) (V : List (Int × Thing)) (E : List ((Int × Int) × Thing)) (id : Int) (w : World) (hg : GL w og V E) (hT : Tab w) :
    Calls Tryz.prog 23 #[.pointer og, .int .i64 id] w fun e w' => e = .returned (.bool ((fitB id && (vS V).testBit id.toNat) && simpleS E id (vS V))) ∧ Ext w w' := by
  have hg' := hide hg
  have hT' := hide hT
  clear hg hT
  obtain ⟨q, hq⟩ : ∃ q, (fitB id && (vS V).testBit id.toNat) = q := ⟨_, rfl⟩
  have hq' := hide hq
  have hH := fun w => (has_any (vS V) id w)
  simp only [hq] at hH
  rw [hq]
  clear hq
  go_enter Tryz.func23, Tryz.ntmps23
  try dsimp only
  repeat ((fail_if_success (with_reducible refine wp_reg (id := 1) ?_)); (first | go_values | go_skip | go_step | go_guarded | go_upon | go_in | go_back | fail))
  with_reducible refine wp_reg (id := 1) ?_
  refine wpO_want rfl ?_
  go_simp
  refine wpO_want rfl ?_
  go_simp
  refine (vsetG og V E w (unhide hg')).mono ?_
  rintro _ w1 ⟨rfl, hx1⟩
  refine ⟨_, rfl, ?_⟩
  refine wpO_want rfl ?_
  go_simp
  refine wpO_want rfl ?_
  go_simp
  refine (hH w1).mono ?_
  rintro _ w2 ⟨rfl, hx2⟩
  refine ⟨_, rfl, ?_⟩
  have hx2' := hide (hx1.trans hx2)
  clear hx1 hx2
  refine wpO_want rfl ?_
  go_simp
  cases q
  · iterate 5
      refine wpO_out (by rfl) ?_
      go_frame
    iterate 2
      refine wpO_want rfl ?_
      go_simp
    refine wpO_done ?_
    try go_frame
    go_wp2_with fail
    go_ret
    exact ⟨rfl, unhide hx2'⟩
  · iterate 3
      refine wpO_want rfl ?_
      go_simp
    refine wpO_want rfl ?_
    go_simp
    refine (vsetG og V E w2 ((unhide hg').ext (unhide hx2'))).mono ?_
    rintro _ w3 ⟨rfl, hx3⟩
    refine ⟨_, rfl, ?_⟩
    refine wpO_want rfl ?_
    go_simp
    refine (simple_any og V E id (vS V) w3 ((unhide hg').ext ((unhide hx2').trans hx3)) ((unhide hT').ext ((unhide hx2').trans hx3))).mono ?_
    rintro _ w4 ⟨rfl, hx4⟩
    refine ⟨_, rfl, ?_⟩
    iterate 2
      refine wpO_want rfl ?_
      go_simp
    refine wpO_done ?_
    try go_frame
    have hx4' := hide (((unhide hx2').trans hx3).trans hx4)
    clear hx3 hx4
    go_wp2_with fail
    go_ret
    exact ⟨rfl, unhide hx4'⟩
end Go.Proofs.YtmfkkkhddigkfaaGreatDoor
/- palmettelaw24.ChordalNil answers true. Conditions: see each theorem. -/
namespace Go.Proofs.YtmfkkkhddigkfaaGreatDoor
open Go Go.RowKit Go.Shelf
attribute [local go_sem] qUpon lUpon
attribute [local irreducible] wpO wpX wpQL

theorem cliquesR_nil : cliquesR [] [] = [] := by
  refine List.eq_nil_iff_forall_not_mem.2 fun K hK => ?_
  obtain ⟨h1, h2, _⟩ := mem_cliques.1 hK
  exact h2 (List.sublist_nil.1 h1)
theorem peoS_nil : peoS [] [] = some [] := by kernel_rfl
theorem holeS_nil : holeS [] [] = ([], false) := by kernel_rfl
theorem mcS_nil : mcS [] [] = ([], 0) := by unfold mcS; rw [peoS_nil, cliquesR_nil]; rfl
theorem ctS_nil : ctS [] [] = ([], [], 0) := by unfold ctS; rw [mcS_nil, if_neg]; rintro ⟨_, h⟩; exact h rfl
theorem colS_nil : (colS [] []).2 = 0 := by kernel_rfl
theorem colOut_nil : colOut [] [] [] = [] := by kernel_rfl
theorem isPerS_nil (L : List Int) : isPerS [] [] L = if L = [] then (true, 0) else (false, 3) := by
  unfold isPerS okS
  have hc : cntF (vS []) 1024 = 0 := by kernel_rfl
  rw [hc]
  by_cases h : L = []
  · subst h
    have e : eqS (fromS []) (vS []) = true := by kernel_rfl
    rw [e]; rfl
  · rw [if_neg h, if_neg]
    rw [Bool.and_eq_true, decide_eq_true_eq]
    rintro ⟨_, h2⟩
    exact h (List.length_eq_zero_iff.1 (by omega))
theorem sub_nil (N : Nat) : (subS N (vS []) && cliqueS [] N) = eqS N 0 := by
  have h0 : vS [] = 0 := by kernel_rfl
  have h1 : subS N 0 = eqS N 0 := by
    unfold subS
    congr 1
    exact Nat.eq_of_testBit_eq fun k => by rw [minusS_bit, Nat.zero_testBit]; simp
  rw [h0, h1]
  cases h : eqS N 0 with
  | false => rfl
  | true =>
    have h2 : toL N = [] := toL_nil fun k hk => by rw [eqS_iff.1 h k hk, Nat.zero_testBit]
    unfold cliqueS
    rw [h2]; rfl
theorem simple_nil (id : Int) : ((fitB id && (vS []).testBit id.toNat) && simpleS [] id (vS [])) = false := by
  have h0 : vS [] = 0 := by kernel_rfl
  rw [h0, Nat.zero_testBit, Bool.and_false, Bool.false_and]

set_option maxRecDepth 100000 in
set_option maxHeartbeats 16000000 in
theorem chordalNil_walk (C : Option Addr) (M : List Int) (cM N : Nat) (id : Int) (w : World) (hM : SlAt encI 1 w C M) (_hMo : ∀ d ∈ M, i64ok d) (hMl : M.length ≤ 9223372036854775807) (_hMc : M.length ≤ cM) (_hN : N < 2 ^ (64 * 16)) (_hid : i64ok id) (hT : Tab w) :
    Calls Tryz.prog 11 #[.slice C M.length cM, .agg (setC N), .int .i64 id] w fun e w' => e = .returned (.bool true) ∧ Ext w w' := by
  have hM' := hide hM
  have hT' := hide hT
  have hMl' := hide hMl
  obtain ⟨n, hn⟩ : ∃ n, n = M.length := ⟨_, rfl⟩
  rw [← hn] at hMl' ⊢
  have hn' := hide hn
  clear hM hT hMl hn _hMo _hMc _hN _hid
  have hP := hide (Sp.new w)
  refine callsIn_wide.1 (callsIn_of_wp_marks (n := 0) Tryz.func11 rfl trivial (wpIn_wide.2 ?_))
  simp only [Tryz.ntmps11, List.size_toArray, List.length_cons, List.length_nil, Nat.reduceAdd, Nat.reduceSub, Array.replicate_succ, Array.replicate_zero, List.push_toArray, List.append_toArray, List.nil_append, List.cons_append]
  try dsimp only
  repeat ((fail_if_success (with_reducible refine wp_reg (id := 0) ?_)); (first | go_values | go_skip | go_step | go_guarded | go_upon | go_in | go_back | fail))
  with_reducible refine wp_reg (id := 0) ?_
  refine (unhide hP).allocO 51 (setC N) rfl (run_box (v := .agg (setC N)) rfl rfl) ?_
  intro r4 y1 hQ
  replace hP : Hid (Sp w [] w [] [(r4, 51, setC N)] [] y1) := hide hQ
  clear hQ
  refine wpO_want rfl ?_
  go_simp
  refine wpO_done ?_
  try go_frame
  try dsimp only
  repeat ((fail_if_success (with_reducible refine wp_reg (id := 1) ?_)); (first | go_values | go_skip | go_step | go_guarded | go_upon | go_in | go_back | fail))
  with_reducible refine wp_reg (id := 1) ?_
  refine wpO_want rfl ?_
  go_simp
  have hca := perfect_any none [] [] y1 (GL.nil _) ((unhide hT').ext (unhide hP).extf)
  unfold PoPost at hca
  rw [peoS_nil] at hca
  simp only [Option.getD_some, Option.isSome_some, List.length_nil] at hca
  refine (hca).mono ?_
  rintro _ y2 ⟨Ap, cp, rfl, _, hxc⟩
  clear hca
  refine ⟨_, rfl, ?_⟩
  replace hP : Hid (Sp w [] w [] [(r4, 51, setC N)] [] y2) := hide ((unhide hP).ext hxc)
  clear hxc
  generalize htu0 : Value.tuple _ = tu
  have htu := hide htu0
  clear htu0
  refine wpO_val rfl (run_move rfl rfl) ?_
  go_frame
  refine wpO_val rfl (run_extract (i := 0) (v := .slice Ap 0 cp) rfl (unhide htu).symm rfl) ?_
  go_frame
  refine wpO_val rfl (run_extract (i := 1) (v := .bool true) rfl (unhide htu).symm rfl) ?_
  go_frame
  iterate 2
    refine wpO_want rfl ?_
    go_simp
  refine wpO_done ?_
  try go_frame
  clear htu
  try dsimp only
  repeat ((fail_if_success (with_reducible refine wp_reg (id := 2) ?_)); (first | go_values | go_skip | go_step | go_guarded | go_upon | go_in | go_back | fail))
  with_reducible refine wp_reg (id := 2) ?_
  refine wpO_want rfl ?_
  go_simp
  have hca := hole_any none [] [] y2 (GL.nil _) ((unhide hT').ext (unhide hP).extf)
  unfold TwPost at hca
  rw [holeS_nil] at hca
  simp only [List.length_nil] at hca
  refine (hca).mono ?_
  rintro _ y3 ⟨Ah, ch, rfl, _, hxc⟩
  clear hca
  refine ⟨_, rfl, ?_⟩
  replace hP : Hid (Sp w [] w [] [(r4, 51, setC N)] [] y3) := hide ((unhide hP).ext hxc)
  clear hxc
  generalize htu0 : Value.tuple _ = tu
  have htu := hide htu0
  clear htu0
  refine wpO_val rfl (run_move rfl rfl) ?_
  go_frame
  refine wpO_val rfl (run_extract (i := 0) (v := .slice Ah 0 ch) rfl (unhide htu).symm rfl) ?_
  go_frame
  refine wpO_val rfl (run_extract (i := 1) (v := .bool false) rfl (unhide htu).symm rfl) ?_
  go_frame
  iterate 2
    refine wpO_want rfl ?_
    go_simp
  refine wpO_done ?_
  try go_frame
  clear htu
  try dsimp only
  repeat ((fail_if_success (with_reducible refine wp_reg (id := 3) ?_)); (first | go_values | go_skip | go_step | go_guarded | go_upon | go_in | go_back | fail))
  with_reducible refine wp_reg (id := 3) ?_
  refine wpO_want rfl ?_
  go_simp
  have hca := maxCliques_any none [] [] y3 (GL.nil _) ((unhide hT').ext (unhide hP).extf)
  unfold McPost at hca
  rw [mcS_nil] at hca
  simp only [List.length_nil] at hca
  refine (hca).mono ?_
  rintro _ y4 ⟨Am, cm, rfl, _, hxc⟩
  clear hca
  refine ⟨_, rfl, ?_⟩
  replace hP : Hid (Sp w [] w [] [(r4, 51, setC N)] [] y4) := hide ((unhide hP).ext hxc)
  clear hxc
  generalize htu0 : Value.tuple _ = tu
  have htu := hide htu0
  clear htu0
  refine wpO_val rfl (run_move rfl rfl) ?_
  go_frame
  refine wpO_val rfl (run_extract (i := 0) (v := .slice Am 0 cm) rfl (unhide htu).symm rfl) ?_
  go_frame
  refine wpO_val rfl (run_extract (i := 1) (v := .int .i64 0) rfl (unhide htu).symm rfl) ?_
  go_frame
  iterate 2
    refine wpO_want rfl ?_
    go_simp
  refine wpO_done ?_
  try go_frame
  clear htu
  try dsimp only
  repeat ((fail_if_success (with_reducible refine wp_reg (id := 4) ?_)); (first | go_values | go_skip | go_step | go_guarded | go_upon | go_in | go_back | fail))
  with_reducible refine wp_reg (id := 4) ?_
  refine wpO_want rfl ?_
  go_simp
  have hca := cliqueTree_any none [] [] y4 (GL.nil _) ((unhide hT').ext (unhide hP).extf)
  unfold CtPost at hca
  rw [ctS_nil] at hca
  simp only [List.length_nil] at hca
  refine (hca).mono ?_
  rintro _ y5 ⟨Au, As, cu, cs, rfl, _, _, hxc⟩
  clear hca
  refine ⟨_, rfl, ?_⟩
  replace hP : Hid (Sp w [] w [] [(r4, 51, setC N)] [] y5) := hide ((unhide hP).ext hxc)
  clear hxc
  generalize htu0 : Value.tuple _ = tu
  have htu := hide htu0
  clear htu0
  refine wpO_val rfl (run_move rfl rfl) ?_
  go_frame
  refine wpO_val rfl (run_extract (i := 0) (v := .slice Au 0 cu) rfl (unhide htu).symm rfl) ?_
  go_frame
  refine wpO_val rfl (run_extract (i := 1) (v := .slice As 0 cs) rfl (unhide htu).symm rfl) ?_
  go_frame
  refine wpO_val rfl (run_extract (i := 2) (v := .int .i64 0) rfl (unhide htu).symm rfl) ?_
  go_frame
  iterate 3
    refine wpO_want rfl ?_
    go_simp
  refine wpO_done ?_
  try go_frame
  clear htu
  try dsimp only
  repeat ((fail_if_success (with_reducible refine wp_reg (id := 5) ?_)); (first | go_values | go_skip | go_step | go_guarded | go_upon | go_in | go_back | fail))
  with_reducible refine wp_reg (id := 5) ?_
  refine wpO_want rfl ?_
  go_simp
  have hca := coloring_any none [] [] y5 (GL.nil _) ((unhide hT').ext (unhide hP).extf)
  rw [peoS_nil] at hca
  simp only [Option.getD_some] at hca
  rw [colS_nil, colOut_nil] at hca
  unfold CoPost at hca
  simp only [List.length_nil] at hca
  refine (hca).mono ?_
  rintro _ y6 ⟨Ac, cc, rfl, _, hxc⟩
  clear hca
  refine ⟨_, rfl, ?_⟩
  replace hP : Hid (Sp w [] w [] [(r4, 51, setC N)] [] y6) := hide ((unhide hP).ext hxc)
  clear hxc
  generalize htu0 : Value.tuple _ = tu
  have htu := hide htu0
  clear htu0
  refine wpO_val rfl (run_move rfl rfl) ?_
  go_frame
  refine wpO_val rfl (run_extract (i := 0) (v := .int .i64 0) rfl (unhide htu).symm rfl) ?_
  go_frame
  refine wpO_val rfl (run_extract (i := 1) (v := .slice Ac 0 cc) rfl (unhide htu).symm rfl) ?_
  go_frame
  refine wpO_val rfl (run_extract (i := 2) (v := .int .i64 0) rfl (unhide htu).symm rfl) ?_
  go_frame
  iterate 3
    refine wpO_want rfl ?_
    go_simp
  refine wpO_done ?_
  try go_frame
  clear htu
  obtain ⟨p, hp⟩ : ∃ p, p = isPerS [] [] M := ⟨_, rfl⟩
  have hp2 := hp
  rw [isPerS_nil] at hp2
  have hp' := hide hp
  have hp3 := hide hp2
  obtain ⟨p1, p2⟩ := p
  clear hp hp2
  try dsimp only
  repeat ((fail_if_success (with_reducible refine wp_reg (id := 6) ?_)); (first | go_values | go_skip | go_step | go_guarded | go_upon | go_in | go_back | fail))
  with_reducible refine wp_reg (id := 6) ?_
  refine wpO_want rfl ?_
  go_simp
  refine wpO_want rfl ?_
  go_simp
  have hca := isPerfect_any none [] [] C M n cM y6 (GL.nil _) ((unhide hT').ext (unhide hP).extf) ((unhide hM').ext (unhide hP).extf) (unhide hn') (unhide hMl')
  rw [← unhide hp'] at hca
  refine (hca).mono ?_
  rintro _ y7 ⟨rfl, hxc⟩
  clear hca
  refine ⟨_, rfl, ?_⟩
  replace hP : Hid (Sp w [] w [] [(r4, 51, setC N)] [] y7) := hide ((unhide hP).ext hxc)
  clear hxc
  generalize htu0 : Value.tuple _ = tu
  have htu := hide htu0
  clear htu0
  refine wpO_val rfl (run_move rfl rfl) ?_
  go_frame
  refine wpO_val rfl (run_extract (i := 0) (v := .bool p1) rfl (unhide htu).symm rfl) ?_
  go_frame
  refine wpO_val rfl (run_extract (i := 1) (v := .int .i64 p2) rfl (unhide htu).symm rfl) ?_
  go_frame
  iterate 2
    refine wpO_want rfl ?_
    go_simp
  refine wpO_done ?_
  try go_frame
  clear htu
  try dsimp only
  repeat ((fail_if_success (with_reducible refine wp_reg (id := 7) ?_)); (first | go_values | go_skip | go_step | go_guarded | go_upon | go_in | go_back | fail))
  with_reducible refine wp_reg (id := 7) ?_
  skip
  refine wpO_want rfl ?_
  go_simp
  refine (known24_any _ ((unhide hT').ext (unhide hP).extf)).mono ?_
  rintro _ y8 ⟨rfl, hxc⟩
  refine ⟨_, rfl, ?_⟩
  replace hP : Hid (Sp w [] w [] [(r4, 51, setC N)] [] y8) := hide ((unhide hP).ext hxc)
  clear hxc
  iterate 42
    refine wpO_want rfl ?_
    go_simp
  refine wpO_done ?_
  try go_frame
  go_wp2_with fail
  obtain ⟨em, hem⟩ : ∃ e, e = eqS N 0 := ⟨_, rfl⟩
  have hem' := hide hem
  have hee : (em == em) = true := by cases em <;> rfl
  clear hem
  by_cases hn0 : n = 0
  · subst hn0
    have hMn : M = [] := List.length_eq_zero_iff.1 (unhide hn').symm
    have h := unhide hp3
    rw [if_pos hMn] at h
    injection h with e1 e2
    subst e1
    subst e2
    clear hMn hp3 hp'
    refine wp_regionK (P := Tryz.prog) [] [0,1,2,3,4,5,6,7,8,9,10,11,12,13,14,15,16,17,18,19,20,21,22,23,24,25,26,27,28,29,30,31,32,33] [] 0 #[true,true,true,true,true,true,true,true,true,true,true,true,true,true,true,true,true,true,true,true,true,true,true,true,true,true,true,true,true,true,true,true,true,true] (by kernel_rfl) (by kernel_rfl) rfl (by rfl) ?_
    refine ql_want (v := .agg (setC N)) rfl (by rfl) (fun W hW => qUpon_ofX (load_SetR rfl rfl ((unhide hP).wholeK 0 rfl hW (by simp)))) ?_
    go_frame
    refine ql_want (v := .bool em) rfl (by rfl) (fun W hW => ?_) ?_
    · go_simp
      refine (isClique_any none [] [] N W (GL.nil _) ((unhide hT').ext ((unhide hP).extf.trans ((Ext.refl _).of_new hW (by simp))))).mono ?_
      rw [sub_nil, ← unhide hem']
      rintro _ _ ⟨h1, h2⟩
      exact ⟨_, h1, rfl, h2⟩
    go_frame
    refine ql_want (v := .agg (setC N)) rfl (by rfl) (fun W hW => qUpon_ofX (load_SetR rfl rfl ((unhide hP).wholeK 0 rfl hW (by simp)))) ?_
    go_frame
    refine ql_want (v := .bool em) rfl (by rfl) (fun W hW => ?_) ?_
    · go_simp
      refine (empty_any N W).mono ?_
      rw [← unhide hem']
      rintro _ _ ⟨h1, h2⟩
      exact ⟨_, h1, rfl, h2⟩
    go_frame
    iterate 3
      refine ql_want (v := ?_) rfl (by rfl) (fun W hW => ?_) ?_
      rotate_left
      · go_simp
        first | done | rfl
      go_frame
    refine ql_want (v := .bool false) rfl (by rfl) (fun W hW => ?_) ?_
    · go_simp
      refine (isSimplicial_any none [] [] id W (GL.nil _) ((unhide hT').ext ((unhide hP).extf.trans ((Ext.refl _).of_new hW (by simp))))).mono ?_
      rw [simple_nil]
      rintro _ _ ⟨h1, h2⟩
      exact ⟨_, h1, rfl, h2⟩
    go_frame
    iterate 26
      first
      | (refine ql_skip rfl (by rfl) ?_)
      | (refine ql_want (v := ?_) rfl (by rfl) (fun W hW => ?_) ?_; rotate_left; (go_simp; (first | done | rfl)))
      try go_frame
    refine wpQL_nil (fun y9 hxq => ?_)
    replace hP : Hid (Sp w [] w [] [(r4, 51, setC N)] [] y9) := hide ((unhide hP).ext hxq)
    clear hxq
    refine wpX_done (by kernel_rfl) ?_
    try go_frame
    go_wp2_with fail
    refine Sp.leaves0 ?_
    exact ⟨_, results_tmp rfl _ _ _, rfl, (unhide hP).extf⟩
  · have hni : ((n : Int) == 0) = false := by simp [hn0]
    have hMn : ¬ M = [] := fun h => hn0 (by rw [unhide hn', h]; rfl)
    have h := unhide hp3
    rw [if_neg hMn] at h
    injection h with e1 e2
    subst e1
    subst e2
    clear hMn hp3 hp'
    replace hn0 := hide hn0
    refine wp_regionK (P := Tryz.prog) [] [0,1,2,3,4,5,6,7,8,9,10,11,12,13,14,15,16,17,18,19,20,21,22,23,24,25,26,27,28,29,30,31,32,33] [] 0 #[true,true,true,true,true,true,true,true,true,true,true,true,true,true,true,true,true,true,true,true,true,true,true,true,true,true,true,true,true,true,true,true,true,true] (by kernel_rfl) (by kernel_rfl) rfl (by rfl) ?_
    refine ql_want (v := .agg (setC N)) rfl (by rfl) (fun W hW => qUpon_ofX (load_SetR rfl rfl ((unhide hP).wholeK 0 rfl hW (by simp)))) ?_
    go_frame
    refine ql_want (v := .bool em) rfl (by rfl) (fun W hW => ?_) ?_
    · go_simp
      refine (isClique_any none [] [] N W (GL.nil _) ((unhide hT').ext ((unhide hP).extf.trans ((Ext.refl _).of_new hW (by simp))))).mono ?_
      rw [sub_nil, ← unhide hem']
      rintro _ _ ⟨h1, h2⟩
      exact ⟨_, h1, rfl, h2⟩
    go_frame
    refine ql_want (v := .agg (setC N)) rfl (by rfl) (fun W hW => qUpon_ofX (load_SetR rfl rfl ((unhide hP).wholeK 0 rfl hW (by simp)))) ?_
    go_frame
    refine ql_want (v := .bool em) rfl (by rfl) (fun W hW => ?_) ?_
    · go_simp
      refine (empty_any N W).mono ?_
      rw [← unhide hem']
      rintro _ _ ⟨h1, h2⟩
      exact ⟨_, h1, rfl, h2⟩
    go_frame
    iterate 3
      refine ql_want (v := ?_) rfl (by rfl) (fun W hW => ?_) ?_
      rotate_left
      · go_simp
        first | done | rfl
      go_frame
    refine ql_want (v := .bool false) rfl (by rfl) (fun W hW => ?_) ?_
    · go_simp
      refine (isSimplicial_any none [] [] id W (GL.nil _) ((unhide hT').ext ((unhide hP).extf.trans ((Ext.refl _).of_new hW (by simp))))).mono ?_
      rw [simple_nil]
      rintro _ _ ⟨h1, h2⟩
      exact ⟨_, h1, rfl, h2⟩
    go_frame
    iterate 26
      first
      | (refine ql_skip rfl (by rfl) ?_)
      | (refine ql_want (v := ?_) rfl (by rfl) (fun W hW => ?_) ?_; rotate_left; (go_simp; (first | done | rfl)))
      try go_frame
    refine wpQL_nil (fun y9 hxq => ?_)
    replace hP : Hid (Sp w [] w [] [(r4, 51, setC N)] [] y9) := hide ((unhide hP).ext hxq)
    clear hxq
    refine wpX_done (by kernel_rfl) ?_
    try go_frame
    go_wp2_with fail
    refine Sp.leaves0 ?_
    exact ⟨_, results_tmp rfl _ _ _, rfl, (unhide hP).extf⟩
end Go.Proofs.YtmfkkkhddigkfaaGreatDoor
/- ARGUMENTS OPENED, further: a set by value. Conditions: see each theorem. -/
namespace Go.Proofs.YtmfkkkhddigkfaaGreatDoor
open Go Go.RowKit Go.ChangeShapes Go.WideShapes Go.Deep

/-- the number whose words are given -/
def packN (s : Nat → Nat) : Nat → Nat
  | 0 => 0
  | k + 1 => packN s k + s k * 2 ^ (64 * k)
theorem packN_lt (s : Nat → Nat) (h : ∀ i, s i < 18446744073709551616) : ∀ k, packN s k < 2 ^ (64 * k)
  | 0 => by simp [packN]
  | k + 1 => by
    have ih := packN_lt s h k
    have hk := h k
    have e : 2 ^ (64 * (k + 1)) = 18446744073709551616 * 2 ^ (64 * k) := by rw [show 64 * (k + 1) = 64 + 64 * k by omega, Nat.pow_add]
    rw [packN, e]
    have : (s k + 1) * 2 ^ (64 * k) ≤ 18446744073709551616 * 2 ^ (64 * k) := Nat.mul_le_mul_right _ hk
    rw [Nat.add_mul, Nat.one_mul] at this
    omega
theorem packN_word (s : Nat → Nat) (h : ∀ i, s i < 18446744073709551616) : ∀ k i, i < k → wdN (packN s k) i = s i
  | 0, i, hi => by omega
  | k + 1, i, hi => by
    have hlt := packN_lt s h k
    by_cases he : i = k
    · subst he
      unfold wdN
      rw [packN, Nat.shiftRight_eq_div_pow, Nat.add_mul_div_right _ _ (Nat.pow_pos (by decide)), Nat.div_eq_of_lt hlt, Nat.zero_add]
      exact Nat.mod_eq_of_lt (h i)
    · have ih := packN_word s h k i (by omega)
      rw [← ih]
      apply Nat.eq_of_testBit_eq
      intro j
      rw [wdN_bit, wdN_bit]
      by_cases hj : j < 64
      · simp only [hj, decide_true, Bool.true_and]
        rw [packN, Nat.add_comm, Nat.mul_comm, Nat.testBit_two_pow_mul_add _ hlt]
        rw [if_pos (by omega)]
      · simp [hj]
section
variable {H : Type} {enc : TypeId × Value → H} {w : World} {base : Nat} {spare : Nat → Bool} {held : Bool}
set_option maxRecDepth 100000 in
theorem open_set {v : Value} {d : DataW H} {p : List MemPlace} {r : Reach} {b0 : Nat} (hv : Value.okWide Tryz.prog w r b0 51 v) (h : DataW.Trod enc Tryz.prog w base spare held 51 v d p) :
    ∃ N : Nat, v = .agg (setC N) ∧ N < 2 ^ (64 * 16) := by
  have hv2 := hv
  unfold Value.okWide at hv2
  rw [Tryz.underlying51] at hv2
  obtain ⟨cs, rfl, hsz, _⟩ := hv2
  have h16 : cs.size = 16 := hsz.trans (by kernel_rfl)
  obtain ⟨fuel, hf⟩ := h
  obtain ⟨xs, m, _, _, _, hlen, hg⟩ := DataW.trod_array Tryz.underlying51 hf
  have hce : Program.cellsOf Tryz.prog 49 = 1 := by kernel_rfl
  have hall : ∀ i, i < 16 → ∃ n : Nat, cs[i]? = some (.int .u64 (n : Int)) ∧ n < 18446744073709551616 := by
    intro i hi
    have h1 := hg i hi
    rw [hce, Nat.mul_one] at h1
    have hc : cs[i]? = some (cs[i]'(by omega)) := Array.getElem?_eq_getElem (by omega)
    have hd : (cs.toList.drop i).take 1 = [cs[i]'(by omega)] := by
      rw [List.drop_eq_getElem_cons (by simpa using (show i < cs.size by omega))]
      simp
    have h2 : DataW.trod enc Tryz.prog w base spare held m 49 [cs[i]'(by omega)] = some (xs[i]'(by omega)) := by
      rw [← hd]
      exact h1.trans (List.getElem?_eq_getElem (by omega))
    obtain ⟨z, ez, _, wz⟩ := DataW.trod_int Tryz.underlying49 h2
    simp only [List.cons.injEq, and_true] at ez
    have hb := Go.bounds_u64 wz
    refine ⟨z.toNat, ?_, by omega⟩
    rw [hc, ez, show ((z.toNat : Nat) : Int) = z by omega]
  obtain ⟨f, hf2⟩ := choose_lt hall
  have hN : ∀ i, (if i < 16 then f i else 0) < 18446744073709551616 := by
    intro i
    split
    · exact (hf2 i (by omega)).2
    · decide
  refine ⟨packN (fun i => if i < 16 then f i else 0) 16, ?_, packN_lt _ hN 16⟩
  congr 1
  apply Array.ext_getElem?
  intro i
  by_cases hi : i < 16
  · rw [setC_get _ hi, (hf2 i hi).1]
    unfold wd
    rw [packN_word _ hN 16 i hi, if_pos hi]
  · have h1 : ∀ a : Array Value, a.size = 16 → a[i]? = none := fun a h => Array.getElem?_eq_none (by omega)
    rw [h1 _ h16, h1 _ (setC_size _)]
end
end Go.Proofs.YtmfkkkhddigkfaaGreatDoor
/- Every input makes the law ChordalNil answer true, and each argument reads behind the call as it read before: the given card, tied to the program's text. No condition. -/
namespace Go.Proofs.YtmfkkkhddigkfaaGreatDoor.chordalNilRow
open Go.ChangeShapes Go.WideShapes Go.ChangeAt Go.RowKit
set_option linter.unusedVariables false

theorem own : ownKnob Tryz.prog.godebug = none := by kernel_rfl
theorem laidOut : laidOutB Tryz.prog = true := by kernel_rfl
theorem door_met (os : Os) (args : Array Value) : laidMetH Tryz.prog laidL ((World.doorLaid Tryz.prog 400 os).forCall (fun _ _ => 0) ⟨#[], args, []⟩).memory :=
  laidMetH_of_parts3 (fuel := 8) (laidMet_of_run' 8 (by kernel_rfl) (by kernel_rfl)) (by kernel_rfl) (by kernel_rfl)

set_option maxRecDepth 100000 in
theorem lifted (os : Os) (started : os.Started) (H : Type) (enc : TypeId × Value → H) :
    ReturnsInHanded {} Tryz.checked os 11 .any (fun w args => (Rows.chordalNilSpec.pre enc Tryz.prog Tryz.f11 [] false w args ∧ laidMetH Tryz.prog laidL w) ∧ sizedMet enc Tryz.prog Tryz.f11 (OpenSpec.ofChange Rows.chordalNilSpec) false w args)
      (Rows.chordalNilSpec.post enc Tryz.prog Tryz.f11 false true false false) := by
  refine returnsInHanded_of_change_and (C := Tryz.checked) (X := fun w _ => laidMetH Tryz.prog laidL w) (fun _ _ _ hh h => h.of_heap hh) own started (by kernel_rfl) Tryz.func11
    (ChangeSpec.witness_shaped (enc := enc) (C := Tryz.checked) (os := os) (X := fun w _ => laidMetH Tryz.prog laidL w) false (World.doorLaid Tryz.prog 400 os) #[.slice none 0 0, .agg #[.int .u64 0, .int .u64 0, .int .u64 0, .int .u64 0, .int .u64 0, .int .u64 0, .int .u64 0, .int .u64 0, .int .u64 0, .int .u64 0, .int .u64 0, .int .u64 0, .int .u64 0, .int .u64 0, .int .u64 0, .int .u64 0], .int .i64 0] 8 rfl (World.shaped_of_RefB (by kernel_rfl) (by kernel_rfl)) (by kernel_rfl) (by kernel_rfl) (by kernel_rfl) (door_met os _)) ?_
  intro W base args ds gs before hval0 hW _ _ hL _
  have hval : ∀ (j : Nat) t v, Tryz.f11.params[j]? = some t → args[j]? = some v → Value.okWide Tryz.prog W .any base t v := hval0
  have hW' := hW
  obtain ⟨p, q, hA0, hV, rfl, hfz, hnd⟩ := hW
  have hA : DataW.TrodAll enc Tryz.prog W 0 (fun _ => true) true Tryz.f11.params.toList args.toList ds p := hA0
  rw [Tryz.params11] at hA hval
  obtain ⟨v0, vs0, d0, ds0, p0, q0, hargs, rfl, rfl, h0, r0⟩ := trodAll_cons hA
  obtain ⟨v1, vs1, d1, ds1, p1, q1, rfl, rfl, rfl, h1, r1⟩ := trodAll_cons r0
  obtain ⟨v2, vs2, d2, ds2, p2, q2, rfl, rfl, rfl, h2, r2⟩ := trodAll_cons r1
  obtain ⟨rfl, rfl, rfl⟩ := trodAll_nil r2
  obtain rfl : args = #[v0, v1, v2] := by cases args; simp_all
  obtain ⟨rfl, rfl⟩ := trodVars_none hV
  obtain ⟨a0, len0, cap0, rfl⟩ := okWide_slice Tryz.underlying31 (hval 0 31 v0 rfl rfl)
  have k0 := h0
  have lt0 : ∀ x ∈ p0, x.block < W.heap.size := by obtain ⟨m, hm⟩ := k0; exact DataW.trod_lt m _ _ _ hm
  obtain ⟨fu0, hf0⟩ := h0
  obtain ⟨L0, hn0, hs0, ho0, hm0, hz0⟩ := open_ints (by simpa [Value.cells] using hf0)
  subst hn0
  have k1 := h1
  have lt1 : ∀ x ∈ p1, x.block < W.heap.size := by obtain ⟨m, hm⟩ := k1; exact DataW.trod_lt m _ _ _ hm
  obtain ⟨x1, rfl, ho1⟩ := open_set (hval 1 51 v1 rfl rfl) h1
  obtain ⟨a2, rfl, rfl, rfl, w2⟩ := open_int Tryz.underlying3 (hval 2 3 v2 rfl rfl) h2
  clear hA0 hval0
  refine (chordalNil_walk a0 L0 cap0 x1 a2 W hs0 ho0 hm0 hz0 ho1 (i64_of_wf w2) (tab_of_laid hL)).mono fun e W' ⟨he, bel⟩ => ?_
  subst he
  exact ⟨_, rfl, _, _, _, [], _, [], hW', trodAll_mk1 (shut_bool Tryz.underlying4 _), (trodAll_cons_mk (Below.trod laidOut (by kernel_rfl) (of_decide_eq_true (by kernel_rfl)) k0 bel lt0) (trodAll_cons_mk (Below.trod laidOut (by kernel_rfl) (of_decide_eq_true (by kernel_rfl)) k1 bel lt1) (trodAll_cons_mk (shut_int Tryz.underlying3 w2) trodAll_mk0))), rfl, bel.frame _, fun h => by cases h⟩

theorem over : Rows.chordalNilRow.holds Tryz.pinned (OpenSpec.ofChange Rows.chordalNilSpec) :=
  OpenClaim.holds_of_wide 11 Tryz.f11 rfl rfl rfl rfl rfl rfl rfl ⟨rfl, rfl, rfl, rfl, rfl⟩ rfl rfl rfl rfl rfl (by kernel_rfl) Tryz.func11 (by kernel_rfl)
    (of_decide_eq_true (by kernel_rfl)) (by unfold Func.isWrapper; first | (rw [if_pos (by decide +kernel)]; kernel_rfl) | (rw [if_neg (by decide +kernel)]; exact ⟨rfl, rfl⟩))
    (fun os started H enc _ => lifted os started H enc)
end Go.Proofs.YtmfkkkhddigkfaaGreatDoor.chordalNilRow
namespace Go.Proofs.YtmfkkkhddigkfaaGreatDoor
open Go
/-- the given statement -/
theorem chordalNil_holds : Rows.ChordalNilCardSaid :=
  Claim7.holds_tied_plain_at .later [] [.data] true (true, "1596dd598ae18966c135c2eb214a5a15edddb6ae32de2291f299e988f1ed0cb5") false
    chordalNilRow.over (fun _ h => by cases h) (by kernel_rfl) (fun _ h => by cases h) chordalNil_row_tie rfl ⟨rfl, rfl⟩ (by kernel_rfl) rfl
    (fun f fn hf hfn => by
      obtain rfl : f = 11 := Option.some.inj ((show Tryz.prog.funcNamed "palmette/palmettelaw24.ChordalNil" = some 11 by kernel_rfl).symm.trans hf) |>.symm
      obtain rfl : fn = Tryz.f11 := (Option.some.inj (Tryz.func11.symm.trans hfn)).symm
      exact ⟨by kernel_rfl, fun j t ht => by
        rw [Tryz.params11] at ht
        have h3 : t = 31 ∨ t = 51 ∨ t = 3 := by
          rcases j with _ | _ | _ | j
          · simp at ht; simp [ht]
          · simp at ht; simp [ht]
          · simp at ht; simp [ht]
          · simp at ht
        rcases h3 with rfl | rfl | rfl
        · exact (show Tryz.prog.wantsStandIn 31 = false by kernel_rfl)
        · exact (show Tryz.prog.wantsStandIn 51 = false by kernel_rfl)
        · exact (show Tryz.prog.wantsStandIn 3 = false by kernel_rfl)⟩)
    (by kernel_rfl)
#print axioms chordalNil_holds
end Go.Proofs.YtmfkkkhddigkfaaGreatDoor
