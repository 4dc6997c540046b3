/- Parts of a proof, laid together: Cw2, Or, Cw3. Each part says its own conditions. -/
import Derived.Test.YtmfkkkhddigkfaaGreatDoorRa
import Derived.Test.YtmfkkkhddigkfaaGreatDoorB1
import Derived.Test.YtmfkkkhddigkfaaGreatDoorB8
import Derived.Test.YtmfkkkhddigkfaaGreatDoorB9
import Derived.Test.YtmfkkkhddigkfaaGreatDoorB13
import Derived.Test.YtmfkkkhddigkfaaGreatDoorB10
/- palmetteref24: joined, Ids, without, near, Clique. Conditions: see each theorem. -/
namespace Go.Proofs.YtmfkkkhddigkfaaGreatDoor
open Go Go.RowKit
attribute [local go_sem] qUpon lUpon

/-- a slice of the call's own is answered -/
def OwI (w : World) (xs : List Int) (e : Ending) (w' : World) : Prop := ∃ A' c', e = .returned (.slice A' xs.length c') ∧ w'.ownsRow w.heap.size 3 1 (.slice A' xs.length c') xs.length (xs.flatMap encI) ∧ Ext w w'
theorem OwI.mk {w w' : World} {xs : List Int} {A' : Option Addr} {n c' b : Nat} (hn : n = xs.length) (h1 : w'.ownsRow b 3 1 (.slice A' xs.length c') xs.length (xs.flatMap encI)) (hb : w.heap.size ≤ b) (h2 : Ext w w') : OwI w xs (.returned (.slice A' n c')) w' := ⟨A', c', by rw [hn], own_base_le h1 hb, h2⟩
theorem own_n {w : World} {base T k n m : Nat} {v : Value} {xs : List Value} (h : w.ownsRow base T k v n xs) (e : m = n) : w.ownsRow base T k v m xs := by
  subst e
  exact h
theorem atI_at {w : World} {b off : Nat} {L : List Int} (h : SlAt encI 1 w (some ⟨b, off, none⟩) L) {i : Nat} (hi : i < L.length) : ∀ W, Ext w W → W.cell? ⟨b, off + i, none⟩ = some (.int .i64 L[i]) := by
  obtain ⟨b', off', e, hc⟩ := atI h hi
  injection e with e
  injection e with e1 e2
  subst e1
  subst e2
  exact hc

set_option maxRecDepth 100000 in
theorem joinedR_any (A B : Option Addr) (V : List (Int × Thing)) (E : List ((Int × Int) × Thing)) (cA cB : Nat) (u v : Int) (w : World) (hE : SlAt encE 4 w B E) (hl : E.length ≤ 4096) :
    Calls Tryz.prog 57 #[.agg #[.slice A V.length cA, .slice B E.length cB], .int .i64 u, .int .i64 v] w fun e w' => e = .returned (.bool (hasE u v E)) ∧ Ext w w' := by
  have hx1 := hide (ext_self1 w (.cells #[.slice A V.length cA, .slice B E.length cB] 28))
  have hE' := hide hE
  clear hE
  go_enter Tryz.func57, Tryz.ntmps57
  go_wp2_with fail
  refine (redge_any A B E V.length cA cB u v _ ((unhide hE').ext (unhide hx1)) hl).mono ?_
  rintro e w2 ⟨rfl, hx2⟩
  have hq : hasE u v E = decide (0 ≤ posI (isE u v) E) := rfl
  generalize posI (isE u v) E = p at *
  have hq' := hide hq
  have hx3 := hide ((unhide hx1).trans hx2)
  clear hx2 hq
  go_wp2_with fail
  go_ret
  exact ⟨by rw [unhide hq']; rfl, unhide hx3⟩

set_option maxRecDepth 100000 in
set_option maxHeartbeats 4000000 in
theorem ids_any (A B : Option Addr) (V : List (Int × Thing)) (E : List ((Int × Int) × Thing)) (cA cB : Nat) (w : World) (hV : SlAt encV 3 w A V) (hl : V.length ≤ 4096) :
    Calls Tryz.prog 34 #[.agg #[.slice A V.length cA, .slice B E.length cB]] w (OwI w (V.map (·.1))) := by
  have hx1 := hide (ext_self1 w (.cells #[.slice A V.length cA, .slice B E.length cB] 28))
  have hB1 := hide (Blk.new w 28 #[.slice A V.length cA, .slice B E.length cB])
  have hV1 := hide (hV.ext (unhide hx1))
  clear hV
  go_enter Tryz.func34, Tryz.ntmps34
  go_wp2_with fail
  generalize w.alloc (.cells #[.slice A V.length cA, .slice B E.length cB] 28) = w1 at *
  generalize w.heap.size = gw at *
  go_loopw [3, 4] (fun ov iv wr => ∃ (k : Nat) (vo : Value), k ≤ V.length ∧ iv = .int .i64 k ∧ vo = ov ∧ wr.ownsRow w1.heap.size 3 1 vo ((V.map (·.1)).take k).length (((V.map (·.1)).take k).flatMap encI) ∧ Ext w1 wr) (fun _ iv _ => V.length - (intOf iv).toNat)
  case atStart => exact ⟨0, _, Nat.zero_le _, rfl, rfl, World.ownsRow_nil _ _ _ _, Ext.refl _⟩
  case round =>
    obtain ⟨k, vo, hk, rfl, hv, hown, hx⟩ := hrel
    subst hv
    have hx' := hide hx
    have hown' := hide hown
    have q0 := ((unhide hB1).ext hx).cells 0 (v := .slice A V.length cA) rfl
    have hself := Ext.refl wr
    have hb1 := hide (Below.size hx)
    clear hx hown
    by_cases hlt : k < V.length
    · obtain ⟨b, off, rfl, c0, c1, c2⟩ := atV ((unhide hV1).ext (unhide hx')) hlt
      have hst := hide (List.take_succ_eq_append_getElem (l := V.map (·.1)) (by rw [List.length_map]; exact hlt))
      have hg : (V.map (·.1))[k]'(by rw [List.length_map]; exact hlt) = V[k].1 := by simp
      rw [hg] at hst
      generalize V[k].1 = y at *
      have hll := hide (show ((V.map (·.1)).take k).length ≤ 10000000 by rw [List.length_take, List.length_map]; omega)
      generalize (V.map (·.1)).take k = xs at *
      clear hg c1 c2
      try dsimp only
      repeat ((fail_if_success (with_reducible refine wp_reg (id := 5) ?_)); (first | go_values | go_skip | go_step | go_guarded | go_upon | go_in | go_back | fail))
      with_reducible refine wp_reg (id := 5) ?_
      iterate 8
        refine wpO_want rfl ?_
        go_simp
      refine wpO_ap1 (enc := _) rfl infoI Tryz.underlying31 one_encI (fun _ => rfl) (by decide) (by decide) rfl (v := vo) (xs := xs) y rfl rfl (Blk.new wr 3 #[.int .i64 y]) (own_ext (unhide hown') (ext_self1 wr (.cells #[.int .i64 y] 3))) (unhide hll) (Nat.le_trans (unhide hb1) (Below.size (ext_self1 wr (.cells #[.int .i64 y] 3)))) ?_
      intro A_w6 c_w6 w6 ho6 hg6 _
      obtain ⟨n_w6, hlen6⟩ : ∃ n_w6, n_w6 = (xs).length + 1 := ⟨_, rfl⟩
      rw [← hlen6] at ho6 ⊢
      have hx_w6 := hide (((unhide hx').trans (ext_self1 wr (.cells #[.int .i64 y] 3))).of_new (Keep.of_grown hg6) (fun z hz => Nat.le_trans (Nat.le_refl _) (own_base (unhide hown') (by simpa using hz)).1))
      have hown_w6 := hide (own_n ho6 (m := (xs ++ [y]).length) (by rw [hlen6, List.length_append (bs := [_])]; rfl))
      have hn_w6 := hide hlen6
      clear ho6 hg6 hlen6
      try go_frame
      refine wpO_want rfl ?_
      go_simp
      refine wpO_done ?_
      try go_frame
      rw [← unhide hst] at hown_w6
      go_wp2_with fail
      go_roundw
      case rel => exact ⟨k + 1, _, by omega, by go_num, rfl, unhide hown_w6, unhide hx_w6⟩
      case measure => simp [intOf]; omega
    · have hke : k = V.length := by omega
      subst hke
      have htk : (V.map (·.1)).take V.length = V.map (·.1) := List.take_of_length_le (by simp)
      rw [htk] at hown'
      obtain ⟨A', c', rfl⟩ := own_slice (unhide hown')
      clear hlt
      go_wp2_with fail
      go_ret
      exact OwI.mk (by simp) (unhide hown') (Below.size (unhide hx1)) ((unhide hx1).trans (unhide hx'))
set_option maxRecDepth 100000 in
set_option maxHeartbeats 4000000 in
theorem outR_any (A : Option Addr) (L : List Int) (cL : Nat) (n : Int) (w : World) (hL : SlAt encI 1 w A L) (hl : L.length ≤ 4096) :
    Calls Tryz.prog 80 #[.slice A L.length cL, .int .i64 n] w (OwI w (outR L n)) := by
  have hL1 := hide hL
  clear hL
  go_enter Tryz.func80, Tryz.ntmps80
  go_wp2_with fail
  go_loopw [5, 6] (fun ov iv wr => ∃ (k : Nat) (vo : Value), k ≤ L.length ∧ iv = .int .i64 k ∧ vo = ov ∧ wr.ownsRow w.heap.size 3 1 vo (outR (L.take k) n).length ((outR (L.take k) n).flatMap encI) ∧ Ext w wr) (fun _ iv _ => L.length - (intOf iv).toNat)
  case atStart => exact ⟨0, _, Nat.zero_le _, rfl, rfl, World.ownsRow_nil _ _ _ _, Ext.refl _⟩
  case round =>
    obtain ⟨k, vo, hk, rfl, hv, hown, hx⟩ := hrel
    subst hv
    have hx' := hide hx
    have hown' := hide hown
    have hself := Ext.refl wr
    have hb1 := hide (Below.size hx)
    clear hown
    by_cases hlt : k < L.length
    · obtain ⟨b, off, rfl, c0⟩ := atI ((unhide hL1).ext hx) hlt
      have hst := hide (List.take_succ_eq_append_getElem hlt)
      have hll := hide (show (outR (L.take k) n).length ≤ 10000000 from Nat.le_trans (List.length_filter_le _ _) (by rw [List.length_take]; omega))
      have hout : outR (L.take (k + 1)) n = outR (L.take k) n ++ (if decide (L[k] ≠ n) = true then [L[k]] else []) := by
        rw [unhide hst]
        unfold outR
        rw [List.filter_append, List.filter_cons, List.filter_nil]
      generalize L[k] = y at *
      generalize outR (L.take k) n = xs at *
      clear hx hst
      by_cases hyn : y = n
      · have hg : (y != n) = false := by simp [hyn]
        rw [if_neg (by simp [hyn]), List.append_nil] at hout
        have hout' := hide hout
        clear hout hyn
        go_wp2_with fail
        go_roundw
        case rel => exact ⟨k + 1, _, by omega, by go_num, rfl, by rw [unhide hout']; exact unhide hown', unhide hx'⟩
        case measure => simp [intOf]; omega
      · have hg : (y != n) = true := by simp [hyn]
        rw [if_pos (by simp [hyn])] at hout
        have hout' := hide hout
        clear hout hyn
        try dsimp only
        repeat ((fail_if_success (with_reducible refine wp_reg (id := 6) ?_)); (first | go_values | go_skip | go_step | go_guarded | go_upon | go_in | go_back | fail))
        with_reducible refine wp_reg (id := 6) ?_
        iterate 6
          refine wpO_want rfl ?_
          go_simp
        refine wpO_ap1 (enc := _) rfl infoI Tryz.underlying31 one_encI (fun _ => rfl) (by decide) (by decide) rfl (v := vo) (xs := xs) y rfl rfl (Blk.new wr 3 #[.int .i64 y]) (own_ext (unhide hown') (ext_self1 wr (.cells #[.int .i64 y] 3))) (unhide hll) (Nat.le_trans (unhide hb1) (Below.size (ext_self1 wr (.cells #[.int .i64 y] 3)))) ?_
        intro A_w6 c_w6 w6 ho6 hg6 _
        obtain ⟨n_w6, hlen6⟩ : ∃ n_w6, n_w6 = (xs).length + 1 := ⟨_, rfl⟩
        rw [← hlen6] at ho6 ⊢
        have hx_w6 := hide (((unhide hx').trans (ext_self1 wr (.cells #[.int .i64 y] 3))).of_new (Keep.of_grown hg6) (fun z hz => Nat.le_trans (Nat.le_refl _) (own_base (unhide hown') (by simpa using hz)).1))
        have hown_w6 := hide (own_n ho6 (m := (xs ++ [y]).length) (by rw [hlen6, List.length_append (bs := [_])]; rfl))
        have hn_w6 := hide hlen6
        clear ho6 hg6 hlen6
        try go_frame
        refine wpO_want rfl ?_
        go_simp
        refine wpO_done ?_
        try go_frame
        go_wp2_with fail
        go_roundw
        case rel => exact ⟨k + 1, _, by omega, by go_num, rfl, by rw [unhide hout']; exact unhide hown_w6, unhide hx_w6⟩
        case measure => simp [intOf]; omega
    · have hke : k = L.length := by omega
      subst hke
      rw [List.take_length] at hown'
      obtain ⟨A', c', rfl⟩ := own_slice (unhide hown')
      clear hlt hx
      go_wp2_with fail
      go_ret
      exact OwI.mk (by simp) (unhide hown') (Nat.le_refl _) (unhide hx')

set_option maxRecDepth 100000 in
set_option maxHeartbeats 8000000 in
theorem nearR_any (A B : Option Addr) (V : List (Int × Thing)) (E : List ((Int × Int) × Thing)) (cA cB : Nat) (C : Option Addr) (L : List Int) (cL : Nat) (v : Int) (w : World) (hE : SlAt encE 4 w B E) (hnE : E.length ≤ 4096) (hL : SlAt encI 1 w C L) (hl : L.length ≤ 4096) :
    Calls Tryz.prog 61 #[.agg #[.slice A V.length cA, .slice B E.length cB], .int .i64 v, .slice C L.length cL] w (OwI w (nbrR E v L)) := by
  have hx1 := hide (ext_self1 w (.cells #[.slice A V.length cA, .slice B E.length cB] 28))
  have hB1 := hide (Blk.new w 28 #[.slice A V.length cA, .slice B E.length cB])
  have hE1 := hide (hE.ext (unhide hx1))
  have hL1 := hide (hL.ext (unhide hx1))
  clear hE hL
  go_enter Tryz.func61, Tryz.ntmps61
  go_wp2_with fail
  generalize w.alloc (.cells #[.slice A V.length cA, .slice B E.length cB] 28) = w1 at *
  generalize w.heap.size = gw at *
  go_loopw [7, 8] (fun ov iv wr => ∃ (k : Nat) (vo : Value), k ≤ L.length ∧ iv = .int .i64 k ∧ vo = ov ∧ wr.ownsRow w1.heap.size 3 1 vo (nbrR E v (L.take k)).length ((nbrR E v (L.take k)).flatMap encI) ∧ Ext w1 wr) (fun _ iv _ => L.length - (intOf iv).toNat)
  case atStart => exact ⟨0, _, Nat.zero_le _, rfl, rfl, World.ownsRow_nil _ _ _ _, Ext.refl _⟩
  case round =>
    obtain ⟨k, vo, hk, rfl, hv, hown, hx⟩ := hrel
    subst hv
    have hx' := hide hx
    have hown' := hide hown
    have hself := Ext.refl wr
    clear hown
    by_cases hlt : k < L.length
    · obtain ⟨b, off, rfl, c0⟩ := atI ((unhide hL1).ext hx) hlt
      have hat := hide (fun W (hW : Ext wr W) => c0 W hW)
      have q0 := ((unhide hB1).ext hx).cells 0 (v := .slice A V.length cA) rfl
      have q1 := ((unhide hB1).ext hx).cells 1 (v := .slice B E.length cB) rfl
      have hst := hide (List.take_succ_eq_append_getElem hlt)
      have hll := hide (show (nbrR E v (L.take k)).length ≤ 10000000 from Nat.le_trans (List.length_filter_le _ _) (by rw [List.length_take]; omega))
      have hout : nbrR E v (L.take (k + 1)) = nbrR E v (L.take k) ++ (if (decide (L[k] ≠ v) && hasE v L[k] E) = true then [L[k]] else []) := by
        rw [unhide hst]
        unfold nbrR
        rw [List.filter_append, List.filter_cons, List.filter_nil]
      generalize L[k] = y at *
      generalize nbrR E v (L.take k) = xs at *
      obtain ⟨j, hj⟩ : ∃ j, hasE v y E = j := ⟨_, rfl⟩
      rw [hj] at hout
      have hj' := hide hj
      clear hx hst hj
      by_cases hyn : y = v
      · have hg : (y != v) = false := by simp [hyn]
        rw [if_neg (by simp [hyn]), List.append_nil] at hout
        have hout' := hide hout
        clear hout hyn
        go_wp2_with fail
        refine wp_region_ext (P := Tryz.prog) [0,1,2,3,4,5,6,7,8,9,10,11,12,13,14] [] 0 #[true,true,true,true,true,true,true,true,true,true,true,true,true,true,true] (by kernel_rfl) (by kernel_rfl) rfl (by rfl) ?_
        iterate 15
          first
          | (refine ql_skip rfl (by rfl) ?_)
          | (refine ql_want (v := ?_) rfl (by rfl) (fun W hW => ?_) ?_; rotate_left; (go_simp; (first | done | rfl)))
          try go_frame
        refine wpQL_nil (fun w3 hx3 => ?_)
        refine wpX_done (by kernel_rfl) ?_
        try go_frame
        have hx3' := hide ((unhide hx').trans hx3)
        have hown3 := hide (own_ext (unhide hown') hx3)
        clear hx3 c0 q0 q1 hself
        go_wp2_with fail
        go_roundw
        case rel => exact ⟨k + 1, _, by omega, by go_num, rfl, by rw [unhide hout']; exact unhide hown3, unhide hx3'⟩
        case measure => simp [intOf]; omega
      · have hg : (y != v) = true := by simp [hyn]
        have hd : decide (y ≠ v) = true := by simp [hyn]
        rw [hd, Bool.true_and] at hout
        have hout' := hide hout
        clear hout hyn hd
        go_wp2_with fail
        refine wp_region_ext (P := Tryz.prog) [0,1,2,3,4,5,6,7,8,9,10,11,12,13,14] [] 0 #[true,true,true,true,true,true,true,true,true,true,true,true,true,true,true] (by kernel_rfl) (by kernel_rfl) rfl (by rfl) ?_
        iterate 13
          refine ql_want (v := ?_) rfl (by rfl) (fun W hW => ?_) ?_
          rotate_left
          · go_simp
            first | done | rfl
          go_frame
        refine ql_want (v := .bool j) rfl (by rfl) (fun W hW => ?_) ?_
        · go_simp
          refine (joinedR_any A B V E cA cB v y W ((unhide hE1).ext ((unhide hx').trans hW)) hnE).mono ?_
          rw [unhide hj']
          rintro _ _ ⟨h1, h2⟩
          exact ⟨_, h1, rfl, h2⟩
        go_frame
        iterate 1
          refine ql_want (v := ?_) rfl (by rfl) (fun W hW => ?_) ?_
          rotate_left
          · go_simp
            first | done | rfl
          go_frame
        refine wpQL_nil (fun w3 hx3 => ?_)
        refine wpX_done (by kernel_rfl) ?_
        try go_frame
        have hx3' := hide ((unhide hx').trans hx3)
        have hown3 := hide (own_ext (unhide hown') hx3)
        have c3 := fun W (hW : Ext w3 W) => unhide hat W (hx3.trans hW)
        have hb3 := hide (Below.size ((unhide hx').trans hx3))
        clear hx3 c0 q0 q1 hself
        have hself := Ext.refl w3
        cases j
        · rw [if_neg (by simp), List.append_nil] at hout'
          go_wp2_with fail
          go_roundw
          case rel => exact ⟨k + 1, _, by omega, by go_num, rfl, by rw [unhide hout']; exact unhide hown3, unhide hx3'⟩
          case measure => simp [intOf]; omega
        · rw [if_pos rfl] at hout'
          try dsimp only
          repeat ((fail_if_success (with_reducible refine wp_reg (id := 6) ?_)); (first | go_values | go_skip | go_step | go_guarded | go_upon | go_in | go_back | fail))
          with_reducible refine wp_reg (id := 6) ?_
          iterate 6
            refine wpO_want rfl ?_
            go_simp
          refine wpO_ap1 (enc := _) rfl infoI Tryz.underlying31 one_encI (fun _ => rfl) (by decide) (by decide) rfl (v := vo) (xs := xs) y rfl rfl (Blk.new w3 3 #[.int .i64 y]) (own_ext (unhide hown3) (ext_self1 w3 (.cells #[.int .i64 y] 3))) (unhide hll) (Nat.le_trans (unhide hb3) (Below.size (ext_self1 w3 (.cells #[.int .i64 y] 3)))) ?_
          intro A_w6 c_w6 w6 ho6 hg6 _
          obtain ⟨n_w6, hlen6⟩ : ∃ n_w6, n_w6 = (xs).length + 1 := ⟨_, rfl⟩
          rw [← hlen6] at ho6 ⊢
          have hx_w6 := hide (((unhide hx3').trans (ext_self1 w3 (.cells #[.int .i64 y] 3))).of_new (Keep.of_grown hg6) (fun z hz => Nat.le_trans (Nat.le_refl _) (own_base (unhide hown3) (by simpa using hz)).1))
          have hown_w6 := hide (own_n ho6 (m := (xs ++ [y]).length) (by rw [hlen6, List.length_append (bs := [_])]; rfl))
          have hn_w6 := hide hlen6
          clear ho6 hg6 hlen6
          try go_frame
          refine wpO_want rfl ?_
          go_simp
          refine wpO_done ?_
          try go_frame
          go_wp2_with fail
          go_roundw
          case rel => exact ⟨k + 1, _, by omega, by go_num, rfl, by rw [unhide hout']; exact unhide hown_w6, unhide hx_w6⟩
          case measure => simp [intOf]; omega
    · have hke : k = L.length := by omega
      subst hke
      rw [List.take_length] at hown'
      obtain ⟨A', c', rfl⟩ := own_slice (unhide hown')
      clear hlt hx
      go_wp2_with fail
      go_ret
      exact OwI.mk (by simp) (unhide hown') (Below.size (unhide hx1)) ((unhide hx1).trans (unhide hx'))

open Classical in
noncomputable def clqB (V : List (Int × Thing)) (E : List ((Int × Int) × Thing)) (l : List Int) : Bool := decide (ClqR V E l)
open Classical in
theorem clqB_true {V : List (Int × Thing)} {E : List ((Int × Int) × Thing)} {l : List Int} : clqB V E l = true ↔ ClqR V E l := by unfold clqB; rw [decide_eq_true_eq]
open Classical in
theorem clqB_false {V : List (Int × Thing)} {E : List ((Int × Int) × Thing)} {l : List Int} (h : ¬ ClqR V E l) : clqB V E l = false := by unfold clqB; rw [decide_eq_false_iff_not]; exact h
set_option maxRecDepth 100000 in
set_option maxHeartbeats 8000000 in
theorem clqR_walk (A B : Option Addr) (V : List (Int × Thing)) (E : List ((Int × Int) × Thing)) (cA cB : Nat) (C : Option Addr) (L : List Int) (cL : Nat) (w : World) (hV : SlAt encV 3 w A V) (hnV : V.length ≤ 4096) (hE : SlAt encE 4 w B E) (hnE : E.length ≤ 4096) (hL : SlAt encI 1 w C L) (hl : L.length ≤ 4096) :
    Calls Tryz.prog 28 #[.agg #[.slice A V.length cA, .slice B E.length cB], .slice C L.length cL] w fun e w' => e = .returned (.bool (clqB V E L)) ∧ Ext w w' := by
  have hx1 := hide (ext_self1 w (.cells #[.slice A V.length cA, .slice B E.length cB] 28))
  have hB1 := hide (Blk.new w 28 #[.slice A V.length cA, .slice B E.length cB])
  have hV1 := hide (hV.ext (unhide hx1))
  have hE1 := hide (hE.ext (unhide hx1))
  have hL1 := hide (hL.ext (unhide hx1))
  clear hV hE hL
  go_enter Tryz.func28, Tryz.ntmps28
  go_wp2_with fail
  generalize w.alloc (.cells #[.slice A V.length cA, .slice B E.length cB] 28) = w1 at *
  generalize w.heap.size = gw at *
  go_loopw [5] (fun iv wr => ∃ k : Nat, k ≤ L.length ∧ iv = .int .i64 k ∧ (∀ i (_ : i < k) (hi : i < L.length), hasV L[i] V = true ∧ ∀ j (hj : j < i), hasE L[i] (L[j]'(Nat.lt_trans hj hi)) E = true) ∧ Ext w1 wr) (fun iv _ => L.length - (intOf iv).toNat)
  case atStart => exact ⟨0, Nat.zero_le _, rfl, fun i hi => by omega, Ext.refl _⟩
  case round =>
    obtain ⟨k, hk, rfl, hok, hx⟩ := hrel
    have hx' := hide hx
    have hok' := hide hok
    clear hx hok
    by_cases hlt : k < L.length
    · obtain ⟨b, off, rfl, c0⟩ := atI ((unhide hL1).ext (unhide hx')) hlt
      have hat := hide (fun (j : Nat) (hj : j < L.length) => atI_at ((unhide hL1).ext (unhide hx')) hj)
      have q0 := ((unhide hB1).ext (unhide hx')).cells 0 (v := .slice A V.length cA) rfl
      have q1 := ((unhide hB1).ext (unhide hx')).cells 1 (v := .slice B E.length cB) rfl
      have hself := Ext.refl wr
      obtain ⟨x, hxe⟩ : ∃ x, x = L[k] := ⟨_, rfl⟩
      rw [← hxe] at c0
      have hxe' := hide hxe
      obtain ⟨p, hp⟩ : ∃ p, p = posI (fun p => p.1 == x) V := ⟨_, rfl⟩
      have hp' := hide hp
      clear hxe hp
      go_wp2_with fail
      refine wp_region_ext (P := Tryz.prog) [0,1,2,3,4,5,6] [] 0 #[true,true,true,true,true,true,true] (by kernel_rfl) (by kernel_rfl) rfl (by rfl) ?_
      iterate 5
        refine ql_want (v := ?_) rfl (by rfl) (fun W hW => ?_) ?_
        rotate_left
        · go_simp
          first | done | rfl
        go_frame
      refine ql_want (v := .int .i64 p) rfl (by rfl) (fun W hW => ?_) ?_
      · go_simp
        refine (find_any A B V cA E.length cB x W ((unhide hV1).ext ((unhide hx').trans hW)) hnV).mono ?_
        rw [← unhide hp']
        rintro _ _ ⟨h1, h2⟩
        exact ⟨_, h1, rfl, h2⟩
      go_frame
      iterate 1
        refine ql_want (v := ?_) rfl (by rfl) (fun W hW => ?_) ?_
        rotate_left
        · go_simp
          first | done | rfl
        go_frame
      refine wpQL_nil (fun w3 hx3 => ?_)
      refine wpX_done (by kernel_rfl) ?_
      try go_frame
      have hx3' := hide ((unhide hx').trans hx3)
      have hx3s := hide hx3
      clear q0 q1 c0 hself hx3
      by_cases hneg : p < 0
      · have hres : clqB V E L = false := clqB_false fun h => by
          have := (h k hlt).1
          rw [← unhide hxe'] at this
          unfold hasV at this
          rw [← unhide hp', decide_eq_true_eq] at this
          omega
        have hres' := hide hres
        clear hres
        go_wp2_with fail
        go_ret
        exact ⟨by rw [unhide hres']; rfl, (unhide hx1).trans (unhide hx3')⟩
      · have hhas : hasV x V = true := by unfold hasV; rw [← unhide hp', decide_eq_true_eq]; omega
        have hhas' := hide hhas
        clear hhas
        generalize wr = wo at *
        go_wp2_with fail
        go_loopw [6] (fun jv wr => ∃ j : Nat, j ≤ k ∧ jv = .int .i64 j ∧ (∀ j' (_ : j' < j) (hl : j' < L.length), hasE x L[j'] E = true) ∧ Ext w3 wr) (fun jv _ => k - (intOf jv).toNat)
        case atStart => exact ⟨0, Nat.zero_le _, rfl, fun j hj => by omega, Ext.refl _⟩
        case round =>
          obtain ⟨j, hj, rfl, hno, hy⟩ := hrel
          have hy' := hide hy
          have hno' := hide hno
          clear hy hno
          by_cases hjk : j < k
          · have hjl : j < L.length := by omega
            have c1 := fun W (hW : Ext wr W) => unhide hat j hjl W (((unhide hx3s).trans (unhide hy')).trans hW)
            have c2 := fun W (hW : Ext wr W) => unhide hat k hlt W (((unhide hx3s).trans (unhide hy')).trans hW)
            rw [← unhide hxe'] at c2
            obtain ⟨y, hye⟩ : ∃ y, y = L[j] := ⟨_, rfl⟩
            rw [← hye] at c1
            have hye' := hide hye
            obtain ⟨q, hq⟩ : ∃ q, hasE x y E = q := ⟨_, rfl⟩
            have hq' := hide hq
            have q0 := ((unhide hB1).ext ((unhide hx3').trans (unhide hy'))).cells 0 (v := .slice A V.length cA) rfl
            have q1 := ((unhide hB1).ext ((unhide hx3').trans (unhide hy'))).cells 1 (v := .slice B E.length cB) rfl
            have hself := Ext.refl wr
            clear hye hq
            go_wp2_with fail
            refine wp_region_ext (P := Tryz.prog) [0,1,2,3,4,5,6,7,8,9,10] [] 0 #[true,true,true,true,true,true,true,true,true,true,true] (by kernel_rfl) (by kernel_rfl) rfl (by rfl) ?_
            iterate 9
              refine ql_want (v := ?_) rfl (by rfl) (fun W hW => ?_) ?_
              rotate_left
              · go_simp
                first | done | rfl
              go_frame
            refine ql_want (v := .bool q) rfl (by rfl) (fun W hW => ?_) ?_
            · go_simp
              refine (joinedR_any A B V E cA cB x y W ((unhide hE1).ext (((unhide hx3').trans (unhide hy')).trans hW)) hnE).mono ?_
              rw [unhide hq']
              rintro _ _ ⟨h1, h2⟩
              exact ⟨_, h1, rfl, h2⟩
            go_frame
            iterate 1
              refine ql_want (v := ?_) rfl (by rfl) (fun W hW => ?_) ?_
              rotate_left
              · go_simp
                first | done | rfl
              go_frame
            refine wpQL_nil (fun w4 hx4 => ?_)
            refine wpX_done (by kernel_rfl) ?_
            try go_frame
            have hx4' := hide ((unhide hy').trans hx4)
            clear c1 c2 q0 q1 hself hx4
            cases q
            · have hres : clqB V E L = false := clqB_false fun h => by
                have := (h k hlt).2 j hjk
                rw [← unhide hxe', ← unhide hye', unhide hq'] at this
                cases this
              have hres' := hide hres
              clear hres
              go_wp2_with fail
              go_ret
              exact ⟨by rw [unhide hres']; rfl, ((unhide hx1).trans (unhide hx3')).trans (unhide hx4')⟩
            · have hnx : ∀ j' (_ : j' < j + 1) (hl : j' < L.length), hasE x L[j'] E = true := fun j' h hl => by
                rcases Nat.lt_or_ge j' j with h1 | h1
                · exact unhide hno' j' h1 hl
                · have : j' = j := by omega
                  subst this
                  rw [← unhide hye']
                  exact unhide hq'
              have hnx' := hide hnx
              clear hnx
              go_wp2_with fail
              go_roundw
              case rel => exact ⟨j + 1, by omega, by go_num, unhide hnx', unhide hx4'⟩
              case measure => simp [intOf]; omega
          · have hje : j = k := by omega
            subst hje
            have hok2 : ∀ i (_ : i < j + 1) (hi : i < L.length), hasV L[i] V = true ∧ ∀ j' (hj : j' < i), hasE L[i] (L[j']'(Nat.lt_trans hj hi)) E = true := fun i h1 h2 => by
              rcases Nat.lt_or_ge i j with h3 | h3
              · exact unhide hok' i h3 h2
              · have : i = j := by omega
                subst this
                rw [← unhide hxe']
                exact ⟨unhide hhas', fun j' hj' => unhide hno' j' hj' _⟩
            have hok2' := hide hok2
            clear hok2
            go_wp2_with fail
            go_roundw
            case rel => exact ⟨j + 1, by omega, by go_num, unhide hok2', (unhide hx3').trans (unhide hy')⟩
            case measure => simp [intOf]; omega
    · have hres : clqB V E L = true := clqB_true.2 fun i hi => unhide hok' i (by omega) hi
      have hres' := hide hres
      have hself := Ext.refl wr
      clear hres
      go_wp2_with fail
      go_ret
      exact ⟨by rw [unhide hres']; rfl, (unhide hx1).trans (unhide hx')⟩
end Go.Proofs.YtmfkkkhddigkfaaGreatDoor
/- palmetteref24.order, Order; palmettelaw24.same. Conditions: see each theorem. -/
namespace Go.Proofs.YtmfkkkhddigkfaaGreatDoor
open Go Go.RowKit Go.Shelf
attribute [local go_sem] qUpon lUpon
attribute [local irreducible] wpO wpX wpQL

/-- an order is answered, or none -/
def OrPost (w : World) (o : Option (List Int)) (e : Ending) (w' : World) : Prop := ∃ A c, e = .returned (.tuple #[.slice A (o.getD []).length c, .bool o.isSome]) ∧ w'.ownsRow w.heap.size 3 1 (.slice A (o.getD []).length c) (o.getD []).length ((o.getD []).flatMap encI) ∧ Ext w w'
theorem OrPost.no {w w' : World} (h : Ext w w') : OrPost w none (.returned (.tuple #[.slice none 0 0, .bool false])) w' := ⟨_, _, rfl, World.ownsRow_nil _ _ _ _, h⟩
theorem OrPost.emp {w w' : World} (h : Ext w w') : OrPost w (some []) (.returned (.tuple #[.slice none 0 0, .bool true])) w' := ⟨_, _, rfl, World.ownsRow_nil _ _ _ _, h⟩
theorem OrPost.yes {w w' : World} {xs : List Int} {A : Option Addr} {n c : Nat} (hn : n = xs.length) (h : w'.ownsRow w.heap.size 3 1 (.slice A n c) n (xs.flatMap encI)) (hx : Ext w w') : OrPost w (some xs) (.returned (.tuple #[.slice A n c, .bool true])) w' := ⟨A, c, by rw [hn]; rfl, by rw [hn] at h; exact h, hx⟩

open Classical in
/-- what the reference tries at one vertex -/
noncomputable def ordG (V : List (Int × Thing)) (E : List ((Int × Int) × Thing)) (f : Nat) (L : List Int) (x : Int) : Option (List Int) := if clqB V E (nbrR E x (outR L x)) = true then (ordR V E f (outR L x)).map (x :: ·) else none
theorem ordR_step (V : List (Int × Thing)) (E : List ((Int × Int) × Thing)) (f : Nat) {L : List Int} (h : L ≠ []) : ordR V E (f + 1) L = L.findSome? (ordG V E f L) := by
  rw [ordR, if_neg h]
  congr 1
  funext x
  unfold ordG
  by_cases hc : ClqR V E (nbrR E x (outR L x))
  · rw [if_pos hc, if_pos (clqB_true.2 hc)]
  · rw [if_neg hc, if_neg (fun h => hc (clqB_true.1 h))]
theorem drop_find {α β : Type} {L : List α} {k : Nat} (hk : k < L.length) (g : α → Option β) : (L.drop k).findSome? g = match g L[k] with | some b => some b | none => (L.drop (k + 1)).findSome? g := by
  rw [List.drop_eq_getElem_cons hk, List.findSome?_cons]
  cases g L[k] <;> rfl
theorem out_len {L : List Int} {x : Int} (h : x ∈ L) : (outR L x).length < L.length := out_lt h

theorem ordR_len (V : List (Int × Thing)) (E : List ((Int × Int) × Thing)) : ∀ (f : Nat) (L o : List Int), ordR V E f L = some o → o.length ≤ L.length
  | 0, L, o, h => by cases h
  | f + 1, L, o, h => by
    by_cases hL : L = []
    · rw [ordR, if_pos hL] at h
      cases h
      simp
    · rw [ordR_step V E f hL] at h
      obtain ⟨x, hx, hg⟩ := List.exists_of_findSome?_eq_some h
      unfold ordG at hg
      split at hg
      · obtain ⟨l, hl, rfl⟩ := Option.map_eq_some_iff.1 hg
        have h1 := ordR_len V E f _ l hl
        have h2 := out_len hx
        rw [List.length_cons]
        omega
      · cases hg
set_option maxRecDepth 100000 in
set_option maxHeartbeats 16000000 in
theorem orderR_any (A B : Option Addr) (V : List (Int × Thing)) (E : List ((Int × Int) × Thing)) (cA cB : Nat) (hl4 : V.length ≤ 4096 ∧ E.length ≤ 4096) : ∀ (f : Nat) (C : Option Addr) (L : List Int) (cL : Nat) (w : World), SlAt encV 3 w A V → SlAt encE 4 w B E → SlAt encI 1 w C L → L.length ≤ 4096 → L.length < f →
    Calls Tryz.prog 49 #[.agg #[.slice A V.length cA, .slice B E.length cB], .slice C L.length cL] w (OrPost w (ordR V E f L)) := by
  intro f
  induction f with
  | zero => intro C L cL w _ _ _ _ h; omega
  | succ f ih =>
    intro C L cL w hV hE hL hl hf
    have hV' := hide hV
    have hE' := hide hE
    have hL' := hide hL
    have hih := hide ih
    have hl' := hide hl
    obtain ⟨n, hn⟩ : ∃ n, n = L.length := ⟨_, rfl⟩
    have hne := hide (fun h => ordR_step V E f (L := L) h)
    have hnil : L = [] → ordR V E (f + 1) L = some [] := fun h => by rw [ordR, if_pos h]
    have hnil' := hide hnil
    generalize ordR V E (f + 1) L = res at *
    rw [← hn] at hf ⊢
    have hn' := hide hn
    have hf' := hide hf
    clear hV hE hL ih hl hn hnil hf
    have hP := hide (Sp.new w)
    refine callsIn_wide.1 (callsIn_of_wp_marks (n := 0) Tryz.func49 rfl trivial (wpIn_wide.2 ?_))
    simp only [Tryz.ntmps49, List.size_toArray, List.length_cons, List.length_nil, Nat.reduceAdd, Nat.reduceSub, Array.replicate_succ, Array.replicate_zero, List.push_toArray, List.append_toArray, List.nil_append, List.cons_append]
    try dsimp only
    repeat ((fail_if_success (with_reducible refine wp_reg (id := 0) ?_)); (first | go_values | go_skip | go_step | go_guarded | go_upon | go_in | go_back | fail))
    with_reducible refine wp_reg (id := 0) ?_
    refine (unhide hP).allocO 28 #[.slice A V.length cA, .slice B E.length cB] rfl (run_box (v := .agg #[.slice A V.length cA, .slice B E.length cB]) rfl rfl) ?_
    intro gw y1 hQ
    replace hP : Hid (Sp w [] w [] [(gw, 28, #[.slice A V.length cA, .slice B E.length cB])] [] y1) := hide hQ
    clear hQ
    iterate 2
      refine wpO_want rfl ?_
      go_simp
    refine wpO_done ?_
    try go_frame
    by_cases h0 : n = 0
    · -- nothing left
      subst h0
      have hres : res = some [] := unhide hnil' (List.length_eq_zero_iff.1 (unhide hn').symm)
      have hres' := hide hres
      clear hres hnil' hne
      go_wp2_with fail
      refine (unhide hP).leaves ?_
      intro w' hx hst
      refine ⟨_, results_tmp2 (t := 4) (u := 5) rfl _ _ _, ?_⟩
      rw [unhide hres']
      exact OrPost.emp hx
    · skip
      have hres : res = (L.drop 0).findSome? (ordG V E f L) := by rw [List.drop_zero]; exact unhide hne (fun e => h0 (by rw [unhide hn', e]; rfl))
      have hres' := hide hres
      clear hres hnil' hne
      obtain ⟨b, off, rfl, hcc⟩ := atI (unhide hL') (i := 0) (by have := unhide hn'; omega)
      clear hcc
      have hn0 : ¬ (n : Int) = 0 := by omega
      have hout := hide (fun (x : Int) (W : World) (hW : Ext w W) => by
        have h := outR_any (some ⟨b, off, none⟩) L cL x W ((unhide hL').ext hW) (unhide hl')
        rw [← unhide hn'] at h
        exact h)
      go_wp2_with fail
      refine wp_loop_ix (fun fi a' wr => ∃ (k : Nat), a'.tmps.size = 49 ∧ a'.tmps.getD 1 undef = .slice (some ⟨b, off, none⟩) n cL ∧ a'.tmps.getD 2 undef = .pointer (some ⟨gw, 0, none⟩) ∧ a'.tmps.getD 6 undef = .int .i64 (k : Nat) ∧ a'.defers = [] ∧ k ≤ n ∧ res = (L.drop k).findSome? (ordG V E f L) ∧ Sp w [] w [] [(gw, 28, #[.slice A V.length cA, .slice B E.length cB])] [] wr ∧ fi = n - k) (n - 0) ?_ ?_
      · exact ⟨0, rfl, rfl, rfl, rfl, rfl, Nat.zero_le _, unhide hres', unhide hP, rfl⟩
      · rintro fi ⟨tm, dfs⟩ wr ⟨k, hsz, e1, e2, e6, hdf, hk, hrk, hPr, hfm⟩
        obtain ⟨us, rfl⟩ : ∃ us : Nat → Value, tm = #[us 0, us 1, us 2, us 3, us 4, us 5, us 6, us 7, us 8, us 9, us 10, us 11, us 12, us 13, us 14, us 15, us 16, us 17, us 18, us 19, us 20, us 21, us 22, us 23, us 24, us 25, us 26, us 27, us 28, us 29, us 30, us 31, us 32, us 33, us 34, us 35, us 36, us 37, us 38, us 39, us 40, us 41, us 42, us 43, us 44, us 45, us 46, us 47, us 48] := ⟨fun i => tm.getD i undef, arr_fn hsz⟩
        have h1 : us 1 = .slice (some ⟨b, off, none⟩) n cL := e1
        have h2 : us 2 = .pointer (some ⟨gw, 0, none⟩) := e2
        have h6 : us 6 = .int .i64 (k : Nat) := e6
        have hdf2 : dfs = [] := hdf
        subst hdf2
        clear hdf hsz e1 e2 e6
        simp only [h1, h2, h6]
        clear h1 h2 h6
        clear hP hres'
        have hP := hide hPr
        have hrk' := hide hrk
        have hfm' := hide hfm
        clear hPr hrk hfm
        by_cases hlt : k < n
        · have hkL : k < L.length := by have := unhide hn'; omega
          obtain ⟨x, hx0⟩ : ∃ x, x = L[k] := ⟨_, rfl⟩
          have hxm := hide (show x ∈ L by rw [hx0]; exact List.getElem_mem hkL)
          have hstep := hide (drop_find hkL (ordG V E f L))
          rw [← unhide hrk', ← hx0] at hstep
          have hx0' := hide hx0
          have hkn := hide (show k < n from hlt)
          clear hx0 hrk'
          have c0 := slE ((unhide hL').ext (unhide hP).extf) hkL
          rw [← unhide hx0'] at c0
          have hself := Ext.refl wr
          go_wp2_with fail
          refine (unhide hout x wr (unhide hP).extf).mono ?_
          rintro _ y2 ⟨A1, c1, rfl, ho1, hxc⟩
          obtain ⟨M, hM⟩ : ∃ M, M = outR L x := ⟨_, rfl⟩
          have hMl := hide (show M.length < n by rw [hM, unhide hn']; exact out_len (unhide hxm))
          have hG := hide (show ordG V E f L x = if clqB V E (nbrR E x M) = true then (ordR V E f M).map (x :: ·) else none by rw [hM]; rfl)
          rw [← hM] at ho1 ⊢
          obtain ⟨m, hm⟩ : ∃ m, m = M.length := ⟨_, rfl⟩
          have hM4 := hide (show M.length ≤ 4096 by have := unhide hMl; have := unhide hl'; have := unhide hn'; omega)
          have hMf := hide (show M.length < f by have := unhide hMl; have := unhide hf'; omega)
          rw [← hm] at ho1 ⊢
          have hnl := hide (show (nbrR E x M).length ≤ 4096 by have h1 := List.length_filter_le (fun y => decide (y ≠ x) && hasE x y E) M; have := unhide hM4; unfold nbrR; omega)
          replace hP : Hid (Sp w [] w [] [(gw, 28, #[.slice A V.length cA, .slice B E.length cB])] [(3, 1, .slice A1 m c1, m, M.flatMap encI)] y2) := hide ((unhide hP).addRow hxc ho1)
          have hm' := hide hm
          clear hxc hM hm ho1 c0 hself hMl
          go_wp2_with fail
          have c0 := slK (S := []) ((unhide hL').ext (unhide hP).extf) (by simp) hkL
          rw [← unhide hx0'] at c0
          have q0 := (unhide hP).cellK (S := []) 0 0 (v := .slice A V.length cA) rfl rfl (by simp)
          have q1 := (unhide hP).cellK (S := []) 0 1 (v := .slice B E.length cB) rfl rfl (by simp)
          have hself := Keep.refl [] y2
          refine wp_regionK (P := Tryz.prog) [] [0,1,2,3,4,5,6] [] 3 #[true,true,true,true,true,true,true,false,false,false] (by kernel_rfl) (by kernel_rfl) rfl (by rfl) ?_
          iterate 7
            refine ql_want (v := ?_) rfl (by rfl) (fun W hW => ?_) ?_
            rotate_left
            · go_simp
              first | done | rfl
            go_frame
          refine wpQL_nil (fun y3 hxq => ?_)
          have hK := hide (hxq.keep [])
          replace hP : Hid (Sp w [] w [] [(gw, 28, #[.slice A V.length cA, .slice B E.length cB])] [(3, 1, .slice A1 m c1, m, M.flatMap encI)] y3) := hide ((unhide hP).ext hxq)
          clear hxq
          clear c0 hself q0 q1
          have hcall := nearR_any A B V E cA cB A1 M c1 x y3 ((unhide hE').ext (unhide hP).extf) hl4.2 (own_at (by have h := (unhide hP).row 0 rfl; rw [unhide hm'] at h; exact h) (fun _ => rfl)) (unhide hM4)
          rw [← unhide hm'] at hcall
          refine lx_one (i := 7) (by kernel_rfl) rfl (by rfl) #[true,true,true,true,true,true,true,true,false,false] (by rfl) ?_
          go_simp
          refine (hcall).mono ?_
          rintro _ zy4 ⟨A2, c2, rfl, ho2, hxc⟩
          clear hcall
          obtain ⟨N, hN⟩ : ∃ N, N = nbrR E x M := ⟨_, rfl⟩
          rw [← hN] at ho2 hG hnl ⊢
          obtain ⟨m2, hm2⟩ : ∃ m2, m2 = N.length := ⟨_, rfl⟩
          rw [← hm2] at ho2 ⊢
          have hm2' := hide hm2
          clear hN hm2
          refine ⟨_, rfl, (unhide hK).trans (hxc.keep _), fun y4 hxd => ?_⟩
          replace hP : Hid (Sp w [] w [] [(gw, 28, #[.slice A V.length cA, .slice B E.length cB])] [(3, 1, .slice A1 m c1, m, M.flatMap encI), (3, 1, .slice A2 m2 c2, m2, N.flatMap encI)] y4) := hide (((unhide hP).addRow hxc ho2).ext hxd)
          replace hK := hide ((unhide hK).trans ((hxc.trans hxd).keep _))
          clear hxc hxd
          try go_frame
          have hcall := clqR_walk A B V E cA cB A2 N c2 y4 ((unhide hV').ext (unhide hP).extf) hl4.1 ((unhide hE').ext (unhide hP).extf) hl4.2 (own_at (by have h := (unhide hP).row 1 rfl; rw [unhide hm2'] at h; exact h) (fun _ => rfl)) (unhide hnl)
          rw [← unhide hm2'] at hcall
          obtain ⟨q, hq⟩ : ∃ q, q = clqB V E N := ⟨_, rfl⟩
          rw [← hq] at hcall hG
          clear hq
          refine lx_one (i := 8) (by kernel_rfl) rfl (by rfl) #[true,true,true,true,true,true,true,true,true,false] (by rfl) ?_
          go_simp
          refine (hcall).mono ?_
          rintro _ zy5 ⟨rfl, hxc⟩
          clear hcall
          refine ⟨_, rfl, (unhide hK).trans (hxc.keep _), fun y5 hxd => ?_⟩
          replace hP : Hid (Sp w [] w [] [(gw, 28, #[.slice A V.length cA, .slice B E.length cB])] [(3, 1, .slice A1 m c1, m, M.flatMap encI), (3, 1, .slice A2 m2 c2, m2, N.flatMap encI)] y5) := hide ((unhide hP).ext (hxc.trans hxd))
          replace hK := hide ((unhide hK).trans ((hxc.trans hxd).keep _))
          clear hxc hxd
          try go_frame
          refine lx_one (i := 9) (by kernel_rfl) rfl (by rfl) #[true,true,true,true,true,true,true,true,true,true] (by rfl) ?_
          refine (unhide hP).valL (unhide hK) (v := .bool (!q)) ?_ ?_
          · go_simp
          intro y6 hQ hK2
          replace hP : Hid (Sp w [] w [] [(gw, 28, #[.slice A V.length cA, .slice B E.length cB])] [(3, 1, .slice A1 m c1, m, M.flatMap encI), (3, 1, .slice A2 m2 c2, m2, N.flatMap encI)] y6) := hide hQ
          replace hK := hide hK2
          clear hQ hK2
          try go_frame
          refine wpX_done (by kernel_rfl) ?_
          try go_frame
          clear hK
          cases q
          · -- not simplicial
            have hG2 : ordG V E f L x = none := by first | (rw [unhide hG, if_neg (by simp)]) | (rw [unhide hG]; rfl) | (rw [unhide hG])
            have hG' := hide hG2
            clear hG hG2
            replace hP : Hid (Sp w [] w [] [(gw, 28, #[.slice A V.length cA, .slice B E.length cB])] [] y6) := hide ((unhide hP).sub (List.Sublist.refl _) (List.nil_sublist _))
            have hrn := hide (show res = (L.drop (k + 1)).findSome? (ordG V E f L) by first | (rw [unhide hstep, unhide hG']; done) | (rw [unhide hstep, unhide hG']; rfl))
            clear hstep hG'
            have hkl : (k : Int) ≤ 4096 := by have := unhide hkn; have := unhide hn'; have := unhide hl'; omega
            go_wp2_with fail
            have h1 := unhide hkn
            have h2 := unhide hfm'
            exact ⟨n - (k + 1), ⟨k + 1, (by first | rfl | trivial), (by first | rfl | trivial), (by first | rfl | trivial), by first | rfl | (show _ = Value.int _ _; go_num) | go_num, (by first | rfl | trivial), by omega, unhide hrn, unhide hP, rfl⟩, by omega⟩
          · -- simplicial
            have q0 := (unhide hP).cell 0 0 (v := .slice A V.length cA) rfl rfl
            have q1 := (unhide hP).cell 0 1 (v := .slice B E.length cB) rfl rfl
            have hself := Ext.refl y6
            go_wp2_with fail
            clear q0 q1 hself
            have hcall := unhide hih A1 M c1 y6 ((unhide hV').ext (unhide hP).extf) ((unhide hE').ext (unhide hP).extf) (own_at (by have h := (unhide hP).row 0 rfl; rw [unhide hm'] at h; exact h) (fun _ => rfl)) (unhide hM4) (unhide hMf)
            rw [← unhide hm'] at hcall
            obtain ⟨oo, hoo⟩ : ∃ oo, oo = ordR V E f M := ⟨_, rfl⟩
            rw [← hoo] at hcall
            have hoo' := hide hoo
            have hG2 : ordG V E f L x = oo.map (x :: ·) := by rw [unhide hG, ← hoo]; first | rw [if_pos rfl] | rw [if_pos trivial]
            have hG' := hide hG2
            clear hG hG2 hoo
            refine hcall.mono ?_
            clear hcall
            rintro _ y7 ⟨A3, c3, rfl, ho3, hxc⟩
            cases oo with
            | none =>
              replace hP : Hid (Sp w [] w [] [(gw, 28, #[.slice A V.length cA, .slice B E.length cB])] [(3, 1, .slice A1 m c1, m, M.flatMap encI), (3, 1, .slice A2 m2 c2, m2, N.flatMap encI)] y7) := hide ((unhide hP).ext hxc)
              clear hxc ho3
              simp only [Option.getD_none, Option.isSome_none, List.length_nil]
              replace hP : Hid (Sp w [] w [] [(gw, 28, #[.slice A V.length cA, .slice B E.length cB])] [] y7) := hide ((unhide hP).sub (List.Sublist.refl _) (List.nil_sublist _))
              have hrn := hide (show res = (L.drop (k + 1)).findSome? (ordG V E f L) by first | (rw [unhide hstep, unhide hG']; done) | (rw [unhide hstep, unhide hG']; rfl))
              clear hstep hG'
              have hkl : (k : Int) ≤ 4096 := by have := unhide hkn; have := unhide hn'; have := unhide hl'; omega
              go_wp2_with fail
              have h1 := unhide hkn
              have h2 := unhide hfm'
              exact ⟨n - (k + 1), ⟨k + 1, (by first | rfl | trivial), (by first | rfl | trivial), (by first | rfl | trivial), by first | rfl | (show _ = Value.int _ _; go_num) | go_num, (by first | rfl | trivial), by omega, unhide hrn, unhide hP, rfl⟩, by omega⟩
            | some l =>
              simp only [Option.getD_some, Option.isSome_some] at ho3 ⊢
              obtain ⟨nl, hnl2⟩ : ∃ nl, nl = l.length := ⟨_, rfl⟩
              rw [← hnl2] at ho3 ⊢
              replace hP : Hid (Sp w [] w [] [(gw, 28, #[.slice A V.length cA, .slice B E.length cB])] [(3, 1, .slice A1 m c1, m, M.flatMap encI), (3, 1, .slice A2 m2 c2, m2, N.flatMap encI), (3, 1, .slice A3 nl c3, nl, l.flatMap encI)] y7) := hide ((unhide hP).addRow hxc ho3)
              have hnl2' := hide hnl2
              have hres : res = some (x :: l) := by rw [unhide hstep, unhide hG']; rfl
              have hres' := hide hres
              have hll := hide (show nl ≤ 4096 by rw [hnl2]; exact Nat.le_trans (ordR_len V E f M l (unhide hoo').symm) (unhide hM4))
              clear hstep hG' hnl2 hres hxc ho3
              have c0 := slE ((unhide hL').ext (unhide hP).extf) hkL
              rw [← unhide hx0'] at c0
              have hself := Ext.refl y7
              try dsimp only
              repeat ((fail_if_success (with_reducible refine wp_reg (id := 10) ?_)); (first | go_values | go_skip | go_step | go_guarded | go_upon | go_in | go_back | fail))
              with_reducible refine wp_reg (id := 10) ?_
              iterate 4
                refine wpO_want rfl ?_
                go_simp
              clear c0 hself
              refine (unhide hP).build1O 3 #[.int .i64 x] rfl (run_build1 rfl rfl) ?_
              intro bt y8 hQ
              replace hP : Hid (Sp w [] w [] [(gw, 28, #[.slice A V.length cA, .slice B E.length cB]), (bt, 3, #[.int .i64 x])] [(3, 1, .slice A1 m c1, m, M.flatMap encI), (3, 1, .slice A2 m2 c2, m2, N.flatMap encI), (3, 1, .slice A3 nl c3, nl, l.flatMap encI)] y8) := hide hQ
              clear hQ
              go_frame
              replace hP : Hid (Sp w [] w [] [(gw, 28, #[.slice A V.length cA, .slice B E.length cB])] [(3, 1, .slice A1 m c1, m, M.flatMap encI), (3, 1, .slice A2 m2 c2, m2, N.flatMap encI), (3, 1, .slice A3 nl c3, nl, l.flatMap encI), (3, 1, .slice (some ⟨bt, 0, none⟩) 1 1, 1, [.int .i64 x])] y8) := hide (Sp.toRow (L := [(gw, 28, #[.slice A V.length cA, .slice B E.length cB])]) (b := bt) (t := 3) (n := 1) (cs := #[.int .i64 x]) (unhide hP) rfl (by decide))
              refine wpO_val rfl (run_move rfl rfl) ?_
              go_frame
              refine (unhide hP).apAO (enc := encI) (T := 3) (ST := 31) 3 (v := .slice (some ⟨bt, 0, none⟩) 1 1) (m := 1) (xs := [x]) rfl rfl infoI Tryz.underlying31 one_encI (fun _ => rfl) (by decide) (by decide) rfl l rfl rfl ((unhide hnl2').symm) (own_at (by have h := (unhide hP).row 2 rfl; rw [unhide hnl2'] at h; exact h) (fun _ => rfl)) (by have := unhide hll; omega) ?_
              intro A7 cA7 y9 hQ
              replace hP : Hid (Sp w [] w [] [(gw, 28, #[.slice A V.length cA, .slice B E.length cB])] [(3, 1, .slice A1 m c1, m, M.flatMap encI), (3, 1, .slice A2 m2 c2, m2, N.flatMap encI), (3, 1, .slice A3 nl c3, nl, l.flatMap encI), (3, 1, .slice A7 (1 + nl) cA7, 1 + nl, ([x] ++ l).flatMap encI)] y9) := hide hQ
              clear hQ
              try go_frame
              iterate 2
                refine wpO_want rfl ?_
                go_simp
              refine wpO_done ?_
              try go_frame
              go_wp2_with fail
              refine (unhide hP).leaves ?_
              intro w' hx hst
              refine ⟨_, results_tmp2 (t := 4) (u := 5) rfl _ _ _, ?_⟩
              rw [unhide hres']
              exact OrPost.yes (xs := [x] ++ l) (by rw [List.length_append, ← unhide hnl2']; rfl) (hst.row 3 rfl) hx
        · have hke : k = n := by omega
          have hres : res = none := by rw [unhide hrk', List.drop_eq_nil_of_le (by have := unhide hn'; omega)]; rfl
          have hres' := hide hres
          clear hres hrk'
          subst hke
          go_wp2_with fail
          refine (unhide hP).leaves ?_
          intro w' hx hst
          refine ⟨_, results_tmp2 (t := 4) (u := 5) rfl _ _ _, ?_⟩
          rw [unhide hres']
          exact OrPost.no hx

set_option maxRecDepth 100000 in
set_option maxHeartbeats 4000000 in
theorem OrderR_any (A B : Option Addr) (V : List (Int × Thing)) (E : List ((Int × Int) × Thing)) (cA cB : Nat) (w : World) (hV : SlAt encV 3 w A V) (hnV : V.length ≤ 4096) (hE : SlAt encE 4 w B E) (hnE : E.length ≤ 4096) :
    Calls Tryz.prog 15 #[.agg #[.slice A V.length cA, .slice B E.length cB]] w (OrPost w (ordR V E 4097 (V.map (·.1)))) := by
  have hV' := hide hV
  have hE' := hide hE
  have hnV' := hide hnV
  have hnE' := hide hnE
  clear hV hE hnV hnE
  have hP := hide (Sp.new w)
  refine callsIn_wide.1 (callsIn_of_wp_marks (n := 0) Tryz.func15 rfl trivial (wpIn_wide.2 ?_))
  simp only [Tryz.ntmps15, List.size_toArray, List.length_cons, List.length_nil, Nat.reduceAdd, Nat.reduceSub, Array.replicate_succ, Array.replicate_zero, List.push_toArray, List.append_toArray, List.nil_append, List.cons_append]
  try dsimp only
  repeat ((fail_if_success (with_reducible refine wp_reg (id := 0) ?_)); (first | go_values | go_skip | go_step | go_guarded | go_upon | go_in | go_back | fail))
  with_reducible refine wp_reg (id := 0) ?_
  refine (unhide hP).allocO 28 #[.slice A V.length cA, .slice B E.length cB] rfl (run_box (v := .agg #[.slice A V.length cA, .slice B E.length cB]) rfl rfl) ?_
  intro gw y1 hQ
  replace hP : Hid (Sp w [] w [] [(gw, 28, #[.slice A V.length cA, .slice B E.length cB])] [] y1) := hide hQ
  clear hQ
  iterate 2
    refine wpO_want rfl ?_
    go_simp
  refine wpO_done ?_
  try go_frame
  go_wp2_with fail
  have q0 := (unhide hP).cellK (S := []) 0 0 (v := .slice A V.length cA) rfl rfl (by simp)
  have q1 := (unhide hP).cellK (S := []) 0 1 (v := .slice B E.length cB) rfl rfl (by simp)
  have hself := Keep.refl [] y1
  refine wp_regionK (P := Tryz.prog) [] [0,1] [] 6 #[true,true,false,false,false,false,false,false] (by kernel_rfl) (by kernel_rfl) rfl (by rfl) ?_
  iterate 2
    refine ql_want (v := ?_) rfl (by rfl) (fun W hW => ?_) ?_
    rotate_left
    · go_simp
      first | done | rfl
    go_frame
  refine wpQL_nil (fun y2 hxq => ?_)
  have hK := hide (hxq.keep [])
  replace hP : Hid (Sp w [] w [] [(gw, 28, #[.slice A V.length cA, .slice B E.length cB])] [] y2) := hide ((unhide hP).ext hxq)
  clear hxq
  clear q0 q1 hself
  obtain ⟨I0, hI0⟩ : ∃ I0, I0 = V.map (·.1) := ⟨_, rfl⟩
  have hcall := ids_any A B V E cA cB y2 ((unhide hV').ext (unhide hP).extf) (unhide hnV')
  have hIl := hide (show I0.length ≤ 4096 by rw [hI0, List.length_map]; exact unhide hnV')
  rw [← hI0] at hcall
  refine lx_one (i := 2) (by kernel_rfl) rfl (by rfl) #[true,true,true,false,false,false,false,false] (by rfl) ?_
  go_simp
  refine (hcall).mono ?_
  rintro _ zy3 ⟨A2, c2, rfl, ho2, hxc⟩
  clear hcall
  obtain ⟨m, hm⟩ : ∃ m, m = I0.length := ⟨_, rfl⟩
  rw [← hm] at ho2 ⊢
  have hm' := hide hm
  have hI0' := hide hI0
  clear hI0 hm
  refine ⟨_, rfl, (unhide hK).trans (hxc.keep _), fun y3 hxd => ?_⟩
  replace hP : Hid (Sp w [] w [] [(gw, 28, #[.slice A V.length cA, .slice B E.length cB])] [(3, 1, .slice A2 m c2, m, I0.flatMap encI)] y3) := hide (((unhide hP).addRow hxc ho2).ext hxd)
  replace hK := hide ((unhide hK).trans ((hxc.trans hxd).keep _))
  clear hxc hxd
  try go_frame
  have hcall := orderR_any A B V E cA cB ⟨unhide hnV', unhide hnE'⟩ 4097 A2 I0 c2 y3 ((unhide hV').ext (unhide hP).extf) ((unhide hE').ext (unhide hP).extf) (own_at (by have h := (unhide hP).row 0 rfl; rw [unhide hm'] at h; exact h) (fun _ => rfl)) (unhide hIl) (by have := unhide hIl; omega)
  rw [← unhide hm'] at hcall
  obtain ⟨oo, hoo⟩ : ∃ oo, oo = ordR V E 4097 I0 := ⟨_, rfl⟩
  rw [← hoo] at hcall
  have hoo' := hide hoo
  clear hoo
  refine lx_one (i := 3) (by kernel_rfl) rfl (by rfl) #[true,true,true,true,false,false,false,false] (by rfl) ?_
  go_simp
  refine (hcall).mono ?_
  rintro _ zy4 ⟨A3, c3, rfl, ho3, hxc⟩
  clear hcall
  obtain ⟨lo, hlo⟩ : ∃ lo, lo = oo.getD [] := ⟨_, rfl⟩
  obtain ⟨qb, hqb⟩ : ∃ qb, qb = oo.isSome := ⟨_, rfl⟩
  rw [← hlo] at ho3
  rw [← hlo, ← hqb]
  obtain ⟨nl, hnl⟩ : ∃ nl, nl = lo.length := ⟨_, rfl⟩
  rw [← hnl] at ho3 ⊢
  have hnl' := hide hnl
  have hlo' := hide hlo
  have hqb' := hide hqb
  clear hnl hlo hqb
  generalize htu0 : Value.tuple _ = tu
  have htu := hide htu0
  clear htu0
  refine ⟨_, rfl, (unhide hK).trans (hxc.keep _), fun y4 hxd => ?_⟩
  replace hP : Hid (Sp w [] w [] [(gw, 28, #[.slice A V.length cA, .slice B E.length cB])] [(3, 1, .slice A2 m c2, m, I0.flatMap encI), (3, 1, .slice A3 nl c3, nl, lo.flatMap encI)] y4) := hide (((unhide hP).addRow hxc ho3).ext hxd)
  replace hK := hide ((unhide hK).trans ((hxc.trans hxd).keep _))
  clear hxc hxd
  try go_frame
  refine lx_rekeep (unhide hK) [4,5,6,7] [] 0 4 #[true,true,true,true,false,false,false,false] #[true,true,true,true,true,true,true,true] (by kernel_rfl) rfl (by rfl) ?_
  clear hK
  refine ql_want (v := .slice A3 nl c3) rfl (by rfl) (fun W hW => ?_) ?_
  · rw [run_extract (i := 0) (v := .slice A3 nl c3) rfl (unhide htu).symm rfl]; exact ⟨rfl, Ext.refl W⟩
  go_frame
  refine ql_want (v := .bool qb) rfl (by rfl) (fun W hW => ?_) ?_
  · rw [run_extract (i := 1) (v := .bool qb) rfl (unhide htu).symm rfl]; exact ⟨rfl, Ext.refl W⟩
  go_frame
  iterate 2
    refine ql_want (v := ?_) rfl (by rfl) (fun W hW => ?_) ?_
    rotate_left
    · go_simp
      first | done | rfl
    go_frame
  refine wpQL_nil (fun y5 hxq => ?_)
  replace hP : Hid (Sp w [] w [] [(gw, 28, #[.slice A V.length cA, .slice B E.length cB])] [(3, 1, .slice A2 m c2, m, I0.flatMap encI), (3, 1, .slice A3 nl c3, nl, lo.flatMap encI)] y5) := hide ((unhide hP).ext hxq)
  clear hxq
  refine wpX_done (by kernel_rfl) ?_
  try go_frame
  go_wp2_with fail
  refine (unhide hP).leaves ?_
  intro w' hx hst
  refine ⟨_, results_tmp2 (t := 2) (u := 3) rfl _ _ _, ?_⟩
  rw [unhide hnl', unhide hqb', unhide hlo', ← unhide hI0', ← unhide hoo']
  exact ⟨_, _, rfl, by have h := hst.row 1 rfl; rw [unhide hnl', unhide hlo'] at h; exact h, hx⟩
end Go.Proofs.YtmfkkkhddigkfaaGreatDoor
/- chordal.IsSimplicial. Conditions: see the theorem. -/
namespace Go.Proofs.YtmfkkkhddigkfaaGreatDoor
open Go Go.RowKit Go.Shelf
attribute [local go_sem] qUpon lUpon

set_option maxRecDepth 100000 in
set_option maxHeartbeats 1000000 in
theorem isSimplicial_any (og : Option Addr) (V : List (Int × Thing)) (E : List ((Int × Int) × Thing)) (id : Int) (w : World) (hg : GL w og V E) (hT : Tab w) :
    Calls Tryz.prog 23 #[.pointer og, .int .i64 id] w fun e w' => e = .returned (.bool ((fitB id && (vS V).testBit id.toNat) && simpleS E id (vS V))) ∧ Ext w w' := by
  have hg' := hide hg
  have hT' := hide hT
  clear hg hT
  obtain ⟨q, hq⟩ : ∃ q, (fitB id && (vS V).testBit id.toNat) = q := ⟨_, rfl⟩
  have hq' := hide hq
  have hH := fun w => (has_any (vS V) id w)
  simp only [hq] at hH
  rw [hq]
  clear hq
  go_enter Tryz.func23, Tryz.ntmps23
  try dsimp only
  repeat ((fail_if_success (with_reducible refine wp_reg (id := 1) ?_)); (first | go_values | go_skip | go_step | go_guarded | go_upon | go_in | go_back | fail))
  with_reducible refine wp_reg (id := 1) ?_
  refine wpO_want rfl ?_
  go_simp
  refine wpO_want rfl ?_
  go_simp
  refine (vsetG og V E w (unhide hg')).mono ?_
  rintro _ w1 ⟨rfl, hx1⟩
  refine ⟨_, rfl, ?_⟩
  refine wpO_want rfl ?_
  go_simp
  refine wpO_want rfl ?_
  go_simp
  refine (hH w1).mono ?_
  rintro _ w2 ⟨rfl, hx2⟩
  refine ⟨_, rfl, ?_⟩
  have hx2' := hide (hx1.trans hx2)
  clear hx1 hx2
  refine wpO_want rfl ?_
  go_simp
  cases q
  · iterate 5
      refine wpO_out (by rfl) ?_
      go_frame
    iterate 2
      refine wpO_want rfl ?_
      go_simp
    refine wpO_done ?_
    try go_frame
    go_wp2_with fail
    go_ret
    exact ⟨rfl, unhide hx2'⟩
  · iterate 3
      refine wpO_want rfl ?_
      go_simp
    refine wpO_want rfl ?_
    go_simp
    refine (vsetG og V E w2 ((unhide hg').ext (unhide hx2'))).mono ?_
    rintro _ w3 ⟨rfl, hx3⟩
    refine ⟨_, rfl, ?_⟩
    refine wpO_want rfl ?_
    go_simp
    refine (simple_any og V E id (vS V) w3 ((unhide hg').ext ((unhide hx2').trans hx3)) ((unhide hT').ext ((unhide hx2').trans hx3))).mono ?_
    rintro _ w4 ⟨rfl, hx4⟩
    refine ⟨_, rfl, ?_⟩
    iterate 2
      refine wpO_want rfl ?_
      go_simp
    refine wpO_done ?_
    try go_frame
    have hx4' := hide (((unhide hx2').trans hx3).trans hx4)
    clear hx3 hx4
    go_wp2_with fail
    go_ret
    exact ⟨rfl, unhide hx4'⟩
end Go.Proofs.YtmfkkkhddigkfaaGreatDoor
