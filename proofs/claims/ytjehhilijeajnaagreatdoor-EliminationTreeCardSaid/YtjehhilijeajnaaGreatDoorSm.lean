/- THE REFERENCE's Same. Conditions: see the theorem. -/
import Derived.Test.YtjehhilijeajnaaGreatDoorRq
namespace Go.Proofs.YtjehhilijeajnaaGreatDoor
open Go Go.RowKit
attribute [local go_sem] qUpon lUpon

set_option maxRecDepth 100000 in
set_option maxHeartbeats 4000000 in
theorem same_len (A B A' B' : Option Addr) (V V' : List (Int × Thing)) (E E' : List ((Int × Int) × Thing)) (n m cV cE cV' cE' : Nat) (w : World) (hV : SlAt encV 3 w A V) (hE : SlAt encE 4 w B E) (hV' : SlAt encV 3 w A' V') (hE' : SlAt encE 4 w B' E') (hn : V.length = n) (hn' : V'.length = n) (hm : E.length = m) (hm' : E'.length = m) (hl : n ≤ 4096) (hle : m ≤ 4096) :
    Calls Tryz.prog 25 #[.agg #[.slice A n cV, .slice B m cE], .agg #[.slice A' n cV', .slice B' m cE']] w fun e w' => e = .returned (.bool (decide (V = V') && decide (E = E'))) ∧ Ext w w' := by
  have hV1 := hide hV
  have hE1 := hide hE
  have hV2 := hide hV'
  have hE2 := hide hE'
  clear hV hE hV' hE'
  have hb2 := (Blk.new w 28 #[.slice A n cV, .slice B m cE]).ext (ext_self1 _ (.cells #[.slice A' n cV', .slice B' m cE'] 28))
  have hb3 := Blk.new (w.alloc (.cells #[.slice A n cV, .slice B m cE] 28)) 28 #[.slice A' n cV', .slice B' m cE']
  simp only [World.size_alloc] at hb3
  generalize hres : (decide (V = V') && decide (E = E')) = res
  have hres' := hide hres
  clear hres
  go_enter Tryz.func25, Tryz.ntmps25
  go_wp2
  refine wp_abs (fun W => Ext w W ∧ Blk W w.heap.size 28 #[.slice A n cV, .slice B m cE] ∧ Blk W (w.heap.size + 1) 28 #[.slice A' n cV', .slice B' m cE']) ⟨ext_self2 _ _ _, hb2, hb3⟩ ?_
  clear hb2 hb3
  rintro w1 ⟨hx1, hb2, hb3⟩
  go_loopw [5] (fun i wr => ∃ k : Nat, k ≤ n ∧ i = .int .i64 k ∧ V.take k = V'.take k ∧ Ext w1 wr) (fun i _ => n - (intOf i).toNat)
  case atStart => exact ⟨0, Nat.zero_le _, rfl, by simp, Ext.refl _⟩
  case round =>
    obtain ⟨k, hk, rfl, hfold, hxr⟩ := hrel
    have d0 := (hb2.ext hxr).cells 0 (v := .slice A n cV) rfl
    have d1 := (hb3.ext hxr).cells 0 (v := .slice A' n cV') rfl
    have hfold' := hide hfold
    clear hfold
    by_cases hlt : k < n
    · obtain ⟨b, off, rfl, c0, c1, c2⟩ := atV ((unhide hV1).ext (hx1.trans hxr)) (i := k) (by omega)
      obtain ⟨b', off', rfl, g0, g1, g2⟩ := atV ((unhide hV2).ext (hx1.trans hxr)) (i := k) (by omega)
      have t1 := List.take_succ_eq_append_getElem (l := V) (i := k) (by omega)
      have t2 := List.take_succ_eq_append_getElem (l := V') (i := k) (by omega)
      generalize hy : V[k] = y at c0 c1 c2 t1
      generalize hy' : V'[k] = y' at g0 g1 g2 t2
      have hyy := hide (show V[k]? = some y by rw [← hy]; exact List.getElem?_eq_getElem _)
      have hyy' := hide (show V'[k]? = some y' by rw [← hy']; exact List.getElem?_eq_getElem _)
      have t1' := hide t1
      have t2' := hide t2
      clear hy hy' t1 t2
      obtain ⟨a, ⟨l, t⟩⟩ := y
      obtain ⟨a', ⟨l', t'⟩⟩ := y'
      simp only at c0 c1 c2 g0 g1 g2
      go_wp2
      obtain ⟨q, hq⟩ : ∃ q : Bool, q = !decide ((a, (l, t)) = (a', (l', t'))) := ⟨_, rfl⟩
      have hq' := hide hq
      clear hq
      refine wp_region_still (P := Tryz.prog) [0,1,2,3,4,5,6,7,8,9,10] [] 0 #[true,true,true,true,true,true,true,true,true,true,true] (by kernel_rfl) (by kernel_rfl) rfl (by rfl) ?_
      iterate 10
        refine ql_want (v := ?_) rfl (by rfl) (fun W hW => ?_) ?_
        rotate_left
        · go_simp
          first | done | rfl | (fail)
        go_frame

      refine ql_want (v := .bool q) rfl (by rfl) (fun W hW => ?_) ?_
      · go_simp
        rw [unhide hq']
        by_cases h1 : a = a' <;> by_cases h2 : l = l' <;> by_cases h3 : t = t' <;> simp [h1, h2, h3]
      go_frame
      refine wpQL_nil (fun w2 hx2 => ?_)
      refine wpX_done (by kernel_rfl) ?_
      clear d0 d1 c0 c1 c2 g0 g1 g2
      cases hqq : q
      · have he : (a, (l, t)) = (a', (l', t')) := by
          have hz := unhide hq'
          rw [hqq] at hz
          by_cases he : (a, (l, t)) = (a', (l', t'))
          · exact he
          · rw [decide_eq_false he] at hz
            cases hz
        subst hqq
        go_wp2
        go_roundw
        case rel => exact ⟨k + 1, by omega, by go_num, by rw [unhide t1', unhide t2', unhide hfold', he], hxr.trans hx2⟩
        case measure => simp [intOf]; omega
      · have he : (a, (l, t)) ≠ (a', (l', t')) := by
          intro he
          have hz := unhide hq'
          rw [hqq, decide_eq_true he] at hz
          cases hz
        subst hqq
        go_wp2
        go_ret
        refine ⟨ret_bool ?_, hx1.trans (hxr.trans hx2)⟩
        rw [← unhide hres']
        have hne : V ≠ V' := by
          intro e
          have h1 := unhide hyy
          have h2 := unhide hyy'
          rw [e, h2] at h1
          exact he (Option.some.inj h1).symm
        simp [hne]
    · have hkE : k = n := by omega
      have h5 := unhide hfold'
      rw [hkE, List.take_of_length_le (by omega), List.take_of_length_le (by omega)] at h5
      have hVV' := hide h5
      clear h5 hfold'
      go_wp2
      go_loopw [6] (fun i wr => ∃ k : Nat, k ≤ m ∧ i = .int .i64 k ∧ E.take k = E'.take k ∧ Ext w1 wr) (fun i _ => m - (intOf i).toNat)
      case atStart => exact ⟨0, Nat.zero_le _, rfl, by simp, hxr⟩
      case round =>
        obtain ⟨k, hk, rfl, hfold, hxr⟩ := hrel
        have d0 := (hb2.ext hxr).cells 1 (v := .slice B m cE) rfl
        have d1 := (hb3.ext hxr).cells 1 (v := .slice B' m cE') rfl
        have hfold' := hide hfold
        clear hfold
        by_cases hlt : k < m
        · obtain ⟨b, off, rfl, c0, c1, c2, c3⟩ := atE ((unhide hE1).ext (hx1.trans hxr)) (i := k) (by omega)
          obtain ⟨b', off', rfl, g0, g1, g2, g3⟩ := atE ((unhide hE2).ext (hx1.trans hxr)) (i := k) (by omega)
          have t1 := List.take_succ_eq_append_getElem (l := E) (i := k) (by omega)
          have t2 := List.take_succ_eq_append_getElem (l := E') (i := k) (by omega)
          generalize hy : E[k] = y at c0 c1 c2 c3 t1
          generalize hy' : E'[k] = y' at g0 g1 g2 g3 t2
          have hyy := hide (show E[k]? = some y by rw [← hy]; exact List.getElem?_eq_getElem _)
          have hyy' := hide (show E'[k]? = some y' by rw [← hy']; exact List.getElem?_eq_getElem _)
          have t1' := hide t1
          have t2' := hide t2
          clear hy hy' t1 t2
          obtain ⟨⟨a, b0⟩, ⟨l, t⟩⟩ := y
          obtain ⟨⟨a', b0'⟩, ⟨l', t'⟩⟩ := y'
          simp only at c0 c1 c2 c3 g0 g1 g2 g3
          go_wp2
          obtain ⟨q, hq⟩ : ∃ q : Bool, q = !decide (((a, b0), (l, t)) = ((a', b0'), (l', t'))) := ⟨_, rfl⟩
          have hq' := hide hq
          clear hq
          refine wp_region_still (P := Tryz.prog) [0,1,2,3,4,5,6,7,8,9,10] [] 0 #[true,true,true,true,true,true,true,true,true,true,true] (by kernel_rfl) (by kernel_rfl) rfl (by rfl) ?_
          iterate 10
            refine ql_want (v := ?_) rfl (by rfl) (fun W hW => ?_) ?_
            rotate_left
            · go_simp
              first | done | rfl | (fail)
            go_frame

          refine ql_want (v := .bool q) rfl (by rfl) (fun W hW => ?_) ?_
          · go_simp
            rw [unhide hq']
            by_cases h1 : a = a' <;> by_cases h4 : b0 = b0' <;> by_cases h2 : l = l' <;> by_cases h3 : t = t' <;> simp [h1, h2, h3, h4]
          go_frame
          refine wpQL_nil (fun w2 hx2 => ?_)
          refine wpX_done (by kernel_rfl) ?_
          clear d0 d1 c0 c1 c2 c3 g0 g1 g2 g3
          cases hqq : q
          · have he : ((a, b0), (l, t)) = ((a', b0'), (l', t')) := by
              have hz := unhide hq'
              rw [hqq] at hz
              by_cases he : ((a, b0), (l, t)) = ((a', b0'), (l', t'))
              · exact he
              · rw [decide_eq_false he] at hz
                cases hz
            subst hqq
            go_wp2
            go_roundw
            case rel => exact ⟨k + 1, by omega, by go_num, by rw [unhide t1', unhide t2', unhide hfold', he], hxr.trans hx2⟩
            case measure => simp [intOf]; omega
          · have he : ((a, b0), (l, t)) ≠ ((a', b0'), (l', t')) := by
              intro he
              have hz := unhide hq'
              rw [hqq, decide_eq_true he] at hz
              cases hz
            subst hqq
            go_wp2
            go_ret
            refine ⟨ret_bool ?_, hx1.trans (hxr.trans hx2)⟩
            rw [← unhide hres']
            have hne : E ≠ E' := by
              intro e
              have h1 := unhide hyy
              have h2 := unhide hyy'
              rw [e, h2] at h1
              exact he (Option.some.inj h1).symm
            simp [hne]
        · have hkE : k = m := by omega
          have h5 := unhide hfold'
          rw [hkE, List.take_of_length_le (by omega), List.take_of_length_le (by omega)] at h5
          have h5' := hide h5
          clear h5
          go_wp2
          go_ret
          refine ⟨ret_bool ?_, hx1.trans hxr⟩
          rw [← unhide hres', unhide h5', unhide hVV']
          simp

theorem same_any (A B A' B' : Option Addr) (V V' : List (Int × Thing)) (E E' : List ((Int × Int) × Thing)) (cV cE cV' cE' : Nat) (w : World) (hV : SlAt encV 3 w A V) (hE : SlAt encE 4 w B E) (hV' : SlAt encV 3 w A' V') (hE' : SlAt encE 4 w B' E') (hl : V.length ≤ 4096) (hle : E.length ≤ 4096) :
    Calls Tryz.prog 25 #[.agg #[.slice A V.length cV, .slice B E.length cE], .agg #[.slice A' V'.length cV', .slice B' E'.length cE']] w fun e w' => e = .returned (.bool (decide (V = V') && decide (E = E'))) ∧ Ext w w' := by
  by_cases h1 : V.length = V'.length
  · by_cases h2 : E.length = E'.length
    · rw [← h1, ← h2]
      exact same_len A B A' B' V V' E E' V.length E.length cV cE cV' cE' w hV hE hV' hE' rfl h1.symm rfl h2.symm hl hle
    · have h3 : decide (E = E') = false := by
        rw [decide_eq_false_iff_not]
        rintro rfl
        exact h2 rfl
      rw [h3, Bool.and_false]
      clear hV hE hV' hE'
      go_enter Tryz.func25, Tryz.ntmps25
      go_wp2
      all_goals first
        | (go_ret; exact ⟨rfl, ext_self2 _ _ _⟩)
        | (exfalso; simp_all; done)
  · have h3 : decide (V = V') = false := by
      rw [decide_eq_false_iff_not]
      rintro rfl
      exact h1 rfl
    rw [h3, Bool.false_and]
    clear hV hE hV' hE'
    go_enter Tryz.func25, Tryz.ntmps25
    go_wp2
    all_goals first
      | (go_ret; exact ⟨rfl, ext_self2 _ _ _⟩)
      | (exfalso; simp_all; done)
end Go.Proofs.YtjehhilijeajnaaGreatDoor
