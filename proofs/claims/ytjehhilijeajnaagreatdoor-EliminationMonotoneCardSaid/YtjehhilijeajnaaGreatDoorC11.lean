/- Parts of a proof, laid together: Fi, Fd, Xp, Cl. Each part says its own conditions. -/
import Derived.Test.YtjehhilijeajnaaGreatDoorC8
import Derived.Test.YtjehhilijeajnaaGreatDoorC6
import Derived.Test.YtjehhilijeajnaaGreatDoorC10
import Derived.Test.YtjehhilijeajnaaGreatDoorC2
import Derived.Shelf.SlMaps.Clone
/- palmetteref21.Fill. Conditions: see each theorem. -/
namespace Go.Proofs.YtjehhilijeajnaaGreatDoor
open Go Go.RowKit
attribute [local go_sem] qUpon lUpon

theorem insK_at (p : Int × Int) : ∀ (O : List (Int × Int)) (j : Nat), j ≤ O.length → (∀ i (_ : i < j) (h' : i < O.length), ltP O[i] p = true) → (∀ h : j < O.length, ltP O[j] p = false) → insK O p = O.take j ++ p :: O.drop j
  | [], j, hj, _, _ => by
    have : j = 0 := by simpa using hj
    subst this
    rfl
  | x :: r, 0, _, _, h2 => by
    have h := h2 (by simp)
    simp only [List.getElem_cons_zero] at h
    unfold insK
    simp [h]
  | x :: r, j + 1, hj, h1, h2 => by
    have hx := h1 0 (by omega) (by simp)
    simp only [List.getElem_cons_zero] at hx
    have ih := insK_at p r j (by simpa using hj) (fun i hi h' => by have := h1 (i + 1) (by omega) (by simpa using h'); simpa using this) (fun h => by have := h2 (by simpa using h); simpa using this)
    unfold insK at ih ⊢
    simp [hx, ih]

set_option maxRecDepth 100000 in
set_option maxHeartbeats 16000000 in
theorem fill21_any (A B : Option Addr) (V : List (Int × Thing)) (E : List ((Int × Int) × Thing)) (cA cB : Nat) (C : Option Addr) (L : List Int) (cL : Nat) (w : World) (hE : SlAt encE 4 w B E) (hnE : E.length ≤ 4096) (hL : SlAt encI 1 w C L) (hl : L.length ≤ 100) :
    Calls Tryz.prog 22 #[.agg #[.slice A V.length cA, .slice B E.length cB], .slice C L.length cL] w (SlPost encP 2 w (fillS (comR E L L.length))) := by
  have hcl := hide (Nat.le_trans (comR_len E L hl L.length hl) (show L.length * 10000 ≤ 1000000 by omega))
  have hE' := hide hE
  have hL' := hide hL
  clear hE hL
  go_enter Tryz.func22, Tryz.ntmps22
  go_wp2_with fail
  have hx1 := hide (ext_self1 w (.cells #[.slice A V.length cA, .slice B E.length cB] 28))
  generalize w.alloc (.cells #[.slice A V.length cA, .slice B E.length cB] 28) = w1 at *
  refine (near21_any A B V E cA cB C L cL w1 ((unhide hE').ext (unhide hx1)) hnE ((unhide hL').ext (unhide hx1)) hl).mono ?_
  rintro e w2 ⟨A1, c1, A2, c2, vs, rfl, hA1, hS1, hA2, hx2⟩
  have hA1' := hide hA1
  have hS1' := hide hS1
  have hA2' := hide hA2
  have hx2' := hide ((unhide hx1).trans hx2)
  have hnl : (neasR E L L.length).length = L.length := by simp [neasR]
  rw [hnl]
  have hnl' := hide hnl
  clear hA1 hS1 hA2 hx2 hnl
  generalize comR E L L.length = come at *
  clear hA1' hS1' hnl'
  go_wp2_with fail
  go_loopw [7, 8] (fun ov iv wr => ∃ (k : Nat) (O : List (Int × Int)) (vo : Value), k ≤ come.length ∧ iv = .int .i64 k ∧ vo = ov ∧ O = (come.take k).foldl insK [] ∧ wr.ownsRow w2.heap.size 64 2 vo O.length (O.flatMap encP) ∧ Ext w2 wr) (fun _ iv _ => come.length - (intOf iv).toNat)
  case atStart => exact ⟨0, [], _, Nat.zero_le _, rfl, rfl, by simp, World.ownsRow_nil _ _ _ _, Ext.refl _⟩
  case round =>
    obtain ⟨k, O, vo, hk, rfl, hv, hO, hown, hx⟩ := hrel
    subst hv
    have hOl := hide (show O.length ≤ 1000000 by
      have h1 := (fold_perm (come.take k) []).length_eq
      rw [← hO, List.nil_append, List.length_take] at h1
      have := unhide hcl
      omega)
    have hx' := hide hx
    obtain ⟨Ao, co, rfl⟩ := own_slice hown
    have hLO := hide (own_at (enc := encP) hown (fun _ => rfl))
    by_cases hlt : k < come.length
    · obtain ⟨b, off, rfl, c0, c1⟩ := atP ((unhide hA2').ext hx) hlt
      have hcO := hide (show O.length ≤ co from by
        rcases hown.2 with ⟨he, h0⟩ | ⟨g, cap, cur, he, _, _, hn, _⟩
        · omega
        · injection he with _ _ he
          omega)
      have hst := List.take_succ_eq_append_getElem hlt
      have hst2 : (come.take (k + 1)).foldl insK [] = insK ((come.take k).foldl insK []) come[k] := by rw [hst, List.foldl_append]; rfl
      clear hst
      generalize come[k] = p at c0 c1 hst2
      obtain ⟨u, v⟩ := p
      have hst' := hide hst2
      have hbo := hide (Below.size hx)
      have hc0 := hide c0
      have hc1 := hide c1
      have hO2 := hide hO
      clear hown hx hst2 hO
      simp only at hc0 hc1
      clear c0 c1
      generalize wr = wo at *
      have hself := Ext.refl wo
      go_wp2_with fail
      go_loopw [9] (fun iv W => ∃ j : Nat, j ≤ O.length ∧ iv = .int .i64 j ∧ (∀ i (_ : i < j) (h' : i < O.length), ltP O[i] (u, v) = true) ∧ Ext wo W) (fun iv _ => O.length - (intOf iv).toNat)
      case atStart => exact ⟨0, Nat.zero_le _, rfl, fun i hi => by omega, Ext.refl _⟩
      case round =>
        obtain ⟨j, hj, rfl, hall, hxi⟩ := hrel
        clear hself
        have g0 := fun W' h => (unhide hc0) W' (hxi.trans h)
        have g1 := fun W' h => (unhide hc1) W' (hxi.trans h)
        have hO := unhide hO2
        by_cases hjl : j < O.length
        · obtain ⟨b2, off2, rfl, d0, d1⟩ := atP ((unhide hLO).ext hxi) hjl
          have hnext : ltP O[j] (u, v) = true → ∀ i (_ : i < j + 1) (h' : i < O.length), ltP O[i] (u, v) = true := fun h i hi h' => by
            rcases Nat.lt_or_ge i j with h1 | h1
            · exact hall i h1 h'
            · have : i = j := by omega
              subst this
              exact h
          have hstop : ltP O[j] (u, v) = false → insK O (u, v) = O.take j ++ (u, v) :: O.drop j := fun h => insK_at _ O j hj hall (fun _ => h)
          generalize O[j] = q at d0 d1 hnext hstop
          obtain ⟨a, b'⟩ := q
          simp only at d0 d1
          have hO9 := hide hO
          have hnext' := hide hnext
          have hstop' := hide hstop
          have hall' := hide hall
          clear hall hnext hstop hO
          by_cases h1 : a < u
          · have ht := hide (unhide hnext' (by unfold ltP; simp; omega))
            have f1 : decide (a < u) = true := decide_eq_true h1
            clear h1
            go_wp2_with fail
            refine wp_region_still (P := Tryz.prog) [0,1,2,3,4,5,6,7,8,9,10,11,12,13,14,15,16,17,18,19,20,21,22,23,24,25,26,27,28,29,30,31,32,33,34,35,36,37,38,39,40,41,42] [] 0 #[true,true,true,true,true,true,true,true,true,true,true,true,true,true,true,true,true,true,true,true,true,true,true,true,true,true,true,true,true,true,true,true,true,true,true,true,true,true,true,true,true,true,true] (by kernel_rfl) (by kernel_rfl) rfl (by rfl) ?_
            iterate 43
              first
              | (refine ql_skip rfl (by rfl) ?_)
              | (refine ql_want (v := ?_) rfl (by rfl) (fun W hW => ?_) ?_; rotate_left; (go_simp; (first | done | rfl)))
              try go_frame
            refine wpQL_nil (fun wE hxE => ?_)
            refine wpX_done (by kernel_rfl) ?_
            try go_frame
            have hxD := hxi.trans hxE
            clear hxi hxE g0 g1 d0 d1
            generalize wE = wD at *
            have hOn := unhide hOl
            go_wp2_with fail
            go_roundw
            case rel => exact ⟨j + 1, by omega, by go_num, unhide ht, hxD⟩
            case measure => simp [intOf]; omega
          have f1 : decide (a < u) = false := decide_eq_false h1
          by_cases h2 : a = u
          · subst h2
            by_cases h3 : b' < v
            · have ht := hide (unhide hnext' (by unfold ltP; simp; omega))
              have f3 : decide (b' < v) = true := decide_eq_true h3
              clear h1 h3
              go_wp2_with fail
              refine wp_region_still (P := Tryz.prog) [0,1,2,3,4,5,6,7,8,9,10,11,12,13,14,15,16,17,18,19,20,21,22,23,24,25,26,27,28,29,30,31,32,33,34,35,36,37,38,39,40,41,42] [] 0 #[true,true,true,true,true,true,true,true,true,true,true,true,true,true,true,true,true,true,true,true,true,true,true,true,true,true,true,true,true,true,true,true,true,true,true,true,true,true,true,true,true,true,true] (by kernel_rfl) (by kernel_rfl) rfl (by rfl) ?_
              iterate 43
                first
                | (refine ql_skip rfl (by rfl) ?_)
                | (refine ql_want (v := ?_) rfl (by rfl) (fun W hW => ?_) ?_; rotate_left; (go_simp; (first | done | rfl)))
                try go_frame
              refine wpQL_nil (fun wE hxE => ?_)
              refine wpX_done (by kernel_rfl) ?_
              try go_frame
              have hxD := hxi.trans hxE
              clear hxi hxE g0 g1 d0 d1
              generalize wE = wD at *
              have hOn := unhide hOl
              go_wp2_with fail
              go_roundw
              case rel => exact ⟨j + 1, by omega, by go_num, unhide ht, hxD⟩
              case measure => simp [intOf]; omega
            · have hins' := hide (unhide hstop' (by unfold ltP; simp; omega))
              have f3 : decide (b' < v) = false := decide_eq_false h3
              clear h1 h3
              go_wp2_with fail
              refine wp_region_still (P := Tryz.prog) [0,1,2,3,4,5,6,7,8,9,10,11,12,13,14,15,16,17,18,19,20,21,22,23,24,25,26,27,28,29,30,31,32,33,34,35,36,37,38,39,40,41,42] [] 0 #[true,true,true,true,true,true,true,true,true,true,true,true,true,true,true,true,true,true,true,true,true,true,true,true,true,true,true,true,true,true,true,true,true,true,true,true,true,true,true,true,true,true,true] (by kernel_rfl) (by kernel_rfl) rfl (by rfl) ?_
              iterate 43
                first
                | (refine ql_skip rfl (by rfl) ?_)
                | (refine ql_want (v := ?_) rfl (by rfl) (fun W hW => ?_) ?_; rotate_left; (go_simp; (first | done | rfl)))
                try go_frame
              refine wpQL_nil (fun wE hxE => ?_)
              refine wpX_done (by kernel_rfl) ?_
              try go_frame
              have hxD := hxi.trans hxE
              clear hxi hxE g0 g1 d0 d1
              generalize wE = wD at *
              have hLD := hide ((unhide hLO).ext hxD)
              have hbD := hide (Nat.le_trans (unhide hbo) (Below.size hxD))
              have hxD' := hide hxD
              clear hxD
              try dsimp only
              repeat ((fail_if_success (with_reducible refine wp_reg (id := 9) ?_)); (first | go_values | go_skip | go_step | go_guarded | go_upon | go_in | go_back | fail))
              with_reducible refine wp_reg (id := 9) ?_
              iterate 3
                refine wpO_want rfl ?_
                go_simp
              refine wpO_val rfl (run_sl_to (k := j) rfl rfl (by rfl) Tryz.underlying50 (Tryz.sizeOf64 _) (by have := unhide hcO; omega)) ?_
              try go_frame
              refine wpO_apA (enc := encP) rfl infoP21 Tryz.underlying50 one_encP (fun _ => rfl) (by decide) (by decide) rfl (v := .slice (some ⟨wD.heap.size, 0, none⟩) 0 0) (xs := []) (O.take j) rfl rfl (by rw [List.length_take]; omega) (SlAt.upto ((unhide hLD).ext (ext_self1 wD (.cells #[] 64))) j) (World.ownsRow_made (base := wD.heap.size) (e := 64) (size := 2) wD #[] 0 (Nat.le_refl _) (by decide) rfl) (by have := unhide hOl; omega) (Below.size (ext_self1 wD (.cells #[] 64))) ?_
              intro A9 c9 w9 ho9 hg9 _
              rw [List.nil_append] at ho9
              obtain ⟨n9, hn9⟩ : ∃ n9, n9 = 0 + j := ⟨_, rfl⟩
              rw [← hn9] at ho9 ⊢
              have hown9 := hide (own_n ho9 (m := (O.take j).length) (by rw [hn9, List.length_take]; omega))
              have hx9 := hide ((ext_self1 wD (.cells #[] 64)).of_new (Keep.of_grown hg9) (fun z hz => by simp [Value.ownBlock] at hz; omega))
              clear ho9 hg9 hn9
              try go_frame
              refine wpO_want rfl ?_
              go_simp
              refine wpO_done ?_
              try go_frame
              have e0 := (unhide hc0) w9 ((unhide hxD').trans (unhide hx9))
              have e1 := (unhide hc1) w9 ((unhide hxD').trans (unhide hx9))
              try dsimp only
              repeat ((fail_if_success (with_reducible refine wp_reg (id := 10) ?_)); (first | go_values | go_skip | go_step | go_guarded | go_upon | go_in | go_back | fail))
              with_reducible refine wp_reg (id := 10) ?_
              iterate 6
                refine wpO_want rfl ?_
                go_simp
              refine wpO_ap1 (enc := _) rfl infoP21 Tryz.underlying50 one_encP (fun _ => rfl) (by decide) (by decide) rfl (v := .slice A9 n9 c9) (xs := O.take j) (a, v) rfl rfl (Blk.new w9 64 #[.int .i64 a, .int .i64 v]) (own_ext (unhide hown9) (ext_self1 w9 (.cells #[.int .i64 a, .int .i64 v] 64))) (by have := unhide hOl; rw [List.length_take]; omega) (Nat.le_trans (Below.size (unhide hx9)) (Below.size (ext_self1 w9 (.cells #[.int .i64 a, .int .i64 v] 64)))) ?_
              intro A_w10 c_w10 w10 ho6 hg6 _
              obtain ⟨n_w10, hlen6⟩ : ∃ n_w10, n_w10 = (O.take j).length + 1 := ⟨_, rfl⟩
              rw [← hlen6] at ho6 ⊢
              have hx_w10 := hide (((unhide hx9).trans (ext_self1 w9 (.cells #[.int .i64 a, .int .i64 v] 64))).of_new (Keep.of_grown hg6) (fun z hz => Nat.le_trans (Nat.le_refl _) (own_base (unhide hown9) (by simpa using hz)).1))
              have hown_w10 := hide (own_n ho6 (m := (O.take j ++ [(a, v)]).length) (by rw [hlen6, List.length_append (bs := [_])]; rfl))
              have hn_w10 := hide hlen6
              clear ho6 hg6 hlen6
              try go_frame
              refine wpO_want rfl ?_
              go_simp
              refine wpO_done ?_
              try go_frame
              clear e0 e1
              try dsimp only
              repeat ((fail_if_success (with_reducible refine wp_reg (id := 11) ?_)); (first | go_values | go_skip | go_step | go_guarded | go_upon | go_in | go_back | fail))
              with_reducible refine wp_reg (id := 11) ?_
              iterate 3
                refine wpO_want rfl ?_
                go_simp
              refine wpO_val rfl (run_sl_from (k := j) rfl rfl (by rfl) Tryz.underlying50 (Tryz.sizeOf64 _) (by omega)) ?_
              try go_frame
              refine wpO_apA (enc := encP) rfl infoP21 Tryz.underlying50 one_encP (fun _ => rfl) (by decide) (by decide) rfl (v := .slice A_w10 n_w10 c_w10) (xs := O.take j ++ [(a, v)]) (O.drop j) rfl rfl (by rw [List.length_drop]) (SlAt.rest ((unhide hLD).ext (unhide hx_w10)) j co (unhide hcO)) (own_n (unhide hown_w10) (m := n_w10) (by rw [unhide hn_w10, List.length_append (bs := [_])]; rfl)) (by have h1 := unhide hOl; have h2 := unhide hn_w10; rw [List.length_take] at h2; omega) (Below.size (unhide hx_w10)) ?_
              intro A11 c11 w11 ho11 hg11 _
              obtain ⟨n11, hn11⟩ : ∃ n11, n11 = n_w10 + (O.length - j) := ⟨_, rfl⟩
              rw [← hn11] at ho11 ⊢
              have hlist : O.take j ++ [(a, v)] ++ O.drop j = insK O (a, v) := by rw [unhide hins']; simp
              rw [hlist] at ho11
              have hown11 := hide (own_base_le (own_n ho11 (m := (insK O (a, v)).length) (by rw [hn11, unhide hn_w10, ← hlist]; simp; omega)) (unhide hbD))
              have hx11 := hide (((unhide hx').trans (unhide hxD')).trans ((unhide hx_w10).of_new (Keep.of_grown hg11) (fun z hz => (own_base (unhide hown_w10) (by simpa using hz)).1)))
              clear ho11 hg11 hn11 hlist
              try go_frame
              refine wpO_want rfl ?_
              go_simp
              refine wpO_done ?_
              try go_frame
              have hkn := unhide hcl
              go_wp2_with fail
              go_roundw
              case rel => exact ⟨k + 1, insK O (a, v), _, by omega, by go_num, rfl, by rw [unhide hst', ← unhide hO9], unhide hown11, unhide hx11⟩
              case measure => simp [intOf]; omega
          · have hins' := hide (unhide hstop' (by unfold ltP; simp; omega))
            have f2 : decide (a = u) = false := decide_eq_false h2
            have f4 : (a == u) = false := by simp [h2]
            clear h1
            go_wp2_with fail
            refine wp_region_still (P := Tryz.prog) [0,1,2,3,4,5,6,7,8,9,10,11,12,13,14,15,16,17,18,19,20,21,22,23,24,25,26,27,28,29,30,31,32,33,34,35,36,37,38,39,40,41,42] [] 0 #[true,true,true,true,true,true,true,true,true,true,true,true,true,true,true,true,true,true,true,true,true,true,true,true,true,true,true,true,true,true,true,true,true,true,true,true,true,true,true,true,true,true,true] (by kernel_rfl) (by kernel_rfl) rfl (by rfl) ?_
            iterate 43
              first
              | (refine ql_skip rfl (by rfl) ?_)
              | (refine ql_want (v := ?_) rfl (by rfl) (fun W hW => ?_) ?_; rotate_left; (go_simp; (first | done | rfl)))
              try go_frame
            refine wpQL_nil (fun wE hxE => ?_)
            refine wpX_done (by kernel_rfl) ?_
            try go_frame
            have hxD := hxi.trans hxE
            clear hxi hxE g0 g1 d0 d1
            generalize wE = wD at *
            have hLD := hide ((unhide hLO).ext hxD)
            have hbD := hide (Nat.le_trans (unhide hbo) (Below.size hxD))
            have hxD' := hide hxD
            clear hxD
            try dsimp only
            repeat ((fail_if_success (with_reducible refine wp_reg (id := 9) ?_)); (first | go_values | go_skip | go_step | go_guarded | go_upon | go_in | go_back | fail))
            with_reducible refine wp_reg (id := 9) ?_
            iterate 3
              refine wpO_want rfl ?_
              go_simp
            refine wpO_val rfl (run_sl_to (k := j) rfl rfl (by rfl) Tryz.underlying50 (Tryz.sizeOf64 _) (by have := unhide hcO; omega)) ?_
            try go_frame
            refine wpO_apA (enc := encP) rfl infoP21 Tryz.underlying50 one_encP (fun _ => rfl) (by decide) (by decide) rfl (v := .slice (some ⟨wD.heap.size, 0, none⟩) 0 0) (xs := []) (O.take j) rfl rfl (by rw [List.length_take]; omega) (SlAt.upto ((unhide hLD).ext (ext_self1 wD (.cells #[] 64))) j) (World.ownsRow_made (base := wD.heap.size) (e := 64) (size := 2) wD #[] 0 (Nat.le_refl _) (by decide) rfl) (by have := unhide hOl; omega) (Below.size (ext_self1 wD (.cells #[] 64))) ?_
            intro A9 c9 w9 ho9 hg9 _
            rw [List.nil_append] at ho9
            obtain ⟨n9, hn9⟩ : ∃ n9, n9 = 0 + j := ⟨_, rfl⟩
            rw [← hn9] at ho9 ⊢
            have hown9 := hide (own_n ho9 (m := (O.take j).length) (by rw [hn9, List.length_take]; omega))
            have hx9 := hide ((ext_self1 wD (.cells #[] 64)).of_new (Keep.of_grown hg9) (fun z hz => by simp [Value.ownBlock] at hz; omega))
            clear ho9 hg9 hn9
            try go_frame
            refine wpO_want rfl ?_
            go_simp
            refine wpO_done ?_
            try go_frame
            have e0 := (unhide hc0) w9 ((unhide hxD').trans (unhide hx9))
            have e1 := (unhide hc1) w9 ((unhide hxD').trans (unhide hx9))
            try dsimp only
            repeat ((fail_if_success (with_reducible refine wp_reg (id := 10) ?_)); (first | go_values | go_skip | go_step | go_guarded | go_upon | go_in | go_back | fail))
            with_reducible refine wp_reg (id := 10) ?_
            iterate 6
              refine wpO_want rfl ?_
              go_simp
            refine wpO_ap1 (enc := _) rfl infoP21 Tryz.underlying50 one_encP (fun _ => rfl) (by decide) (by decide) rfl (v := .slice A9 n9 c9) (xs := O.take j) (u, v) rfl rfl (Blk.new w9 64 #[.int .i64 u, .int .i64 v]) (own_ext (unhide hown9) (ext_self1 w9 (.cells #[.int .i64 u, .int .i64 v] 64))) (by have := unhide hOl; rw [List.length_take]; omega) (Nat.le_trans (Below.size (unhide hx9)) (Below.size (ext_self1 w9 (.cells #[.int .i64 u, .int .i64 v] 64)))) ?_
            intro A_w10 c_w10 w10 ho6 hg6 _
            obtain ⟨n_w10, hlen6⟩ : ∃ n_w10, n_w10 = (O.take j).length + 1 := ⟨_, rfl⟩
            rw [← hlen6] at ho6 ⊢
            have hx_w10 := hide (((unhide hx9).trans (ext_self1 w9 (.cells #[.int .i64 u, .int .i64 v] 64))).of_new (Keep.of_grown hg6) (fun z hz => Nat.le_trans (Nat.le_refl _) (own_base (unhide hown9) (by simpa using hz)).1))
            have hown_w10 := hide (own_n ho6 (m := (O.take j ++ [(u, v)]).length) (by rw [hlen6, List.length_append (bs := [_])]; rfl))
            have hn_w10 := hide hlen6
            clear ho6 hg6 hlen6
            try go_frame
            refine wpO_want rfl ?_
            go_simp
            refine wpO_done ?_
            try go_frame
            clear e0 e1
            try dsimp only
            repeat ((fail_if_success (with_reducible refine wp_reg (id := 11) ?_)); (first | go_values | go_skip | go_step | go_guarded | go_upon | go_in | go_back | fail))
            with_reducible refine wp_reg (id := 11) ?_
            iterate 3
              refine wpO_want rfl ?_
              go_simp
            refine wpO_val rfl (run_sl_from (k := j) rfl rfl (by rfl) Tryz.underlying50 (Tryz.sizeOf64 _) (by omega)) ?_
            try go_frame
            refine wpO_apA (enc := encP) rfl infoP21 Tryz.underlying50 one_encP (fun _ => rfl) (by decide) (by decide) rfl (v := .slice A_w10 n_w10 c_w10) (xs := O.take j ++ [(u, v)]) (O.drop j) rfl rfl (by rw [List.length_drop]) (SlAt.rest ((unhide hLD).ext (unhide hx_w10)) j co (unhide hcO)) (own_n (unhide hown_w10) (m := n_w10) (by rw [unhide hn_w10, List.length_append (bs := [_])]; rfl)) (by have h1 := unhide hOl; have h2 := unhide hn_w10; rw [List.length_take] at h2; omega) (Below.size (unhide hx_w10)) ?_
            intro A11 c11 w11 ho11 hg11 _
            obtain ⟨n11, hn11⟩ : ∃ n11, n11 = n_w10 + (O.length - j) := ⟨_, rfl⟩
            rw [← hn11] at ho11 ⊢
            have hlist : O.take j ++ [(u, v)] ++ O.drop j = insK O (u, v) := by rw [unhide hins']; simp
            rw [hlist] at ho11
            have hown11 := hide (own_base_le (own_n ho11 (m := (insK O (u, v)).length) (by rw [hn11, unhide hn_w10, ← hlist]; simp; omega)) (unhide hbD))
            have hx11 := hide (((unhide hx').trans (unhide hxD')).trans ((unhide hx_w10).of_new (Keep.of_grown hg11) (fun z hz => (own_base (unhide hown_w10) (by simpa using hz)).1)))
            clear ho11 hg11 hn11 hlist
            try go_frame
            refine wpO_want rfl ?_
            go_simp
            refine wpO_done ?_
            try go_frame
            have hkn := unhide hcl
            go_wp2_with fail
            go_roundw
            case rel => exact ⟨k + 1, insK O (u, v), _, by omega, by go_num, rfl, by rw [unhide hst', ← unhide hO9], unhide hown11, unhide hx11⟩
            case measure => simp [intOf]; omega
        · have hins' := hide (insK_at (u, v) O j hj hall (fun h => absurd h hjl))
          have hO9 := hide hO
          clear hall hO
          go_wp2_with fail
          refine wp_region_still (P := Tryz.prog) [0,1,2,3,4,5,6,7,8,9,10,11,12,13,14,15,16,17,18,19,20,21,22,23,24,25,26,27,28,29,30,31,32,33,34,35,36,37,38,39,40,41,42] [] 0 #[true,true,true,true,true,true,true,true,true,true,true,true,true,true,true,true,true,true,true,true,true,true,true,true,true,true,true,true,true,true,true,true,true,true,true,true,true,true,true,true,true,true,true] (by kernel_rfl) (by kernel_rfl) rfl (by rfl) ?_
          iterate 43
            first
            | (refine ql_skip rfl (by rfl) ?_)
            | (refine ql_want (v := ?_) rfl (by rfl) (fun W hW => ?_) ?_; rotate_left; (go_simp; (first | done | rfl)))
            try go_frame
          refine wpQL_nil (fun wE hxE => ?_)
          refine wpX_done (by kernel_rfl) ?_
          try go_frame
          have hxD := hxi.trans hxE
          clear hxi hxE g0 g1
          generalize wE = wD at *
          have hLD := hide ((unhide hLO).ext hxD)
          have hbD := hide (Nat.le_trans (unhide hbo) (Below.size hxD))
          have hxD' := hide hxD
          clear hxD
          try dsimp only
          repeat ((fail_if_success (with_reducible refine wp_reg (id := 9) ?_)); (first | go_values | go_skip | go_step | go_guarded | go_upon | go_in | go_back | fail))
          with_reducible refine wp_reg (id := 9) ?_
          iterate 3
            refine wpO_want rfl ?_
            go_simp
          refine wpO_val rfl (run_sl_to (k := j) rfl rfl (by rfl) Tryz.underlying50 (Tryz.sizeOf64 _) (by have := unhide hcO; omega)) ?_
          try go_frame
          refine wpO_apA (enc := encP) rfl infoP21 Tryz.underlying50 one_encP (fun _ => rfl) (by decide) (by decide) rfl (v := .slice (some ⟨wD.heap.size, 0, none⟩) 0 0) (xs := []) (O.take j) rfl rfl (by rw [List.length_take]; omega) (SlAt.upto ((unhide hLD).ext (ext_self1 wD (.cells #[] 64))) j) (World.ownsRow_made (base := wD.heap.size) (e := 64) (size := 2) wD #[] 0 (Nat.le_refl _) (by decide) rfl) (by have := unhide hOl; omega) (Below.size (ext_self1 wD (.cells #[] 64))) ?_
          intro A9 c9 w9 ho9 hg9 _
          rw [List.nil_append] at ho9
          obtain ⟨n9, hn9⟩ : ∃ n9, n9 = 0 + j := ⟨_, rfl⟩
          rw [← hn9] at ho9 ⊢
          have hown9 := hide (own_n ho9 (m := (O.take j).length) (by rw [hn9, List.length_take]; omega))
          have hx9 := hide ((ext_self1 wD (.cells #[] 64)).of_new (Keep.of_grown hg9) (fun z hz => by simp [Value.ownBlock] at hz; omega))
          clear ho9 hg9 hn9
          try go_frame
          refine wpO_want rfl ?_
          go_simp
          refine wpO_done ?_
          try go_frame
          have e0 := (unhide hc0) w9 ((unhide hxD').trans (unhide hx9))
          have e1 := (unhide hc1) w9 ((unhide hxD').trans (unhide hx9))
          try dsimp only
          repeat ((fail_if_success (with_reducible refine wp_reg (id := 10) ?_)); (first | go_values | go_skip | go_step | go_guarded | go_upon | go_in | go_back | fail))
          with_reducible refine wp_reg (id := 10) ?_
          iterate 6
            refine wpO_want rfl ?_
            go_simp
          refine wpO_ap1 (enc := _) rfl infoP21 Tryz.underlying50 one_encP (fun _ => rfl) (by decide) (by decide) rfl (v := .slice A9 n9 c9) (xs := O.take j) (u, v) rfl rfl (Blk.new w9 64 #[.int .i64 u, .int .i64 v]) (own_ext (unhide hown9) (ext_self1 w9 (.cells #[.int .i64 u, .int .i64 v] 64))) (by have := unhide hOl; rw [List.length_take]; omega) (Nat.le_trans (Below.size (unhide hx9)) (Below.size (ext_self1 w9 (.cells #[.int .i64 u, .int .i64 v] 64)))) ?_
          intro A_w10 c_w10 w10 ho6 hg6 _
          obtain ⟨n_w10, hlen6⟩ : ∃ n_w10, n_w10 = (O.take j).length + 1 := ⟨_, rfl⟩
          rw [← hlen6] at ho6 ⊢
          have hx_w10 := hide (((unhide hx9).trans (ext_self1 w9 (.cells #[.int .i64 u, .int .i64 v] 64))).of_new (Keep.of_grown hg6) (fun z hz => Nat.le_trans (Nat.le_refl _) (own_base (unhide hown9) (by simpa using hz)).1))
          have hown_w10 := hide (own_n ho6 (m := (O.take j ++ [(u, v)]).length) (by rw [hlen6, List.length_append (bs := [_])]; rfl))
          have hn_w10 := hide hlen6
          clear ho6 hg6 hlen6
          try go_frame
          refine wpO_want rfl ?_
          go_simp
          refine wpO_done ?_
          try go_frame
          clear e0 e1
          try dsimp only
          repeat ((fail_if_success (with_reducible refine wp_reg (id := 11) ?_)); (first | go_values | go_skip | go_step | go_guarded | go_upon | go_in | go_back | fail))
          with_reducible refine wp_reg (id := 11) ?_
          iterate 3
            refine wpO_want rfl ?_
            go_simp
          refine wpO_val rfl (run_sl_from (k := j) rfl rfl (by rfl) Tryz.underlying50 (Tryz.sizeOf64 _) (by omega)) ?_
          try go_frame
          refine wpO_apA (enc := encP) rfl infoP21 Tryz.underlying50 one_encP (fun _ => rfl) (by decide) (by decide) rfl (v := .slice A_w10 n_w10 c_w10) (xs := O.take j ++ [(u, v)]) (O.drop j) rfl rfl (by rw [List.length_drop]) (SlAt.rest ((unhide hLD).ext (unhide hx_w10)) j co (unhide hcO)) (own_n (unhide hown_w10) (m := n_w10) (by rw [unhide hn_w10, List.length_append (bs := [_])]; rfl)) (by have h1 := unhide hOl; have h2 := unhide hn_w10; rw [List.length_take] at h2; omega) (Below.size (unhide hx_w10)) ?_
          intro A11 c11 w11 ho11 hg11 _
          obtain ⟨n11, hn11⟩ : ∃ n11, n11 = n_w10 + (O.length - j) := ⟨_, rfl⟩
          rw [← hn11] at ho11 ⊢
          have hlist : O.take j ++ [(u, v)] ++ O.drop j = insK O (u, v) := by rw [unhide hins']; simp
          rw [hlist] at ho11
          have hown11 := hide (own_base_le (own_n ho11 (m := (insK O (u, v)).length) (by rw [hn11, unhide hn_w10, ← hlist]; simp; omega)) (unhide hbD))
          have hx11 := hide (((unhide hx').trans (unhide hxD')).trans ((unhide hx_w10).of_new (Keep.of_grown hg11) (fun z hz => (own_base (unhide hown_w10) (by simpa using hz)).1)))
          clear ho11 hg11 hn11 hlist
          try go_frame
          refine wpO_want rfl ?_
          go_simp
          refine wpO_done ?_
          try go_frame
          have hkn := unhide hcl
          go_wp2_with fail
          go_roundw
          case rel => exact ⟨k + 1, insK O (u, v), _, by omega, by go_num, rfl, by rw [unhide hst', ← unhide hO9], unhide hown11, unhide hx11⟩
          case measure => simp [intOf]; omega
    · have hke : k = come.length := by omega
      subst hke
      rw [List.take_length] at hO
      have hn := hide (show O.length = (fillS come).length by rw [hO]; rfl)
      have hsl := unhide hLO
      rw [hO] at hsl
      have hsl' := hide hsl
      clear hsl hO hown hx
      go_wp2_with fail
      go_ret
      exact .mk (unhide hn) (unhide hsl') ((unhide hx2').trans (unhide hx'))
end Go.Proofs.YtjehhilijeajnaaGreatDoor
/- palmetteref21.Filled. Conditions: see each theorem. -/
namespace Go.Proofs.YtjehhilijeajnaaGreatDoor
open Go Go.RowKit
attribute [local go_sem] qUpon lUpon

def FdPost (V : List (Int × Thing)) (E C : List ((Int × Int) × Thing)) (w : World) (e : Ending) (w' : World) : Prop :=
  ∃ A' cA' B' cB', e = .returned (.tuple #[.agg #[.slice A' (filledR V E C).1.length cA', .slice B' (filledR V E C).2.length cB'], .int .i64 (addErr V E C)]) ∧ SlAt encV 3 w' A' (filledR V E C).1 ∧ SlAt encE 4 w' B' (filledR V E C).2 ∧ Ext w w'
theorem fe_take {σ α : Type} {er : σ → α → Int} {st : σ → α → σ} {l : List α} {s : σ} {k : Nat} (hk : k < l.length) (h : fe er st (l.take k) s = 0) : fe er st (l.take (k + 1)) s = er ((l.take k).foldl st s) l[k] := by
  rw [List.take_succ_eq_append_getElem hk, fe_append, if_pos h]
  simp [fe]
  exact fun h => h.symm
theorem fe_stop2 {σ α : Type} {er : σ → α → Int} {st : σ → α → σ} {l : List α} {s : σ} {k : Nat} (h : fe er st (l.take k) s ≠ 0) : fe er st l s = fe er st (l.take k) s := by
  conv => lhs; rw [← List.take_append_drop k l]
  rw [fe_append, if_neg h]

set_option maxRecDepth 100000 in
set_option maxHeartbeats 8000000 in
theorem filled21_any (A B : Option Addr) (V : List (Int × Thing)) (E : List ((Int × Int) × Thing)) (cA cB : Nat) (C : Option Addr) (L : List Int) (cL : Nat) (w : World) (hi : GInv V E) (ho : Ord V L) (hV : SlAt encV 3 w A V) (hE : SlAt encE 4 w B E) (hL : SlAt encI 1 w C L) (hl : L.length ≤ 100) :
    Calls Tryz.prog 34 #[.agg #[.slice A V.length cA, .slice B E.length cB], .slice C L.length cL] w (FdPost V E (comeE E L) w) := by
  have hnE : E.length ≤ 4096 := Nat.le_trans hi.ne (by omega)
  have hlt0 := hide (comeE_lt hi ho)
  have hfe := hide (comR_eq hi ho)
  obtain ⟨P, hP⟩ : ∃ P, fillS (comeK E L L.length) = P := ⟨_, rfl⟩
  have hC : comeE E L = P.map edgeP := by unfold comeE; rw [hP]
  rw [hC] at hlt0 ⊢
  clear hC
  have hPl : P.length ≤ 5000 := by rw [← hP]; exact comeF_few hi ho hl
  have hP := hide hP
  have hx1 := hide (ext_self2 w (.cells #[.slice A V.length cA, .slice B E.length cB] 28) (.cells #[.slice none 0 0, .slice none 0 0] 28))
  have hb0 := (Blk.new w 28 #[.slice A V.length cA, .slice B E.length cB]).ext (ext_self1 _ (.cells #[.slice none 0 0, .slice none 0 0] 28))
  have hb1 := Blk.new (w.alloc (.cells #[.slice A V.length cA, .slice B E.length cB] 28)) 28 #[.slice none 0 0, .slice none 0 0]
  simp only [World.size_alloc] at hb1
  have hb0' := hide hb0
  have hb1' := hide hb1
  have hV1 := hide (hV.ext (unhide hx1))
  have hE1 := hide (hE.ext (unhide hx1))
  have hL1 := hide (hL.ext (unhide hx1))
  have hi' := hide hi
  clear hb0 hb1 hV hE hL hi ho
  go_enter Tryz.func34, Tryz.ntmps34
  go_wp2_with fail
  generalize (w.alloc (.cells #[.slice A V.length cA, .slice B E.length cB] 28)).alloc (.cells #[.slice none 0 0, .slice none 0 0] 28) = w1 at *
  have q0 := (unhide hb0').cells 0 (v := .slice A V.length cA) rfl
  have q1 := (unhide hb0').cells 1 (v := .slice B E.length cB) rfl
  have hself := Ext.refl w1
  go_wp2_with fail
  refine (fill21_any A B V E cA cB C L cL w1 (unhide hE1) hnE (unhide hL1) hl).mono ?_
  rw [unhide hfe, unhide hP]
  rintro e w2 ⟨Aw, cw, rfl, hsw, hx2⟩
  have hsw' := hide hsw
  have hq0' := hide ((unhide hb1').ext hx2)
  have hr0' : Hid (MdRel w w2 w.heap.size (V, E) A B cA cB) := hide ⟨(unhide hb0').ext hx2, (unhide hV1).ext hx2, (unhide hE1).ext hx2, (unhide hx1).trans hx2, Nat.le_refl _⟩
  have hne' := hide (show w.heap.size + 1 ≠ w.heap.size by omega)
  have hsz' := hide (Below.size (unhide hx1))
  clear q0 q1 hself hsw hx2 hb0' hb1' hV1 hE1 hL1 hfe hP hx1
  go_wp2_with fail
  generalize hr1 : w.heap.size + 1 = ge at *
  generalize hr2 : w.heap.size = gw at *
  have hge' := hide hr1
  have hgw' := hide hr2
  clear hr1 hr2
  go_loopw [7, 8] (fun ev i wr => ∃ (k : Nat) (A1 B1 : Option Addr) (cA cB : Nat), k ≤ P.length ∧ ev = .int .i64 0 ∧ i = .int .i64 k ∧ fe erE stE ((P.map edgeP).take k) (V, E) = 0 ∧ Blk wr ge 28 #[.slice none 0 0, .slice none 0 0] ∧ SlAt encP 2 wr Aw P ∧ MdRel w wr gw (((P.map edgeP).take k).foldl stE (V, E)) A1 B1 cA cB) (fun _ i _ => P.length - (intOf i).toNat)
  case atStart => exact ⟨0, A, B, cA, cB, Nat.zero_le _, rfl, rfl, rfl, unhide hq0', unhide hsw', unhide hr0'⟩
  case round =>
    obtain ⟨k, A1, B1, cA, cB, hk, rfl, rfl, h0, hq, hsw, hr⟩ := hrel
    have hr' := hide hr
    have hq' := hide hq
    have hsw3 := hide hsw
    have h0' := hide h0
    clear hr hr0' hq hq0' hsw hsw' h0
    by_cases hlt : k < P.length
    · have hlm : k < (P.map edgeP).length := by rw [List.length_map]; exact hlt
      obtain ⟨b, off, rfl, c0, c1⟩ := atP (unhide hsw3) hlt
      have hst := hide (fold_step (st := stE) (s := ((V, E) : GS)) hlm)
      have hft := hide (fe_take hlm (unhide h0'))
      have hadj := add_adj ((P.map edgeP).take k) V E (unhide hi') (fun c hc => unhide hlt0 c (List.mem_of_mem_take hc)) (unhide h0')
      have hin : GInv (((P.map edgeP).take k).foldl stE (V, E)).1 (((P.map edgeP).take k).foldl stE (V, E)).2 := by rw [hadj.1]; exact hadj.2.1
      have hin := hide hin
      clear hadj
      have hge : (P.map edgeP)[k] = edgeP P[k] := by simp
      rw [hge] at hst hft
      generalize ((P.map edgeP).take k).foldl stE (V, E) = S at *
      obtain ⟨V3, E3⟩ := S
      generalize P[k] = y at c0 c1 hst hft
      obtain ⟨u, v⟩ := y
      have hB0 := (unhide hr').blk
      have q0 := hB0.cells 0 (v := .slice A1 V3.length cA) rfl
      have q1 := hB0.cells 1 (v := .slice B1 E3.length cB) rfl
      have hself := Ext.refl wr
      clear hB0 hge
      simp only at c0 c1
      go_wp2_with fail
      refine wp_region_ext (P := Tryz.prog) [0,1,2,3,4,5,6,7,8,9,10,11] [12,13,14,15,16,17] 6 #[true,true,true,true,true,true,true,true,true,true,true,true,false,false,false,false,false,false] (by kernel_rfl) (by kernel_rfl) rfl (by rfl) ?_
      iterate 12
        refine ql_want (v := ?_) rfl (by rfl) (fun W hW => ?_) ?_
        rotate_left
        · go_simp
          first | done | rfl
        go_frame
      refine wpQL_nil (fun w3 hx3 => ?_)
      clear q0 q1 c0 c1 hself
      refine lx_one (i := 12) (by kernel_rfl) rfl (by rfl) #[true,true,true,true,true,true,true,true,true,true,true,true,true,false,false,false,false,false] (by rfl) ?_
      go_simp
      have hr3 := (unhide hr').go hx3
      have hq3 := (unhide hq').ext hx3
      refine (do_any A1 B1 V3 E3 cA cB 2 u v 0 0 _ hr3.sv hr3.se (Nat.le_trans (unhide hin).nv (by omega)) (Nat.le_trans (unhide hin).ne (by omega))).mono ?_
      rintro e w4 ⟨A2, cA2, B2, cB2, rfl, hs4, he4, hx4⟩
      have hs4 : SlAt encV 3 w4 A2 (stE (V3, E3) (edgeP (u, v))).1 := hs4
      have he4 : SlAt encE 4 w4 B2 (stE (V3, E3) (edgeP (u, v))).2 := he4
      have hev : wrongR 2 u v 0 V3 E3 = fe erE stE ((P.map edgeP).take (k + 1)) (V, E) := (unhide hft).symm
      have hsv : (nxV 2 u v 0 0 V3 E3) = (((P.map edgeP).take (k + 1)).foldl stE (V, E)).1 := by rw [unhide hst]; rfl
      have hse : (nxE 2 u v 0 0 V3 E3) = (((P.map edgeP).take (k + 1)).foldl stE (V, E)).2 := by rw [unhide hst]; rfl
      rw [← unhide hst] at hs4 he4
      rw [hev, hsv, hse]
      clear hev hsv hse hft hst
      generalize hSn : ((P.map edgeP).take (k + 1)).foldl stE (V, E) = S2 at *
      generalize hen : fe erE stE ((P.map edgeP).take (k + 1)) (V, E) = er at *
      have hSn' := hide hSn
      have hen' := hide hen
      clear hSn hen
      obtain ⟨V4, E4⟩ := S2
      simp only at hs4 he4 ⊢
      refine ⟨_, rfl, fun w5 hx5 => ?_⟩
      have hx35 := hx4.trans hx5
      have hb5 := hr3.blk.ext hx35
      have hc5 := hide (GCls.refl hb5)
      have hG5 : ∃ A n c B m d, Blk w5 gw 28 #[.slice A n c, .slice B m d] := ⟨_, _, _, _, _, _, hb5⟩
      have hG5' := hide hG5
      have hq5 := hide (hq3.ext hx35)
      have hs5 := hide (hs4.ext hx5)
      have he5 := hide (he4.ext hx5)
      have hp5 := hide (((unhide hsw3).ext hx3).ext hx35)
      have hxw5 := hide (hr3.ext.trans hx35)
      have hlo := hide hr3.lo
      clear hr3 hq3 hs4 he4 hx4 hx5 hx35 hb5 hG5 hx3 hr' hq' hsw3
      refine lx_re (GCls gw w5) [13,14,15] 2 5 #[true,true,true,true,true,true,true,true,true,true,true,true,true,false,false,false,false,false] #[true,true,true,true,true,true,true,true,true,true,true,true,true,true,true,true,false,false] (by kernel_rfl) (by kernel_rfl) rfl (by rfl) Ext.refl (fun _ _ _ => Ext.trans) (fun _ _ h k => h.ext k) (unhide hc5) ?_
      iterate 3
        refine ql_want (v := ?_) rfl (by rfl) (fun W hW => ?_) ?_
        rotate_left
        · go_simp
          first | done | rfl
        go_frame
      refine wpQL_nil (fun w6 hc6 => ?_)
      have hc6' := hide hc6
      obtain ⟨hk6, A0, n0, k0, B0, m0, d0, hb6⟩ := hc6
      have s0 := hb6.cell 0
      have s1 := hb6.cell 1
      have f0 := hb6.frozen 0
      have f1 := hb6.frozen 1
      have hb6' := hide hb6
      simp at s0 s1
      clear hk6 hb6
      refine lx_one (i := 16) (by kernel_rfl) rfl (by rfl) #[true,true,true,true,true,true,true,true,true,true,true,true,true,true,true,true,true,false] (by rfl) ?_
      go_simp
      clear s0 s1 f0 f1
      have hc7 := (unhide hc6').set A2 B2 V4.length cA2 E4.length cB2
      have hb7 := (unhide hb6').set2 (p' := .slice A2 V4.length cA2) (q' := .slice B2 E4.length cB2)
      generalize ((w6.setCell ⟨gw, 0, none⟩ (.slice A2 V4.length cA2)).setCell ⟨gw, 1, none⟩ (.slice B2 E4.length cB2)) = w7 at *
      first | refine ⟨hc7, ?_⟩ | skip
      intro w77 hx77
      refine lx_one (i := 17) (by kernel_rfl) rfl (by rfl) #[true,true,true,true,true,true,true,true,true,true,true,true,true,true,true,true,true,true] (by rfl) ?_
      go_simp
      have hc77 := hc7.ext hx77
      first | refine ⟨hc77, ?_⟩ | skip
      intro w8 hx78
      have hx8 := hx77.trans hx78
      clear hx77 hx78 hc77
      have hrel := MdRel.go (w := w) (S := (V4, E4)) ⟨hb7, (unhide hs5).cls hc7 (unhide hG5') encV_ns encV0, (unhide he5).cls hc7 (unhide hG5') encE_ns encE0, (unhide hxw5).of_new hc7.1 (by have := unhide hlo; simpa using this), unhide hlo⟩ hx8
      have hp8 := hide (((unhide hp5).cls hc7 (unhide hG5') (fun x => by simp [encP]) (fun x => ⟨_, rfl⟩)).ext hx8)
      have hq8 := hide (((unhide hq5).keep hc7.1 (by simpa using unhide hne')).ext hx8)
      have hrel' := hide hrel
      clear hrel hc7 hb7 hc6' hb6' hx8 hc5 hG5' hq5 hs5 he5 hxw5 hlo hp5
      refine wpX_done (by kernel_rfl) ?_
      try go_frame
      by_cases her : er = 0
      · subst her
        go_wp2_with fail
        go_roundw
        case rel => exact ⟨k + 1, A2, B2, cA2, cB2, by omega, rfl, by go_num, unhide hen', unhide hq8, unhide hp8, by rw [unhide hSn']; exact unhide hrel'⟩
        case measure => simp [intOf]; omega
      · have hern : (er != 0) = true := by simpa using her
        have s0 := (unhide hq8).cell 0
        have s1 := (unhide hq8).cell 1
        have f0 := (unhide hq8).frozen 0
        have f1 := (unhide hq8).frozen 1
        simp at s0 s1
        go_wp2_with fail
        refine bodyPost_ret (ret_cell2 rfl rfl (load_G2 w8 ge _ _ _ _ s0 s1)) rfl ?_
        have hae : addErr V E (P.map edgeP) = er := by
          have := fe_stop2 (l := P.map edgeP) (k := k + 1) (er := erE) (st := stE) (s := (V, E)) (by rw [unhide hen']; exact her)
          exact this.trans (unhide hen')
        have hfr : filledR V E (P.map edgeP) = ([], []) := by
          unfold filledR
          rw [hae, if_neg her]
        have hk := Keep.set2 w8 ge (.slice none 0 0) (.slice none 0 0)
        refine ⟨none, 0, none, 0, ?_, ?_, ?_, ?_⟩
        · rw [hae, hfr]; rfl
        · rw [hfr]; exact SlAt.nil
        · rw [hfr]; exact SlAt.nil
        · exact (unhide hrel').ext.of_new hk (by have := unhide hge'; have := unhide hgw'; simp; omega)
    · have hS : (P.map edgeP).take k = P.map edgeP := List.take_of_length_le (by rw [List.length_map]; omega)
      rw [hS] at hr' h0'
      have hae : addErr V E (P.map edgeP) = 0 := unhide h0'
      have hfr : filledR V E (P.map edgeP) = (P.map edgeP).foldl stE (V, E) := by
        unfold filledR
        rw [if_pos hae]; rfl
      clear hS
      rw [← hfr] at hr'
      have hae' := hide hae
      clear hae hfr h0'
      generalize hSf : filledR V E (P.map edgeP) = S at *
      have hSf' := hide hSf
      clear hSf
      have hB0 := (unhide hr').blk
      have q0 := hB0.cells 0 (v := .slice A1 S.1.length cA) rfl
      have q1 := hB0.cells 1 (v := .slice B1 S.2.length cB) rfl
      have s0 := (unhide hq').cell 0
      have s1 := (unhide hq').cell 1
      have f0 := (unhide hq').frozen 0
      have f1 := (unhide hq').frozen 1
      have hself := Ext.refl wr
      clear hB0
      simp at s0 s1
      go_wp2_with fail
      refine bodyPost_ret (ret_cell2 rfl rfl (load_G2 wr ge _ _ _ _ s0 s1)) rfl ?_
      have hk := Keep.set2 wr ge (.slice A1 S.1.length cA) (.slice B1 S.2.length cB)
      unfold FdPost
      rw [unhide hae', unhide hSf']
      exact ⟨A1, cA, B1, cB, rfl, (unhide hr').sv.keep_G (unhide hq') ⟨_, _, _, rfl⟩ ⟨_, _, _, rfl⟩ encV_ns encV0 hk, (unhide hr').se.keep_G (unhide hq') ⟨_, _, _, rfl⟩ ⟨_, _, _, rfl⟩ encE_ns encE0 hk, (unhide hr').ext.of_new hk (by have := unhide hge'; have := unhide hgw'; simp; omega)⟩
end Go.Proofs.YtjehhilijeajnaaGreatDoor
/- ELIMINATION, plain: complete and edgeless graphs, edit by edit. No program in sight. Conditions: see each theorem. -/
namespace Go.Proofs.YtjehhilijeajnaaGreatDoor
open Go

theorem one_encGD (d : Ed) : ∀ v ∈ encD d, v.oneCell' = true := by
  intro v hv
  simp [encD] at hv
  rcases hv with rfl | rfl | rfl | rfl | rfl <;> rfl
theorem infoEd : (Tryz.prog.info? 76).map (fun i => (i.zero.map (·.cells.size), i.size, i.bytes)) = some (some 5, 5, 40) := by kernel_rfl
/-- the edits that add the vertices 0 .. k - 1 -/
def bareK (k : Nat) : List Ed := (List.range k).map fun (i : Nat) => ((0 : Int), ((i : Int), ((0 : Int), ((0 : Int), (0 : Int)))))
theorem bareK_next (k : Nat) : bareK (k + 1) = bareK k ++ [(0, ((k : Int), (0, (0, 0))))] := by unfold bareK; rw [List.range_succ, List.map_append]; rfl
theorem bareK_len (k : Nat) : (bareK k).length = k := by simp [bareK]
theorem bareK_get {k i : Nat} (h : i < (bareK k).length) : (bareK k)[i] = (0, ((i : Int), (0, (0, 0)))) := by simp [bareK]
/-- the ids are 0 .. i - 1 -/
def IdsTo (i : Nat) (V : List (Int × Thing)) : Prop := ∀ x : Int, x ∈ V.map (·.1) ↔ 0 ≤ x ∧ x < (i : Int)
theorem addV_step {V : List (Int × Thing)} {E : List ((Int × Int) × Thing)} {i : Nat} (hI : IdsTo i V) (hi20 : i < 1024) :
    wrongR 0 i 0 0 V E = 0 ∧ IdsTo (i + 1) (nxV 0 i 0 0 0 V E) ∧ nxE 0 i 0 0 0 V E = E := by
  have hw : wrongR 0 i 0 0 V E = 0 := by
    refine wrongR_ok (by omega) ?_ (by simp [w3B, pairsB]) (fun _ => ?_) (by omega) (by omega) (by omega)
    · simp [w2B, idB, heavyB, pairsB]; try omega
    · rw [Bool.eq_false_iff]
      intro h
      have := (hI _).1 (hasV_iff.1 h)
      omega
  refine ⟨hw, ?_, ?_⟩
  · intro x
    unfold nxV
    rw [if_pos hw]
    simp only [refV, if_true]
    rw [insF_eq, ((insP_perm _ _ _).map _).mem_iff, List.map_append, List.mem_append, hI]
    simp
    omega
  · unfold nxE
    rw [if_pos hw]
    simp only [refE, if_true]
theorem bare_fold : ∀ k, k ≤ 60 → (bareK k).foldl stD ([], []) = (((bareK k).foldl stD ([], [])).1, []) ∧ IdsTo k ((bareK k).foldl stD ([], [])).1
  | 0, _ => ⟨rfl, fun x => by simp [bareK]; try omega⟩
  | k + 1, hk => by
    obtain ⟨h1, h2⟩ := bare_fold k (by omega)
    rw [bareK_next, List.foldl_append, List.foldl_cons, List.foldl_nil]
    generalize (bareK k).foldl stD ([], []) = S at *
    obtain ⟨V, E⟩ := S
    simp only at h1 h2
    obtain rfl : E = [] := by injection h1
    obtain ⟨_, h4, h5⟩ := addV_step (E := []) h2 (by omega)
    have : stD (V, []) (0, ((k : Int), (0, (0, 0)))) = (nxV 0 k 0 0 0 V [], nxE 0 k 0 0 0 V []) := by unfold stD; simp only
    rw [this, h5]
    refine ⟨?_, ?_⟩
    · simp only
    · simp only
      exact h4
theorem mdS_bare {k : Nat} (hk : k ≤ 60) : (mdS (bareK k)).2 = [] ∧ IdsTo k (mdS (bareK k)).1 := by
  unfold mdS
  rw [List.take_of_length_le (by rw [bareK_len]; exact hk)]
  obtain ⟨h1, h2⟩ := bare_fold k hk
  exact ⟨by rw [h1], h2⟩

/-- all pairs below i, and i with all below j -/
def PairsTo (i j : Nat) (E : List ((Int × Int) × Thing)) : Prop := ∀ u v : Int, Adj0 E u v ↔ (0 ≤ u ∧ u < v ∧ (v < i ∨ v = i ∧ u < j)) ∨ (0 ≤ v ∧ v < u ∧ (u < i ∨ u = i ∧ v < j))
theorem PairsTo.nil : PairsTo 0 0 [] := fun u v => by
  constructor
  · rintro ⟨e, he, _⟩; cases he
  · omega
theorem PairsTo.row {i : Nat} {E : List ((Int × Int) × Thing)} (h : PairsTo i i E) : PairsTo (i + 1) 0 E := fun u v => (h u v).trans (by omega)
theorem refE2_len {u v lab wt : Int} {E : List ((Int × Int) × Thing)} : (refE 2 u v lab wt E).length = E.length + 1 := by
  simp only [refE, Int.reduceEq, if_false, if_true]
  rw [insF_eq, (insP_perm _ _ _).length_eq]
  simp
theorem mem_refE2' {u v lab wt : Int} {E : List ((Int × Int) × Thing)} {e : (Int × Int) × Thing} : e ∈ refE 2 u v lab wt E ↔ e ∈ E ∨ e = ((min u v, max u v), (lab, wt)) := by
  simp only [refE, Int.reduceEq, if_false, if_true]
  rw [insF_eq]
  exact (insP_perm _ _ _).mem_iff.trans (by simp)
theorem addE_step {V : List (Int × Thing)} {E : List ((Int × Int) × Thing)} {i j : Nat} (hi : GInv V E) (hI : IdsTo (i + 1) V) (hP : PairsTo i j E) (hj : j < i) (hi20 : i < 1024) (hE : E.length < 1024) :
    wrongR 2 i j 0 V E = 0 ∧ nxV 2 i j 0 0 V E = V ∧ PairsTo i (j + 1) (nxE 2 i j 0 0 V E) ∧ (nxE 2 i j 0 0 V E).length = E.length + 1 := by
  have hw : wrongR 2 i j 0 V E = 0 := by
    refine wrongR_ok (by omega) ?_ ?_ (by omega) (fun _ => hasV_iff.2 ((hI _).2 (by omega))) (fun _ => ⟨hasV_iff.2 ((hI _).2 (by omega)), ?_, hE⟩) (by omega)
    · simp [w2B, idB, heavyB, pairsB]; try omega
    · simp [w3B, pairsB]; try omega
    · rw [Bool.eq_false_iff]
      intro h
      obtain ⟨e, he, h1⟩ := List.mem_map.1 ((hasE_iff hi.lo).1 h)
      have := (hP i j).1 ⟨e, he, h1⟩
      omega
  refine ⟨hw, ?_, ?_, ?_⟩
  · unfold nxV
    rw [if_pos hw, refV_same (by omega) (by omega) (by omega) (by omega)]
  · intro u v
    unfold nxE
    rw [if_pos hw]
    have h1 := hP u v
    constructor
    · rintro ⟨e, he, h2⟩
      rcases mem_refE2'.1 he with h3 | h3
      · have := h1.1 ⟨e, h3, h2⟩
        omega
      · subst h3
        simp only [Prod.mk.injEq] at h2
        omega
    · intro h
      by_cases h3 : Adj0 E u v
      · obtain ⟨e, he, h2⟩ := h3
        exact ⟨e, mem_refE2'.2 (.inl he), h2⟩
      · refine ⟨_, mem_refE2'.2 (.inr rfl), ?_⟩
        have h4 := mt h1.2 h3
        simp only [Prod.mk.injEq]
        omega
  · unfold nxE
    rw [if_pos hw, refE2_len]
section
variable {V : List (Int × Thing)} {E : List ((Int × Int) × Thing)} {L : List Int} {k : Nat}
theorem ids_ord {V' : List (Int × Thing)} (hV : IdsTo k V) (hV' : IdsTo k V') (ho : Ord V L) : Ord V' L := ⟨ho.nodup, fun x => by rw [ho.mem, hV x, hV' x]⟩
theorem ids_len (ho : Ord V L) (hV : IdsTo k V) : L.length = k := by
  have h1 : L.Perm ((List.range k).map fun (i : Nat) => (i : Int)) := (List.perm_ext_iff_of_nodup ho.nodup (by
    rw [List.nodup_iff_pairwise_ne, List.pairwise_map]
    exact List.nodup_range.imp fun h e => h (by omega))).2 fun x => by
    rw [ho.mem, hV, List.mem_map]
    constructor
    · intro h; exact ⟨x.toNat, List.mem_range.2 (by omega), by omega⟩
    · rintro ⟨i, hi, rfl⟩
      have := List.mem_range.1 hi
      omega
  simpa using h1.length_eq
theorem all_pairs (ho : Ord V L) (hV : IdsTo k V) (hP : PairsTo k 0 E) : ∀ u v, u ∈ L → v ∈ L → u ≠ v → Adj0 E u v := fun u v hu hv hne => by
  have h1 := (hV _).1 ((ho.mem _).1 hu)
  have h2 := (hV _).1 ((ho.mem _).1 hv)
  exact (hP u v).2 (by omega)
end
end Go.Proofs.YtjehhilijeajnaaGreatDoor
/- maps.Clone, graph.Clone. Conditions: see each theorem. -/
namespace Go.Proofs.YtjehhilijeajnaaGreatDoor
open Go Go.RowKit
attribute [local go_sem] qUpon lUpon

set_option maxRecDepth 100000 in
set_option maxHeartbeats 2000000 in
theorem mcloneV_any (b : Nat) (M : List (Int × Thing)) (w : World) (h : MapIs ekV evT i64ok w b M) :
    Calls Tryz.prog 61 #[.map (some b)] w fun e w' => ∃ c, e = .returned (.map (some c)) ∧ MapIs ekV evT i64ok w' c M ∧ Ext w w' ∧ w.heap.size ≤ c := by
  obtain ⟨es, clock, hb, hs, hm, hk⟩ := h
  have hq := fun w => run_eql_map_nil_sl (P := Tryz.prog) w 118 _ _ (some b) Tryz.underlying118
  have hmm := hide (And.intro hs (And.intro hm hk))
  clear hs hm hk
  go_enter Tryz.func61, Tryz.ntmps61
  go_wp2_with fail
  rw [run_callFunc_extern Tryz.func87 (by kernel_rfl) (by kernel_rfl) (by kernel_rfl) (e := Extern.MapsClone.clone) (by kernel_rfl), run_maps_clone_sl w 118 hb]
  simp only [Result.andThen]
  rw [Oper.upon_value]
  go_wp2_with fail
  rw [run_typeAssert_map_sl _ 118 20 _ _ _ Tryz.underlying118]
  simp only [Result.andThen]
  rw [Oper.upon_value]
  go_wp2_with fail
  go_ret
  obtain ⟨hs, hm, hk⟩ := unhide hmm
  exact ⟨w.heap.size, rfl, ⟨es, clock, (MapKept.heap_alloc w _).1, hs, hm, hk⟩, ext_self1 _ _, Nat.le_refl _⟩

set_option maxRecDepth 100000 in
set_option maxHeartbeats 2000000 in
theorem mcloneE_any (b : Nat) (M : List ((Int × Int) × Thing)) (w : World) (h : MapIs ekE evT okE w b M) :
    Calls Tryz.prog 62 #[.map (some b)] w fun e w' => ∃ c, e = .returned (.map (some c)) ∧ MapIs ekE evT okE w' c M ∧ Ext w w' ∧ w.heap.size ≤ c := by
  obtain ⟨es, clock, hb, hs, hm, hk⟩ := h
  have hq := fun w => run_eql_map_nil_sl (P := Tryz.prog) w 122 _ _ (some b) Tryz.underlying122
  have hmm := hide (And.intro hs (And.intro hm hk))
  clear hs hm hk
  go_enter Tryz.func62, Tryz.ntmps62
  go_wp2_with fail
  rw [run_callFunc_extern Tryz.func87 (by kernel_rfl) (by kernel_rfl) (by kernel_rfl) (e := Extern.MapsClone.clone) (by kernel_rfl), run_maps_clone_sl w 122 hb]
  simp only [Result.andThen]
  rw [Oper.upon_value]
  go_wp2_with fail
  rw [run_typeAssert_map_sl _ 122 20 _ _ _ Tryz.underlying122]
  simp only [Result.andThen]
  rw [Oper.upon_value]
  go_wp2_with fail
  go_ret
  obtain ⟨hs, hm, hk⟩ := unhide hmm
  exact ⟨w.heap.size, rfl, ⟨es, clock, (MapKept.heap_alloc w _).1, hs, hm, hk⟩, ext_self1 _ _, Nat.le_refl _⟩

set_option maxRecDepth 100000 in
set_option maxHeartbeats 4000000 in
theorem clone_any (g bv be : Nat) (V : List (Int × Thing)) (E : List ((Int × Int) × Thing)) (w : World) (hg : IsG w g bv be V E) :
    Calls Tryz.prog 30 #[.pointer (some ⟨g, 0, none⟩)] w fun e w' => ∃ o ov oe, e = .returned (.pointer (some ⟨o, 0, none⟩)) ∧ IsG w' o ov oe V E ∧ Ext w w' ∧ w.heap.size ≤ o ∧ w.heap.size ≤ ov ∧ w.heap.size ≤ oe := by
  obtain ⟨V', E', h1, p1, p2, hi⟩ := hg
  have c0 := h1.ptr0
  have c1 := h1.ptr1
  have m1 := hide h1.vs
  have m2 := hide h1.es
  have hp := hide (And.intro p1 (And.intro p2 hi))
  clear h1 p1 p2 hi
  go_enter Tryz.func30, Tryz.ntmps30
  go_wp2_with fail
  refine wp_region_ext (P := Tryz.prog) [0,1,2,3,5,6,7,8] [] 5 #[true,true,true,true,false,true,true,true,true,false,false,false,false] (by kernel_rfl) (by kernel_rfl) rfl (by rfl) ?_
  iterate 8
    refine ql_want (v := ?_) rfl (by rfl) (fun W hW => ?_) ?_
    rotate_left
    · go_simp
      first | done | rfl
    go_frame
  refine wpQL_nil (fun w1 hx1 => ?_)
  clear c0 c1
  refine lx_one (i := 4) (by kernel_rfl) rfl (by rfl) #[true,true,true,true,true,true,true,true,true,false,false,false,false] (by rfl) ?_
  go_simp
  refine (mcloneV_any bv V' _ ((unhide m1).ext hx1)).mono ?_
  rintro e w2 ⟨ov, rfl, hm2, hx2, n2⟩
  refine ⟨_, rfl, hx1.trans hx2, fun w3 hx3 => ?_⟩
  refine lx_one (i := 9) (by kernel_rfl) rfl (by rfl) #[true,true,true,true,true,true,true,true,true,true,false,false,false] (by rfl) ?_
  go_simp
  refine (mcloneE_any be E' _ ((unhide m2).ext ((hx1.trans hx2).trans hx3))).mono ?_
  rintro e w4 ⟨oe, rfl, hm4, hx4, n4⟩
  have hx14 := ((hx1.trans hx2).trans hx3).trans hx4
  refine ⟨_, rfl, hx14, fun w5 hx5 => ?_⟩
  have hne : ov ≠ oe := by
    have := hm2.lt
    have := Below.size hx3
    omega
  have s1 := Below.size hx1
  have s2 := Below.size ((hx1.trans hx2).trans hx3)
  have hv5 := (hm2.ext (hx3.trans hx4)).ext hx5
  have he5 := hm4.ext hx5
  have hx15 := hx14.trans hx5
  clear hx1 hx2 hx3 hx4 hx5 hx14 hm2 hm4
  refine lx_one (i := 10) (by kernel_rfl) rfl (by rfl) #[true,true,true,true,true,true,true,true,true,true,true,false,false] (by rfl) ?_
  go_simp
  intro w6 hx6
  refine lx_one (i := 11) (by kernel_rfl) rfl (by rfl) #[true,true,true,true,true,true,true,true,true,true,true,true,false] (by rfl) ?_
  go_simp
  have hb7 := Blk.new w6 124 #[.map (some ov), .map (some oe)]
  have hx67 := ext_self1 w6 (.cells #[.map (some ov), .map (some oe)] 124)
  have s3 := Below.size (hx15.trans hx6)
  have hx17 := (hx15.trans hx6).trans hx67
  have hv7 := (hv5.ext hx6).ext hx67
  have he7 := (he5.ext hx6).ext hx67
  generalize w6.heap.size = o at *
  generalize w6.alloc (.cells #[.map (some ov), .map (some oe)] 124) = w7 at *
  first | refine ⟨(by assumption), ?_⟩ | skip
  intro w8 hx8
  refine lx_one (i := 12) (by kernel_rfl) rfl (by rfl) #[true,true,true,true,true,true,true,true,true,true,true,true,true] (by rfl) ?_
  go_simp
  first | refine ⟨hx17.trans hx8, ?_⟩ | skip
  intro w9 hx9
  have hx19 := (hx17.trans hx8).trans hx9
  have hv9 := (hv7.ext hx8).ext hx9
  have he9 := (he7.ext hx8).ext hx9
  have hb9 := (hb7.ext hx8).ext hx9
  have hfin := hide (And.intro hx19 (And.intro hv9 (And.intro he9 hb9)))
  have hsz := hide (And.intro s1 (And.intro s2 s3))
  clear hx19 hv9 he9 hb9 hx17 hx8 hx9 hv7 he7 hb7 hx67 hx6 hv5 he5 hx15 s1 s2 s3
  refine wpX_done (by kernel_rfl) ?_
  try go_frame
  go_wp2_with fail
  go_ret
  obtain ⟨hx19, hv9, he9, hb9⟩ := unhide hfin
  obtain ⟨p1, p2, hi⟩ := unhide hp
  obtain ⟨s1, s2, s3⟩ := unhide hsz
  exact ⟨o, ov, oe, rfl, ⟨V', E', ⟨hb9, hv9, he9, hne⟩, p1, p2, hi⟩, hx19, by omega, by omega, by omega⟩
end Go.Proofs.YtjehhilijeajnaaGreatDoor
