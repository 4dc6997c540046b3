/- Parts of a proof, laid together: N2, Bw2, Ht. Each part says its own conditions. -/
import Derived.Test.YtjehhilijeajnaaGreatDoorT6
import Derived.Test.YtjehhilijeajnaaGreatDoorT4
import Derived.Test.YtjehhilijeajnaaGreatDoorT5
/- palmetteref21.Near: the walk. Conditions: see each theorem. -/
namespace Go.Proofs.YtjehhilijeajnaaGreatDoor
open Go Go.RowKit
attribute [local go_sem] qUpon lUpon

/-- append of one element, as a step of a drawn region -/
theorem lx_ap1 {α : Type} {enc : α → List Value} {T ST : TypeId} {kk byt : Nat} {R : World → World → Prop} {C : World → Prop} {safe : Nat → Bool} {Q : Act → World → Prop} {l : List Oper} {n i : Nat} {o : Oper} {s x : Operand} {listed : Array Bool} {a : Act} {W : World}
    (hr : Region.ready .any l.toArray listed = [i]) (ho0 : pick l i = some o) (hw : Region.wanted o (yielded l.toArray a.tmps) = true) (listed' : Array Bool) (hli : listed.setIfInBounds i true = listed') (hR : ∀ a b, R a b → b = a) (hs : safe i = false)
    (hi0 : (Tryz.prog.info? T).map (fun i => (i.zero.map (·.cells.size), i.size, i.bytes)) = some (some kk, kk, byt)) (hu : Tryz.prog.underlying ST = some (.slice T)) (hone : ∀ x, ∀ v ∈ enc x, v.oneCell' = true) (hlen : ∀ x, (enc x).length = kk) (hk : 0 < kk) (hby : byt ≤ 1000)
    (ho : o.op = .call { callee := .builtin .append, args := #[s, x], argTypes := #[ST, ST] }) {base : Nat} {v : Value} {m : Nat} {xs : List α} (e : α) {g : Nat} {t : TypeId} (hsv : a.eval s = v) (hx : a.eval x = .slice (some ⟨g, 0, none⟩) 1 1) (hg : Blk W g t (enc e).toArray)
    (hown : W.ownsRow base T kk v m (xs.flatMap enc)) (hl : m ≤ 10000000) (hb : base ≤ W.heap.size)
    (h : ∀ A' c' w', w'.ownsRow base T kk (.slice A' (m + 1) c') (m + 1) ((xs ++ [e]).flatMap enc) → W.grownBy w' v.ownBlock → (Value.ownBlock (.slice A' (m + 1) c') = v.ownBlock ∨ Value.ownBlock (.slice A' (m + 1) c') = some W.heap.size) → wpX Tryz.prog l.toArray R C safe Q n listed' (a.put o.dst (.slice A' (m + 1) c')) w') : wpX Tryz.prog l.toArray R C safe Q (n + 1) listed a W := by
  obtain ⟨A', c', w', h1, h2, h3, h4⟩ := run_ap1 hi0 hu hone hlen hk hby ho e hsv hx hg hown hl hb
  refine lx_one hr ho0 hw listed' hli ?_
  rw [h1]
  refine lUpon_value ?_
  exact ⟨fun h => (by rw [hs] at h; cases h), fun w'' hw'' => by rw [hR _ _ hw'']; exact h A' c' w' h2 h3 h4⟩

set_option maxRecDepth 100000 in
set_option maxHeartbeats 16000000 in
theorem near21_any (A B : Option Addr) (V : List (Int × Thing)) (E : List ((Int × Int) × Thing)) (cA cB : Nat) (C : Option Addr) (L : List Int) (cL : Nat) (w : World) (hE : SlAt encE 4 w B E) (hnE0 : E.length ≤ 4096) (hL : SlAt encI 1 w C L) (hl : L.length ≤ 100) :
    Calls Tryz.prog 21 #[.agg #[.slice A V.length cA, .slice B E.length cB], .slice C L.length cL] w (NearPost w (neasR E L L.length) (comR E L L.length)) := by
  have hE' := hide hE
  have hL' := hide hL
  have hnE := hide hnE0
  clear hE hL hnE0
  go_enter Tryz.func21, Tryz.ntmps21
  go_wp2_with fail
  have hB1 := hide (Blk.new w 28 #[.slice A V.length cA, .slice B E.length cB])
  have hx1 := hide (ext_self1 w (.cells #[.slice A V.length cA, .slice B E.length cB] 28))
  generalize w.alloc (.cells #[.slice A V.length cA, .slice B E.length cB] 28) = w1 at *
  have hI0 := hide (show NrI w1.heap.size w w1 [] [] (.slice none 0 0) (.slice none 0 0) [] from ⟨World.ownsRow_nil _ _ _ _, World.ownsRow_nil _ _ _ _, ⟨rfl, fun i hi => by simp at hi⟩, unhide hx1, Below.size (unhide hx1), Nat.le_refl _⟩)
  go_loopw [6, 7, 8] (fun ov cv iv wr => ∃ (k : Nat) (vs : List Sl3) (vo vc : Value), k ≤ L.length ∧ iv = .int .i64 k ∧ vo = ov ∧ vc = cv ∧ NrI w1.heap.size w1 wr (neasR E L k) vs vo vc (comR E L k)) (fun _ _ iv _ => L.length - (intOf iv).toNat)
  case atStart => exact ⟨0, [], _, _, Nat.zero_le _, rfl, rfl, rfl, World.ownsRow_nil _ _ _ _, World.ownsRow_nil _ _ _ _, ⟨rfl, fun i hi => by simp [neasR] at hi⟩, Ext.refl _, Nat.le_refl _, Nat.le_refl _⟩
  case round =>
    obtain ⟨k, vs, vo, vc, hk, rfl, hv1, hv2, hI⟩ := hrel
    subst hv1
    subst hv2
    have hI' := hide hI
    clear hI hI0
    by_cases hlt : k < L.length
    · obtain ⟨b, off, rfl, hzz⟩ := atI (unhide hL') hlt
      clear hzz
      obtain ⟨Ac, cc, rfl⟩ := own_slice (unhide hI').c
      have hC' := hide (own_at (enc := encP) (unhide hI').c (fun _ => rfl))
      obtain ⟨come, hce⟩ : ∃ come, come = comR E L k := ⟨_, rfl⟩
      have hcl0 : come.length ≤ 1000000 := by
        rw [hce]
        have h1 := comR_len E L hl k (by omega)
        have h2 : k * 10000 ≤ 100 * 10000 := Nat.mul_le_mul_right _ (by omega)
        omega
      have hcl := hide (show come.length ≤ 4611686018427387904 by omega)
      have hcl2 := hide hcl0
      rw [← hce] at hI' hC' ⊢
      have hce' := hide hce
      obtain ⟨x, hx⟩ : ∃ x, L[k] = x := ⟨_, rfl⟩
      have hxk := hide hx
      have hxk' := hide (show L[k]?.getD 0 = x by rw [← hx]; simp [hlt])
      clear hce hx hcl0
      generalize wr = wo at *
      have hxs := hide (ext_self1 wo (.cells #[] 3))
      go_wp2_with fail
      go_loopw [9, 10] (fun nv iv W => ∃ (j : Nat) (An : Option Addr) (cn : Nat) (near : List Int), k + 1 ≤ j ∧ j ≤ L.length ∧ iv = .int .i64 j ∧ nv = .slice An near.length cn ∧ near = nearR E come L k j ∧ SlAt encI 1 W An near ∧ TAt 3 W An near ∧ Ext wo W) (fun _ iv _ => L.length - (intOf iv).toNat)
      case atStart => exact ⟨k + 1, some ⟨wo.heap.size, 0, none⟩, 0, [], Nat.le_refl _, hlt, by go_num, rfl, (nearR_start E come L k).symm, SlAt.nil, TAt.nil, unhide hxs⟩
      case round =>
        obtain ⟨j, An, cn, near, hkj, hj, rfl, rfl, hnear, hsn, htn, hxr⟩ := hrel
        have hnl := hide (show near.length ≤ 100 by rw [hnear]; exact Nat.le_trans (nearR_len _ _ _ _ _) hl)
        have hnear' := hide hnear
        have hsn' := hide hsn
        have htn' := hide htn
        have hxr' := hide hxr
        clear hsn htn hxr hnear hxs
        by_cases hjl : j < L.length
        · have hLr := (unhide hL').ext ((unhide hx1).trans ((unhide hI').x.trans (unhide hxr')))
          have hst := hide (nearR_next E come L k j hjl (by omega))
          have hEr := hide ((unhide hE').ext ((unhide hx1).trans ((unhide hI').x.trans (unhide hxr'))))
          have hCr := hide ((unhide hC').ext (unhide hxr'))
          have ck := atI_at hLr hlt
          have cj := atI_at hLr hjl
          have hB2 := (unhide hB1).ext ((unhide hI').x.trans (unhide hxr'))
          have q0 := hB2.cells 0 (v := .slice A V.length cA) rfl
          have q1 := hB2.cells 1 (v := .slice B E.length cB) rfl
          have hself := Ext.refl wr
          rw [unhide hxk] at ck
          generalize L[j] = y at cj hst
          obtain ⟨p, hp⟩ : ∃ p, posI (isE x y) E = p := ⟨_, rfl⟩
          have hp' := hide hp
          clear hp hLr hB2
          by_cases hp0 : 0 ≤ p
          · have hadj := hide (show adjR E come x y = true by unfold adjR; rw [unhide hp', decide_eq_true hp0]; rfl)
            have hq' : Hid (come.any (inP x y) = come.any (inP x y)) := hide rfl
            have hd0 : decide (0 ≤ p) = true := decide_eq_true hp0
            go_wp2_with fail
            refine wp_region_ext (P := Tryz.prog) [0,1,2,3,4,5,6,7,8,9,10,11,12,13,14,15,16,17,18,19,20,21,22] [] 0 #[true,true,true,true,true,true,true,true,true,true,true,true,true,true,true,true,true,true,true,true,true,true,true] (by kernel_rfl) (by kernel_rfl) rfl (by rfl) ?_
            iterate 12
              refine ql_want (v := ?_) rfl (by rfl) (fun W hW => ?_) ?_
              rotate_left
              · go_simp
                first | done | rfl | (go_at_call 53; refine (redge_any _ B E _ _ cB x y _ ((unhide hEr).ext (by assumption)) (unhide hnE)).mono ?_; rw [unhide hp']; rintro _ _ ⟨h1, h2⟩; refine ⟨_, h1, ?_, h2⟩; rfl) | (go_at_call 54; refine (in21_any Ac come cc x y _ ((unhide hCr).ext (by assumption)) (unhide hcl)).mono ?_; rw [unhide hq']; rintro _ _ ⟨h1, h2⟩; refine ⟨_, h1, ?_, h2⟩; rfl)
              go_frame
            iterate 10
              refine ql_skip rfl (by rfl) ?_
              try go_frame
            iterate 1
              refine ql_want (v := ?_) rfl (by rfl) (fun W hW => ?_) ?_
              rotate_left
              · go_simp
                first | done | rfl | (go_at_call 53; refine (redge_any _ B E _ _ cB x y _ ((unhide hEr).ext (by assumption)) (unhide hnE)).mono ?_; rw [unhide hp']; rintro _ _ ⟨h1, h2⟩; refine ⟨_, h1, ?_, h2⟩; rfl) | (go_at_call 54; refine (in21_any Ac come cc x y _ ((unhide hCr).ext (by assumption)) (unhide hcl)).mono ?_; rw [unhide hq']; rintro _ _ ⟨h1, h2⟩; refine ⟨_, h1, ?_, h2⟩; rfl)
              go_frame
            refine wpQL_nil (fun w3 hx3 => ?_)
            refine wpX_done (by kernel_rfl) ?_
            try go_frame
            have hx3' := hide hx3
            have hself3 := Ext.refl w3
            have cj3 := fun (W' : World) (hW : Ext w3 W') => cj W' (hx3.trans hW)
            clear q0 q1 ck cj hself hx3
            go_wp2_with fail
            refine (with01_any An near cn y _ ((unhide hsn').ext (unhide hx3')) ((unhide htn').ext (unhide hx3')) (by have := unhide hnl; omega)).mono ?_
            rintro e w4 ⟨A4, c4, rfl, hs4, ht4, hx4⟩
            have hs4' := hide hs4
            have ht4' := hide ht4
            have hx4' := hide (((unhide hxr').trans (unhide hx3')).trans hx4)
            clear hs4 ht4 hx4 cj3 hself3
            go_wp2_with fail
            go_roundw
            case rel => exact ⟨j + 1, A4, c4, withR near y, by omega, by omega, by go_num, rfl, by rw [unhide hst, ← unhide hnear']; unfold nearF21; rw [unhide hxk', if_pos (unhide hadj)], unhide hs4', unhide ht4', unhide hx4'⟩
            case measure => simp [intOf]; omega
          · have hd0 : decide (0 ≤ p) = false := decide_eq_false hp0
            cases hq : come.any (inP x y) with
            | true =>
              have hadj := hide (show adjR E come x y = true by unfold adjR; rw [hq, Bool.or_true])
              have hq' := hide hq
              clear hq
              go_wp2_with fail
              refine wp_region_ext (P := Tryz.prog) [0,1,2,3,4,5,6,7,8,9,10,11,12,13,14,15,16,17,18,19,20,21,22] [] 0 #[true,true,true,true,true,true,true,true,true,true,true,true,true,true,true,true,true,true,true,true,true,true,true] (by kernel_rfl) (by kernel_rfl) rfl (by rfl) ?_
              iterate 23
                refine ql_want (v := ?_) rfl (by rfl) (fun W hW => ?_) ?_
                rotate_left
                · go_simp
                  first | done | rfl | (go_at_call 53; refine (redge_any _ B E _ _ cB x y _ ((unhide hEr).ext (by assumption)) (unhide hnE)).mono ?_; rw [unhide hp']; rintro _ _ ⟨h1, h2⟩; refine ⟨_, h1, ?_, h2⟩; rfl) | (go_at_call 54; refine (in21_any Ac come cc x y _ ((unhide hCr).ext (by assumption)) (unhide hcl)).mono ?_; rw [unhide hq']; rintro _ _ ⟨h1, h2⟩; refine ⟨_, h1, ?_, h2⟩; rfl)
                go_frame
              refine wpQL_nil (fun w3 hx3 => ?_)
              refine wpX_done (by kernel_rfl) ?_
              try go_frame
              have hx3' := hide hx3
              have hself3 := Ext.refl w3
              have cj3 := fun (W' : World) (hW : Ext w3 W') => cj W' (hx3.trans hW)
              clear q0 q1 ck cj hself hx3
              go_wp2_with fail
              refine (with01_any An near cn y _ ((unhide hsn').ext (unhide hx3')) ((unhide htn').ext (unhide hx3')) (by have := unhide hnl; omega)).mono ?_
              rintro e w4 ⟨A4, c4, rfl, hs4, ht4, hx4⟩
              have hs4' := hide hs4
              have ht4' := hide ht4
              have hx4' := hide (((unhide hxr').trans (unhide hx3')).trans hx4)
              clear hs4 ht4 hx4 cj3 hself3
              go_wp2_with fail
              go_roundw
              case rel => exact ⟨j + 1, A4, c4, withR near y, by omega, by omega, by go_num, rfl, by rw [unhide hst, ← unhide hnear']; unfold nearF21; rw [unhide hxk', if_pos (unhide hadj)], unhide hs4', unhide ht4', unhide hx4'⟩
              case measure => simp [intOf]; omega
            | false =>
              have hadj := hide (show ¬ adjR E come x y = true by unfold adjR; rw [hq, unhide hp', decide_eq_false hp0]; simp)
              have hq' := hide hq
              clear hq
              go_wp2_with fail
              refine wp_region_ext (P := Tryz.prog) [0,1,2,3,4,5,6,7,8,9,10,11,12,13,14,15,16,17,18,19,20,21,22] [] 0 #[true,true,true,true,true,true,true,true,true,true,true,true,true,true,true,true,true,true,true,true,true,true,true] (by kernel_rfl) (by kernel_rfl) rfl (by rfl) ?_
              iterate 23
                refine ql_want (v := ?_) rfl (by rfl) (fun W hW => ?_) ?_
                rotate_left
                · go_simp
                  first | done | rfl | (go_at_call 53; refine (redge_any _ B E _ _ cB x y _ ((unhide hEr).ext (by assumption)) (unhide hnE)).mono ?_; rw [unhide hp']; rintro _ _ ⟨h1, h2⟩; refine ⟨_, h1, ?_, h2⟩; rfl) | (go_at_call 54; refine (in21_any Ac come cc x y _ ((unhide hCr).ext (by assumption)) (unhide hcl)).mono ?_; rw [unhide hq']; rintro _ _ ⟨h1, h2⟩; refine ⟨_, h1, ?_, h2⟩; rfl)
                go_frame
              refine wpQL_nil (fun w3 hx3 => ?_)
              refine wpX_done (by kernel_rfl) ?_
              try go_frame
              have hx3' := hide hx3
              have hself3 := Ext.refl w3
              clear q0 q1 ck cj hself hx3
              go_wp2_with fail
              go_roundw
              case rel => exact ⟨j + 1, An, cn, near, by omega, by omega, by go_num, rfl, by rw [unhide hst, ← unhide hnear']; unfold nearF21; rw [unhide hxk', if_neg (unhide hadj)], (unhide hsn').ext (unhide hx3'), (unhide htn').ext (unhide hx3'), (unhide hxr').trans (unhide hx3')⟩
              case measure => simp [intOf]; omega
        · have hje : j = L.length := by omega
          subst hje
          have hnear2 : near = neaR E L k := by rw [unhide hnear', unhide hce']; rfl
          have hnear2' := hide hnear2
          clear hnear2
          go_wp2_with fail
          generalize wr = wq at *
          have hI2 := hide ((unhide hI').ext (unhide hxr'))
          go_loopw [7, 11] (fun cv iv W => ∃ (a : Nat) (vc2 : Value), a ≤ near.length ∧ iv = .int .i64 a ∧ vc2 = cv ∧ NrI w1.heap.size w1 W (neasR E L k) vs vo vc2 (pairR E near come a) ∧ SlAt encI 1 W An near ∧ TAt 3 W An near) (fun _ iv _ => near.length - (intOf iv).toNat)
          case atStart => exact ⟨0, _, Nat.zero_le _, rfl, rfl, by simpa [pairR] using unhide hI2, unhide hsn', unhide htn'⟩
          case round =>
            obtain ⟨a, vc2, ha, rfl, hv, hI3, hs3, ht3⟩ := hrel
            subst hv
            have hI3' := hide hI3
            have hs3' := hide hs3
            have ht3' := hide ht3
            clear hI3 hs3 ht3 hI2 hsn' htn' hxr'
            by_cases hal : a < near.length
            · obtain ⟨bn, offn, rfl, hzz⟩ := atI (unhide hs3') hal
              clear hzz
              have hab0 : a < 100 := by have := unhide hnl; omega
              go_wp2_with fail
              generalize wr = wp at *
              go_loopw [7, 12] (fun cv iv W => ∃ (d : Nat) (vc3 : Value), d ≤ a ∧ iv = .int .i64 d ∧ vc3 = cv ∧ NrI w1.heap.size w1 W (neasR E L k) vs vo vc3 (rowR E near a (pairR E near come a) d) ∧ SlAt encI 1 W (some ⟨bn, offn, none⟩) near ∧ TAt 3 W (some ⟨bn, offn, none⟩) near) (fun _ iv _ => a - (intOf iv).toNat)
              case atStart => exact ⟨0, _, Nat.zero_le _, rfl, rfl, by simpa [rowR] using unhide hI3', unhide hs3', unhide ht3'⟩
              case round =>
                obtain ⟨d, vc3, hd, rfl, hv, hI4, hs4, ht4⟩ := hrel
                subst hv
                have hI4' := hide hI4
                have hs4' := hide hs4
                have ht4' := hide ht4
                clear hI4 hs4 ht4 hI3' hs3' ht3'
                by_cases hda : d < a
                · obtain ⟨Ac4, cc4, rfl⟩ := own_slice (unhide hI4').c
                  have hCr := hide (own_at (enc := encP) (unhide hI4').c (fun _ => rfl))
                  obtain ⟨cm, hcm⟩ : ∃ cm, cm = rowR E near a (pairR E near come a) d := ⟨_, rfl⟩
                  have hcl40 : cm.length ≤ 2000000 := by
                    have h1 := rowR_len E near a (pairR E near come a) d
                    have h2 := pairR_len E near come a (by have := unhide hnl; omega)
                    have h3 : a * 100 ≤ 100 * 100 := Nat.mul_le_mul_right _ (by have := unhide hnl; omega)
                    have h4 := unhide hcl2
                    have h5 := unhide hnl
                    rw [hcm]
                    omega
                  have hcl4 := hide hcl40
                  have hcl := hide (show cm.length ≤ 4611686018427387904 by omega)
                  rw [← hcm] at hI4' hCr ⊢
                  have hcm' := hide hcm
                  have hdn : d < near.length := by omega
                  have hEr := hide ((unhide hE').ext ((unhide hx1).trans (unhide hI4').x))
                  have ca := atI_at (unhide hs4') hal
                  have cb := atI_at (unhide hs4') hdn
                  have hB2 := (unhide hB1).ext (unhide hI4').x
                  have q0 := hB2.cells 0 (v := .slice A V.length cA) rfl
                  have q1 := hB2.cells 1 (v := .slice B E.length cB) rfl
                  have hself := Ext.refl wr
                  have hab : a < 100 := by have := unhide hnl; omega
                  have hua := hide (show near[a]?.getD 0 = near[a] by simp [hal])
                  have hub := hide (show near[d]?.getD 0 = near[d] by simp [hdn])
                  generalize near[a] = x2 at ca hua
                  generalize near[d] = y at cb hub
                  obtain ⟨p, hp⟩ : ∃ p, posI (isE x2 y) E = p := ⟨_, rfl⟩
                  have hp' := hide hp
                  clear hp hB2 hcm hcl40
                  by_cases hp0 : 0 ≤ p
                  · have hadj := hide (show adjR E cm x2 y = true by unfold adjR; rw [unhide hp', decide_eq_true hp0]; rfl)
                    have hq' : Hid (cm.any (inP x2 y) = cm.any (inP x2 y)) := hide rfl
                    have hd0 : decide (p < 0) = false := decide_eq_false (by omega)
                    go_wp2_with fail
                    refine wp_region_ext (P := Tryz.prog) [0,1,2,3,4,5,6,7,8,9,10,11,12,13,14,15,16,17,18,19,20,21,22,23] [] 0 #[true,true,true,true,true,true,true,true,true,true,true,true,true,true,true,true,true,true,true,true,true,true,true,true] (by kernel_rfl) (by kernel_rfl) rfl (by rfl) ?_
                    iterate 12
                      refine ql_want (v := ?_) rfl (by rfl) (fun W hW => ?_) ?_
                      rotate_left
                      · go_simp
                        first | done | rfl | (go_at_call 53; refine (redge_any _ B E _ _ cB x2 y _ ((unhide hEr).ext (by assumption)) (unhide hnE)).mono ?_; rw [unhide hp']; rintro _ _ ⟨h1, h2⟩; refine ⟨_, h1, ?_, h2⟩; rfl) | (go_at_call 54; refine (in21_any Ac4 cm cc4 x2 y _ ((unhide hCr).ext (by assumption)) (unhide hcl)).mono ?_; rw [unhide hq']; rintro _ _ ⟨h1, h2⟩; refine ⟨_, h1, ?_, h2⟩; rfl)
                      go_frame
                    iterate 11
                      refine ql_skip rfl (by rfl) ?_
                      try go_frame
                    iterate 1
                      refine ql_want (v := ?_) rfl (by rfl) (fun W hW => ?_) ?_
                      rotate_left
                      · go_simp
                        first | done | rfl | (go_at_call 53; refine (redge_any _ B E _ _ cB x2 y _ ((unhide hEr).ext (by assumption)) (unhide hnE)).mono ?_; rw [unhide hp']; rintro _ _ ⟨h1, h2⟩; refine ⟨_, h1, ?_, h2⟩; rfl) | (go_at_call 54; refine (in21_any Ac4 cm cc4 x2 y _ ((unhide hCr).ext (by assumption)) (unhide hcl)).mono ?_; rw [unhide hq']; rintro _ _ ⟨h1, h2⟩; refine ⟨_, h1, ?_, h2⟩; rfl)
                      go_frame
                    refine wpQL_nil (fun w3 hx3 => ?_)
                    refine wpX_done (by kernel_rfl) ?_
                    try go_frame
                    have hx3' := hide hx3
                    have hself3 := Ext.refl w3
                    clear q0 q1 ca cb hself hx3 hself3
                    go_wp2_with fail
                    go_roundw
                    case rel => exact ⟨d + 1, _, by omega, by go_num, rfl, by rw [rowR_next, ← unhide hcm']; unfold rowF; rw [unhide hua, unhide hub, if_pos (unhide hadj)]; exact (unhide hI4').ext (unhide hx3'), (unhide hs4').ext (unhide hx3'), (unhide ht4').ext (unhide hx3')⟩
                    case measure => simp [intOf]; omega
                  · have hd0 : decide (p < 0) = true := decide_eq_true (by omega)
                    cases hq : cm.any (inP x2 y) with
                    | true =>
                      have hadj := hide (show adjR E cm x2 y = true by unfold adjR; rw [hq, Bool.or_true])
                      have hq' := hide hq
                      clear hq
                      go_wp2_with fail
                      refine wp_region_ext (P := Tryz.prog) [0,1,2,3,4,5,6,7,8,9,10,11,12,13,14,15,16,17,18,19,20,21,22,23] [] 0 #[true,true,true,true,true,true,true,true,true,true,true,true,true,true,true,true,true,true,true,true,true,true,true,true] (by kernel_rfl) (by kernel_rfl) rfl (by rfl) ?_
                      iterate 24
                        refine ql_want (v := ?_) rfl (by rfl) (fun W hW => ?_) ?_
                        rotate_left
                        · go_simp
                          first | done | rfl | (go_at_call 53; refine (redge_any _ B E _ _ cB x2 y _ ((unhide hEr).ext (by assumption)) (unhide hnE)).mono ?_; rw [unhide hp']; rintro _ _ ⟨h1, h2⟩; refine ⟨_, h1, ?_, h2⟩; rfl) | (go_at_call 54; refine (in21_any Ac4 cm cc4 x2 y _ ((unhide hCr).ext (by assumption)) (unhide hcl)).mono ?_; rw [unhide hq']; rintro _ _ ⟨h1, h2⟩; refine ⟨_, h1, ?_, h2⟩; rfl)
                        go_frame
                      refine wpQL_nil (fun w3 hx3 => ?_)
                      refine wpX_done (by kernel_rfl) ?_
                      try go_frame
                      have hx3' := hide hx3
                      have hself3 := Ext.refl w3
                      clear q0 q1 ca cb hself hx3 hself3
                      go_wp2_with fail
                      go_roundw
                      case rel => exact ⟨d + 1, _, by omega, by go_num, rfl, by rw [rowR_next, ← unhide hcm']; unfold rowF; rw [unhide hua, unhide hub, if_pos (unhide hadj)]; exact (unhide hI4').ext (unhide hx3'), (unhide hs4').ext (unhide hx3'), (unhide ht4').ext (unhide hx3')⟩
                      case measure => simp [intOf]; omega
                    | false =>
                      have hadj := hide (show ¬ adjR E cm x2 y = true by unfold adjR; rw [hq, unhide hp', decide_eq_false hp0]; simp)
                      have hq' := hide hq
                      clear hq
                      go_wp2_with fail
                      refine wp_region_ext (P := Tryz.prog) [0,1,2,3,4,5,6,7,8,9,10,11,12,13,14,15,16,17,18,19,20,21,22,23] [] 0 #[true,true,true,true,true,true,true,true,true,true,true,true,true,true,true,true,true,true,true,true,true,true,true,true] (by kernel_rfl) (by kernel_rfl) rfl (by rfl) ?_
                      iterate 24
                        refine ql_want (v := ?_) rfl (by rfl) (fun W hW => ?_) ?_
                        rotate_left
                        · go_simp
                          first | done | rfl | (go_at_call 53; refine (redge_any _ B E _ _ cB x2 y _ ((unhide hEr).ext (by assumption)) (unhide hnE)).mono ?_; rw [unhide hp']; rintro _ _ ⟨h1, h2⟩; refine ⟨_, h1, ?_, h2⟩; rfl) | (go_at_call 54; refine (in21_any Ac4 cm cc4 x2 y _ ((unhide hCr).ext (by assumption)) (unhide hcl)).mono ?_; rw [unhide hq']; rintro _ _ ⟨h1, h2⟩; refine ⟨_, h1, ?_, h2⟩; rfl)
                        go_frame
                      refine wpQL_nil (fun w3 hx3 => ?_)
                      refine wpX_done (by kernel_rfl) ?_
                      try go_frame
                      have hx3' := hide hx3
                      have hself3 := Ext.refl w3
                      have ca3 := fun (W' : World) (hW : Ext w3 W') => ca W' (hx3.trans hW)
                      have cb3 := fun (W' : World) (hW : Ext w3 W') => cb W' (hx3.trans hW)
                      clear q0 q1 ca cb hself hx3
                      go_wp2_with fail
                      refine wp_region_still (P := Tryz.prog) [0,1,2,3,4,5,6,7,8,9] [11,12] 3 #[true,true,true,true,true,true,true,true,true,true,false,false,false] (by kernel_rfl) (by kernel_rfl) rfl (by rfl) ?_
                      iterate 10
                        refine ql_want (v := ?_) rfl (by rfl) (fun W hW => ?_) ?_
                        rotate_left
                        · go_simp
                          first | done | rfl
                        go_frame
                      refine wpQL_nil (fun w5 hx5 => ?_)
                      have hI5 := hide ((unhide hI4').ext ((unhide hx3').trans hx5))
                      have hs5 := hide ((unhide hs4').ext ((unhide hx3').trans hx5))
                      have ht5 := hide ((unhide ht4').ext ((unhide hx3').trans hx5))
                      have hx5' := hide hx5
                      clear ca3 cb3 hself3 hx5
                      refine lx_one (i := 10) (by kernel_rfl) rfl (by rfl) #[true,true,true,true,true,true,true,true,true,true,true,false,false] (by rfl) ?_
                      go_simp
                      refine ⟨(unhide hx5').alloc _, ?_⟩
                      try go_frame
                      refine lx_ap1 (i := 11) (enc := encP) (by kernel_rfl) rfl (by rfl) #[true,true,true,true,true,true,true,true,true,true,true,true,false] (by rfl) (fun _ _ h => h) rfl infoP21 Tryz.underlying50 one_encP (fun _ => rfl) (by decide) (by decide) rfl (v := .slice Ac4 cm.length cc4) (xs := cm) (y, x2) (by rfl) (by rfl) (Blk.new w5 64 #[.int .i64 y, .int .i64 x2]) (own_ext (unhide hI5).c (ext_self1 w5 _)) (by have := unhide hcl4; omega) (Nat.le_trans (unhide hI5).lb (Below.size (ext_self1 w5 _))) ?_
                      intro A6 c6 w6 ho6 hg6 _
                      obtain ⟨n6, hn6⟩ : ∃ n6, n6 = cm.length + 1 := ⟨_, rfl⟩
                      rw [← hn6] at ho6 ⊢
                      have ho6' := own_n ho6 (m := (cm ++ [(y, x2)]).length) (by rw [hn6, List.length_append]; rfl)
                      obtain ⟨hI6, hk6, hS6⟩ := (unhide hI5).pushC (ext_self1 w5 _) hg6 ho6'
                      have hs6 := hide ((unhide hs5).keepT (unhide ht5) hk6 hS6)
                      have ht6 := hide ((unhide ht5).keep hk6 hS6)
                      have hI6' := hide hI6
                      clear ho6 hg6 hn6 ho6' hI6 hk6 hS6
                      try go_frame
                      refine lx_one (i := 12) (by kernel_rfl) rfl (by rfl) #[true,true,true,true,true,true,true,true,true,true,true,true,true] (by rfl) ?_
                      go_simp
                      refine wpX_done (by kernel_rfl) ?_
                      try go_frame
                      clear hI5 hs5 ht5 hx5'
                      go_wp2_with fail
                      go_roundw
                      case rel => exact ⟨d + 1, _, by omega, by go_num, rfl, by rw [rowR_next, ← unhide hcm']; unfold rowF; rw [unhide hua, unhide hub, if_neg (unhide hadj)]; exact unhide hI6', unhide hs6, unhide ht6⟩
                      case measure => simp [intOf]; omega
                · have hde : d = a := by omega
                  subst hde
                  rw [← pairR_next] at hI4'
                  go_wp2_with fail
                  go_roundw
                  case rel => exact ⟨d + 1, _, by omega, by go_num, rfl, unhide hI4', unhide hs4', unhide ht4'⟩
                  case measure => simp [intOf]; omega
            · have hae : a = near.length := by omega
              subst hae
              obtain ⟨nl, hnl2⟩ : ∃ nl, nl = near.length := ⟨_, rfl⟩
              rw [← hnl2] at ⊢
              have hnl2' := hide hnl2
              have hvl := hide (show vs.length ≤ 10000000 by have := (unhide hI3').n.1; simp [neasR] at this; omega)
              clear hnl2
              try dsimp only
              repeat ((fail_if_success (with_reducible refine wp_reg (id := 20) ?_)); (first | go_values | go_skip | go_step | go_guarded | go_upon | go_in | go_back | fail))
              with_reducible refine wp_reg (id := 20) ?_
              iterate 3
                refine wpO_want rfl ?_
                go_simp
              refine wpO_ap1 rfl infoR Tryz.underlying49 one_encW (fun _ => rfl) (by decide) (by decide) rfl (v := vo) (xs := vs) (An, nl, cn) rfl rfl (Blk.new wr 60 #[.slice An nl cn]) (own_ext (unhide hI3').o (ext_self1 wr _)) (unhide hvl) (Nat.le_trans (unhide hI3').lb (Below.size (ext_self1 wr _))) ?_
              intro A6 c6 w6 ho6 hg6 _
              obtain ⟨n6, hn6⟩ : ∃ n6, n6 = vs.length + 1 := ⟨_, rfl⟩
              rw [← hn6] at ho6 ⊢
              have ho6' := own_n ho6 (m := (vs ++ [((An, nl, cn) : Sl3)]).length) (by rw [hn6, List.length_append]; rfl)
              have hI6 := hide ((unhide hI3').pushO (ext_self1 wr _) hg6 rfl ho6' (unhide hnl2') (unhide hs3') (unhide ht3'))
              clear ho6 hg6 hn6 ho6'
              try go_frame
              refine wpO_want rfl ?_
              go_simp
              refine wpO_done ?_
              try go_frame
              have hnx : NrI w1.heap.size w1 w6 (neasR E L (k + 1)) (vs ++ [((An, nl, cn) : Sl3)]) (.slice A6 n6 c6) vc2 (comR E L (k + 1)) := by
                have h := unhide hI6
                have e1 : neasR E L (k + 1) = neasR E L k ++ [near] := by unfold neasR; rw [List.range_succ, List.map_append, unhide hnear2']; rfl
                have e2 : comR E L (k + 1) = pairR E near come near.length := by rw [unhide hnear2', unhide hce']; rfl
                rw [e1, e2]
                exact h
              have hnx' := hide hnx
              clear hnx
              go_wp2_with fail
              go_roundw
              case rel => exact ⟨k + 1, _, _, _, by omega, by go_num, rfl, rfl, unhide hnx'⟩
              case measure => simp [intOf]; omega
    · have hke : k = L.length := by omega
      subst hke
      obtain ⟨A1, c1, rfl⟩ := own_slice (unhide hI').o
      obtain ⟨A2, c2, rfl⟩ := own_slice (unhide hI').c
      go_wp2_with fail
      go_ret2
      have h := unhide hI'
      exact ⟨A1, c1, A2, c2, vs, by rw [h.n.1]; rfl, own_at (enc := encW) h.o (fun _ => rfl), h.n, own_at (enc := encP) h.c (fun _ => rfl), (unhide hx1).trans h.x⟩
end Go.Proofs.YtjehhilijeajnaaGreatDoor
/- slices.Backward over a slice of ints: what the iterator does. Conditions: see each theorem. -/
namespace Go.Proofs.YtjehhilijeajnaaGreatDoor
open Go Go.RowKit Go.Shelf
attribute [local go_sem] qUpon lUpon

def bwF (L : List Int) (i : Nat) : Int × Int := ((i : Int), L[i]?.getD 0)
/-- places and elements, from the end -/
def bwL (L : List Int) : List (Int × Int) := ((List.range L.length).map (bwF L)).reverse
def exA (A : Option Addr) (L : List Int) : List Nat := if L.length = 0 then [] else match A with | some a => [a.block] | none => []
theorem exA_lt {A : Option Addr} {L : List Int} {w : World} (h : SlAt encI 1 w A L) : ∀ b ∈ exA A L, b < w.heap.size := by
  intro b hb
  unfold exA at hb
  split at hb
  · simp at hb
  · rename_i hne
    obtain ⟨b', off, rfl, hlt, _⟩ := h (by rintro rfl; simp at hne)
    simp at hb
    omega
theorem bw_next (L : List Int) (k : Nat) : ((List.range (k + 1)).map (bwF L)).reverse = bwF L k :: ((List.range k).map (bwF L)).reverse := by
  rw [List.range_succ, List.map_append, List.reverse_append]; rfl

set_option maxRecDepth 100000 in
theorem back_any (A : Option Addr) (n c : Nat) (w : World) : Calls Tryz.prog 43 #[.slice A n c] w fun e w' => e = .returned (.func (.func 79) #[] #[.pointer (some ⟨w.heap.size, 0, none⟩)]) ∧ w' = w.alloc (.cells #[.slice A n c] 29) := by
  go_enter Tryz.func43, Tryz.ntmps43
  go_wp2_with fail
  go_ret
  exact ⟨rfl, rfl⟩

set_option maxRecDepth 100000 in
set_option maxHeartbeats 4000000 in
theorem back_iter (A : Option Addr) (L : List Int) (c bN : Nat) (w : World) (hB : Blk w bN 29 #[.slice A L.length c]) (hL : SlAt encI 1 w A L) (hl : L.length ≤ 100000000) :
    Iter1 Tryz.prog 79 #[.pointer (some ⟨bN, 0, none⟩)] (fun p : Int × Int => #[.int .i64 p.1, .int .i64 p.2]) (bwL L) 0 (bN :: exA A L) w := by
  intro l J Jx W hW hJ hJx hY h0
  have hBW := hide (hB.ext hW)
  have hLW := hide (hL.ext hW)
  have hl' := hide hl
  have hY' := hide hY
  have h0' := hide h0
  have c0 := (unhide hBW).cells 0 (v := .slice A L.length c) rfl
  have hself := Ext.refl W
  clear hB hL hW hJ hJx hY h0 hl
  refine callsIn_of_wp Tryz.func79 rfl trivial ?_ rfl
  simp only [Tryz.ntmps79, List.size_toArray, List.length_cons, List.length_nil, Nat.reduceAdd, Nat.reduceSub, Array.replicate_succ, Array.replicate_zero, List.push_toArray, List.append_toArray, List.nil_append, List.cons_append]
  try dsimp only
  repeat (first | (with_reducible refine wpW_reg (id := 0) (by kernel_rfl) ?_) | go_values | gi_step | gi_guarded | gi_upon | gi_in | gi_back | fail)
  iterate 4
    refine wpO_want rfl ?_
    go_simp
  refine wpO_done ?_
  have hm1 : IntKind.i64.wrap ((L.length : Int) - 1) = (L.length : Int) - 1 := IntWalk.i64_in _ (by have := unhide hl'; omega)
  try rw [hm1]
  clear c0 hself hm1
  gi_wp2_with fail
  gi_loopw [3] (fun i wr => ∃ (pre : List (Int × Int)) (k : Nat), k ≤ L.length ∧ bwL L = pre ++ ((List.range k).map (bwF L)).reverse ∧ i = .int .i64 ((k : Int) - 1) ∧ Blk wr bN 29 #[.slice A L.length c] ∧ SlAt encI 1 wr A L ∧ J pre wr ∧ W.heap.size ≤ wr.heap.size) (fun i _ => (intOf i + 1).toNat)
  case atStart => exact ⟨[], L.length, Nat.le_refl _, rfl, rfl, unhide hBW, unhide hLW, unhide h0', Nat.le_refl _⟩
  case round =>
    obtain ⟨pre, k, hk, hpre, rfl, hB, hL, hJp, hsz⟩ := hrel
    cases k with
    | zero =>
      rw [List.range_zero, List.map_nil, List.reverse_nil, List.append_nil] at hpre
      have hJp' := hide hJp
      have hpre' := hide hpre
      clear hB hL hJp hpre hY' h0' hBW hLW hsz
      gi_wp2_with fail
      go_end0
      exact ⟨⟨_, rfl⟩, .inl (by rw [unhide hpre']; exact unhide hJp')⟩
    | succ k =>
      rw [bw_next] at hpre
      have hp1 : (pre ++ [bwF L k]) <+: bwL L := ⟨((List.range k).map (bwF L)).reverse, by rw [hpre]; simp⟩
      obtain ⟨fn, tmps, assign, body, hy, hRd⟩ := unhide hY' pre (bwF L k) wr hJp hp1 hsz
      obtain ⟨b, off, rfl, d0⟩ := atI hL hk
      have hx : bwF L k = ((k : Int), L[k]) := by unfold bwF; rw [List.getElem?_eq_getElem hk, Option.getD_some]
      rw [hx] at hy
      simp only at hy
      have hB' := hide hB
      have hL' := hide hL
      have hpre' := hide hpre
      have hRd' := hide hRd
      have hsz' := hide hsz
      have c0 := hB.cells 0 (v := .slice (some ⟨b, off, none⟩) L.length c) rfl
      have hself := Ext.refl wr
      have hk1 : ((k + 1 : Nat) : Int) - 1 = (k : Int) := by omega
      generalize L[k] = x at d0 hy
      clear hB hL hJp hpre h0' hBW hLW hRd hsz hp1 hY' hx
      rw [hk1]
      clear hk1
      gi_wp2_with fail
      refine ⟨rfl, (unhide hRd').mono ?_⟩
      rintro e W6 ⟨(⟨rfl, hJ6⟩ | ⟨rfl, hJx6⟩), hsame, hsz6⟩
      · have hB6 := hide ((unhide hB').of_block (hsame bN (List.mem_append.2 (.inr (by simp)))))
        have hL6 := hide ((unhide hL').of_blocks hsz6 (fun b' off' e _ => hsame b' (List.mem_append.2 (.inr (by injection e with e; injection e with e1; subst e1; have hne : L.length ≠ 0 := (by omega); simp [exA, hne])))))
        have hJ6' := hide hJ6
        have hsz6' := hide (Nat.le_trans (unhide hsz') hsz6)
        clear hsame hsz6 hB' hL' hJ6 hRd' hsz' hy c0 d0 hself
        have hkl : (k : Int) < 100000000 := by have := unhide hl'; omega
        gi_wp2_with fail
        go_roundw
        case rel => exact ⟨pre ++ [bwF L k], k, by omega, by rw [unhide hpre']; simp, by go_num, unhide hB6, unhide hL6, unhide hJ6', unhide hsz6'⟩
        case measure => simp [intOf]
      · have hJx6' := hide hJx6
        clear hJx6 hsame hsz6 hy hRd'
        gi_wp2_with fail
        refine bodyPost_ret (results_none rfl _ _ _) rfl ?_
        exact ⟨⟨_, rfl⟩, .inr ⟨_, unhide hJx6'⟩⟩
end Go.Proofs.YtjehhilijeajnaaGreatDoor
/- elimination.Height. Conditions: see each theorem. -/
namespace Go.Proofs.YtjehhilijeajnaaGreatDoor
open Go Go.RowKit Go.Shelf
attribute [local go_sem] qUpon lUpon

/-- parents come later, or are none -/
def UpOK (P : List Int) : Prop := ∀ i (h : i < P.length), P[i] = -1 ∨ (i : Int) < P[i] ∧ P[i] < P.length
/-- how deep a position lies -/
def depF (P : List Int) : Nat → Nat → Int
  | 0, _ => 0
  | f + 1, i => if 0 ≤ P[i]?.getD (-1) then 1 + depF P f (P[i]?.getD (-1)).toNat else 1
def dep (P : List Int) (i : Nat) : Int := depF P (P.length - i) i
theorem depF_fuel {P : List Int} (hP : UpOK P) : ∀ (f g i : Nat), P.length - i ≤ f → P.length - i ≤ g → i < P.length → depF P f i = depF P g i
  | 0, _, i, h, _, hi => by omega
  | _ + 1, 0, i, _, h, hi => by omega
  | f + 1, g + 1, i, h1, h2, hi => by
    unfold depF
    have hg : P[i]?.getD (-1) = P[i] := by simp [hi]
    rw [hg]
    rcases hP i hi with h | ⟨h3, h4⟩
    · rw [h]; rfl
    · rw [if_pos (by omega), if_pos (by omega), depF_fuel hP f g P[i].toNat (by omega) (by omega) (by omega)]
theorem dep_none {P : List Int} {i : Nat} (hi : i < P.length) (h : P[i] < 0) : dep P i = 1 := by
  unfold dep
  obtain ⟨f, hf⟩ : ∃ f, P.length - i = f + 1 := ⟨P.length - i - 1, by omega⟩
  rw [hf]
  unfold depF
  rw [show P[i]?.getD (-1) = P[i] by simp [hi], if_neg (by omega)]
theorem dep_some {P : List Int} (hP : UpOK P) {i : Nat} (hi : i < P.length) (h : 0 ≤ P[i]) : dep P i = 1 + dep P P[i].toNat := by
  unfold dep
  obtain ⟨f, hf⟩ : ∃ f, P.length - i = f + 1 := ⟨P.length - i - 1, by omega⟩
  rw [hf]
  have hg : P[i]?.getD (-1) = P[i] := by simp [hi]
  rcases hP i hi with h2 | ⟨h3, h4⟩
  · omega
  · rw [← depF_fuel hP f (P.length - P[i].toNat) P[i].toNat (by omega) (by omega) (by omega)]
    conv => lhs; unfold depF
    rw [hg, if_pos (by omega)]
theorem dep_bound {P : List Int} (f i : Nat) : 0 ≤ depF P f i ∧ depF P f i ≤ f := by
  induction f generalizing i with
  | zero => unfold depF; omega
  | succ f ih =>
    unfold depF
    split
    · have := ih (P[i]?.getD (-1)).toNat; omega
    · omega
/-- the array, from position k on -/
def dA (P : List Int) (k : Nat) : Array Value := ((List.range P.length).map fun j => Value.int .i64 (if k ≤ j then dep P j else 0)).toArray
theorem dA_size (P : List Int) (k : Nat) : (dA P k).size = P.length := by simp [dA]
theorem dA_get (P : List Int) (k : Nat) {j : Nat} (hj : j < P.length) : (dA P k)[j]? = some (.int .i64 (if k ≤ j then dep P j else 0)) := by
  simp [dA, hj]
theorem dA_set (P : List Int) (k : Nat) : (dA P (k + 1)).setIfInBounds k (.int .i64 (dep P k)) = dA P k := by
  apply Array.ext_getElem?
  intro j
  by_cases hj : j < P.length
  · rw [Array.getElem?_setIfInBounds, dA_size, dA_get P k hj, dA_get P (k + 1) hj]
    by_cases hk : k = j
    · subst hk; simp [hj]
    · rw [if_neg hk]
      have : (k + 1 ≤ j) = (k ≤ j) := by rw [eq_iff_iff]; omega
      simp only [this]
  · rw [Array.getElem?_eq_none (by simp [dA_size]; omega), Array.getElem?_eq_none (by rw [dA_size]; omega)]
theorem set_set (cs : Array Value) (i : Nat) (u v : Value) : (cs.setIfInBounds i u).setIfInBounds i v = cs.setIfInBounds i v := by
  apply Array.ext_getElem?
  intro j
  simp only [Array.getElem?_setIfInBounds, Array.size_setIfInBounds]
  split <;> rfl
theorem dA_zero (P : List Int) : dA P P.length = Array.replicate P.length (.int .i64 0) := by
  apply Array.ext_getElem?
  intro j
  by_cases hj : j < P.length
  · rw [dA_get P _ hj, if_neg (by omega), Array.getElem?_replicate, if_pos hj]
  · rw [Array.getElem?_eq_none (by rw [dA_size]; omega), Array.getElem?_eq_none (by simp; omega)]
set_option maxRecDepth 100000 in
theorem run_mk_ints (P : List Int) (hn : P.length ≤ 100000) (w : World) : (Instr.makeSlice 29 (.int .i64 P.length) (.int .i64 P.length)).run Tryz.prog w = .ok (.slice (some ⟨w.heap.size, 0, none⟩) P.length P.length) (w.alloc (.cells (dA P P.length) 3)) := by
  obtain ⟨i0, hi, hi1⟩ := Option.map_eq_some_iff.1 infoI
  simp only [Prod.mk.injEq] at hi1
  obtain ⟨hz1, hz2, hz3⟩ := hi1
  obtain ⟨z0, hz, hz4⟩ := Option.map_eq_some_iff.1 hz1
  have hzc : z0 = .int .i64 0 := by
    have h1 : Tryz.prog.info? 3 = some i0 := hi
    have h2 : (Tryz.prog.info? 3).bind (·.zero) = some (.int .i64 0) := by kernel_rfl
    rw [h1] at h2
    simp only [Option.bind_some] at h2
    rw [hz] at h2
    exact Option.some.inj h2
  subst hzc
  have h := run_make (P := Tryz.prog) w 29 3 i0 (.int .i64 0) Tryz.underlying29 hi hz .i64 .i64 P.length P.length (by omega) (Int.le_refl _) (by rw [hz3]; omega) (by omega)
  rw [hz2] at h
  simp only [Int.toNat_natCast, Nat.mul_one] at h
  rw [h, dA_zero]
  congr 3
  apply Array.ext_getElem?
  intro j
  by_cases hj : j < P.length
  · simp [madeCells, Value.cells, hj, Nat.mod_one]
  · rw [Array.getElem?_eq_none (by simp [madeCells]; omega), Array.getElem?_eq_none (by simp; omega)]
/-- the greatest depth so far -/
def mostF (P : List Int) (pre : List (Int × Int)) : Int := pre.foldl (fun m p => max m (dep P p.1.toNat)) 0
def hgtM (P : List Int) : Int := mostF P (bwL P)
theorem bw_at {P : List Int} {pre : List (Int × Int)} {x : Int × Int} (h : (pre ++ [x]) <+: bwL P) : ∃ hk : P.length - 1 - pre.length < P.length, pre.length < P.length ∧ x = (((P.length - 1 - pre.length : Nat) : Int), P[P.length - 1 - pre.length]) := by
  obtain ⟨r, hr⟩ := h
  have hlen : (bwL P).length = P.length := by simp [bwL]
  have hl : pre.length < P.length := by rw [← hlen, ← hr, List.length_append, List.length_append, List.length_singleton]; omega
  have hx : (bwL P)[pre.length]? = some x := by rw [← hr]; simp
  unfold bwL at hx
  rw [List.getElem?_reverse (by simpa using hl)] at hx
  simp only [List.length_map, List.length_range] at hx
  have hk : P.length - 1 - pre.length < P.length := by omega
  rw [List.getElem?_map, List.getElem?_range hk] at hx
  simp only [Option.map_some, Option.some.injEq] at hx
  refine ⟨hk, hl, ?_⟩
  rw [← hx]
  unfold bwF
  rw [List.getElem?_eq_getElem hk, Option.getD_some]
theorem zip2 (tm : Array Value) (p q : Nat) (u v : Value) : (#[p, q].zip #[u, v]).foldl (fun t (q : Nat × Value) => t.setIfInBounds q.1 q.2) tm = (tm.setIfInBounds p u).setIfInBounds q v := by simp [Array.zip]

theorem depF_bound (P : List Int) (i : Nat) : 0 ≤ dep P i ∧ dep P i ≤ P.length := by
  have := dep_bound (P := P) (P.length - i) i
  unfold dep
  omega
/-- within the loop -/
def HtI (P : List Int) (bd bm : Nat) (w0 : World) (pre : List (Int × Int)) (W : World) : Prop :=
  Blk W bd 3 (dA P (P.length - pre.length)) ∧ Blk W bm 3 #[.int .i64 (mostF P pre)] ∧ Keep [bd, bm] w0 W

theorem HtI.keep {P : List Int} {bd bm n B : Nat} {w0 W W' : World} {pre : List (Int × Int)} (h : HtI P bd bm w0 pre W) (k : Keep (privs B n) W W') (hS : bd < B ∧ bm < B ∧ w0.heap.size ≤ B) : HtI P bd bm w0 pre W' :=
  ⟨h.1.keep k (by rw [mem_privs]; omega), h.2.1.keep k (by rw [mem_privs]; omega), h.2.2.of_new k (fun x hx => by rw [mem_privs] at hx; right; omega)⟩
set_option maxRecDepth 100000 in
set_option maxHeartbeats 8000000 in
theorem height_gen (x y : Value) (P : List Int) (er : Int) (w : World) (hP : UpOK P) (hn : P.length ≤ 100000)
    (hpar : Calls Tryz.prog 12 #[x, y] w fun e w' => ∃ A' c', e = .returned (.tuple #[.slice A' P.length c', .int .i64 er]) ∧ SlAt encI 1 w' A' P ∧ Ext w w') :
    Calls Tryz.prog 13 #[x, y] w fun e w' => e = .returned (.tuple #[.int .i64 (hgtM P), .int .i64 er]) ∧ Ext w w' := by
  have hP' := hide hP
  have hn' := hide hn
  have hpar' := hide hpar
  clear hP hpar
  refine callsIn_wide.1 (callsIn_of_wp_marks (n := 0) Tryz.func13 rfl trivial (wpIn_wide.2 ?_))
  simp only [Tryz.ntmps13, List.size_toArray, List.length_cons, List.length_nil, Nat.reduceAdd, Nat.reduceSub, Array.replicate_succ, Array.replicate_zero, List.push_toArray, List.append_toArray, List.nil_append, List.cons_append]
  go_wp2_with fail
  refine (unhide hpar').mono ?_
  rintro e w1 ⟨A1, c1, rfl, hs1, hx1⟩
  have hs1' := hide hs1
  have hx1' := hide hx1
  clear hs1 hx1 hpar'
  have hmk := run_mk_ints P hn
  try dsimp only
  repeat (first | (with_reducible refine wp_reg (id := 2) ?_) | go_values | go_step | go_guarded | go_upon | go_in | go_back | fail)
  iterate 5
    refine wpO_want rfl ?_
    go_simp
  refine wpO_done ?_
  try go_frame
  clear hmk
  have hx2 := hide (ext_self2 w1 (.cells (dA P P.length) 3) (.cells #[.slice (some ⟨w1.heap.size, 0, none⟩) P.length P.length] 29))
  have hBd := hide ((Blk.new w1 3 (dA P P.length)).ext (ext_self1 _ (.cells #[.slice (some ⟨w1.heap.size, 0, none⟩) P.length P.length] 29)))
  have hB8 := hide (Blk.new (w1.alloc (.cells (dA P P.length) 3)) 29 #[.slice (some ⟨w1.heap.size, 0, none⟩) P.length P.length])
  have hz2 := hide (show ((w1.alloc (.cells (dA P P.length) 3)).alloc (.cells #[.slice (some ⟨w1.heap.size, 0, none⟩) P.length P.length] 29)).heap.size = w1.heap.size + 2 by simp)
  rw [World.size_alloc] at hB8
  have hzw := hide (Below.size (unhide hx1'))
  have hex1 := hide (exA_lt (unhide hs1'))
  generalize (w1.alloc (.cells (dA P P.length) 3)).alloc (.cells #[.slice (some ⟨w1.heap.size, 0, none⟩) P.length P.length] 29) = w2 at *
  generalize w1.heap.size = bd at *
  try dsimp only
  repeat (first | (with_reducible refine wp_reg (id := 3) ?_) | go_values | go_step | go_guarded | go_upon | go_in | go_back | fail)
  iterate 2
    refine wpO_want rfl ?_
    go_simp
  refine wpO_done ?_
  try go_frame
  rw [unhide hz2]
  have hBm := hide (Blk.new w2 3 #[.int .i64 0])
  rw [unhide hz2] at hBm
  have hx3 := hide ((unhide hx2).trans (ext_self1 w2 (.cells #[.int .i64 0] 3)))
  have hBd3 := hide ((unhide hBd).ext (ext_self1 w2 (.cells #[.int .i64 0] 3)))
  have hB83 := hide ((unhide hB8).ext (ext_self1 w2 (.cells #[.int .i64 0] 3)))
  have hz3 := hide (World.size_alloc w2 (.cells #[.int .i64 0] 3))
  rw [unhide hz2] at hz3
  generalize w2.alloc (.cells #[.int .i64 0] 3) = w3 at *
  clear hBd hB8 hx2
  try dsimp only
  repeat (first | (with_reducible refine wp_reg (id := 4) ?_) | go_values | go_step | go_guarded | go_upon | go_in | go_back | fail)
  refine wpO_want rfl ?_
  go_simp
  refine wpO_want rfl ?_
  go_simp
  refine (back_any _ _ _ w3).mono ?_
  rintro e w4 ⟨rfl, rfl⟩
  refine ⟨_, rfl, ?_⟩
  refine wpO_done ?_
  try go_frame
  rw [unhide hz3]
  have hBs := hide (Blk.new w3 29 #[.slice A1 P.length c1])
  rw [unhide hz3] at hBs
  have hx4 := hide ((unhide hx3).trans (ext_self1 w3 (.cells #[.slice A1 P.length c1] 29)))
  have hBd4 := hide ((unhide hBd3).ext (ext_self1 w3 (.cells #[.slice A1 P.length c1] 29)))
  have hB84 := hide ((unhide hB83).ext (ext_self1 w3 (.cells #[.slice A1 P.length c1] 29)))
  have hBm4 := hide ((unhide hBm).ext (ext_self1 w3 (.cells #[.slice A1 P.length c1] 29)))
  have hz4 := hide (World.size_alloc w3 (.cells #[.slice A1 P.length c1] 29))
  rw [unhide hz3] at hz4
  have hs4 := hide ((unhide hs1').ext (unhide hx4))
  generalize w3.alloc (.cells #[.slice A1 P.length c1] 29) = w4 at *
  clear hBd3 hB83 hBm hx3
  go_wp2_with fail
  refine wp_range (gf := 79) (lb := #[.pointer (some ⟨bd + 2 + 1, 0, none⟩)]) rfl (enters_of Tryz.func79 (by kernel_rfl) rfl) (ex := (bd + 2 + 1) :: exA A1 P) (by intro b hb; have h1 := unhide hz4; rcases List.mem_cons.1 hb with rfl | hb; (· omega); (· have := unhide hex1 b hb; omega))
    (back_iter A1 P c1 (bd + 2 + 1) w4 (unhide hBs) (unhide hs4) (by omega)) (fun _ => rfl)
    (fun pre W => HtI P bd (bd + 2) w4 pre W) (fun _ _ _ => False)
    (fun tm pre p a1 W => HtI P bd (bd + 2) w4 pre W ∧ a1 = ⟨(((tm.setIfInBounds 23 (.int .i64 p.1)).setIfInBounds 24 (.int .i64 p.2)).setIfInBounds 10 (.int .i64 p.1)).setIfInBounds 11 (.int .i64 p.2), []⟩)
    (fun pre A1 A2 h hk => h.keep hk (by have := unhide hz4; omega)) (fun _ _ _ _ h => h.elim)
    (fun pre u a1 A1 A2 h hk => ⟨h.1.keep hk (by have := unhide hz4; omega), h.2⟩)
    ⟨by simpa using unhide hBd4, unhide hBm4, Keep.refl _ _⟩ ?_ ?_ ?_ (fun _ _ _ h => h.elim)
  · intro pre p W K hI hpre hsz hK
    have hK' := hide hK
    clear hK
    rw [zip2]
    simp only [List.setIfInBounds_toArray, List.set_cons_succ, List.set_cons_zero]
    try dsimp only
    repeat (first | (with_reducible refine wpI_reg (id := 5) (by kernel_rfl) ?_) | go_values | gi_step | gi_guarded | gi_upon | gi_in | gi_back | fail)
    refine wpO_want rfl ?_
    go_simp
    refine wpO_done ?_
    try go_frame
    try dsimp only
    repeat (first | (with_reducible refine wpI_reg (id := 6) (by kernel_rfl) ?_) | go_values | gi_step | gi_guarded | gi_upon | gi_in | gi_back | fail)
    refine wpO_want rfl ?_
    go_simp
    refine wpO_done ?_
    try go_frame
    exact unhide hK' _ _ ⟨hI, rfl⟩ (Same.refl _ _) (Nat.le_refl _)
  · rintro pre p a1 W ⟨⟨hD, hM, hkW⟩, rfl⟩ hpre hsz ⟨r, hr⟩
    simp only [List.setIfInBounds_toArray, List.set_cons_succ, List.set_cons_zero]
    obtain ⟨hk, hpl, hx⟩ := bw_at hpre
    have hlen : P.length - pre.length = P.length - 1 - pre.length + 1 := by omega
    have hlen2 : P.length - (pre ++ [p]).length = P.length - 1 - pre.length := by simp; omega
    have hmo : mostF P (pre ++ [p]) = max (mostF P pre) (dep P (P.length - 1 - pre.length)) := by
      unfold mostF
      rw [List.foldl_append, hx]
      simp
    have hup := unhide hP' _ hk
    have hd0 := dep_none hk
    have hd1 := dep_some (unhide hP') hk
    rw [hlen] at hD
    generalize P.length - 1 - pre.length = k at *
    generalize hu : P[k] = up at *
    subst hx
    have hfin : ∀ W', Blk W' bd 3 (dA P k) → Blk W' (bd + 2) 3 #[.int .i64 (max (mostF P pre) (dep P k))] → Keep [bd, bd + 2] W W' → rPost (privs w4.heap.size (2 + 0) ++ ((bd + 2 + 1) :: exA A1 P)) (fun pre W => HtI P bd (bd + 2) w4 pre W) (fun _ _ _ => False) (pre ++ [((k : Int), up)]) W .normal ⟨#[], []⟩ W' := fun W' h1 h2 h3 => by
      refine ⟨h3.size, Same.of_keep h3 fun z hz => ?_, ?_, ?_, hkW.trans h3⟩
      · have h4 := unhide hz4
        have h5 := unhide hz2
        simp only [List.mem_append, List.mem_cons, mem_privs, List.not_mem_nil, or_false] at hz ⊢
        rcases hz with hz | hz | hz
        · omega
        · omega
        · have := unhide hex1 z hz
          omega
      · rw [hlen2]; exact h1
      · rw [hmo]; exact h2
    have hfin' := hide hfin
    have hkl : (k : Int) < 100000 := by omega
    have hB8W := (unhide hB84).keep hkW (by simp)
    have c8 := hB8W.cell 0
    have c8e := hB8W.cells 0 (v := .slice (some ⟨bd, 0, none⟩) P.length P.length) rfl
    have cd := hD.cell k
    rw [dA_get P _ hk, if_neg (by omega)] at cd
    have fd := hD.frozen k
    have hself := Ext.refl W
    have hD' := hide hD
    have hM' := hide hM
    have hkW' := hide hkW
    have hB8' := hide hB8W
    clear hfin hD hM hkW hpre hsz hr hlen hlen2 hmo hpl hB8W c8 hn
    try dsimp only
    repeat (first | (with_reducible refine wpI_reg (id := 7) (by kernel_rfl) ?_) | go_values | gi_step | gi_guarded | gi_upon | gi_in | gi_back | fail)
    iterate 4
      refine wpO_want rfl ?_
      go_simp
    refine wpO_done ?_
    try go_frame
    have hD7 := hide ((unhide hD').set k (.int .i64 1))
    have hM7 := hide ((unhide hM').keep (Keep.setCell W bd k (.int .i64 1)) (by simp))
    have hB7 := hide ((unhide hB8').keep (Keep.setCell W bd k (.int .i64 1)) (by simp))
    have hk7 := hide ((Keep.setCell W bd k (.int .i64 1)).mono (S' := [bd, bd + 2]) (by simp))
    clear hD' hM' hB8' cd fd hself c8e
    generalize W.setCell ⟨bd, k, none⟩ (.int .i64 1) = W7 at *
    rcases hup with rfl | ⟨hu1, hu2⟩
    · rw [← hd0 (by omega), dA_set] at hD7
      clear hd0 hd1
      try dsimp only
      repeat (first | (with_reducible refine wpI_reg (id := 8) (by kernel_rfl) ?_) | go_values | gi_step | gi_guarded | gi_upon | gi_in | gi_back | fail)
      iterate 2
        refine wpO_want rfl ?_
        go_simp
      refine wpO_done ?_
      try go_frame
      have b7 := (unhide hB7).cells 0 (v := .slice (some ⟨bd, 0, none⟩) P.length P.length) rfl
      have e1 := (unhide hD7).cells k (v := .int .i64 (dep P k)) (by rw [dA_get P _ hk, if_pos (Nat.le_refl _)])
      have e2 := (unhide hM7).cells 0 (v := .int .i64 (mostF P pre)) rfl
      have hself := Ext.refl W7
      gi_wp2_with fail
      refine wpI_region_ext (P := Tryz.prog) [0,1,2,3,4,5] [6] 1 #[true,true,true,true,true,true,false] (by kernel_rfl) (by kernel_rfl) (by kernel_rfl) rfl (by rfl) ?_
      iterate 6
        refine ql_want (v := ?_) rfl (by rfl) (fun W hW => ?_) ?_
        rotate_left
        · go_simp
          first | done | rfl
        go_frame
      refine wpQL_nil (fun w10 hx10 => ?_)
      have hM10 := (unhide hM7).ext hx10
      have e3 := hM10.cell 0
      simp at e3
      have f3 := hM10.frozen 0
      refine lx_one (i := 6) (by kernel_rfl) rfl (by rfl) #[true,true,true,true,true,true,true] (by rfl) ?_
      go_simp
      intro w11 hx11
      refine wpX_done (by kernel_rfl) ?_
      try go_frame
      have hD11 := hide ((((unhide hD7).ext hx10).keep (Keep.setCell w10 (bd + 2) 0 (.int .i64 (max (mostF P pre) (dep P k)))) (by simp)).ext hx11)
      have hM11 := hide ((hM10.set 0 (.int .i64 (max (mostF P pre) (dep P k)))).ext hx11)
      have hk11 := hide ((((unhide hk7).trans (hx10.keep _)).trans ((Keep.setCell w10 (bd + 2) 0 (.int .i64 (max (mostF P pre) (dep P k)))).mono (S' := [bd, bd + 2]) (by simp))).trans (hx11.keep _))
      clear b7 e1 e2 hself hx10 hM10 e3 f3 hx11
      gi_wp2_with fail
      exact unhide hfin' _ (unhide hD11) (unhide hM11) (unhide hk11)
    · obtain ⟨m, rfl⟩ : ∃ m : Nat, up = (m : Int) := ⟨up.toNat, by omega⟩
      replace hd1 := hd1 (by omega)
      rw [Int.toNat_natCast] at hd1
      have hm1 : m < P.length := by omega
      have hkm : k ≠ m := by omega
      have b7 := (unhide hB7).cells 0 (v := .slice (some ⟨bd, 0, none⟩) P.length P.length) rfl
      have e1 := (unhide hD7).cells k (v := .int .i64 1) (by rw [Array.getElem?_setIfInBounds, dA_size, if_pos rfl, if_pos hk])
      have e2 := (unhide hD7).cells m (v := .int .i64 (dep P m)) (by rw [Array.getElem?_setIfInBounds, if_neg hkm, dA_get P _ hm1, if_pos (by omega)])
      have hdb := depF_bound P m
      have hself := Ext.refl W7
      have hn1 := unhide hn'
      have hd1' := hide hd1
      have hdw : IntKind.i64.wrap (1 + dep P m) = 1 + dep P m := IntWalk.i64_in _ (by omega)
      clear hd0 hd1 hkm
      try dsimp only
      repeat (first | (with_reducible refine wpI_reg (id := 8) (by kernel_rfl) ?_) | go_values | gi_step | gi_guarded | gi_upon | gi_in | gi_back | fail)
      iterate 2
        refine wpO_want rfl ?_
        go_simp
      refine wpO_done ?_
      try go_frame
      gi_wp2_with fail
      refine wpI_region_ext (P := Tryz.prog) [0,1,2,3,4,5,6,7,8,9] [10] 1 #[true,true,true,true,true,true,true,true,true,true,false] (by kernel_rfl) (by kernel_rfl) (by kernel_rfl) rfl (by rfl) ?_
      iterate 10
        refine ql_want (v := ?_) rfl (by rfl) (fun W hW => ?_) ?_
        rotate_left
        · go_simp
          first | done | rfl
        go_frame
      refine wpQL_nil (fun w8 hx8 => ?_)
      have hD8 := (unhide hD7).ext hx8
      have e3 := hD8.cell k
      rw [Array.getElem?_setIfInBounds, dA_size, if_pos rfl, if_pos hk] at e3
      have f3 := hD8.frozen k
      refine lx_one (i := 10) (by kernel_rfl) rfl (by rfl) #[true,true,true,true,true,true,true,true,true,true,true] (by rfl) ?_
      go_simp
      intro w9 hx9
      refine wpX_done (by kernel_rfl) ?_
      try go_frame
      have hD9 := (hD8.set k (.int .i64 (1 + dep P m))).ext hx9
      rw [← unhide hd1', set_set, dA_set] at hD9
      have hD9' := hide hD9
      have hM9 := hide ((((unhide hM7).ext hx8).keep (Keep.setCell w8 bd k (.int .i64 (1 + dep P m))) (by simp)).ext hx9)
      have hB9 := hide ((((unhide hB7).ext hx8).keep (Keep.setCell w8 bd k (.int .i64 (1 + dep P m))) (by simp)).ext hx9)
      have hk9 := hide ((((unhide hk7).trans (hx8.keep _)).trans ((Keep.setCell w8 bd k (.int .i64 (1 + dep P m))).mono (S' := [bd, bd + 2]) (by simp))).trans (hx9.keep _))
      clear hD7 hM7 hB7 hk7 b7 e1 e2 hself hx8 hD8 e3 f3 hx9 hD9
      clear W7 w8
      have hD7 := hD9'
      have hM7 := hM9
      have hB7 := hB9
      have hk7 := hk9
      clear hD9' hM9 hB9 hk9
      have b7 := (unhide hB7).cells 0 (v := .slice (some ⟨bd, 0, none⟩) P.length P.length) rfl
      have e1 := (unhide hD7).cells k (v := .int .i64 (dep P k)) (by rw [dA_get P _ hk, if_pos (Nat.le_refl _)])
      have e2 := (unhide hM7).cells 0 (v := .int .i64 (mostF P pre)) rfl
      have hself := Ext.refl w9
      gi_wp2_with fail
      refine wpI_region_ext (P := Tryz.prog) [0,1,2,3,4,5] [6] 1 #[true,true,true,true,true,true,false] (by kernel_rfl) (by kernel_rfl) (by kernel_rfl) rfl (by rfl) ?_
      iterate 6
        refine ql_want (v := ?_) rfl (by rfl) (fun W hW => ?_) ?_
        rotate_left
        · go_simp
          first | done | rfl
        go_frame
      refine wpQL_nil (fun w10 hx10 => ?_)
      have hM10 := (unhide hM7).ext hx10
      have e3 := hM10.cell 0
      simp at e3
      have f3 := hM10.frozen 0
      refine lx_one (i := 6) (by kernel_rfl) rfl (by rfl) #[true,true,true,true,true,true,true] (by rfl) ?_
      go_simp
      intro w11 hx11
      refine wpX_done (by kernel_rfl) ?_
      try go_frame
      have hD11 := hide ((((unhide hD7).ext hx10).keep (Keep.setCell w10 (bd + 2) 0 (.int .i64 (max (mostF P pre) (dep P k)))) (by simp)).ext hx11)
      have hM11 := hide ((hM10.set 0 (.int .i64 (max (mostF P pre) (dep P k)))).ext hx11)
      have hk11 := hide ((((unhide hk7).trans (hx10.keep _)).trans ((Keep.setCell w10 (bd + 2) 0 (.int .i64 (max (mostF P pre) (dep P k)))).mono (S' := [bd, bd + 2]) (by simp))).trans (hx11.keep _))
      clear b7 e1 e2 hself hx10 hM10 e3 f3 hx11
      gi_wp2_with fail
      exact unhide hfin' _ (unhide hD11) (unhide hM11) (unhide hk11)
  · intro W hI hDf
    obtain ⟨hD, hM, hkW⟩ := hI
    have c0 := hM.cells 0 (v := .int .i64 (mostF P (bwL P))) rfl
    have hself := Ext.refl W
    have hxW := hide ((((unhide hx1').trans (unhide hx4)).keep []).of_new hkW (by have := unhide hzw; intro z hz; simp at hz; omega))
    have hDf' := hide hDf
    have hzf := hide (show w.heap.size ≤ w4.heap.size by have := unhide hzw; have := unhide hz4; omega)
    clear hD hM hkW hDf
    go_wp2_with fail
    refine leaves_marks (B := w.heap.size) _ _ (.cons (unhide hzf) (unhide hDf') (by simp) (.nil _)) ?_
    rintro w' ⟨S, hS, hkS⟩
    refine ⟨_, results_tmp2 rfl _ _ _, rfl, ((unhide hxW).of_new hkS (fun x hx => ?_)).ext⟩
    obtain ⟨d, hd, e⟩ := hS x hx
    rw [List.mem_singleton] at hd
    subst hd
    injection e with e
    have := unhide hzf
    right; omega
end Go.Proofs.YtjehhilijeajnaaGreatDoor
