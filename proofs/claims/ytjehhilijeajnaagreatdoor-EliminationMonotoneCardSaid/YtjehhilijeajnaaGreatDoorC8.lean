/- Parts of a proof, laid together: N2, R2, R3, Sl, Md. Each part says its own conditions. -/
import Derived.Test.YtjehhilijeajnaaGreatDoorC7
import Derived.Test.YtjehhilijeajnaaGreatDoorC6
import Derived.Test.YtjehhilijeajnaaGreatDoorC3
/- palmetteref21.Near: the walk. Conditions: see each theorem. -/
namespace Go.Proofs.YtjehhilijeajnaaGreatDoor
open Go Go.RowKit
attribute [local go_sem] qUpon lUpon

/-- append of one element, as a step of a drawn region -/
theorem lx_ap1 {α : Type} {enc : α → List Value} {T ST : TypeId} {kk byt : Nat} {R : World → World → Prop} {C : World → Prop} {safe : Nat → Bool} {Q : Act → World → Prop} {l : List Oper} {n i : Nat} {o : Oper} {s x : Operand} {listed : Array Bool} {a : Act} {W : World}
    (hr : Region.ready .any l.toArray listed = [i]) (ho0 : pick l i = some o) (hw : Region.wanted o (yielded l.toArray a.tmps) = true) (listed' : Array Bool) (hli : listed.setIfInBounds i true = listed') (hR : ∀ a b, R a b → b = a) (hs : safe i = false)
    (hi0 : (Tryz.prog.info? T).map (fun i => (i.zero.map (·.cells.size), i.size, i.bytes)) = some (some kk, kk, byt)) (hu : Tryz.prog.underlying ST = some (.slice T)) (hone : ∀ x, ∀ v ∈ enc x, v.oneCell' = true) (hlen : ∀ x, (enc x).length = kk) (hk : 0 < kk) (hby : byt ≤ 1000)
    (ho : o.op = .call { callee := .builtin .append, args := #[s, x], argTypes := #[ST, ST] }) {base : Nat} {v : Value} {m : Nat} {xs : List α} (e : α) {g : Nat} {t : TypeId} (hsv : a.eval s = v) (hx : a.eval x = .slice (some ⟨g, 0, none⟩) 1 1) (hg : Blk W g t (enc e).toArray)
    (hown : W.ownsRow base T kk v m (xs.flatMap enc)) (hl : m ≤ 10000000) (hb : base ≤ W.heap.size)
    (h : ∀ A' c' w', w'.ownsRow base T kk (.slice A' (m + 1) c') (m + 1) ((xs ++ [e]).flatMap enc) → W.grownBy w' v.ownBlock → (Value.ownBlock (.slice A' (m + 1) c') = v.ownBlock ∨ Value.ownBlock (.slice A' (m + 1) c') = some W.heap.size) → wpX Tryz.prog l.toArray R C safe Q n listed' (a.put o.dst (.slice A' (m + 1) c')) w') : wpX Tryz.prog l.toArray R C safe Q (n + 1) listed a W := by
  obtain ⟨A', c', w', h1, h2, h3, h4⟩ := run_ap1 hi0 hu hone hlen hk hby ho e hsv hx hg hown hl hb
  refine lx_one hr ho0 hw listed' hli ?_
  rw [h1]
  refine lUpon_value ?_
  exact ⟨fun h => (by rw [hs] at h; cases h), fun w'' hw'' => by rw [hR _ _ hw'']; exact h A' c' w' h2 h3 h4⟩

set_option maxRecDepth 100000 in
set_option maxHeartbeats 16000000 in
theorem near21_any (A B : Option Addr) (V : List (Int × Thing)) (E : List ((Int × Int) × Thing)) (cA cB : Nat) (C : Option Addr) (L : List Int) (cL : Nat) (w : World) (hE : SlAt encE 4 w B E) (hnE0 : E.length ≤ 4096) (hL : SlAt encI 1 w C L) (hl : L.length ≤ 100) :
    Calls Tryz.prog 21 #[.agg #[.slice A V.length cA, .slice B E.length cB], .slice C L.length cL] w (NearPost w (neasR E L L.length) (comR E L L.length)) := by
  have hE' := hide hE
  have hL' := hide hL
  have hnE := hide hnE0
  clear hE hL hnE0
  go_enter Tryz.func21, Tryz.ntmps21
  go_wp2_with fail
  have hB1 := hide (Blk.new w 28 #[.slice A V.length cA, .slice B E.length cB])
  have hx1 := hide (ext_self1 w (.cells #[.slice A V.length cA, .slice B E.length cB] 28))
  generalize w.alloc (.cells #[.slice A V.length cA, .slice B E.length cB] 28) = w1 at *
  have hI0 := hide (show NrI w1.heap.size w w1 [] [] (.slice none 0 0) (.slice none 0 0) [] from ⟨World.ownsRow_nil _ _ _ _, World.ownsRow_nil _ _ _ _, ⟨rfl, fun i hi => by simp at hi⟩, unhide hx1, Below.size (unhide hx1), Nat.le_refl _⟩)
  go_loopw [6, 7, 8] (fun ov cv iv wr => ∃ (k : Nat) (vs : List Sl3) (vo vc : Value), k ≤ L.length ∧ iv = .int .i64 k ∧ vo = ov ∧ vc = cv ∧ NrI w1.heap.size w1 wr (neasR E L k) vs vo vc (comR E L k)) (fun _ _ iv _ => L.length - (intOf iv).toNat)
  case atStart => exact ⟨0, [], _, _, Nat.zero_le _, rfl, rfl, rfl, World.ownsRow_nil _ _ _ _, World.ownsRow_nil _ _ _ _, ⟨rfl, fun i hi => by simp [neasR] at hi⟩, Ext.refl _, Nat.le_refl _, Nat.le_refl _⟩
  case round =>
    obtain ⟨k, vs, vo, vc, hk, rfl, hv1, hv2, hI⟩ := hrel
    subst hv1
    subst hv2
    have hI' := hide hI
    clear hI hI0
    by_cases hlt : k < L.length
    · obtain ⟨b, off, rfl, hzz⟩ := atI (unhide hL') hlt
      clear hzz
      obtain ⟨Ac, cc, rfl⟩ := own_slice (unhide hI').c
      have hC' := hide (own_at (enc := encP) (unhide hI').c (fun _ => rfl))
      obtain ⟨come, hce⟩ : ∃ come, come = comR E L k := ⟨_, rfl⟩
      have hcl0 : come.length ≤ 1000000 := by
        rw [hce]
        have h1 := comR_len E L hl k (by omega)
        have h2 : k * 10000 ≤ 100 * 10000 := Nat.mul_le_mul_right _ (by omega)
        omega
      have hcl := hide (show come.length ≤ 4611686018427387904 by omega)
      have hcl2 := hide hcl0
      rw [← hce] at hI' hC' ⊢
      have hce' := hide hce
      obtain ⟨x, hx⟩ : ∃ x, L[k] = x := ⟨_, rfl⟩
      have hxk := hide hx
      have hxk' := hide (show L[k]?.getD 0 = x by rw [← hx]; simp [hlt])
      clear hce hx hcl0
      generalize wr = wo at *
      have hxs := hide (ext_self1 wo (.cells #[] 3))
      go_wp2_with fail
      go_loopw [9, 10] (fun nv iv W => ∃ (j : Nat) (An : Option Addr) (cn : Nat) (near : List Int), k + 1 ≤ j ∧ j ≤ L.length ∧ iv = .int .i64 j ∧ nv = .slice An near.length cn ∧ near = nearR E come L k j ∧ SlAt encI 1 W An near ∧ TAt 3 W An near ∧ Ext wo W) (fun _ iv _ => L.length - (intOf iv).toNat)
      case atStart => exact ⟨k + 1, some ⟨wo.heap.size, 0, none⟩, 0, [], Nat.le_refl _, hlt, by go_num, rfl, (nearR_start E come L k).symm, SlAt.nil, TAt.nil, unhide hxs⟩
      case round =>
        obtain ⟨j, An, cn, near, hkj, hj, rfl, rfl, hnear, hsn, htn, hxr⟩ := hrel
        have hnl := hide (show near.length ≤ 100 by rw [hnear]; exact Nat.le_trans (nearR_len _ _ _ _ _) hl)
        have hnear' := hide hnear
        have hsn' := hide hsn
        have htn' := hide htn
        have hxr' := hide hxr
        clear hsn htn hxr hnear hxs
        by_cases hjl : j < L.length
        · have hLr := (unhide hL').ext ((unhide hx1).trans ((unhide hI').x.trans (unhide hxr')))
          have hst := hide (nearR_next E come L k j hjl (by omega))
          have hEr := hide ((unhide hE').ext ((unhide hx1).trans ((unhide hI').x.trans (unhide hxr'))))
          have hCr := hide ((unhide hC').ext (unhide hxr'))
          have ck := atI_at hLr hlt
          have cj := atI_at hLr hjl
          have hB2 := (unhide hB1).ext ((unhide hI').x.trans (unhide hxr'))
          have q0 := hB2.cells 0 (v := .slice A V.length cA) rfl
          have q1 := hB2.cells 1 (v := .slice B E.length cB) rfl
          have hself := Ext.refl wr
          rw [unhide hxk] at ck
          generalize L[j] = y at cj hst
          obtain ⟨p, hp⟩ : ∃ p, posI (isE x y) E = p := ⟨_, rfl⟩
          have hp' := hide hp
          clear hp hLr hB2
          by_cases hp0 : 0 ≤ p
          · have hadj := hide (show adjR E come x y = true by unfold adjR; rw [unhide hp', decide_eq_true hp0]; rfl)
            have hq' : Hid (come.any (inP x y) = come.any (inP x y)) := hide rfl
            have hd0 : decide (0 ≤ p) = true := decide_eq_true hp0
            go_wp2_with fail
            refine wp_region_ext (P := Tryz.prog) [0,1,2,3,4,5,6,7,8,9,10,11,12,13,14,15,16,17,18,19,20,21,22] [] 0 #[true,true,true,true,true,true,true,true,true,true,true,true,true,true,true,true,true,true,true,true,true,true,true] (by kernel_rfl) (by kernel_rfl) rfl (by rfl) ?_
            iterate 12
              refine ql_want (v := ?_) rfl (by rfl) (fun W hW => ?_) ?_
              rotate_left
              · go_simp
                first | done | rfl | (go_at_call 53; refine (redge_any _ B E _ _ cB x y _ ((unhide hEr).ext (by assumption)) (unhide hnE)).mono ?_; rw [unhide hp']; rintro _ _ ⟨h1, h2⟩; refine ⟨_, h1, ?_, h2⟩; rfl) | (go_at_call 54; refine (in21_any Ac come cc x y _ ((unhide hCr).ext (by assumption)) (unhide hcl)).mono ?_; rw [unhide hq']; rintro _ _ ⟨h1, h2⟩; refine ⟨_, h1, ?_, h2⟩; rfl)
              go_frame
            iterate 10
              refine ql_skip rfl (by rfl) ?_
              try go_frame
            iterate 1
              refine ql_want (v := ?_) rfl (by rfl) (fun W hW => ?_) ?_
              rotate_left
              · go_simp
                first | done | rfl | (go_at_call 53; refine (redge_any _ B E _ _ cB x y _ ((unhide hEr).ext (by assumption)) (unhide hnE)).mono ?_; rw [unhide hp']; rintro _ _ ⟨h1, h2⟩; refine ⟨_, h1, ?_, h2⟩; rfl) | (go_at_call 54; refine (in21_any Ac come cc x y _ ((unhide hCr).ext (by assumption)) (unhide hcl)).mono ?_; rw [unhide hq']; rintro _ _ ⟨h1, h2⟩; refine ⟨_, h1, ?_, h2⟩; rfl)
              go_frame
            refine wpQL_nil (fun w3 hx3 => ?_)
            refine wpX_done (by kernel_rfl) ?_
            try go_frame
            have hx3' := hide hx3
            have hself3 := Ext.refl w3
            have cj3 := fun (W' : World) (hW : Ext w3 W') => cj W' (hx3.trans hW)
            clear q0 q1 ck cj hself hx3
            go_wp2_with fail
            refine (with01_any An near cn y _ ((unhide hsn').ext (unhide hx3')) ((unhide htn').ext (unhide hx3')) (by have := unhide hnl; omega)).mono ?_
            rintro e w4 ⟨A4, c4, rfl, hs4, ht4, hx4⟩
            have hs4' := hide hs4
            have ht4' := hide ht4
            have hx4' := hide (((unhide hxr').trans (unhide hx3')).trans hx4)
            clear hs4 ht4 hx4 cj3 hself3
            go_wp2_with fail
            go_roundw
            case rel => exact ⟨j + 1, A4, c4, withR near y, by omega, by omega, by go_num, rfl, by rw [unhide hst, ← unhide hnear']; unfold nearF21; rw [unhide hxk', if_pos (unhide hadj)], unhide hs4', unhide ht4', unhide hx4'⟩
            case measure => simp [intOf]; omega
          · have hd0 : decide (0 ≤ p) = false := decide_eq_false hp0
            cases hq : come.any (inP x y) with
            | true =>
              have hadj := hide (show adjR E come x y = true by unfold adjR; rw [hq, Bool.or_true])
              have hq' := hide hq
              clear hq
              go_wp2_with fail
              refine wp_region_ext (P := Tryz.prog) [0,1,2,3,4,5,6,7,8,9,10,11,12,13,14,15,16,17,18,19,20,21,22] [] 0 #[true,true,true,true,true,true,true,true,true,true,true,true,true,true,true,true,true,true,true,true,true,true,true] (by kernel_rfl) (by kernel_rfl) rfl (by rfl) ?_
              iterate 23
                refine ql_want (v := ?_) rfl (by rfl) (fun W hW => ?_) ?_
                rotate_left
                · go_simp
                  first | done | rfl | (go_at_call 53; refine (redge_any _ B E _ _ cB x y _ ((unhide hEr).ext (by assumption)) (unhide hnE)).mono ?_; rw [unhide hp']; rintro _ _ ⟨h1, h2⟩; refine ⟨_, h1, ?_, h2⟩; rfl) | (go_at_call 54; refine (in21_any Ac come cc x y _ ((unhide hCr).ext (by assumption)) (unhide hcl)).mono ?_; rw [unhide hq']; rintro _ _ ⟨h1, h2⟩; refine ⟨_, h1, ?_, h2⟩; rfl)
                go_frame
              refine wpQL_nil (fun w3 hx3 => ?_)
              refine wpX_done (by kernel_rfl) ?_
              try go_frame
              have hx3' := hide hx3
              have hself3 := Ext.refl w3
              have cj3 := fun (W' : World) (hW : Ext w3 W') => cj W' (hx3.trans hW)
              clear q0 q1 ck cj hself hx3
              go_wp2_with fail
              refine (with01_any An near cn y _ ((unhide hsn').ext (unhide hx3')) ((unhide htn').ext (unhide hx3')) (by have := unhide hnl; omega)).mono ?_
              rintro e w4 ⟨A4, c4, rfl, hs4, ht4, hx4⟩
              have hs4' := hide hs4
              have ht4' := hide ht4
              have hx4' := hide (((unhide hxr').trans (unhide hx3')).trans hx4)
              clear hs4 ht4 hx4 cj3 hself3
              go_wp2_with fail
              go_roundw
              case rel => exact ⟨j + 1, A4, c4, withR near y, by omega, by omega, by go_num, rfl, by rw [unhide hst, ← unhide hnear']; unfold nearF21; rw [unhide hxk', if_pos (unhide hadj)], unhide hs4', unhide ht4', unhide hx4'⟩
              case measure => simp [intOf]; omega
            | false =>
              have hadj := hide (show ¬ adjR E come x y = true by unfold adjR; rw [hq, unhide hp', decide_eq_false hp0]; simp)
              have hq' := hide hq
              clear hq
              go_wp2_with fail
              refine wp_region_ext (P := Tryz.prog) [0,1,2,3,4,5,6,7,8,9,10,11,12,13,14,15,16,17,18,19,20,21,22] [] 0 #[true,true,true,true,true,true,true,true,true,true,true,true,true,true,true,true,true,true,true,true,true,true,true] (by kernel_rfl) (by kernel_rfl) rfl (by rfl) ?_
              iterate 23
                refine ql_want (v := ?_) rfl (by rfl) (fun W hW => ?_) ?_
                rotate_left
                · go_simp
                  first | done | rfl | (go_at_call 53; refine (redge_any _ B E _ _ cB x y _ ((unhide hEr).ext (by assumption)) (unhide hnE)).mono ?_; rw [unhide hp']; rintro _ _ ⟨h1, h2⟩; refine ⟨_, h1, ?_, h2⟩; rfl) | (go_at_call 54; refine (in21_any Ac come cc x y _ ((unhide hCr).ext (by assumption)) (unhide hcl)).mono ?_; rw [unhide hq']; rintro _ _ ⟨h1, h2⟩; refine ⟨_, h1, ?_, h2⟩; rfl)
                go_frame
              refine wpQL_nil (fun w3 hx3 => ?_)
              refine wpX_done (by kernel_rfl) ?_
              try go_frame
              have hx3' := hide hx3
              have hself3 := Ext.refl w3
              clear q0 q1 ck cj hself hx3
              go_wp2_with fail
              go_roundw
              case rel => exact ⟨j + 1, An, cn, near, by omega, by omega, by go_num, rfl, by rw [unhide hst, ← unhide hnear']; unfold nearF21; rw [unhide hxk', if_neg (unhide hadj)], (unhide hsn').ext (unhide hx3'), (unhide htn').ext (unhide hx3'), (unhide hxr').trans (unhide hx3')⟩
              case measure => simp [intOf]; omega
        · have hje : j = L.length := by omega
          subst hje
          have hnear2 : near = neaR E L k := by rw [unhide hnear', unhide hce']; rfl
          have hnear2' := hide hnear2
          clear hnear2
          go_wp2_with fail
          generalize wr = wq at *
          have hI2 := hide ((unhide hI').ext (unhide hxr'))
          go_loopw [7, 11] (fun cv iv W => ∃ (a : Nat) (vc2 : Value), a ≤ near.length ∧ iv = .int .i64 a ∧ vc2 = cv ∧ NrI w1.heap.size w1 W (neasR E L k) vs vo vc2 (pairR E near come a) ∧ SlAt encI 1 W An near ∧ TAt 3 W An near) (fun _ iv _ => near.length - (intOf iv).toNat)
          case atStart => exact ⟨0, _, Nat.zero_le _, rfl, rfl, by simpa [pairR] using unhide hI2, unhide hsn', unhide htn'⟩
          case round =>
            obtain ⟨a, vc2, ha, rfl, hv, hI3, hs3, ht3⟩ := hrel
            subst hv
            have hI3' := hide hI3
            have hs3' := hide hs3
            have ht3' := hide ht3
            clear hI3 hs3 ht3 hI2 hsn' htn' hxr'
            by_cases hal : a < near.length
            · obtain ⟨bn, offn, rfl, hzz⟩ := atI (unhide hs3') hal
              clear hzz
              have hab0 : a < 100 := by have := unhide hnl; omega
              go_wp2_with fail
              generalize wr = wp at *
              go_loopw [7, 12] (fun cv iv W => ∃ (d : Nat) (vc3 : Value), d ≤ a ∧ iv = .int .i64 d ∧ vc3 = cv ∧ NrI w1.heap.size w1 W (neasR E L k) vs vo vc3 (rowR E near a (pairR E near come a) d) ∧ SlAt encI 1 W (some ⟨bn, offn, none⟩) near ∧ TAt 3 W (some ⟨bn, offn, none⟩) near) (fun _ iv _ => a - (intOf iv).toNat)
              case atStart => exact ⟨0, _, Nat.zero_le _, rfl, rfl, by simpa [rowR] using unhide hI3', unhide hs3', unhide ht3'⟩
              case round =>
                obtain ⟨d, vc3, hd, rfl, hv, hI4, hs4, ht4⟩ := hrel
                subst hv
                have hI4' := hide hI4
                have hs4' := hide hs4
                have ht4' := hide ht4
                clear hI4 hs4 ht4 hI3' hs3' ht3'
                by_cases hda : d < a
                · obtain ⟨Ac4, cc4, rfl⟩ := own_slice (unhide hI4').c
                  have hCr := hide (own_at (enc := encP) (unhide hI4').c (fun _ => rfl))
                  obtain ⟨cm, hcm⟩ : ∃ cm, cm = rowR E near a (pairR E near come a) d := ⟨_, rfl⟩
                  have hcl40 : cm.length ≤ 2000000 := by
                    have h1 := rowR_len E near a (pairR E near come a) d
                    have h2 := pairR_len E near come a (by have := unhide hnl; omega)
                    have h3 : a * 100 ≤ 100 * 100 := Nat.mul_le_mul_right _ (by have := unhide hnl; omega)
                    have h4 := unhide hcl2
                    have h5 := unhide hnl
                    rw [hcm]
                    omega
                  have hcl4 := hide hcl40
                  have hcl := hide (show cm.length ≤ 4611686018427387904 by omega)
                  rw [← hcm] at hI4' hCr ⊢
                  have hcm' := hide hcm
                  have hdn : d < near.length := by omega
                  have hEr := hide ((unhide hE').ext ((unhide hx1).trans (unhide hI4').x))
                  have ca := atI_at (unhide hs4') hal
                  have cb := atI_at (unhide hs4') hdn
                  have hB2 := (unhide hB1).ext (unhide hI4').x
                  have q0 := hB2.cells 0 (v := .slice A V.length cA) rfl
                  have q1 := hB2.cells 1 (v := .slice B E.length cB) rfl
                  have hself := Ext.refl wr
                  have hab : a < 100 := by have := unhide hnl; omega
                  have hua := hide (show near[a]?.getD 0 = near[a] by simp [hal])
                  have hub := hide (show near[d]?.getD 0 = near[d] by simp [hdn])
                  generalize near[a] = x2 at ca hua
                  generalize near[d] = y at cb hub
                  obtain ⟨p, hp⟩ : ∃ p, posI (isE x2 y) E = p := ⟨_, rfl⟩
                  have hp' := hide hp
                  clear hp hB2 hcm hcl40
                  by_cases hp0 : 0 ≤ p
                  · have hadj := hide (show adjR E cm x2 y = true by unfold adjR; rw [unhide hp', decide_eq_true hp0]; rfl)
                    have hq' : Hid (cm.any (inP x2 y) = cm.any (inP x2 y)) := hide rfl
                    have hd0 : decide (p < 0) = false := decide_eq_false (by omega)
                    go_wp2_with fail
                    refine wp_region_ext (P := Tryz.prog) [0,1,2,3,4,5,6,7,8,9,10,11,12,13,14,15,16,17,18,19,20,21,22,23] [] 0 #[true,true,true,true,true,true,true,true,true,true,true,true,true,true,true,true,true,true,true,true,true,true,true,true] (by kernel_rfl) (by kernel_rfl) rfl (by rfl) ?_
                    iterate 12
                      refine ql_want (v := ?_) rfl (by rfl) (fun W hW => ?_) ?_
                      rotate_left
                      · go_simp
                        first | done | rfl | (go_at_call 53; refine (redge_any _ B E _ _ cB x2 y _ ((unhide hEr).ext (by assumption)) (unhide hnE)).mono ?_; rw [unhide hp']; rintro _ _ ⟨h1, h2⟩; refine ⟨_, h1, ?_, h2⟩; rfl) | (go_at_call 54; refine (in21_any Ac4 cm cc4 x2 y _ ((unhide hCr).ext (by assumption)) (unhide hcl)).mono ?_; rw [unhide hq']; rintro _ _ ⟨h1, h2⟩; refine ⟨_, h1, ?_, h2⟩; rfl)
                      go_frame
                    iterate 11
                      refine ql_skip rfl (by rfl) ?_
                      try go_frame
                    iterate 1
                      refine ql_want (v := ?_) rfl (by rfl) (fun W hW => ?_) ?_
                      rotate_left
                      · go_simp
                        first | done | rfl | (go_at_call 53; refine (redge_any _ B E _ _ cB x2 y _ ((unhide hEr).ext (by assumption)) (unhide hnE)).mono ?_; rw [unhide hp']; rintro _ _ ⟨h1, h2⟩; refine ⟨_, h1, ?_, h2⟩; rfl) | (go_at_call 54; refine (in21_any Ac4 cm cc4 x2 y _ ((unhide hCr).ext (by assumption)) (unhide hcl)).mono ?_; rw [unhide hq']; rintro _ _ ⟨h1, h2⟩; refine ⟨_, h1, ?_, h2⟩; rfl)
                      go_frame
                    refine wpQL_nil (fun w3 hx3 => ?_)
                    refine wpX_done (by kernel_rfl) ?_
                    try go_frame
                    have hx3' := hide hx3
                    have hself3 := Ext.refl w3
                    clear q0 q1 ca cb hself hx3 hself3
                    go_wp2_with fail
                    go_roundw
                    case rel => exact ⟨d + 1, _, by omega, by go_num, rfl, by rw [rowR_next, ← unhide hcm']; unfold rowF; rw [unhide hua, unhide hub, if_pos (unhide hadj)]; exact (unhide hI4').ext (unhide hx3'), (unhide hs4').ext (unhide hx3'), (unhide ht4').ext (unhide hx3')⟩
                    case measure => simp [intOf]; omega
                  · have hd0 : decide (p < 0) = true := decide_eq_true (by omega)
                    cases hq : cm.any (inP x2 y) with
                    | true =>
                      have hadj := hide (show adjR E cm x2 y = true by unfold adjR; rw [hq, Bool.or_true])
                      have hq' := hide hq
                      clear hq
                      go_wp2_with fail
                      refine wp_region_ext (P := Tryz.prog) [0,1,2,3,4,5,6,7,8,9,10,11,12,13,14,15,16,17,18,19,20,21,22,23] [] 0 #[true,true,true,true,true,true,true,true,true,true,true,true,true,true,true,true,true,true,true,true,true,true,true,true] (by kernel_rfl) (by kernel_rfl) rfl (by rfl) ?_
                      iterate 24
                        refine ql_want (v := ?_) rfl (by rfl) (fun W hW => ?_) ?_
                        rotate_left
                        · go_simp
                          first | done | rfl | (go_at_call 53; refine (redge_any _ B E _ _ cB x2 y _ ((unhide hEr).ext (by assumption)) (unhide hnE)).mono ?_; rw [unhide hp']; rintro _ _ ⟨h1, h2⟩; refine ⟨_, h1, ?_, h2⟩; rfl) | (go_at_call 54; refine (in21_any Ac4 cm cc4 x2 y _ ((unhide hCr).ext (by assumption)) (unhide hcl)).mono ?_; rw [unhide hq']; rintro _ _ ⟨h1, h2⟩; refine ⟨_, h1, ?_, h2⟩; rfl)
                        go_frame
                      refine wpQL_nil (fun w3 hx3 => ?_)
                      refine wpX_done (by kernel_rfl) ?_
                      try go_frame
                      have hx3' := hide hx3
                      have hself3 := Ext.refl w3
                      clear q0 q1 ca cb hself hx3 hself3
                      go_wp2_with fail
                      go_roundw
                      case rel => exact ⟨d + 1, _, by omega, by go_num, rfl, by rw [rowR_next, ← unhide hcm']; unfold rowF; rw [unhide hua, unhide hub, if_pos (unhide hadj)]; exact (unhide hI4').ext (unhide hx3'), (unhide hs4').ext (unhide hx3'), (unhide ht4').ext (unhide hx3')⟩
                      case measure => simp [intOf]; omega
                    | false =>
                      have hadj := hide (show ¬ adjR E cm x2 y = true by unfold adjR; rw [hq, unhide hp', decide_eq_false hp0]; simp)
                      have hq' := hide hq
                      clear hq
                      go_wp2_with fail
                      refine wp_region_ext (P := Tryz.prog) [0,1,2,3,4,5,6,7,8,9,10,11,12,13,14,15,16,17,18,19,20,21,22,23] [] 0 #[true,true,true,true,true,true,true,true,true,true,true,true,true,true,true,true,true,true,true,true,true,true,true,true] (by kernel_rfl) (by kernel_rfl) rfl (by rfl) ?_
                      iterate 24
                        refine ql_want (v := ?_) rfl (by rfl) (fun W hW => ?_) ?_
                        rotate_left
                        · go_simp
                          first | done | rfl | (go_at_call 53; refine (redge_any _ B E _ _ cB x2 y _ ((unhide hEr).ext (by assumption)) (unhide hnE)).mono ?_; rw [unhide hp']; rintro _ _ ⟨h1, h2⟩; refine ⟨_, h1, ?_, h2⟩; rfl) | (go_at_call 54; refine (in21_any Ac4 cm cc4 x2 y _ ((unhide hCr).ext (by assumption)) (unhide hcl)).mono ?_; rw [unhide hq']; rintro _ _ ⟨h1, h2⟩; refine ⟨_, h1, ?_, h2⟩; rfl)
                        go_frame
                      refine wpQL_nil (fun w3 hx3 => ?_)
                      refine wpX_done (by kernel_rfl) ?_
                      try go_frame
                      have hx3' := hide hx3
                      have hself3 := Ext.refl w3
                      have ca3 := fun (W' : World) (hW : Ext w3 W') => ca W' (hx3.trans hW)
                      have cb3 := fun (W' : World) (hW : Ext w3 W') => cb W' (hx3.trans hW)
                      clear q0 q1 ca cb hself hx3
                      go_wp2_with fail
                      refine wp_region_still (P := Tryz.prog) [0,1,2,3,4,5,6,7,8,9] [11,12] 3 #[true,true,true,true,true,true,true,true,true,true,false,false,false] (by kernel_rfl) (by kernel_rfl) rfl (by rfl) ?_
                      iterate 10
                        refine ql_want (v := ?_) rfl (by rfl) (fun W hW => ?_) ?_
                        rotate_left
                        · go_simp
                          first | done | rfl
                        go_frame
                      refine wpQL_nil (fun w5 hx5 => ?_)
                      have hI5 := hide ((unhide hI4').ext ((unhide hx3').trans hx5))
                      have hs5 := hide ((unhide hs4').ext ((unhide hx3').trans hx5))
                      have ht5 := hide ((unhide ht4').ext ((unhide hx3').trans hx5))
                      have hx5' := hide hx5
                      clear ca3 cb3 hself3 hx5
                      refine lx_one (i := 10) (by kernel_rfl) rfl (by rfl) #[true,true,true,true,true,true,true,true,true,true,true,false,false] (by rfl) ?_
                      go_simp
                      refine ⟨(unhide hx5').alloc _, ?_⟩
                      try go_frame
                      refine lx_ap1 (i := 11) (enc := encP) (by kernel_rfl) rfl (by rfl) #[true,true,true,true,true,true,true,true,true,true,true,true,false] (by rfl) (fun _ _ h => h) rfl infoP21 Tryz.underlying50 one_encP (fun _ => rfl) (by decide) (by decide) rfl (v := .slice Ac4 cm.length cc4) (xs := cm) (y, x2) (by rfl) (by rfl) (Blk.new w5 64 #[.int .i64 y, .int .i64 x2]) (own_ext (unhide hI5).c (ext_self1 w5 _)) (by have := unhide hcl4; omega) (Nat.le_trans (unhide hI5).lb (Below.size (ext_self1 w5 _))) ?_
                      intro A6 c6 w6 ho6 hg6 _
                      obtain ⟨n6, hn6⟩ : ∃ n6, n6 = cm.length + 1 := ⟨_, rfl⟩
                      rw [← hn6] at ho6 ⊢
                      have ho6' := own_n ho6 (m := (cm ++ [(y, x2)]).length) (by rw [hn6, List.length_append]; rfl)
                      obtain ⟨hI6, hk6, hS6⟩ := (unhide hI5).pushC (ext_self1 w5 _) hg6 ho6'
                      have hs6 := hide ((unhide hs5).keepT (unhide ht5) hk6 hS6)
                      have ht6 := hide ((unhide ht5).keep hk6 hS6)
                      have hI6' := hide hI6
                      clear ho6 hg6 hn6 ho6' hI6 hk6 hS6
                      try go_frame
                      refine lx_one (i := 12) (by kernel_rfl) rfl (by rfl) #[true,true,true,true,true,true,true,true,true,true,true,true,true] (by rfl) ?_
                      go_simp
                      refine wpX_done (by kernel_rfl) ?_
                      try go_frame
                      clear hI5 hs5 ht5 hx5'
                      go_wp2_with fail
                      go_roundw
                      case rel => exact ⟨d + 1, _, by omega, by go_num, rfl, by rw [rowR_next, ← unhide hcm']; unfold rowF; rw [unhide hua, unhide hub, if_neg (unhide hadj)]; exact unhide hI6', unhide hs6, unhide ht6⟩
                      case measure => simp [intOf]; omega
                · have hde : d = a := by omega
                  subst hde
                  rw [← pairR_next] at hI4'
                  go_wp2_with fail
                  go_roundw
                  case rel => exact ⟨d + 1, _, by omega, by go_num, rfl, unhide hI4', unhide hs4', unhide ht4'⟩
                  case measure => simp [intOf]; omega
            · have hae : a = near.length := by omega
              subst hae
              obtain ⟨nl, hnl2⟩ : ∃ nl, nl = near.length := ⟨_, rfl⟩
              rw [← hnl2] at ⊢
              have hnl2' := hide hnl2
              have hvl := hide (show vs.length ≤ 10000000 by have := (unhide hI3').n.1; simp [neasR] at this; omega)
              clear hnl2
              try dsimp only
              repeat ((fail_if_success (with_reducible refine wp_reg (id := 20) ?_)); (first | go_values | go_skip | go_step | go_guarded | go_upon | go_in | go_back | fail))
              with_reducible refine wp_reg (id := 20) ?_
              iterate 3
                refine wpO_want rfl ?_
                go_simp
              refine wpO_ap1 rfl infoR Tryz.underlying49 one_encW (fun _ => rfl) (by decide) (by decide) rfl (v := vo) (xs := vs) (An, nl, cn) rfl rfl (Blk.new wr 60 #[.slice An nl cn]) (own_ext (unhide hI3').o (ext_self1 wr _)) (unhide hvl) (Nat.le_trans (unhide hI3').lb (Below.size (ext_self1 wr _))) ?_
              intro A6 c6 w6 ho6 hg6 _
              obtain ⟨n6, hn6⟩ : ∃ n6, n6 = vs.length + 1 := ⟨_, rfl⟩
              rw [← hn6] at ho6 ⊢
              have ho6' := own_n ho6 (m := (vs ++ [((An, nl, cn) : Sl3)]).length) (by rw [hn6, List.length_append]; rfl)
              have hI6 := hide ((unhide hI3').pushO (ext_self1 wr _) hg6 rfl ho6' (unhide hnl2') (unhide hs3') (unhide ht3'))
              clear ho6 hg6 hn6 ho6'
              try go_frame
              refine wpO_want rfl ?_
              go_simp
              refine wpO_done ?_
              try go_frame
              have hnx : NrI w1.heap.size w1 w6 (neasR E L (k + 1)) (vs ++ [((An, nl, cn) : Sl3)]) (.slice A6 n6 c6) vc2 (comR E L (k + 1)) := by
                have h := unhide hI6
                have e1 : neasR E L (k + 1) = neasR E L k ++ [near] := by unfold neasR; rw [List.range_succ, List.map_append, unhide hnear2']; rfl
                have e2 : comR E L (k + 1) = pairR E near come near.length := by rw [unhide hnear2', unhide hce']; rfl
                rw [e1, e2]
                exact h
              have hnx' := hide hnx
              clear hnx
              go_wp2_with fail
              go_roundw
              case rel => exact ⟨k + 1, _, _, _, by omega, by go_num, rfl, rfl, unhide hnx'⟩
              case measure => simp [intOf]; omega
    · have hke : k = L.length := by omega
      subst hke
      obtain ⟨A1, c1, rfl⟩ := own_slice (unhide hI').o
      obtain ⟨A2, c2, rfl⟩ := own_slice (unhide hI').c
      go_wp2_with fail
      go_ret2
      have h := unhide hI'
      exact ⟨A1, c1, A2, c2, vs, by rw [h.n.1]; rfl, own_at (enc := encW) h.o (fun _ => rfl), h.n, own_at (enc := encP) h.c (fun _ => rfl), (unhide hx1).trans h.x⟩
end Go.Proofs.YtjehhilijeajnaaGreatDoor
/- palmetteref21.Width, Tree, Depth. Conditions: see each theorem. -/
namespace Go.Proofs.YtjehhilijeajnaaGreatDoor
open Go Go.RowKit
attribute [local go_sem] qUpon lUpon

theorem atSls {w : World} {A : Option Addr} {vs : List Sl3} {xss : List (List Int)} (h : SlAt encW 1 w A vs) (hs : SlsAt w vs xss) {i : Nat} (hi : i < xss.length) : ∃ b off Ai ci, A = some ⟨b, off, none⟩ ∧ (∀ W, Ext w W → W.cell? ⟨b, off + i, none⟩ = some (.slice Ai xss[i].length ci)) ∧ SlAt encI 1 w Ai xss[i] := by
  obtain ⟨Ai, ci, h1, h2, _⟩ := hs.2 i hi
  have hiv : i < vs.length := by rw [hs.1]; exact hi
  obtain ⟨b, off, hA, hc⟩ := h.at_ hiv
  have hv : vs[i] = (Ai, xss[i].length, ci) := by rw [List.getElem?_eq_getElem hiv] at h1; exact Option.some.inj h1
  refine ⟨b, off, Ai, ci, hA, fun W hW => ?_, h2⟩
  have := hc 0 (.slice Ai xss[i].length ci) (by rw [hv]; rfl) W hW
  simpa using this

def widRK (xss : List (List Int)) (k : Nat) : Int := (xss.take k).foldl (fun m l => max m (l.length : Int)) (-1)
def widR (E : List ((Int × Int) × Thing)) (L : List Int) : Int := widRK (neasR E L L.length) L.length
theorem widRK_next (xss : List (List Int)) (k : Nat) (h : k < xss.length) : widRK xss (k + 1) = max (widRK xss k) (xss[k].length : Int) := by
  unfold widRK
  rw [List.take_succ_eq_append_getElem h, List.foldl_append]; rfl

set_option maxRecDepth 100000 in
set_option maxHeartbeats 4000000 in
theorem width21_any (A B : Option Addr) (V : List (Int × Thing)) (E : List ((Int × Int) × Thing)) (cA cB : Nat) (C : Option Addr) (L : List Int) (cL : Nat) (w : World) (hE : SlAt encE 4 w B E) (hnE : E.length ≤ 4096) (hL : SlAt encI 1 w C L) (hl : L.length ≤ 100) :
    Calls Tryz.prog 23 #[.agg #[.slice A V.length cA, .slice B E.length cB], .slice C L.length cL] w fun e w' => e = .returned (.int .i64 (widR E L)) ∧ Ext w w' := by
  have hE' := hide hE
  have hL' := hide hL
  clear hE hL
  go_enter Tryz.func23, Tryz.ntmps23
  go_wp2_with fail
  have hx1 := hide (ext_self1 w (.cells #[.slice A V.length cA, .slice B E.length cB] 28))
  generalize w.alloc (.cells #[.slice A V.length cA, .slice B E.length cB] 28) = w1 at *
  refine (near21_any A B V E cA cB C L cL w1 ((unhide hE').ext (unhide hx1)) hnE ((unhide hL').ext (unhide hx1)) hl).mono ?_
  rintro e w2 ⟨A1, c1, A2, c2, vs, rfl, hA1, hS1, hA2, hx2⟩
  have hA1' := hide hA1
  have hS1' := hide hS1
  have hA2' := hide hA2
  have hx2' := hide ((unhide hx1).trans hx2)
  have hnl : (neasR E L L.length).length = L.length := by simp [neasR]
  rw [hnl]
  have hnl' := hide hnl
  clear hA1 hS1 hA2 hx2 hnl
  go_wp2_with fail
  go_loopw [7, 8] (fun wv iv wr => ∃ k : Nat, k ≤ L.length ∧ iv = .int .i64 k ∧ wv = .int .i64 (widRK (neasR E L L.length) k) ∧ Ext w2 wr) (fun _ iv _ => L.length - (intOf iv).toNat)
  case atStart => exact ⟨0, Nat.zero_le _, rfl, rfl, Ext.refl _⟩
  case round =>
    obtain ⟨k, hk, rfl, rfl, hx⟩ := hrel
    have hx' := hide hx
    clear hx
    by_cases hlt : k < L.length
    · have hki : k < (neasR E L L.length).length := by rw [unhide hnl']; exact hlt
      obtain ⟨b, off, Ai, ci, rfl, c0, hzz⟩ := atSls ((unhide hA1').ext (unhide hx')) ((unhide hS1').ext (unhide hx')) hki
      have hst := hide (widRK_next (neasR E L L.length) k hki)
      generalize (neasR E L L.length)[k].length = m at c0 hst
      generalize widRK (neasR E L L.length) k = wk at *
      have hself := Ext.refl wr
      clear hzz hki
      go_wp2_with fail
      go_roundw
      case rel => exact ⟨k + 1, by omega, by go_num, by rw [unhide hst], unhide hx'⟩
      case measure => simp [intOf]; omega
    · have hke : k = L.length := by omega
      subst hke
      go_wp2_with fail
      go_ret
      exact ⟨rfl, (unhide hx2').trans (unhide hx')⟩

/-- the least place from m on of a vertex that is near -/
def upR (near L : List Int) (m : Nat) : Int := match (List.range' m (L.length - m)).find? (fun k => near.any (· == L[k]?.getD 0)) with
  | some k => (k : Int)
  | none => -1
theorem upR_end (near L : List Int) : upR near L L.length = -1 := by unfold upR; simp
theorem upR_step (near L : List Int) (m : Nat) (h : m < L.length) : upR near L m = if near.any (· == L[m]) = true then (m : Int) else upR near L (m + 1) := by
  have e : List.range' m (L.length - m) = m :: List.range' (m + 1) (L.length - (m + 1)) := by
    rw [show L.length - m = (L.length - (m + 1)) + 1 by omega, List.range'_succ]
  have hg : L[m]?.getD 0 = L[m] := by simp [h]
  unfold upR
  rw [e, List.find?_cons, hg]
  cases near.any (· == L[m]) <;> rfl
def treeR (E : List ((Int × Int) × Thing)) (L : List Int) (k : Nat) : List Int := (List.range k).map fun i => upR (neaR E L i) L (i + 1)

set_option maxRecDepth 100000 in
set_option maxHeartbeats 8000000 in
theorem tree21_any (A B : Option Addr) (V : List (Int × Thing)) (E : List ((Int × Int) × Thing)) (cA cB : Nat) (C : Option Addr) (L : List Int) (cL : Nat) (w : World) (hE : SlAt encE 4 w B E) (hnE : E.length ≤ 4096) (hL : SlAt encI 1 w C L) (hl : L.length ≤ 100) :
    Calls Tryz.prog 16 #[.agg #[.slice A V.length cA, .slice B E.length cB], .slice C L.length cL] w (SlPost encI 1 w (treeR E L L.length)) := by
  have hE' := hide hE
  have hL' := hide hL
  clear hE hL
  go_enter Tryz.func16, Tryz.ntmps16
  go_wp2_with fail
  have hx1 := hide (ext_self1 w (.cells #[.slice A V.length cA, .slice B E.length cB] 28))
  generalize w.alloc (.cells #[.slice A V.length cA, .slice B E.length cB] 28) = w1 at *
  refine (near21_any A B V E cA cB C L cL w1 ((unhide hE').ext (unhide hx1)) hnE ((unhide hL').ext (unhide hx1)) hl).mono ?_
  rintro e w2 ⟨A1, c1, A2, c2, vs, rfl, hA1, hS1, hA2, hx2⟩
  have hA1' := hide hA1
  have hS1' := hide hS1
  have hA2' := hide hA2
  have hx2' := hide ((unhide hx1).trans hx2)
  have hnl : (neasR E L L.length).length = L.length := by simp [neasR]
  rw [hnl]
  have hnl' := hide hnl
  clear hA1 hS1 hA2 hx2 hnl
  go_wp2_with fail
  have hz1 := hide (Below.size (unhide hx2'))
  go_loopw [7, 8] (fun ov iv wr => ∃ (k : Nat) (vo : Value), k ≤ L.length ∧ iv = .int .i64 k ∧ vo = ov ∧ wr.ownsRow w2.heap.size 3 1 vo (treeR E L k).length ((treeR E L k).flatMap encI) ∧ Ext w2 wr) (fun _ iv _ => L.length - (intOf iv).toNat)
  case atStart => exact ⟨0, _, Nat.zero_le _, rfl, rfl, World.ownsRow_nil _ _ _ _, Ext.refl _⟩
  case round =>
    obtain ⟨k, vo, hk, rfl, hv, hown, hx⟩ := hrel
    subst hv
    have hx' := hide hx
    have hown' := hide hown
    clear hx hown
    by_cases hlt : k < L.length
    · have hki : k < (neasR E L L.length).length := by rw [unhide hnl']; exact hlt
      have hnk : (neasR E L L.length)[k] = neaR E L k := by simp [neasR]
      generalize wr = wo at *
      have hself0 := Ext.refl wo
      go_wp2_with fail
      go_loopw [9, 10] (fun uv iv W => ∃ (m : Nat), k + 1 ≤ m ∧ m ≤ L.length ∧ iv = .int .i64 ((m : Int) - 1) ∧ uv = .int .i64 (upR (neaR E L k) L m) ∧ Ext wo W) (fun _ iv _ => (intOf iv + 1).toNat)
      case atStart => exact ⟨L.length, hlt, Nat.le_refl _, rfl, by rw [upR_end], Ext.refl _⟩
      case round =>
        obtain ⟨m, hkm, hml, rfl, rfl, hxi⟩ := hrel
        have hxi' := hide hxi
        clear hxi hself0
        by_cases hgt : k + 1 < m
        · obtain ⟨m', rfl⟩ : ∃ m', m = m' + 1 := ⟨m - 1, by omega⟩
          have hm' : m' < L.length := by omega
          obtain ⟨b, off, Ai, ci, rfl, c0, hsi⟩ := atSls ((unhide hA1').ext ((unhide hx').trans (unhide hxi'))) ((unhide hS1').ext ((unhide hx').trans (unhide hxi'))) hki
          have hLW := (unhide hL').ext ((unhide hx2').trans ((unhide hx').trans (unhide hxi')))
          obtain ⟨bl, offl, rfl, d0⟩ := atI hLW hm'
          have hst := hide (upR_step (neaR E L k) L m' hm')
          have hnl2 := hide (show (neaR E L k).length ≤ 4611686018427387904 from by
            have : (neaR E L k).length ≤ L.length := nearR_len _ _ _ _ _
            omega)
          rw [hnk] at c0 hsi
          have hsi' := hide hsi
          have hm1 : ((m' + 1 : Nat) : Int) - 1 = (m' : Int) := by omega
          rw [hm1]
          have hgd : decide ((k : Int) < (m' : Int)) = true := decide_eq_true (by omega)
          generalize L[m'] = y at d0 hst
          generalize upR (neaR E L k) L (m' + 1) = up at *
          have hself := Ext.refl wr
          clear hsi hLW hm1
          cases hq : (neaR E L k).any (· == y) with
          | true =>
            have hq' := hide hq
            clear hq
            go_wp2_with fail
            refine wp_region_ext (P := Tryz.prog) [0,1,2,3,4,5,6,7,8] [] 0 #[true,true,true,true,true,true,true,true,true] (by kernel_rfl) (by kernel_rfl) rfl (by rfl) ?_
            iterate 9
              refine ql_want (v := ?_) rfl (by rfl) (fun W hW => ?_) ?_
              rotate_left
              · go_simp
                first | done | rfl | (go_at_call 44; refine (has01_any Ai _ ci y _ ((unhide hsi').ext (by assumption)) (unhide hnl2)).mono ?_; rw [unhide hq']; rintro _ _ ⟨h1, h2⟩; refine ⟨_, h1, ?_, h2⟩; rfl)
              go_frame
            refine wpQL_nil (fun w3 hx3 => ?_)
            refine wpX_done (by kernel_rfl) ?_
            try go_frame
            have hx3' := hide ((unhide hxi').trans hx3)
            clear hx3 c0 d0 hself
            go_wp2_with fail
            go_roundw
            case rel => exact ⟨m', by omega, by omega, by go_num, by rw [unhide hst, if_pos (unhide hq')], unhide hx3'⟩
            case measure => simp [intOf]
          | false =>
            have hq' := hide hq
            clear hq
            go_wp2_with fail
            refine wp_region_ext (P := Tryz.prog) [0,1,2,3,4,5,6,7,8] [] 0 #[true,true,true,true,true,true,true,true,true] (by kernel_rfl) (by kernel_rfl) rfl (by rfl) ?_
            iterate 9
              refine ql_want (v := ?_) rfl (by rfl) (fun W hW => ?_) ?_
              rotate_left
              · go_simp
                first | done | rfl | (go_at_call 44; refine (has01_any Ai _ ci y _ ((unhide hsi').ext (by assumption)) (unhide hnl2)).mono ?_; rw [unhide hq']; rintro _ _ ⟨h1, h2⟩; refine ⟨_, h1, ?_, h2⟩; rfl)
              go_frame
            refine wpQL_nil (fun w3 hx3 => ?_)
            refine wpX_done (by kernel_rfl) ?_
            try go_frame
            have hx3' := hide ((unhide hxi').trans hx3)
            clear hx3 c0 d0 hself
            go_wp2_with fail
            go_roundw
            case rel => exact ⟨m', by omega, by omega, by go_num, by rw [unhide hst, if_neg (by rw [unhide hq']; simp)], unhide hx3'⟩
            case measure => simp [intOf]
        · have hme : m = k + 1 := by omega
          subst hme
          have hgd : decide ((k : Int) < ((k + 1 : Nat) : Int) - 1) = false := decide_eq_false (by omega)
          have htl := hide (show (treeR E L k).length ≤ 10000000 by simp [treeR]; omega)
          obtain ⟨up, hup⟩ : ∃ up, up = upR (neaR E L k) L (k + 1) := ⟨_, rfl⟩
          rw [← hup]
          have hup' := hide hup
          obtain ⟨tr, htr⟩ : ∃ tr, tr = treeR E L k := ⟨_, rfl⟩
          rw [← htr] at hown' htl
          have htr' := hide htr
          clear hup htr
          have hownI := hide (own_ext (unhide hown') (unhide hxi'))
          have hxI := hide ((unhide hx').trans (unhide hxi'))
          have hbI := hide (Below.size (unhide hxI))
          try dsimp only
          repeat ((fail_if_success (with_reducible refine wp_reg (id := 12) ?_)); (first | go_values | go_skip | go_step | go_guarded | go_upon | go_in | go_back | fail))
          with_reducible refine wp_reg (id := 12) ?_
          iterate 3
            refine wpO_want rfl ?_
            go_simp
          refine wpO_ap1 (enc := _) rfl infoI Tryz.underlying29 one_encI (fun _ => rfl) (by decide) (by decide) rfl (v := vo) (xs := tr) up rfl rfl (Blk.new wr 3 #[.int .i64 up]) (own_ext (unhide hownI) (ext_self1 wr (.cells #[.int .i64 up] 3))) (unhide htl) (Nat.le_trans (unhide hbI) (Below.size (ext_self1 wr (.cells #[.int .i64 up] 3)))) ?_
          intro A_w6 c_w6 w6 ho6 hg6 _
          obtain ⟨n_w6, hlen6⟩ : ∃ n_w6, n_w6 = (tr).length + 1 := ⟨_, rfl⟩
          rw [← hlen6] at ho6 ⊢
          have hx_w6 := hide (((unhide hxI).trans (ext_self1 wr (.cells #[.int .i64 up] 3))).of_new (Keep.of_grown hg6) (fun z hz => Nat.le_trans (Nat.le_refl _) (own_base (unhide hownI) (by simpa using hz)).1))
          have hown_w6 := hide (own_n ho6 (m := (tr ++ [up]).length) (by rw [hlen6, List.length_append (bs := [_])]; rfl))
          have hn_w6 := hide hlen6
          clear ho6 hg6 hlen6
          try go_frame
          refine wpO_want rfl ?_
          go_simp
          refine wpO_done ?_
          try go_frame
          have hnx : tr ++ [up] = treeR E L (k + 1) := by unfold treeR; rw [range_next, unhide hup', unhide htr']; rfl
          rw [hnx] at hown_w6
          go_wp2_with fail
          go_roundw
          case rel => exact ⟨k + 1, _, by omega, by go_num, rfl, unhide hown_w6, unhide hx_w6⟩
          case measure => simp [intOf]; omega
    · have hke : k = L.length := by omega
      subst hke
      obtain ⟨A7, c7, rfl⟩ := own_slice (unhide hown')
      go_wp2_with fail
      go_ret
      exact .mk rfl (own_at (enc := encI) (unhide hown') (fun _ => rfl)) ((unhide hx2').trans (unhide hx'))
end Go.Proofs.YtjehhilijeajnaaGreatDoor
/- palmetteref21.Depth, palmettelaw21.ints. Conditions: see each theorem. -/
namespace Go.Proofs.YtjehhilijeajnaaGreatDoor
open Go Go.RowKit
attribute [local go_sem] qUpon lUpon

def depRK (P : List Int) (k : Nat) : Int := (List.range k).foldl (fun d i => max d (dep P i)) 0
theorem depRK_next (P : List Int) (k : Nat) : depRK P (k + 1) = max (depRK P k) (dep P k) := by
  unfold depRK
  rw [List.range_succ, List.foldl_append]; rfl
theorem treeR_len (E : List ((Int × Int) × Thing)) (L : List Int) (k : Nat) : (treeR E L k).length = k := by simp [treeR]

set_option maxRecDepth 100000 in
set_option maxHeartbeats 8000000 in
theorem depth21_any (A B : Option Addr) (V : List (Int × Thing)) (E : List ((Int × Int) × Thing)) (cA cB : Nat) (C : Option Addr) (L : List Int) (cL : Nat) (w : World) (hE : SlAt encE 4 w B E) (hnE : E.length ≤ 4096) (hL : SlAt encI 1 w C L) (hl : L.length ≤ 100) (hP : UpOK (treeR E L L.length)) :
    Calls Tryz.prog 17 #[.agg #[.slice A V.length cA, .slice B E.length cB], .slice C L.length cL] w fun e w' => e = .returned (.int .i64 (depRK (treeR E L L.length) L.length)) ∧ Ext w w' := by
  have hP' := hide hP
  clear hP
  have hE' := hide hE
  have hL' := hide hL
  clear hE hL
  go_enter Tryz.func17, Tryz.ntmps17
  go_wp2_with fail
  have hx1 := hide (ext_self1 w (.cells #[.slice A V.length cA, .slice B E.length cB] 28))
  generalize w.alloc (.cells #[.slice A V.length cA, .slice B E.length cB] 28) = w1 at *
  refine (tree21_any A B V E cA cB C L cL w1 ((unhide hE').ext (unhide hx1)) hnE ((unhide hL').ext (unhide hx1)) hl).mono ?_
  have hlen0 := treeR_len E L L.length
  obtain ⟨P, hPe⟩ : ∃ P, P = treeR E L L.length := ⟨_, rfl⟩
  rw [← hPe] at hlen0 hP' ⊢
  rintro e w2 ⟨A1, c1, rfl, hs1, hx2⟩
  have hlen := hide hlen0
  obtain ⟨n, hn⟩ : ∃ n, n = L.length := ⟨_, rfl⟩
  rw [← hn] at hlen hl ⊢
  rw [unhide hlen]
  have hs1' := hide hs1
  have hx2' := hide ((unhide hx1).trans hx2)
  have hPe' := hide hPe
  have hn' := hide hn
  clear hs1 hx2 hPe hlen0 hn
  go_wp2_with fail
  go_loopw [6, 7] (fun dv iv wr => ∃ k : Nat, k ≤ n ∧ iv = .int .i64 k ∧ dv = .int .i64 (depRK P k) ∧ Ext w2 wr) (fun _ iv _ => n - (intOf iv).toNat)
  case atStart => exact ⟨0, Nat.zero_le _, rfl, rfl, Ext.refl _⟩
  case round =>
    obtain ⟨k, hk, rfl, rfl, hx⟩ := hrel
    have hx' := hide hx
    clear hx
    by_cases hlt : k < n
    · have hkP : k < P.length := by rw [unhide hlen]; exact hlt
      obtain ⟨b, off, rfl, c0⟩ := atI ((unhide hs1').ext (unhide hx')) hkP
      have hup := unhide hP' k hkP
      have hd0 := hide (dep_none hkP)
      have hd1 := hide (dep_some (unhide hP') hkP)
      have hnx := hide (depRK_next P k)
      generalize hu : P[k] = up at c0 hup hd0 hd1
      have hself := Ext.refl wr
      obtain ⟨dk, hdk⟩ : ∃ dk, dk = depRK P k := ⟨_, rfl⟩
      rw [← hdk] at hnx ⊢
      have hdk' := hide hdk
      clear hu hdk
      generalize wr = wo at *
      go_wp2_with fail
      go_loopw [8, 9] (fun nv kv W => ∃ (c kk : Int), nv = .int .i64 c ∧ kv = .int .i64 kk ∧ 0 ≤ c ∧ c ≤ n ∧ Ext wo W ∧ (kk = -1 ∧ c = dep P k ∨ ∃ m : Nat, kk = (m : Int) ∧ k < m ∧ m < n ∧ c + dep P m = dep P k ∧ c ≤ m)) (fun _ kv _ => if intOf kv < 0 then 0 else n - (intOf kv).toNat)
      case atStart =>
        refine ⟨1, up, rfl, rfl, by omega, by omega, Ext.refl _, ?_⟩
        rcases hup with h | ⟨h1, h2⟩
        · exact .inl ⟨h, (unhide hd0 (by omega)).symm⟩
        · refine .inr ⟨up.toNat, by omega, by omega, by have := unhide hlen; omega, (unhide hd1 (by omega)).symm, by omega⟩
      case round =>
        obtain ⟨c, kk, rfl, rfl, hc0, hcn, hxi, hcase⟩ := hrel
        have hxi' := hide hxi
        clear hxi hself
        rcases hcase with ⟨rfl, hce⟩ | ⟨m, rfl, hkm, hmn, hce, hcm⟩
        · have hce' := hide hce
          clear hce hup
          go_wp2_with fail
          go_roundw
          case rel => exact ⟨k + 1, by omega, by go_num, by rw [unhide hnx, ← unhide hce'], (unhide hx').trans (unhide hxi')⟩
          case measure => simp [intOf]; omega
        · have hmP : m < P.length := by rw [unhide hlen]; exact hmn
          have hc1 := atI_at ((unhide hs1').ext ((unhide hx').trans (unhide hxi'))) hmP
          have hself := Ext.refl wr
          have hc1000 : c ≤ 1000 := by omega
          have hup2 := unhide hP' m hmP
          have he0 := hide (dep_none hmP)
          have he1 := hide (dep_some (unhide hP') hmP)
          generalize hu2 : P[m] = up2 at hc1 hup2 he0 he1
          have hce' := hide hce
          have hlen2 := unhide hlen
          clear hce hup hu2
          go_wp2_with fail
          go_roundw
          case rel =>
            refine ⟨c + 1, up2, by go_num, rfl, by omega, by omega, unhide hxi', ?_⟩
            have h := unhide hce'
            rcases hup2 with h2 | ⟨h1, h2⟩
            · have := unhide he0 (by omega)
              exact .inl ⟨h2, by omega⟩
            · have := unhide he1 (by omega)
              exact .inr ⟨up2.toNat, by omega, by omega, by omega, by omega, by omega⟩
          case measure =>
            rcases hup2 with h2 | ⟨h1, h2⟩
            · subst h2
              simp [intOf, show ¬ ((m : Int) < 0) by omega]
              omega
            · simp [intOf, show ¬ ((m : Int) < 0) by omega, show ¬ (up2 < 0) by omega]
              omega
    · have hke : k = n := by omega
      subst hke
      go_wp2_with fail
      go_ret
      exact ⟨ret_int (by rw [← unhide hPe', ← unhide hn']), (unhide hx2').trans (unhide hx')⟩

set_option maxRecDepth 100000 in
set_option maxHeartbeats 4000000 in
theorem ints_any (A B : Option Addr) (a b : List Int) (cA cB : Nat) (w : World) (hA : SlAt encI 1 w A a) (hB : SlAt encI 1 w B b) (hl : a.length ≤ 4611686018427387904) :
    Calls Tryz.prog 15 #[.slice A a.length cA, .slice B b.length cB] w fun e w' => e = .returned (.bool (decide (a = b))) ∧ Ext w w' := by
  have hself := hide (Ext.refl w)
  have hA' := hide hA
  have hB' := hide hB
  clear hA hB
  go_enter Tryz.func15, Tryz.ntmps15
  by_cases hlen : a.length = b.length
  · have e1 : ((a.length : Int) != (b.length : Int)) = false := by simp [hlen]
    have hlen' := hide hlen
    clear hlen
    go_wp2_with fail
    go_loopw [5] (fun iv wr => ∃ k : Nat, k ≤ a.length ∧ iv = .int .i64 k ∧ (∀ j (h1 : j < a.length) (h2 : j < b.length), j < k → a[j] = b[j]) ∧ Ext w wr) (fun iv _ => a.length - (intOf iv).toNat)
    case atStart => exact ⟨0, Nat.zero_le _, rfl, fun j _ _ h => by omega, unhide hself⟩
    case round =>
      obtain ⟨k, hk, rfl, heq, hx⟩ := hrel
      have heq' := hide heq
      have hx' := hide hx
      clear heq hx
      by_cases hlt : k < a.length
      · have hlb : k < b.length := by rw [← unhide hlen']; exact hlt
        obtain ⟨b1, off1, rfl, c0⟩ := atI ((unhide hA').ext (unhide hx')) hlt
        obtain ⟨b2, off2, rfl, d0⟩ := atI ((unhide hB').ext (unhide hx')) hlb
        generalize hx1 : a[k] = x at c0
        generalize hy1 : b[k] = y at d0
        have hx1' := hide hx1
        have hy1' := hide hy1
        have hself1 := Ext.refl wr
        clear hx1 hy1
        by_cases hxy : x = y
        · subst hxy
          have e2 : (x != x) = false := by simp
          go_wp2_with fail
          refine wp_region_ext (P := Tryz.prog) [0,1,2,3,4,5,6,7,8] [] 0 #[true,true,true,true,true,true,true,true,true] (by kernel_rfl) (by kernel_rfl) rfl (by rfl) ?_
          iterate 9
            refine ql_want (v := ?_) rfl (by rfl) (fun W hW => ?_) ?_
            rotate_left
            · go_simp
              first | done | rfl
            go_frame
          refine wpQL_nil (fun w3 hx3 => ?_)
          refine wpX_done (by kernel_rfl) ?_
          try go_frame
          have hx3' := hide ((unhide hx').trans hx3)
          clear hx3 c0 d0 hself1
          go_wp2_with fail
          go_roundw
          case rel =>
            refine ⟨k + 1, by omega, by go_num, fun j h1 h2 h3 => ?_, unhide hx3'⟩
            by_cases hjk : j = k
            · subst hjk; rw [unhide hx1', unhide hy1']
            · exact unhide heq' j h1 h2 (by omega)
          case measure => simp [intOf]; omega
        · have e2 : (x != y) = true := by simpa using hxy
          have hne : a ≠ b := fun e => hxy (by subst e; rw [← unhide hx1', ← unhide hy1'])
          have hne' := hide hne
          clear hxy hne
          go_wp2_with fail
          refine wp_region_ext (P := Tryz.prog) [0,1,2,3,4,5,6,7,8] [] 0 #[true,true,true,true,true,true,true,true,true] (by kernel_rfl) (by kernel_rfl) rfl (by rfl) ?_
          iterate 9
            refine ql_want (v := ?_) rfl (by rfl) (fun W hW => ?_) ?_
            rotate_left
            · go_simp
              first | done | rfl
            go_frame
          refine wpQL_nil (fun w3 hx3 => ?_)
          refine wpX_done (by kernel_rfl) ?_
          try go_frame
          have hx3' := hide ((unhide hx').trans hx3)
          clear hx3 c0 d0 hself1
          go_wp2_with fail
          go_ret
          exact ⟨ret_bl (decide_eq_false (unhide hne')).symm, unhide hx3'⟩
      · have hab : a = b := List.ext_getElem (unhide hlen') fun j h1 h2 => unhide heq' j h1 h2 (by omega)
        have hab' := hide hab
        clear hab
        go_wp2_with fail
        go_ret
        exact ⟨ret_bl (decide_eq_true (unhide hab')).symm, unhide hx'⟩
  · have e1 : ((a.length : Int) != (b.length : Int)) = true := by simp; omega
    have hne := hide (show a ≠ b from fun e => hlen (by rw [e]))
    clear hlen
    go_wp2_with fail
    go_ret
    exact ⟨ret_bl (decide_eq_false (unhide hne)).symm, unhide hself⟩
end Go.Proofs.YtjehhilijeajnaaGreatDoor
/- SLICES OF SLICES: what 's[:k]' and 's[k:]' read as. Conditions: see each theorem. -/
namespace Go.Proofs.YtjehhilijeajnaaGreatDoor
open Go Go.RowKit

section
variable {P : Program} {ρ : Operand → Value} {o : Oper} {T : TypeId} {p q : Operand} {w : World} {A : Option Addr} {n c k s : Nat}
theorem run_sl_to (ho : o.op = .slice T p none (some q) none) (hp : ρ p = .slice A n c) (hq : ρ q = .int .i64 (k : Int)) (ht : P.underlying T = some (.slice (P.elem T))) (hs : (sizeOf (P.elem T)).run P w = .ok s w) (hk : k ≤ c) : (execOp ρ o).run P w = .ok (.value (.slice A k c)) w := by
  have h := run_slice_h (w := w) T A n c ht .i64 (k : Int) (by omega) (by omega)
  rw [hs] at h
  simp only [Result.andThen_ok, sliced, Int.toNat_natCast, Nat.sub_zero] at h
  unfold execOp
  simp only [ho, hp, hq, Option.map]
  rw [Sem.run_bind, run_sliceAt_slice _ _ _ _ _ _ ht, h]
  simp only [Result.andThen_ok, Sem.run_pure]
  have hA : (if c = 0 then A else A.map fun x => x.add (0 * s)) = A := by
    split
    · rfl
    · cases A
      · rfl
      · simp [Addr.add]
  rw [hA]
/-- where the rest lies -/
def restA (A : Option Addr) (k c s : Nat) : Option Addr := if c = k then A else A.map (·.add (k * s))
theorem run_sl_from (ho : o.op = .slice T p (some q) none none) (hp : ρ p = .slice A n c) (hq : ρ q = .int .i64 (k : Int)) (ht : P.underlying T = some (.slice (P.elem T))) (hs : (sizeOf (P.elem T)).run P w = .ok s w) (hk : k ≤ n) : (execOp ρ o).run P w = .ok (.value (.slice (restA A k c s) (n - k) (c - k))) w := by
  have h := run_slice_l (w := w) T A n c ht .i64 (k : Int) (by omega) (by omega)
  rw [hs] at h
  simp only [Result.andThen_ok, sliced, Int.toNat_natCast] at h
  unfold execOp
  simp only [ho, hp, hq, Option.map]
  rw [Sem.run_bind, run_sliceAt_slice _ _ _ _ _ _ ht, h]
  simp [restA]
end
theorem SlAt.upto {α : Type} {enc : α → List Value} {kk : Nat} {w : World} {A : Option Addr} {xs : List α} (h : SlAt enc kk w A xs) (n : Nat) : SlAt enc kk w A (xs.take n) := fun hne => by
  obtain ⟨b, off, hA, hlt, hc⟩ := h (by rintro rfl; simp at hne)
  refine ⟨b, off, hA, hlt, fun i x hx j u hu => hc i x ?_ j u hu⟩
  rw [List.getElem?_take] at hx
  split at hx
  · exact hx
  · cases hx
/-- one taken out -/
theorem perm_out (o left : List Int) {k : Nat} (hk : k < left.length) : ((o ++ [left[k]]) ++ (left.take k ++ left.drop (k + 1))).Perm (o ++ left) := by
  rw [List.append_assoc]
  refine List.Perm.append_left o ?_
  have h1 : left = left.take k ++ left[k] :: left.drop (k + 1) := by rw [List.getElem_cons_drop, List.take_append_drop]
  have h2 := @List.perm_middle _ left[k] (left.take k) (left.drop (k + 1))
  rw [← h1] at h2
  exact h2.symm
theorem len_out (left : List Int) {k : Nat} (hk : k < left.length) : (left.take k ++ left.drop (k + 1)).length = left.length - 1 := by
  rw [List.length_append, List.length_take, List.length_drop]
  omega
theorem SlAt.rest {α : Type} {enc : α → List Value} {kk : Nat} {w : World} {A : Option Addr} {xs : List α} (h : SlAt enc kk w A xs) (k c : Nat) (hc : xs.length ≤ c) : SlAt enc kk w (restA A k c kk) (xs.drop k) := fun hne => by
  have hlt : k < xs.length := by
    rcases Nat.lt_or_ge k xs.length with h1 | h1
    · exact h1
    · exact absurd (List.drop_eq_nil_of_le h1) hne
  obtain ⟨b, off, rfl, hb, hx⟩ := h (by rintro rfl; simp at hlt)
  refine ⟨b, off + k * kk, ?_, hb, fun i x hi j u hu => ?_⟩
  · unfold restA
    rw [if_neg (by omega)]
    simp [Addr.add]
  · rw [List.getElem?_drop] at hi
    have := hx (k + i) x hi j u hu
    rw [Nat.add_mul] at this
    rw [show off + k * kk + i * kk + j = off + (k * kk + i * kk) + j by omega]
    exact this
end Go.Proofs.YtjehhilijeajnaaGreatDoor
/- law05.Made: the reference graph that edits make. Conditions: see each theorem. -/
namespace Go.Proofs.YtjehhilijeajnaaGreatDoor
open Go Go.RowKit
attribute [local go_sem] qUpon lUpon

def stD (s : GS) (d : Ed) : GS := (nxV d.1 d.2.1 d.2.2.1 d.2.2.2.1 d.2.2.2.2 s.1 s.2, nxE d.1 d.2.1 d.2.2.1 d.2.2.2.1 d.2.2.2.2 s.1 s.2)
def mdS (L : List Ed) : GS := (L.take 60).foldl stD ([], [])
theorem fold_inv : ∀ (L : List Ed) (s : GS), GInv s.1 s.2 → GInv (L.foldl stD s).1 (L.foldl stD s).2
  | [], _, h => h
  | d :: L, s, h => fold_inv L (stD s d) (h.next _ _ _ _ _)
theorem mdS_inv (L : List Ed) : GInv (mdS L).1 (mdS L).2 := fold_inv _ _ GInv.nil

structure MdRel (w wr : World) (gw : Nat) (S : GS) (A B : Option Addr) (cA cB : Nat) : Prop where
  blk : Blk wr gw 28 #[.slice A S.1.length cA, .slice B S.2.length cB]
  sv : SlAt encV 3 wr A S.1
  se : SlAt encE 4 wr B S.2
  ext : Ext w wr
  lo : w.heap.size ≤ gw
theorem MdRel.go {w wr wr' : World} {gw : Nat} {S : GS} {A B : Option Addr} {cA cB : Nat} (h : MdRel w wr gw S A B cA cB) (k : Ext wr wr') : MdRel w wr' gw S A B cA cB :=
  ⟨h.blk.ext k, h.sv.ext k, h.se.ext k, h.ext.trans k, h.lo⟩

set_option maxRecDepth 100000 in
set_option maxHeartbeats 4000000 in
theorem made_any (A : Option Addr) (L : List Ed) (cL : Nat) (w : World) (hL : SlAt encD 5 w A L) :
    Calls Tryz.prog 36 #[.slice A L.length cL] w fun e w' => ∃ A1 cA B1 cB, e = .returned (.agg #[.slice A1 (mdS L).1.length cA, .slice B1 (mdS L).2.length cB]) ∧ SlAt encV 3 w' A1 (mdS L).1 ∧ SlAt encE 4 w' B1 (mdS L).2 ∧ Ext w w' := by
  have hL' := hide hL
  clear hL
  have hb0 := (Blk.new w 28 #[.slice none 0 0, .slice none 0 0]).ext (ext_self1 _ (.cells #[.slice none 0 0, .slice none 0 0] 28))
  have hb1 := Blk.new (w.alloc (.cells #[.slice none 0 0, .slice none 0 0] 28)) 28 #[.slice none 0 0, .slice none 0 0]
  simp only [World.size_alloc] at hb1
  have hb0' := hide hb0
  have hb1' := hide hb1
  clear hb0 hb1
  go_enter Tryz.func36, Tryz.ntmps36
  go_wp2_with fail
  refine wp_abs (fun W => Blk W w.heap.size 28 #[.slice none 0 0, .slice none 0 0] ∧ MdRel w W (w.heap.size + 1) ([], []) none none 0 0) ⟨unhide hb0', unhide hb1', SlAt.nil, SlAt.nil, ext_self2 _ _ _, by omega⟩ ?_
  rintro w2 ⟨hq0, hr0⟩
  have hr0' := hide hr0
  have hq0' := hide hq0
  have hne' := hide (show w.heap.size ≠ w.heap.size + 1 by omega)
  clear hr0 hq0 hb0' hb1'
  generalize hr1 : w.heap.size + 1 = gw at *
  generalize hr2 : w.heap.size = ge at *
  have hge' := hide hr2
  clear hr1 hr2
  go_loopw [4] (fun i wr => ∃ (k : Nat) (A1 B1 : Option Addr) (cA cB : Nat), k ≤ L.length ∧ k ≤ 60 ∧ i = .int .i64 k ∧ Blk wr ge 28 #[.slice none 0 0, .slice none 0 0] ∧ MdRel w wr gw ((L.take k).foldl stD ([], [])) A1 B1 cA cB) (fun i _ => L.length - (intOf i).toNat)
  case atStart => exact ⟨0, none, none, 0, 0, Nat.zero_le _, by omega, rfl, unhide hq0', unhide hr0'⟩
  case round =>
    obtain ⟨k, A1, B1, cA, cB, hk, hk60, rfl, hq, hr⟩ := hrel
    have hr' := hide hr
    have hq' := hide hq
    clear hr hr0' hq hq0'
    by_cases hlt : k < L.length
    · by_cases h60 : k < 60
      · obtain ⟨b, off, rfl, c0, c1, c2, c3, c4⟩ := atD ((unhide hL').ext (unhide hr').ext) hlt
        have hst := hide (fold_step (st := stD) (s := (([], []) : GS)) hlt)
        have hin := hide (fold_inv (L.take k) ([], []) GInv.nil)
        generalize (L.take k).foldl stD ([], []) = S at *
        obtain ⟨V, E⟩ := S
        generalize hy : L[k] = y at c0 c1 c2 c3 c4 hst
        obtain ⟨op, u, v, lab, wt⟩ := y
        have hB0 := (unhide hr').blk
        have q0 := hB0.cells 0 (v := .slice A1 V.length cA) rfl
        have q1 := hB0.cells 1 (v := .slice B1 E.length cB) rfl
        clear hy hB0
        simp only at c0 c1 c2 c3 c4
        go_wp2_with fail
        refine wp_region_ext (P := Tryz.prog) [0,1,2,3,4] [5,6,7,8,9] 5 #[true,true,true,true,true,false,false,false,false,false] (by kernel_rfl) (by kernel_rfl) rfl (by rfl) ?_
        iterate 5
          refine ql_want (v := ?_) rfl (by rfl) (fun W hW => ?_) ?_
          rotate_left
          · go_simp
            first | done | rfl
          go_frame
        refine wpQL_nil (fun w3 hx3 => ?_)
        clear q0 q1 c0 c1 c2 c3 c4
        refine lx_one (i := 5) (by kernel_rfl) rfl (by rfl) #[true,true,true,true,true,true,false,false,false,false] (by rfl) ?_
        go_simp
        have hr3 := (unhide hr').go hx3
        have hq3 := (unhide hq').ext hx3
        refine (do_any A1 B1 V E cA cB op u v lab wt _ hr3.sv hr3.se (Nat.le_trans (unhide hin).nv (by omega)) (Nat.le_trans (unhide hin).ne (by omega))).mono ?_
        rintro e w4 ⟨A2, cA2, B2, cB2, rfl, hs4, he4, hx4⟩
        refine ⟨_, rfl, fun w5 hx5 => ?_⟩
        have hx35 := hx4.trans hx5
        have hb5 := hr3.blk.ext hx35
        have hc5 := hide (GCls.refl hb5)
        have hG5 : ∃ A n c B m d, Blk w5 gw 28 #[.slice A n c, .slice B m d] := ⟨_, _, _, _, _, _, hb5⟩
        have hG5' := hide hG5
        have hq5 := hide (hq3.ext hx35)
        have hs5 := hide (hs4.ext hx5)
        have he5 := hide (he4.ext hx5)
        have hxw5 := hide (hr3.ext.trans hx35)
        have hlo := hide hr3.lo
        clear hr3 hq3 hs4 he4 hx4 hx5 hx35 hb5 hG5 hx3 hr' hq'
        refine lx_re (GCls gw w5) [6,7,8] 1 4 #[true,true,true,true,true,true,false,false,false,false] #[true,true,true,true,true,true,true,true,true,false] (by kernel_rfl) (by kernel_rfl) rfl (by rfl) Ext.refl (fun _ _ _ => Ext.trans) (fun _ _ h k => h.ext k) (unhide hc5) ?_
        iterate 3
          refine ql_want (v := ?_) rfl (by rfl) (fun W hW => ?_) ?_
          rotate_left
          · go_simp
            first | done | rfl
          go_frame
        refine wpQL_nil (fun w6 hc6 => ?_)
        have hc6' := hide hc6
        obtain ⟨hk6, A0, n0, k0, B0, m0, d0, hb6⟩ := hc6
        have s0 := hb6.cell 0
        have s1 := hb6.cell 1
        have f0 := hb6.frozen 0
        have f1 := hb6.frozen 1
        have hb6' := hide hb6
        simp at s0 s1
        clear hk6 hb6
        refine lx_one (i := 9) (by kernel_rfl) rfl (by rfl) #[true,true,true,true,true,true,true,true,true,true] (by rfl) ?_
        go_simp
        clear s0 s1 f0 f1
        have hc7 := (unhide hc6').set A2 B2 (nxV op u v lab wt V E).length cA2 (nxE op u v lab wt V E).length cB2
        have hb7 := (unhide hb6').set2 (p' := .slice A2 (nxV op u v lab wt V E).length cA2) (q' := .slice B2 (nxE op u v lab wt V E).length cB2)
        generalize ((w6.setCell ⟨gw, 0, none⟩ (.slice A2 (nxV op u v lab wt V E).length cA2)).setCell ⟨gw, 1, none⟩ (.slice B2 (nxE op u v lab wt V E).length cB2)) = w7 at *
        first | refine ⟨hc7, ?_⟩ | skip
        intro w8 hx8
        have hrel := MdRel.go (w := w) (S := stD (V, E) (op, (u, (v, (lab, wt))))) ⟨hb7, (unhide hs5).cls hc7 (unhide hG5') encV_ns encV0, (unhide he5).cls hc7 (unhide hG5') encE_ns encE0, (unhide hxw5).of_new hc7.1 (by have := unhide hlo; simpa using this), unhide hlo⟩ hx8
        have hq8 := hide (((unhide hq5).keep hc7.1 (by simpa using unhide hne')).ext hx8)
        have hrel' := hide hrel
        clear hrel hc7 hb7 hc6' hb6' hx8 hc5 hG5' hq5 hs5 he5 hxw5 hlo
        refine wpX_done (by kernel_rfl) ?_
        try go_frame
        go_wp2_with fail
        go_roundw
        case rel => exact ⟨k + 1, A2, B2, cA2, cB2, by omega, by omega, by go_num, unhide hq8, by rw [unhide hst]; exact unhide hrel'⟩
        case measure => simp [intOf]; omega
      · have hS : L.take k = L.take 60 := by rw [show k = 60 by omega]
        rw [hS] at hr'
        clear hS
        generalize hmd : (L.take 60).foldl stD ([], []) = S at *
        have hmd' : mdS L = S := hmd
        have hmd'' := hide hmd'
        clear hmd hmd'
        have hB0 := (unhide hr').blk
        have q0 := hB0.cell 0
        have q1 := hB0.cell 1
        have s0 := (unhide hq').cell 0
        have s1 := (unhide hq').cell 1
        have f0 := (unhide hq').frozen 0
        have f1 := (unhide hq').frozen 1
        clear hB0
        simp at q0 q1 s0 s1
        go_wp2_with fail
        refine bodyPost_ret (ret_cell1 rfl rfl (load_G2 wr ge _ _ _ _ s0 s1)) rfl ?_
        rw [unhide hmd'']
        have hk := Keep.set2 wr ge (.slice A1 S.1.length cA) (.slice B1 S.2.length cB)
        exact ⟨A1, cA, B1, cB, rfl, (unhide hr').sv.keep_G (unhide hq') ⟨_, _, _, rfl⟩ ⟨_, _, _, rfl⟩ encV_ns encV0 hk, (unhide hr').se.keep_G (unhide hq') ⟨_, _, _, rfl⟩ ⟨_, _, _, rfl⟩ encE_ns encE0 hk, (unhide hr').ext.of_new hk (by have := unhide hge'; simp; omega)⟩
    · have hS : L.take k = L.take 60 := by rw [List.take_of_length_le (by omega), List.take_of_length_le (by omega)]
      rw [hS] at hr'
      clear hS
      generalize hmd : (L.take 60).foldl stD ([], []) = S at *
      have hmd' : mdS L = S := hmd
      have hmd'' := hide hmd'
      clear hmd hmd'
      have hB0 := (unhide hr').blk
      have q0 := hB0.cell 0
      have q1 := hB0.cell 1
      have s0 := (unhide hq').cell 0
      have s1 := (unhide hq').cell 1
      have f0 := (unhide hq').frozen 0
      have f1 := (unhide hq').frozen 1
      clear hB0
      simp at q0 q1 s0 s1
      go_wp2_with fail
      refine bodyPost_ret (ret_cell1 rfl rfl (load_G2 wr ge _ _ _ _ s0 s1)) rfl ?_
      rw [unhide hmd'']
      have hk := Keep.set2 wr ge (.slice A1 S.1.length cA) (.slice B1 S.2.length cB)
      exact ⟨A1, cA, B1, cB, rfl, (unhide hr').sv.keep_G (unhide hq') ⟨_, _, _, rfl⟩ ⟨_, _, _, rfl⟩ encV_ns encV0 hk, (unhide hr').se.keep_G (unhide hq') ⟨_, _, _, rfl⟩ ⟨_, _, _, rfl⟩ encE_ns encE0 hk, (unhide hr').ext.of_new hk (by have := unhide hge'; simp; omega)⟩
end Go.Proofs.YtjehhilijeajnaaGreatDoor
