/- LAW GraphBuild, the walk. Conditions: see each theorem. -/
import Derived.Test.YtdkhondfahebnaaFr
import Derived.Test.YtdkhondfahebnaaKn
namespace Go.Proofs.Ytdkhondfahebnaa
open Go Go.RowKit
attribute [local go_sem] qUpon lUpon

theorem vertices_nil (w : World) : Calls Try.prog 23 #[.pointer none] w fun e w' => e = .returned (.slice none 0 0) ∧ Ext w w' := by
  go_enter Try.func23, Try.ntmps23
  go_wp2_with fail
  go_ret
  exact ⟨rfl, Ext.refl _⟩
theorem edges_nil (w : World) : Calls Try.prog 24 #[.pointer none] w fun e w' => e = .returned (.slice none 0 0) ∧ Ext w w' := by
  go_enter Try.func24, Try.ntmps24
  go_wp2_with fail
  go_ret
  exact ⟨rfl, Ext.refl _⟩
set_option maxHeartbeats 1000000 in
theorem to_nil (w : World) : Calls Try.prog 15 #[.pointer none] w fun e w' => e = .returned (.agg #[.slice none 0 0, .slice none 0 0]) ∧ Ext w w' := by
  go_enter Try.func15, Try.ntmps15
  go_wp2_with fail
  refine (vertices_nil _).mono ?_
  rintro e w1 ⟨rfl, hx1⟩
  go_wp2_with fail
  refine (edges_nil _).mono ?_
  rintro e w2 ⟨rfl, hx2⟩
  have hq := (Blk.new w 28 #[.slice none 0 0, .slice none 0 0]).ext (ext_self1 _ (.cells #[.slice none 0 0, .slice none 0 0] 28))
  have hq2 := (hq.ext hx1).ext hx2
  have hr := Blk.new (w.alloc (.cells #[.slice none 0 0, .slice none 0 0] 28)) 28 #[.slice none 0 0, .slice none 0 0]
  simp only [World.size_alloc] at hr
  have hr2 := (hr.ext hx1).ext hx2
  have hxw := hide (((ext_self2 w _ _).trans hx1).trans hx2)
  have s0 := hq2.cell 0
  have s1 := hq2.cell 1
  have f0 := hq2.frozen 0
  have f1 := hq2.frozen 1
  have q0 := hr2.cell 0
  have q1 := hr2.cell 1
  simp at s0 s1 q0 q1
  clear hq hq2 hr hr2 hx1 hx2
  go_wp2_with fail
  go_loopw [6] (fun i wr => i = .int .i64 0 ∧ wr = w2) (fun _ _ => 0)
  case atStart => exact ⟨rfl, rfl⟩
  case round =>
    obtain ⟨rfl, rfl⟩ := hrel
    go_wp2_with fail
    go_loopw [7] (fun i wr2 => i = .int .i64 0 ∧ wr2 = wr) (fun _ _ => 0)
    case atStart => exact ⟨rfl, rfl⟩
    case round =>
      obtain ⟨rfl, rfl⟩ := hrel
      go_wp2_with fail
      refine bodyPost_ret (ret_cell1 rfl rfl (load_G2 _ w.heap.size _ _ _ _ s0 s1)) rfl ?_
      exact ⟨rfl, (unhide hxw).of_new (Keep.set2 _ _ _ _) (by simp)⟩

theorem SlAt.take {α : Type} {enc : α → List Value} {k : Nat} {w : World} {A : Option Addr} {xs : List α} (h : SlAt enc k w A xs) (n : Nat) : SlAt enc k w A (xs.take n) := fun hne => by
  obtain ⟨b, off, hA, hlt, hc⟩ := h (by rintro rfl; simp at hne)
  refine ⟨b, off, hA, hlt, fun i x hx j u hu => hc i x ?_ j u hu⟩
  rw [List.getElem?_take] at hx
  split at hx
  · exact hx
  · cases hx

set_option maxRecDepth 100000 in
set_option maxHeartbeats 4000000 in
theorem graphBuild_walk (A : Option Addr) (Vs : List (Int × Thing)) (cV : Nat) (B : Option Addr) (Es : List ((Int × Int) × Thing)) (cE : Nat) (w : World) (hV : SlAt encV 3 w A Vs) (oV : ∀ d ∈ Vs, okV d) (hl : Vs.length ≤ 9223372036854775807) (hcV : Vs.length ≤ cV) (hE : SlAt encE 4 w B Es) (oE : ∀ d ∈ Es, okEd d) (hle : Es.length ≤ 9223372036854775807) (hcE : Es.length ≤ cE) :
    Calls Try.prog 4 #[.slice A Vs.length cV, .slice B Es.length cE] w fun e w' => e = .returned (.bool true) ∧ Ext w w' := by
  have hV' := hide (hV.take 60)
  have hE' := hide (hE.take 60)
  have oV' := hide (fun d (hd : d ∈ Vs.take 60) => oV d (List.mem_of_mem_take hd))
  have oE' := hide (fun d (hd : d ∈ Es.take 60) => oE d (List.mem_of_mem_take hd))
  have m1 : (0 : Int) ≤ min (Vs.length : Int) 60 := by omega
  have m2 : min (Vs.length : Int) 60 ≤ (cV : Int) := by omega
  have m3 : (min (Vs.length : Int) 60).toNat = (Vs.take 60).length := by rw [List.length_take]; omega
  have m4 : (0 : Int) ≤ min (Es.length : Int) 60 := by omega
  have m5 : min (Es.length : Int) 60 ≤ (cE : Int) := by omega
  have m6 : (min (Es.length : Int) 60).toNat = (Es.take 60).length := by rw [List.length_take]; omega
  have k1 : (Vs.take 60).length ≤ 60 := by rw [List.length_take]; omega
  have k2 : (Es.take 60).length ≤ 60 := by rw [List.length_take]; omega
  clear hV hE oV oE
  generalize Vs.take 60 = Us at *
  generalize Es.take 60 = Fs at *
  go_enter Try.func4, Try.ntmps4
  go_wp2_with fail
  refine wp_region_still (P := Try.prog) [0,1,2,3,4,5,6,7,8,9,10,11] [] 0 #[true,true,true,true,true,true,true,true,true,true,true,true] (by kernel_rfl) (by kernel_rfl) rfl (by rfl) ?_
  iterate 12
    refine ql_want (v := ?_) rfl (by rfl) (fun W hW => ?_) ?_
    rotate_left
    · go_simp
      first | done | rfl
    go_frame
  refine wpQL_nil (fun w1 hx1 => ?_)
  refine wpX_done (by kernel_rfl) ?_
  try go_frame
  clear m1 m2 m3 m4 m5 m6 hl hle hcV hcE
  have hx1' := hide hx1
  clear hx1
  go_wp2_with fail
  go_loopw [5, 7] (fun l i wr => ∃ (k : Nat) (vs : Value), k ≤ Us.length ∧ i = .int .i64 k ∧ vs = l ∧ wr.ownsRow w1.heap.size 43 3 vs k ((Us.take k).flatMap encV) ∧ Ext w1 wr) (fun _ i _ => Us.length - (intOf i).toNat)
  case atStart => exact ⟨0, _, Nat.zero_le _, rfl, rfl, World.ownsRow_nil _ _ _ _, Ext.refl _⟩
  case round =>
    obtain ⟨k, vs, hk, rfl, hl3, hown, hx⟩ := hrel
    subst hl3
    have hown' := hide hown
    have hx' := hide hx
    clear hown
    by_cases hlt : k < Us.length
    · obtain ⟨b, off, rfl, c0, c1, c2⟩ := atV ((unhide hV').ext ((unhide hx1').trans hx)) hlt
      have hst := List.take_succ_eq_append_getElem hlt
      generalize hy : Us[k] = y at c0 c1 c2 hst
      obtain ⟨u, lab, wt⟩ := y
      have hst' := hide hst
      have hn' := hide (show k ≤ 100000 by omega)
      have hln := hide (show (Us.take k).length = k by rw [List.length_take]; omega)
      clear hy hst
      simp only at c0 c1 c2
      go_wp2_with (at_builtin; refine wp_ap inforV Try.underlying25 one_encV (fun _ => rfl) (by decide) (by decide) wr rfl _ _ rfl w1.heap.size vs k (Us.take k) (u, (lab, wt)) (unhide hln) wr.heap.size _ (by rfl) rfl (by rfl) (by rfl) (unhide hown') (unhide hn') (Below.size (unhide hx')) ?_; intro A1 k1 w4 ho4 hg4; have hx4 := hide (app_step (unhide hx') (unhide hown') (ext_self1 _ _) hg4); have ho4' := hide ho4; clear ho4 hg4)
      go_roundw
      case rel => exact ⟨k + 1, _, by omega, by go_num, rfl, by have h := unhide ho4'; rw [unhide hst']; exact h, unhide hx4⟩
      case measure => simp [intOf]; omega
    · have hkV : k = Us.length := by omega
      subst hkV
      rw [List.take_length] at hown'
      obtain ⟨A1, c1, rfl⟩ := own_slice (unhide hown')
      have hoV := hide (unhide hown')
      have hxV := hide hx
      rename World => wV
      clear hown' hx' hx
      go_wp2_with fail
      go_loopw [6, 8] (fun l i wr => ∃ (k : Nat) (vs : Value), k ≤ Fs.length ∧ i = .int .i64 k ∧ vs = l ∧ wr.ownsRow wV.heap.size 46 4 vs k ((Fs.take k).flatMap encE) ∧ Ext wV wr) (fun _ i _ => Fs.length - (intOf i).toNat)
      case atStart => exact ⟨0, _, Nat.zero_le _, rfl, rfl, World.ownsRow_nil _ _ _ _, Ext.refl _⟩
      case round =>
        obtain ⟨k, vs, hk, rfl, hl3, hown, hx⟩ := hrel
        subst hl3
        have hown' := hide hown
        have hx' := hide hx
        clear hown
        by_cases hlt : k < Fs.length
        · obtain ⟨b, off, rfl, c0, c1, c2, c3⟩ := atE ((unhide hE').ext (((unhide hx1').trans (unhide hxV)).trans hx)) hlt
          have hst := List.take_succ_eq_append_getElem hlt
          generalize hy : Fs[k] = y at c0 c1 c2 c3 hst
          obtain ⟨⟨u, v⟩, ⟨lab, wt⟩⟩ := y
          have hst' := hide hst
          have hn' := hide (show k ≤ 100000 by omega)
          have hln := hide (show (Fs.take k).length = k by rw [List.length_take]; omega)
          clear hy hst
          simp only at c0 c1 c2 c3
          go_wp2_with (at_builtin; refine wp_ap inforE Try.underlying26 one_encE (fun _ => rfl) (by decide) (by decide) wr rfl _ _ rfl wV.heap.size vs k (Fs.take k) ((u, v), (lab, wt)) (unhide hln) wr.heap.size _ (by rfl) rfl (by rfl) (by rfl) (unhide hown') (unhide hn') (Below.size (unhide hx')) ?_; intro A1 k1 w4 ho4 hg4; have hx4 := hide (app_step (unhide hx') (unhide hown') (ext_self1 _ _) hg4); have ho4' := hide ho4; clear ho4 hg4)
          go_roundw
          case rel => exact ⟨k + 1, _, by omega, by go_num, rfl, by have h := unhide ho4'; rw [unhide hst']; exact h, unhide hx4⟩
          case measure => simp [intOf]; omega
        · have hkE : k = Fs.length := by omega
          subst hkE
          rw [List.take_length] at hown'
          obtain ⟨A2, c2, rfl⟩ := own_slice (unhide hown')
          have hxr := hide (((unhide hx1').trans (unhide hxV)).trans hx)
          have hsV := hide ((own_at (unhide hoV) (fun _ => rfl)).ext hx)
          have hsE := hide (own_at (unhide hown') (fun _ => rfl))
          clear hx hx' hown' hoV hxV hx1'
          go_wp2_with fail
          refine (build_any _ _ Us Fs _ _ _ ((unhide hV').ext (unhide hxr)) ((unhide hE').ext (unhide hxr)) (unhide oV') (unhide oE') (by omega) (by omega)).mono ?_
          rintro e w5 (⟨h0, g, bv, be, rfl, hg, hx5, n1, n2, n3⟩ | ⟨h0, rfl, hx5⟩)
          · have h0' := hide h0
            have hx5' := hide hx5
            clear h0 hx5
            have hg' := hide hg
            clear hg n1 n2 n3
            go_wp2_with fail
            refine (of_any A1 A2 Us Fs c1 c2 _ ((unhide hsV).ext (unhide hx5')) ((unhide hsE).ext (unhide hx5')) (by omega) (by omega)).mono ?_
            rintro e w6 ⟨A3, c3, B3, d3, rfl, hs6, he6, hx6⟩
            rw [rS_yes (unhide h0')] at hs6 he6
            rw [rS_yes (unhide h0'), unhide h0']
            have hs6' := hide hs6
            have he6' := hide he6
            have hx6' := hide hx6
            clear hs6 he6 hx6
            go_wp2_with fail
            have hbx := Blk.new w6 28 #[.slice A3 (bS Us Fs).1.length c3, .slice B3 (bS Us Fs).2.length d3]
            have q0 := hbx.cells 0 (v := .slice A3 (bS Us Fs).1.length c3) rfl
            have q1 := hbx.cells 1 (v := .slice B3 (bS Us Fs).2.length d3) rfl
            clear hbx
            refine wp_region_ext (P := Try.prog) [0,1,2,3,4,5,6,7,8,9,10,11,12,13,14,16] [] 4 #[true,true,true,true,true,true,true,true,true,true,true,true,true,true,true,false,true,false,false,false] (by kernel_rfl) (by kernel_rfl) rfl (by rfl) ?_
            iterate 16
              refine ql_want (v := ?_) rfl (by rfl) (fun W hW => ?_) ?_
              rotate_left
              · go_simp
                first | done | rfl | ((go_at_call 16; refine (known_any _).mono ?_; rintro _ _ ⟨h1, h2⟩; refine ⟨_, h1, ?_, h2⟩; rfl))
              go_frame
            refine wpQL_nil (fun w7 hx7 => ?_)
            clear q0 q1
            refine lx_one (i := 15) (by kernel_rfl) rfl (by rfl) #[true,true,true,true,true,true,true,true,true,true,true,true,true,true,true,true,true,false,false,false] (by rfl) ?_
            go_simp
            refine (to_rel g bv be _ _ _ (((((unhide hg').ext (unhide hx6')).ext (ext_self1 _ _))).ext hx7)).mono ?_
            rintro e w8 ⟨A4, c4, B4, d4, rfl, hs8, he8, hx8⟩
            refine ⟨_, rfl, hx7.trans hx8, fun w9 hx9 => ?_⟩
            have hs9 := hide (hs8.ext hx9)
            have he9 := hide (he8.ext hx9)
            have hx69 := hide ((ext_self1 w6 (.cells #[.slice A3 (bS Us Fs).1.length c3, .slice B3 (bS Us Fs).2.length d3] 28)).trans ((hx7.trans hx8).trans hx9))
            have hx79 := (hx7.trans hx8).trans hx9
            have hs69 := hide ((unhide hs6').ext (unhide hx69))
            have he69 := hide ((unhide he6').ext (unhide hx69))
            have hinv := bS_inv Us Fs
            have b1 := hide (show (bS Us Fs).1.length ≤ 4096 from Nat.le_trans hinv.nv (by omega))
            have b2 := hide (show (bS Us Fs).2.length ≤ 4096 from Nat.le_trans hinv.ne (by omega))
            clear hinv
            refine lx_ext [17,18,19] [] 0 3 #[true,true,true,true,true,true,true,true,true,true,true,true,true,true,true,true,true,false,false,false] #[true,true,true,true,true,true,true,true,true,true,true,true,true,true,true,true,true,true,true,true] (by kernel_rfl) rfl (by rfl) hx79 ?_
            clear hx7 hx79
            clear hs8 he8 hx8 hx9
            iterate 3
              refine ql_want (v := ?_) rfl (by rfl) (fun W hW => ?_) ?_
              rotate_left
              · go_simp
                first | done | rfl | ((go_at_call 14; refine (same_refl A4 B4 A3 B3 (bS Us Fs).1 (bS Us Fs).2 c4 d4 c3 d3 _ ((unhide hs9).ext hW) ((unhide he9).ext hW) ((unhide hs69).ext hW) ((unhide he69).ext hW) (unhide b1) (unhide b2)).mono ?_; rintro _ _ ⟨h1, h2⟩; refine ⟨_, h1, ?_, h2⟩; rfl))
              go_frame
            refine wpQL_nil (fun w10 hx10 => ?_)
            refine wpX_done (by kernel_rfl) ?_
            try go_frame
            go_wp2_with fail
            go_ret
            exact ⟨rfl, ((((unhide hxr).trans (unhide hx5')).trans (unhide hx6')).trans (unhide hx69)).trans hx10⟩
          · have h0' := hide h0
            have hx5' := hide hx5
            clear h0 hx5
            go_wp2_with fail
            refine (of_any A1 A2 Us Fs c1 c2 _ ((unhide hsV).ext (unhide hx5')) ((unhide hsE).ext (unhide hx5')) (by omega) (by omega)).mono ?_
            rintro e w6 ⟨A3, c3, B3, d3, rfl, hs6, he6, hx6⟩
            rw [rS_no (unhide h0')] at hs6 he6
            rw [rS_no (unhide h0')]
            have hb := bne0 (unhide h0')
            have hb2 : (bErr Us Fs == 0) = false := by simpa using unhide h0'
            generalize bErr Us Fs = no at *
            have hs6' := hide hs6
            have he6' := hide he6
            have hx6' := hide hx6
            clear hs6 he6 hx6
            go_wp2_with fail
            have hbx := Blk.new w6 28 #[.slice A3 ([] : List (Int × Thing)).length c3, .slice B3 ([] : List ((Int × Int) × Thing)).length d3]
            have q0 := hbx.cells 0 (v := .slice A3 ([] : List (Int × Thing)).length c3) rfl
            have q1 := hbx.cells 1 (v := .slice B3 ([] : List ((Int × Int) × Thing)).length d3) rfl
            clear hbx
            refine wp_region_ext (P := Try.prog) [0,1,2,3,4,5,6,7,8,9,10,11,12,13,14,16] [] 4 #[true,true,true,true,true,true,true,true,true,true,true,true,true,true,true,false,true,false,false,false] (by kernel_rfl) (by kernel_rfl) rfl (by rfl) ?_
            iterate 16
              refine ql_want (v := ?_) rfl (by rfl) (fun W hW => ?_) ?_
              rotate_left
              · go_simp
                first | done | rfl | ((go_at_call 16; refine (known_any _).mono ?_; rintro _ _ ⟨h1, h2⟩; refine ⟨_, h1, ?_, h2⟩; rfl))
              go_frame
            refine wpQL_nil (fun w7 hx7 => ?_)
            clear q0 q1
            refine lx_one (i := 15) (by kernel_rfl) rfl (by rfl) #[true,true,true,true,true,true,true,true,true,true,true,true,true,true,true,true,true,false,false,false] (by rfl) ?_
            go_simp
            refine (to_nil _).mono ?_
            rintro e w8 ⟨rfl, hx8⟩
            refine ⟨_, rfl, hx7.trans hx8, fun w9 hx9 => ?_⟩
            have hs9 : Hid (SlAt encV 3 w9 none ([] : List (Int × Thing))) := hide SlAt.nil
            have he9 : Hid (SlAt encE 4 w9 none ([] : List ((Int × Int) × Thing))) := hide SlAt.nil
            have hx69 := hide ((ext_self1 w6 (.cells #[.slice A3 ([] : List (Int × Thing)).length c3, .slice B3 ([] : List ((Int × Int) × Thing)).length d3] 28)).trans ((hx7.trans hx8).trans hx9))
            have hx79 := (hx7.trans hx8).trans hx9
            have hs69 := hide ((unhide hs6').ext (unhide hx69))
            have he69 := hide ((unhide he6').ext (unhide hx69))
            have hinv := bS_inv Us Fs
            have b1 := hide (show ([] : List (Int × Thing)).length ≤ 4096 from by simp)
            have b2 := hide (show ([] : List ((Int × Int) × Thing)).length ≤ 4096 from by simp)
            clear hinv
            refine lx_ext [17,18,19] [] 0 3 #[true,true,true,true,true,true,true,true,true,true,true,true,true,true,true,true,true,false,false,false] #[true,true,true,true,true,true,true,true,true,true,true,true,true,true,true,true,true,true,true,true] (by kernel_rfl) rfl (by rfl) hx79 ?_
            clear hx7 hx79
            clear hx8 hx9
            iterate 3
              refine ql_want (v := ?_) rfl (by rfl) (fun W hW => ?_) ?_
              rotate_left
              · go_simp
                first | done | rfl | ((go_at_call 14; refine (same_refl none none A3 B3 ([] : List (Int × Thing)) ([] : List ((Int × Int) × Thing)) 0 0 c3 d3 _ ((unhide hs9).ext hW) ((unhide he9).ext hW) ((unhide hs69).ext hW) ((unhide he69).ext hW) (unhide b1) (unhide b2)).mono ?_; rintro _ _ ⟨h1, h2⟩; refine ⟨_, h1, ?_, h2⟩; rfl))
              go_frame
            refine wpQL_nil (fun w10 hx10 => ?_)
            refine wpX_done (by kernel_rfl) ?_
            try go_frame
            go_wp2_with fail
            go_ret
            exact ⟨rfl, ((((unhide hxr).trans (unhide hx5')).trans (unhide hx6')).trans (unhide hx69)).trans hx10⟩
end Go.Proofs.Ytdkhondfahebnaa
