/- Parts of a proof, laid together: Qi. Each part says its own conditions. -/
import Derived.Test.YtdkhondfahebnaaQ18
import Derived.Test.YtdkhondfahebnaaQ17
import Derived.Test.YtdkhondfahebnaaQ19
/- LAW GraphQueries, the walk. Conditions: see each theorem. -/
namespace Go.Proofs.Ytdkhondfahebnaa
open Go Go.RowKit
attribute [local go_sem] qUpon lUpon

theorem gedgeM (g bv be : Nat) (V : List (Int × Thing)) (E : List ((Int × Int) × Thing)) (u v : Int) (w : World) (hg : IsG w g bv be V E) (hp : posI (isE u v) E = -1) : Calls Try.prog 29 #[.pointer (some ⟨g, 0, none⟩), .int .i64 u, .int .i64 v] w fun e w' => e = .returned (.tuple #[.agg #[.int .i64 0, .int .i64 0, .int .u8 0, .int .i64 0], .int .i64 0, .bool false]) ∧ Ext w w' := by
  have n2 := hg.nE
  obtain ⟨V', E', h1, hV, hE, hi⟩ := hg
  exact gedge_miss g bv be V' E' E u v w h1 hE hi.se (by rw [← hE.length_eq]; exact n2) (by rw [posX_posE hi.lo]; exact hp)
theorem gedgeH (g bv be : Nat) (V : List (Int × Thing)) (E : List ((Int × Int) × Thing)) (u v : Int) (w : World) (hg : IsG w g bv be V E) (k : Nat) (hk : k < E.length) (hp : posI (isE u v) E = k) : Calls Try.prog 29 #[.pointer (some ⟨g, 0, none⟩), .int .i64 u, .int .i64 v] w fun e w' => e = .returned (.tuple #[.agg #[.int .i64 E[k].1.1, .int .i64 E[k].1.2, .int .u8 E[k].2.1, .int .i64 E[k].2.2], .int .i64 k, .bool true]) ∧ Ext w w' := by
  have n2 := hg.nE
  obtain ⟨V', E', h1, hV, hE, hi⟩ := hg
  exact gedge_hit g bv be V' E' E u v w h1 hE hi.se (by rw [← hE.length_eq]; exact n2) k hk (by rw [posX_posE hi.lo]; exact hp)
theorem len_rel (g bv be : Nat) (V : List (Int × Thing)) (E : List ((Int × Int) × Thing)) (w : World) (hg : IsG w g bv be V E) : Calls Try.prog 27 #[.pointer (some ⟨g, 0, none⟩)] w fun e w' => e = .returned (.tuple #[.int .i64 V.length, .int .i64 E.length]) ∧ Ext w w' := by
  obtain ⟨V', E', h1, hV, hE, hi⟩ := hg
  rw [hV.length_eq, hE.length_eq]
  exact len_any g bv be V' E' w h1
theorem near_rel (g bv be : Nat) (V : List (Int × Thing)) (E : List ((Int × Int) × Thing)) (id : Int) (w : World) (hg : IsG w g bv be V E) : Calls Try.prog 33 #[.pointer (some ⟨g, 0, none⟩), .int .i64 id] w fun e w' => e = .returned (.agg (setC (nearS id E))) ∧ Ext w w' :=
  near_gen _ id E w hg.nE fun W hW => (edges_rel g bv be V E W (hg.ext hW)).mono fun e w' h => by
    obtain ⟨A, c, he, ho, hx⟩ := h
    exact ⟨A, c, he, own_at ho (fun _ => rfl), hx⟩
theorem inc_rel (g bv be : Nat) (V : List (Int × Thing)) (E : List ((Int × Int) × Thing)) (id : Int) (w : World) (hg : IsG w g bv be V E) : Calls Try.prog 35 #[.pointer (some ⟨g, 0, none⟩), .int .i64 id] w fun e w' => e = .returned (.agg (setC (incS id E E.length))) ∧ Ext w w' :=
  inc_gen _ id E w hg.nE fun W hW => (edges_rel g bv be V E W (hg.ext hW)).mono fun e w' h => by
    obtain ⟨A, c, he, ho, hx⟩ := h
    exact ⟨A, c, he, own_at ho (fun _ => rfl), hx⟩
theorem vset_rel (g bv be : Nat) (V : List (Int × Thing)) (E : List ((Int × Int) × Thing)) (w : World) (hg : IsG w g bv be V E) : Calls Try.prog 36 #[.pointer (some ⟨g, 0, none⟩)] w fun e w' => e = .returned (.agg (setC (vS V))) ∧ Ext w w' :=
  vset_gen _ V w hg.nV fun W hW => (vertices_rel g bv be V E W (hg.ext hW)).mono fun e w' h => by
    obtain ⟨A, c, he, ho, hx⟩ := h
    exact ⟨A, c, he, own_at ho (fun _ => rfl), hx⟩
theorem eset_rel (g bv be : Nat) (V : List (Int × Thing)) (E : List ((Int × Int) × Thing)) (w : World) (hg : IsG w g bv be V E) : Calls Try.prog 37 #[.pointer (some ⟨g, 0, none⟩)] w fun e w' => e = .returned (.agg (setC (belS E.length))) ∧ Ext w w' :=
  eset_gen _ _ _ w fun W hW => len_rel g bv be V E W (hg.ext hW)

theorem bit_at (N j : Nat) : (bits .and .u64 (wd N (j / 64) / 2 ^ (j % 64)) 1 == 1) = N.testBit j := by
  have e : wd N (j / 64) / 2 ^ (j % 64) = ((wdN N (j / 64) / 2 ^ (j % 64) : Nat) : Int) := by
    unfold wd
    simp
  have hlt : wdN N (j / 64) / 2 ^ (j % 64) < 2 ^ 64 := Nat.lt_of_le_of_lt (Nat.div_le_self _ _) (wdN_lt _ _)
  rw [e, show (1 : Int) = ((1 : Nat) : Int) from rfl, u64_and_nat _ _ hlt (by decide)]
  have h := wdN_bit N (j / 64) (j % 64)
  rw [show 64 * (j / 64) + j % 64 = j by omega, decide_eq_true (show j % 64 < 64 by omega), Bool.true_and] at h
  rw [← h, Nat.testBit_eq_decide_div_mod_eq, Nat.and_one_is_mod, Bool.eq_iff_iff]
  simp only [beq_iff_eq, decide_eq_true_eq]
  omega
theorem bel_at (m j : Nat) (hm : m ≤ 1024) : (bits .and .u64 (wd (belS (m : Int)) (j / 64) / 2 ^ (j % 64)) 1 == 1) = decide (j < m) := by
  rw [bit_at]
  unfold belS
  rw [Nat.testBit_two_pow_sub_one, Int.toNat_natCast, Nat.min_eq_left hm]
theorem from01_n (A : Option Addr) (L : List Int) (n cL : Nat) (hn : L.length = n) (w : World) (hL : SlAt encI 1 w A L) (hl : n ≤ 4096) :
    Calls Try.prog 34 #[.slice A n cL] w fun e w' => e = .returned (.agg (setC (fromS L))) ∧ Ext w w' := by
  subst hn
  exact from01_any A L cL w hL hl

set_option maxRecDepth 100000 in
set_option maxHeartbeats 16000000 in
theorem graphQueries_walk (A : Option Addr) (L : List Ed) (cL : Nat) (u v : Int) (w : World) (hL : SlAt encD 5 w A L) (_hok : ∀ d ∈ L, okD d) (_hl : L.length ≤ 9223372036854775807) (_hc : L.length ≤ cL) (hu : i64ok u) (_hv : i64ok v) :
    Calls Try.prog 8 #[.slice A L.length cL, .int .i64 u, .int .i64 v] w fun e w' => e = .returned (.bool true) ∧ Ext w w' := by
  have hL' := hide hL
  have hu' := hide hu
  clear hL hu
  go_enter Try.func8, Try.ntmps8
  go_wp2_with fail
  refine (made_any A L cL _ (unhide hL')).mono ?_
  rintro e w1 ⟨A1, cA, B1, cB, rfl, hs1, he1, hx1⟩
  have hinv := mdS_inv L
  generalize mdS L = S at *
  obtain ⟨V, E⟩ := S
  simp only at hs1 he1 hinv
  have hs1' := hide hs1
  have he1' := hide he1
  have hx1' := hide hx1
  have hi' := hide hinv
  have nV := hinv.nv
  have nE := hinv.ne
  clear hs1 he1 hx1 hinv
  go_wp2_with fail
  refine (from_any A1 B1 V E cA cB _ ((unhide hs1').ext (ext_self1 _ _)) ((unhide he1').ext (ext_self1 _ _)) (unhide hi')).mono ?_
  rintro e wr ⟨g, bv, be, rfl, hg0, hx0, n1, n2, n3⟩
  have hR : ApRel w wr g bv be w1.heap.size V E A1 B1 cA cB := by
    have h1 := Below.size (unhide hx1')
    simp at n1 n2 n3
    exact ⟨hg0, (Blk.new w1 _ _).ext hx0, ((unhide hs1').ext (ext_self1 _ _)).ext hx0, ((unhide he1').ext (ext_self1 _ _)).ext hx0, ((unhide hx1').trans (ext_self1 _ _)).trans hx0, by omega, by omega, by omega, h1⟩
  have hR' := hide hR
  clear hR hg0 hx0 n1 n2 n3 hs1' he1' hx1'
  generalize w1.heap.size = gw at *
  clear w1
  go_wp2_with fail
  have hfv0 := find_look (u := u) (unhide hi').sv
  have hpe0 := posI_cases (isE u v) E
  rcases hfv0 with hfq | ⟨i0, hi0, hfq⟩
  · have hfv := hide hfq
    clear hfq
    rcases hpe0 with ⟨hpq, hpr⟩ | ⟨k0, hk0, hpq, hpr⟩
    · have hpe := hide hpq
      clear hpq hpr
      refine (len_rel g bv be V E _ (unhide hR').isg).mono ?_
      rintro e w2 ⟨rfl, hx2⟩
      have hR2 := hide ((unhide hR').go hx2)
      clear hR' hx2
      go_wp2_with fail
      refine (vertex_miss g bv be V E u _ (unhide hR2).isg (unhide hu') (unhide hfv).1).mono ?_
      have hpv := hide (unhide hfv).2
      clear hfv
      rintro e w3 ⟨rfl, hx3⟩
      have hR3 := hide ((unhide hR2).go (hx3.trans (ext_self1 _ (.cells #[.int .i64 0, .int .u8 0, .int .i64 0] 44))))
      have hXb := hide (Blk.new w3 44 #[.int .i64 0, .int .u8 0, .int .i64 0])
      clear hR2 hx3
      go_wp2_with fail
      generalize w3.alloc (.cells #[.int .i64 0, .int .u8 0, .int .i64 0] 44) = w3a at *
      generalize w3.heap.size = bx at *
      clear w3
      refine (gedgeM g bv be V E u v _ (unhide hR3).isg (unhide hpe)).mono ?_
      rintro e w4 ⟨rfl, hx4⟩
      have hx4b := hx4.trans (ext_self1 _ (.cells #[.int .i64 0, .int .i64 0, .int .u8 0, .int .i64 0] 47))
      have hR4 := hide ((unhide hR3).go hx4b)
      have hXb4 := hide ((unhide hXb).ext hx4b)
      have hYb := hide (Blk.new w4 47 #[.int .i64 0, .int .i64 0, .int .u8 0, .int .i64 0])
      clear hR3 hx4 hx4b hXb
      go_wp2_with fail
      generalize w4.alloc (.cells #[.int .i64 0, .int .i64 0, .int .u8 0, .int .i64 0] 47) = w4a at *
      generalize w4.heap.size = by_ at *
      clear w4
      have q0 := (unhide hR4).blk.cells 0 (v := .slice A1 V.length cA) rfl
      have q1 := (unhide hR4).blk.cells 1 (v := .slice B1 E.length cB) rfl
      refine wp_region_ext (P := Try.prog) [0,1,2,3,4,5,6,7,8] [] 0 #[true,true,true,true,true,true,true,true,true] (by kernel_rfl) (by kernel_rfl) rfl (by rfl) ?_
      iterate 9
        refine ql_want (v := ?_) rfl (by rfl) (fun W hW => ?_) ?_
        rotate_left
        · go_simp
          first | done | rfl | (go_at_call 30; refine (find_any A1 B1 V cA E.length cB u _ ((unhide hR4).sv.ext (by assumption)) (by omega)).mono ?_; rw [unhide hpv]; rintro _ _ ⟨h1, h2⟩; refine ⟨_, h1, ?_, h2⟩; rfl) | (go_at_call 31; refine (redge_any A1 B1 E V.length cA cB u v _ ((unhide hR4).se.ext (by assumption)) (by omega)).mono ?_; rw [unhide hpe]; rintro _ _ ⟨h1, h2⟩; refine ⟨_, h1, ?_, h2⟩; rfl)
        go_frame
      refine wpQL_nil (fun w5 hx5 => ?_)
      refine wpX_done (by kernel_rfl) ?_
      try go_frame
      have hR5 := hide ((unhide hR4).go hx5)
      have hXb5 := hide ((unhide hXb4).ext hx5)
      have hYb5 := hide ((unhide hYb).ext hx5)
      clear hR4 hXb4 hYb hx5 q0 q1
      have q0 := (unhide hR5).blk.cells 0 (v := .slice A1 V.length cA) rfl
      have q1 := (unhide hR5).blk.cells 1 (v := .slice B1 E.length cB) rfl
      have hself := Ext.refl w5
      go_wp2_with fail
      refine (rnear_any A1 B1 V E cA cB u _ (unhide hR5).sv (unhide hR5).se (unhide hi')).mono ?_
      rintro e w6 ⟨An, cn, Ao, co, rfl, hsn, hso, hx6⟩
      have hR6 := hide ((unhide hR5).go hx6)
      have hXb6 := hide ((unhide hXb5).ext hx6)
      have hYb6 := hide ((unhide hYb5).ext hx6)
      have hsn' := hide hsn
      have hso' := hide hso
      clear hR5 hXb5 hYb5 hx6 q0 q1 hself hsn hso
      have q0 := (unhide hR6).blk.cells 0 (v := .slice A1 V.length cA) rfl
      have q1 := (unhide hR6).blk.cells 1 (v := .slice B1 E.length cB) rfl
      have hself := Ext.refl w6
      have hmx : max (-1 : Int) 0 = 0 := by decide
      go_wp2_with fail
      have x0 := (unhide hXb6).cells 0 (v := .int .i64 0) rfl
      have x1 := (unhide hXb6).cells 1 (v := .int .u8 0) rfl
      have x2 := (unhide hXb6).cells 2 (v := .int .i64 0) rfl
      have y0 := (unhide hYb6).cells 0 (v := .int .i64 0) rfl
      have y1 := (unhide hYb6).cells 1 (v := .int .i64 0) rfl
      have y2 := (unhide hYb6).cells 2 (v := .int .u8 0) rfl
      have y3 := (unhide hYb6).cells 3 (v := .int .i64 0) rfl
      refine wp_region_still (P := Try.prog) [0,1,2,3,4,5,6,7,8,9,10,11,12,13,14,15,16,17,18,19,20,21,22,23,24,25,26,27,28,29,30,31,32,33,34,35,36,37,38,39] [] 0 #[true,true,true,true,true,true,true,true,true,true,true,true,true,true,true,true,true,true,true,true,true,true,true,true,true,true,true,true,true,true,true,true,true,true,true,true,true,true,true,true] (by kernel_rfl) (by kernel_rfl) rfl (by rfl) ?_
      iterate 40
        first
        | (refine ql_skip rfl (by rfl) ?_)
        | (refine ql_want (v := ?_) rfl (by rfl) (fun W hW => ?_) ?_; rotate_left; (go_simp; (first | done | rfl)))
        try go_frame
      refine wpQL_nil (fun w7 hx7 => ?_)
      refine wpX_done (by kernel_rfl) ?_
      try go_frame
      clear q0 q1 x0 x1 x2 y0 y1 y2 y3 hmx hself hXb6 hYb6
      have hR7 := hide ((unhide hR6).go hx7)
      have hsn7 := hide ((unhide hsn').ext hx7)
      have hso7 := hide ((unhide hso').ext hx7)
      clear hR6 hsn' hso' hx7
      go_wp2_with fail
      go_loopw [20, 21] (fun l i wr => ∃ (k : Nat) (vs : Value) (o : List Int), k ≤ V.length ∧ i = .int .i64 k ∧ vs = l ∧ o = (V.take k).map (·.1) ∧ wr.ownsRow w7.heap.size 3 1 vs o.length (o.flatMap encI) ∧ Ext w7 wr) (fun _ i _ => V.length - (intOf i).toNat)
      case atStart => exact ⟨0, _, [], Nat.zero_le _, rfl, rfl, rfl, World.ownsRow_nil _ _ _ _, Ext.refl _⟩
      case round =>
        obtain ⟨k, vs, o, hk, rfl, hl3, ho, hown, hx⟩ := hrel
        subst hl3
        have hown' := hide hown
        have hx' := hide hx
        have ho' := hide ho
        have hol' := hide (show o.length ≤ 100000 by
          rw [ho, List.length_map, List.length_take]
          omega)
        have hRr := (unhide hR7).go hx
        have q0 := hRr.blk.cells 0 (v := .slice A1 V.length cA) rfl
        have hRr' := hide hRr
        clear hown hx ho hRr
        have hself := Ext.refl wr
        by_cases hlt : k < V.length
        · obtain ⟨b, off, hbo, c0, c1, c2⟩ := atV (unhide hRr').sv hlt
          have hst := hide (show o ++ [V[k].1] = (V.take (k + 1)).map (·.1) by rw [unhide ho', List.take_succ_eq_append_getElem hlt, List.map_append]; rfl)
          generalize hy : V[k] = y at c0 c1 c2 hst
          obtain ⟨x, tx⟩ := y
          simp only at c0 c1 c2
          clear hy c1 c2
          subst hbo
          go_wp2_with (at_builtin; refine wp_ap infoI Try.underlying73 one_encI (fun _ => rfl) (by decide) (by decide) wr rfl _ _ rfl w7.heap.size vs _ o x rfl _ _ (by rfl) rfl (by rfl) (by rfl) (unhide hown') (unhide hol') (Below.size (unhide hx')) ?_; intro A2 k1 w8 ho8 hg8; have hx8 := hide (app_step (unhide hx') (unhide hown') (ext_self1 _ _) hg8); have ho8' := hide ho8; clear ho8 hg8)
          go_roundw
          case rel => exact ⟨k + 1, _, o ++ [x], by omega, by go_num, rfl, unhide hst, by have h := unhide ho8'; simpa using h, unhide hx8⟩
          case measure => simp [intOf]; omega
        · have hkV : k = V.length := by omega
          subst hkV
          rw [List.take_length] at ho'
          have hoN := unhide ho'
          subst hoN
          obtain ⟨A3, c3, rfl⟩ := own_slice (unhide hown')
          have hs3 := hide (own_at (unhide hown') (fun _ => rfl))
          have hsn8 := hide ((unhide hsn7).ext (unhide hx'))
          have hso8 := hide ((unhide hso7).ext (unhide hx'))
          clear hown' ho' hol' hx' hR7 hsn7 hso7
          go_wp2_with fail
          clear q0 hself
          obtain ⟨C1, hC1⟩ : ∃ C, setC (nearS u E) = C := ⟨_, rfl⟩
          have hq1 : ∀ w, (Op.equalIn 10000 78 (.agg C1) (.agg C1)).run Try.prog w = .ok true w := fun w => by rw [← hC1]; exact eq_Set w _
          have hC1 := hide hC1
          refine (near_rel g bv be V E u _ (unhide hRr').isg).mono ?_
          rw [unhide hC1]
          rintro e v1 ⟨rfl, hx⟩
          have hE1 := hx
          have hE1 := hide hE1
          clear hx
          go_wp2_with fail
          refine (from01_any An (rnear u V E) cn _ ((unhide hsn8).ext (unhide hE1)) (Nat.le_trans (rnear_le u V E) (by omega))).mono ?_
          rw [rnear_eq (unhide hi'), unhide hC1]
          rintro e v2 ⟨rfl, hx⟩
          have hE2 := (unhide hE1).trans hx
          have hE2 := hide hE2
          clear hx hE1
          go_wp2_with fail
          clear hq1
          obtain ⟨C2, hC2⟩ : ∃ C, setC (incS u E E.length) = C := ⟨_, rfl⟩
          have hq2 : ∀ w, (Op.equalIn 10000 78 (.agg C2) (.agg C2)).run Try.prog w = .ok true w := fun w => by rw [← hC2]; exact eq_Set w _
          have hC2 := hide hC2
          refine (inc_rel g bv be V E u _ ((unhide hRr').isg.ext (unhide hE2))).mono ?_
          rw [unhide hC2]
          rintro e v3 ⟨rfl, hx⟩
          have hE3 := (unhide hE2).trans hx
          have hE3 := hide hE3
          clear hx hE2
          go_wp2_with fail
          refine (from01_any Ao (ron u E E.length) co _ ((unhide hso8).ext (unhide hE3)) (Nat.le_trans (ron_le u E _) (by omega))).mono ?_
          rw [ron_eq, unhide hC2]
          rintro e v4 ⟨rfl, hx⟩
          have hE4 := (unhide hE3).trans hx
          have hE4 := hide hE4
          clear hx hE3
          go_wp2_with fail
          clear hq2
          obtain ⟨C3, hC3⟩ : ∃ C, setC (vS V) = C := ⟨_, rfl⟩
          have hq3 : ∀ w, (Op.equalIn 10000 78 (.agg C3) (.agg C3)).run Try.prog w = .ok true w := fun w => by rw [← hC3]; exact eq_Set w _
          have hC3 := hide hC3
          refine (vset_rel g bv be V E _ ((unhide hRr').isg.ext (unhide hE4))).mono ?_
          rw [unhide hC3]
          rintro e v5 ⟨rfl, hx⟩
          have hE5 := (unhide hE4).trans hx
          have hE5 := hide hE5
          clear hx hE4
          go_wp2_with fail
          refine (from01_n A3 (V.map (·.1)) V.length c3 (List.length_map _) _ ((unhide hs3).ext (unhide hE5)) (by omega)).mono ?_
          rw [← vS_eq, unhide hC3]
          rintro e v6 ⟨rfl, hx⟩
          have hE6 := (unhide hE5).trans hx
          have hE6 := hide hE6
          clear hx hE5
          go_wp2_with fail
          clear hq3
          refine (eset_rel g bv be V E _ ((unhide hRr').isg.ext (unhide hE6))).mono ?_
          rintro e v7 ⟨rfl, hx⟩
          have hE7 := hide ((unhide hE6).trans hx)
          clear hx hE6
          obtain ⟨N, hN⟩ : ∃ N, belS E.length = N := ⟨_, rfl⟩
          rw [hN]
          have hN := hide hN
          have hBp := Blk.new v7 78 (setC 0)
          have hst := store_Set N hBp
          have hBp' := hide (Blk.putS N hBp)
          have hKp := Keep.putS (v7.alloc (.cells (setC 0) 78)) v7.heap.size N
          have hEp := hide ((((unhide hE7).trans (ext_self1 _ (.cells (setC 0) 78))).of_new hKp (by have := Below.size (unhide hE7); simpa using this)))
          rw [zero_Set] at hst hBp' hEp
          clear hBp hKp
          have hsz := setC_size N
          go_wp2_with fail
          clear hst hsz
          generalize putS (v7.alloc (.cells #[.int .u64 0, .int .u64 0, .int .u64 0, .int .u64 0, .int .u64 0, .int .u64 0, .int .u64 0, .int .u64 0, .int .u64 0, .int .u64 0, .int .u64 0, .int .u64 0, .int .u64 0, .int .u64 0, .int .u64 0, .int .u64 0] 78)) v7.heap.size N = v8 at *
          generalize v7.heap.size = bp at *
          go_loop [23] (fun i => ∃ j : Nat, j ≤ 1024 ∧ i = .int .i64 j) (fun i => 1024 - (intOf i).toNat)
          case atStart => exact ⟨0, by omega, rfl⟩
          case round =>
            obtain ⟨j, hj, rfl⟩ := hrel
            by_cases hlj : j < 1024
            · have c0 := cell_of (unhide hBp') hlj
              have hself := Ext.refl v8
              obtain ⟨h1, hw, h6, h7, h8⟩ := idx_facts hlj
              have h9 := tmod64 j
              have h10 := bel_at E.length j nE
              rw [unhide hN] at h10
              go_wp2_with fail
              go_round
              case rel => exact ⟨j + 1, by omega, by go_num⟩
              case measure => simp [intOf]; omega
            · go_wp2_with fail
              refine (known_any _).mono ?_
              rintro e v9 ⟨rfl, hx⟩
              have hx' := hide hx
              clear hx
              go_wp2_with fail
              go_ret
              exact ⟨rfl, (((unhide hRr').ext).trans (unhide hEp)).trans (unhide hx')⟩
    · have hpe := hide hpq
      clear hpq hpr
      refine (len_rel g bv be V E _ (unhide hR').isg).mono ?_
      rintro e w2 ⟨rfl, hx2⟩
      have hR2 := hide ((unhide hR').go hx2)
      clear hR' hx2
      go_wp2_with fail
      refine (vertex_miss g bv be V E u _ (unhide hR2).isg (unhide hu') (unhide hfv).1).mono ?_
      have hpv := hide (unhide hfv).2
      clear hfv
      rintro e w3 ⟨rfl, hx3⟩
      have hR3 := hide ((unhide hR2).go (hx3.trans (ext_self1 _ (.cells #[.int .i64 0, .int .u8 0, .int .i64 0] 44))))
      have hXb := hide (Blk.new w3 44 #[.int .i64 0, .int .u8 0, .int .i64 0])
      clear hR2 hx3
      go_wp2_with fail
      generalize w3.alloc (.cells #[.int .i64 0, .int .u8 0, .int .i64 0] 44) = w3a at *
      generalize w3.heap.size = bx at *
      clear w3
      refine (gedgeH g bv be V E u v _ (unhide hR3).isg k0 hk0 (unhide hpe)).mono ?_
      obtain ⟨ek, hek⟩ : ∃ ek, E[k0] = ek := ⟨_, rfl⟩
      rw [hek]
      have hek' := hide hek
      clear hek
      obtain ⟨⟨ea, eb⟩, ⟨el, ew⟩⟩ := ek
      rintro e w4 ⟨rfl, hx4⟩
      have hx4b := hx4.trans (ext_self1 _ (.cells #[.int .i64 ea, .int .i64 eb, .int .u8 el, .int .i64 ew] 47))
      have hR4 := hide ((unhide hR3).go hx4b)
      have hXb4 := hide ((unhide hXb).ext hx4b)
      have hYb := hide (Blk.new w4 47 #[.int .i64 ea, .int .i64 eb, .int .u8 el, .int .i64 ew])
      clear hR3 hx4 hx4b hXb
      go_wp2_with fail
      generalize w4.alloc (.cells #[.int .i64 ea, .int .i64 eb, .int .u8 el, .int .i64 ew] 47) = w4a at *
      generalize w4.heap.size = by_ at *
      clear w4
      have q0 := (unhide hR4).blk.cells 0 (v := .slice A1 V.length cA) rfl
      have q1 := (unhide hR4).blk.cells 1 (v := .slice B1 E.length cB) rfl
      refine wp_region_ext (P := Try.prog) [0,1,2,3,4,5,6,7,8] [] 0 #[true,true,true,true,true,true,true,true,true] (by kernel_rfl) (by kernel_rfl) rfl (by rfl) ?_
      iterate 9
        refine ql_want (v := ?_) rfl (by rfl) (fun W hW => ?_) ?_
        rotate_left
        · go_simp
          first | done | rfl | (go_at_call 30; refine (find_any A1 B1 V cA E.length cB u _ ((unhide hR4).sv.ext (by assumption)) (by omega)).mono ?_; rw [unhide hpv]; rintro _ _ ⟨h1, h2⟩; refine ⟨_, h1, ?_, h2⟩; rfl) | (go_at_call 31; refine (redge_any A1 B1 E V.length cA cB u v _ ((unhide hR4).se.ext (by assumption)) (by omega)).mono ?_; rw [unhide hpe]; rintro _ _ ⟨h1, h2⟩; refine ⟨_, h1, ?_, h2⟩; rfl)
        go_frame
      refine wpQL_nil (fun w5 hx5 => ?_)
      refine wpX_done (by kernel_rfl) ?_
      try go_frame
      have hR5 := hide ((unhide hR4).go hx5)
      have hXb5 := hide ((unhide hXb4).ext hx5)
      have hYb5 := hide ((unhide hYb).ext hx5)
      clear hR4 hXb4 hYb hx5 q0 q1
      have q0 := (unhide hR5).blk.cells 0 (v := .slice A1 V.length cA) rfl
      have q1 := (unhide hR5).blk.cells 1 (v := .slice B1 E.length cB) rfl
      have hself := Ext.refl w5
      go_wp2_with fail
      refine (rnear_any A1 B1 V E cA cB u _ (unhide hR5).sv (unhide hR5).se (unhide hi')).mono ?_
      rintro e w6 ⟨An, cn, Ao, co, rfl, hsn, hso, hx6⟩
      have hR6 := hide ((unhide hR5).go hx6)
      have hXb6 := hide ((unhide hXb5).ext hx6)
      have hYb6 := hide ((unhide hYb5).ext hx6)
      have hsn' := hide hsn
      have hso' := hide hso
      clear hR5 hXb5 hYb5 hx6 q0 q1 hself hsn hso
      have q0 := (unhide hR6).blk.cells 0 (v := .slice A1 V.length cA) rfl
      have q1 := (unhide hR6).blk.cells 1 (v := .slice B1 E.length cB) rfl
      have hself := Ext.refl w6
      have hmx : max (k0 : Int) 0 = (k0 : Int) := by omega
      go_wp2_with fail
      have x0 := (unhide hXb6).cells 0 (v := .int .i64 0) rfl
      have x1 := (unhide hXb6).cells 1 (v := .int .u8 0) rfl
      have x2 := (unhide hXb6).cells 2 (v := .int .i64 0) rfl
      have y0 := (unhide hYb6).cells 0 (v := .int .i64 ea) rfl
      have y1 := (unhide hYb6).cells 1 (v := .int .i64 eb) rfl
      have y2 := (unhide hYb6).cells 2 (v := .int .u8 el) rfl
      have y3 := (unhide hYb6).cells 3 (v := .int .i64 ew) rfl
      obtain ⟨eb_, eoff, hB1, d0, d1, d2, d3⟩ := atE (unhide hR6).se hk0
      rw [unhide hek'] at d0 d1 d2 d3
      subst hB1
      simp only at d0 d1 d2 d3
      refine wp_region_still (P := Try.prog) [0,1,2,3,4,5,6,7,8,9,10,11,12,13,14,15,16,17,18,19,20,21,22,23,24,25,26,27,28,29,30,31,32,33,34,35,36,37,38,39] [] 0 #[true,true,true,true,true,true,true,true,true,true,true,true,true,true,true,true,true,true,true,true,true,true,true,true,true,true,true,true,true,true,true,true,true,true,true,true,true,true,true,true] (by kernel_rfl) (by kernel_rfl) rfl (by rfl) ?_
      iterate 40
        first
        | (refine ql_skip rfl (by rfl) ?_)
        | (refine ql_want (v := ?_) rfl (by rfl) (fun W hW => ?_) ?_; rotate_left; (go_simp; (first | done | rfl)))
        try go_frame
      refine wpQL_nil (fun w7 hx7 => ?_)
      refine wpX_done (by kernel_rfl) ?_
      try go_frame
      clear q0 q1 x0 x1 x2 y0 y1 y2 y3 hmx d0 d1 d2 d3 hself hXb6 hYb6
      have hR7 := hide ((unhide hR6).go hx7)
      have hsn7 := hide ((unhide hsn').ext hx7)
      have hso7 := hide ((unhide hso').ext hx7)
      clear hR6 hsn' hso' hx7
      go_wp2_with fail
      go_loopw [20, 21] (fun l i wr => ∃ (k : Nat) (vs : Value) (o : List Int), k ≤ V.length ∧ i = .int .i64 k ∧ vs = l ∧ o = (V.take k).map (·.1) ∧ wr.ownsRow w7.heap.size 3 1 vs o.length (o.flatMap encI) ∧ Ext w7 wr) (fun _ i _ => V.length - (intOf i).toNat)
      case atStart => exact ⟨0, _, [], Nat.zero_le _, rfl, rfl, rfl, World.ownsRow_nil _ _ _ _, Ext.refl _⟩
      case round =>
        obtain ⟨k, vs, o, hk, rfl, hl3, ho, hown, hx⟩ := hrel
        subst hl3
        have hown' := hide hown
        have hx' := hide hx
        have ho' := hide ho
        have hol' := hide (show o.length ≤ 100000 by
          rw [ho, List.length_map, List.length_take]
          omega)
        have hRr := (unhide hR7).go hx
        have q0 := hRr.blk.cells 0 (v := .slice A1 V.length cA) rfl
        have hRr' := hide hRr
        clear hown hx ho hRr
        have hself := Ext.refl wr
        by_cases hlt : k < V.length
        · obtain ⟨b, off, hbo, c0, c1, c2⟩ := atV (unhide hRr').sv hlt
          have hst := hide (show o ++ [V[k].1] = (V.take (k + 1)).map (·.1) by rw [unhide ho', List.take_succ_eq_append_getElem hlt, List.map_append]; rfl)
          generalize hy : V[k] = y at c0 c1 c2 hst
          obtain ⟨x, tx⟩ := y
          simp only at c0 c1 c2
          clear hy c1 c2
          subst hbo
          go_wp2_with (at_builtin; refine wp_ap infoI Try.underlying73 one_encI (fun _ => rfl) (by decide) (by decide) wr rfl _ _ rfl w7.heap.size vs _ o x rfl _ _ (by rfl) rfl (by rfl) (by rfl) (unhide hown') (unhide hol') (Below.size (unhide hx')) ?_; intro A2 k1 w8 ho8 hg8; have hx8 := hide (app_step (unhide hx') (unhide hown') (ext_self1 _ _) hg8); have ho8' := hide ho8; clear ho8 hg8)
          go_roundw
          case rel => exact ⟨k + 1, _, o ++ [x], by omega, by go_num, rfl, unhide hst, by have h := unhide ho8'; simpa using h, unhide hx8⟩
          case measure => simp [intOf]; omega
        · have hkV : k = V.length := by omega
          subst hkV
          rw [List.take_length] at ho'
          have hoN := unhide ho'
          subst hoN
          obtain ⟨A3, c3, rfl⟩ := own_slice (unhide hown')
          have hs3 := hide (own_at (unhide hown') (fun _ => rfl))
          have hsn8 := hide ((unhide hsn7).ext (unhide hx'))
          have hso8 := hide ((unhide hso7).ext (unhide hx'))
          clear hown' ho' hol' hx' hR7 hsn7 hso7
          go_wp2_with fail
          clear q0 hself
          obtain ⟨C1, hC1⟩ : ∃ C, setC (nearS u E) = C := ⟨_, rfl⟩
          have hq1 : ∀ w, (Op.equalIn 10000 78 (.agg C1) (.agg C1)).run Try.prog w = .ok true w := fun w => by rw [← hC1]; exact eq_Set w _
          have hC1 := hide hC1
          refine (near_rel g bv be V E u _ (unhide hRr').isg).mono ?_
          rw [unhide hC1]
          rintro e v1 ⟨rfl, hx⟩
          have hE1 := hx
          have hE1 := hide hE1
          clear hx
          go_wp2_with fail
          refine (from01_any An (rnear u V E) cn _ ((unhide hsn8).ext (unhide hE1)) (Nat.le_trans (rnear_le u V E) (by omega))).mono ?_
          rw [rnear_eq (unhide hi'), unhide hC1]
          rintro e v2 ⟨rfl, hx⟩
          have hE2 := (unhide hE1).trans hx
          have hE2 := hide hE2
          clear hx hE1
          go_wp2_with fail
          clear hq1
          obtain ⟨C2, hC2⟩ : ∃ C, setC (incS u E E.length) = C := ⟨_, rfl⟩
          have hq2 : ∀ w, (Op.equalIn 10000 78 (.agg C2) (.agg C2)).run Try.prog w = .ok true w := fun w => by rw [← hC2]; exact eq_Set w _
          have hC2 := hide hC2
          refine (inc_rel g bv be V E u _ ((unhide hRr').isg.ext (unhide hE2))).mono ?_
          rw [unhide hC2]
          rintro e v3 ⟨rfl, hx⟩
          have hE3 := (unhide hE2).trans hx
          have hE3 := hide hE3
          clear hx hE2
          go_wp2_with fail
          refine (from01_any Ao (ron u E E.length) co _ ((unhide hso8).ext (unhide hE3)) (Nat.le_trans (ron_le u E _) (by omega))).mono ?_
          rw [ron_eq, unhide hC2]
          rintro e v4 ⟨rfl, hx⟩
          have hE4 := (unhide hE3).trans hx
          have hE4 := hide hE4
          clear hx hE3
          go_wp2_with fail
          clear hq2
          obtain ⟨C3, hC3⟩ : ∃ C, setC (vS V) = C := ⟨_, rfl⟩
          have hq3 : ∀ w, (Op.equalIn 10000 78 (.agg C3) (.agg C3)).run Try.prog w = .ok true w := fun w => by rw [← hC3]; exact eq_Set w _
          have hC3 := hide hC3
          refine (vset_rel g bv be V E _ ((unhide hRr').isg.ext (unhide hE4))).mono ?_
          rw [unhide hC3]
          rintro e v5 ⟨rfl, hx⟩
          have hE5 := (unhide hE4).trans hx
          have hE5 := hide hE5
          clear hx hE4
          go_wp2_with fail
          refine (from01_n A3 (V.map (·.1)) V.length c3 (List.length_map _) _ ((unhide hs3).ext (unhide hE5)) (by omega)).mono ?_
          rw [← vS_eq, unhide hC3]
          rintro e v6 ⟨rfl, hx⟩
          have hE6 := (unhide hE5).trans hx
          have hE6 := hide hE6
          clear hx hE5
          go_wp2_with fail
          clear hq3
          refine (eset_rel g bv be V E _ ((unhide hRr').isg.ext (unhide hE6))).mono ?_
          rintro e v7 ⟨rfl, hx⟩
          have hE7 := hide ((unhide hE6).trans hx)
          clear hx hE6
          obtain ⟨N, hN⟩ : ∃ N, belS E.length = N := ⟨_, rfl⟩
          rw [hN]
          have hN := hide hN
          have hBp := Blk.new v7 78 (setC 0)
          have hst := store_Set N hBp
          have hBp' := hide (Blk.putS N hBp)
          have hKp := Keep.putS (v7.alloc (.cells (setC 0) 78)) v7.heap.size N
          have hEp := hide ((((unhide hE7).trans (ext_self1 _ (.cells (setC 0) 78))).of_new hKp (by have := Below.size (unhide hE7); simpa using this)))
          rw [zero_Set] at hst hBp' hEp
          clear hBp hKp
          have hsz := setC_size N
          go_wp2_with fail
          clear hst hsz
          generalize putS (v7.alloc (.cells #[.int .u64 0, .int .u64 0, .int .u64 0, .int .u64 0, .int .u64 0, .int .u64 0, .int .u64 0, .int .u64 0, .int .u64 0, .int .u64 0, .int .u64 0, .int .u64 0, .int .u64 0, .int .u64 0, .int .u64 0, .int .u64 0] 78)) v7.heap.size N = v8 at *
          generalize v7.heap.size = bp at *
          go_loop [23] (fun i => ∃ j : Nat, j ≤ 1024 ∧ i = .int .i64 j) (fun i => 1024 - (intOf i).toNat)
          case atStart => exact ⟨0, by omega, rfl⟩
          case round =>
            obtain ⟨j, hj, rfl⟩ := hrel
            by_cases hlj : j < 1024
            · have c0 := cell_of (unhide hBp') hlj
              have hself := Ext.refl v8
              obtain ⟨h1, hw, h6, h7, h8⟩ := idx_facts hlj
              have h9 := tmod64 j
              have h10 := bel_at E.length j nE
              rw [unhide hN] at h10
              go_wp2_with fail
              go_round
              case rel => exact ⟨j + 1, by omega, by go_num⟩
              case measure => simp [intOf]; omega
            · go_wp2_with fail
              refine (known_any _).mono ?_
              rintro e v9 ⟨rfl, hx⟩
              have hx' := hide hx
              clear hx
              go_wp2_with fail
              go_ret
              exact ⟨rfl, (((unhide hRr').ext).trans (unhide hEp)).trans (unhide hx')⟩
  · have hfv := hide hfq
    clear hfq
    rcases hpe0 with ⟨hpq, hpr⟩ | ⟨k0, hk0, hpq, hpr⟩
    · have hpe := hide hpq
      clear hpq hpr
      refine (len_rel g bv be V E _ (unhide hR').isg).mono ?_
      rintro e w2 ⟨rfl, hx2⟩
      have hR2 := hide ((unhide hR').go hx2)
      clear hR' hx2
      go_wp2_with fail
      refine (vertex_hit g bv be V E u _ (unhide hR2).isg (unhide hu') (unhide hfv).1).mono ?_
      have hvi := hide (unhide hfv).2.2
      have hpv := hide (unhide hfv).2.1
      clear hfv
      generalize (lookM V u).getD (0, 0) = tv at *
      obtain ⟨tl, tw⟩ := tv
      rintro e w3 ⟨rfl, hx3⟩
      have hR3 := hide ((unhide hR2).go (hx3.trans (ext_self1 _ (.cells #[.int .i64 u, .int .u8 tl, .int .i64 tw] 44))))
      have hXb := hide (Blk.new w3 44 #[.int .i64 u, .int .u8 tl, .int .i64 tw])
      clear hR2 hx3
      go_wp2_with fail
      generalize w3.alloc (.cells #[.int .i64 u, .int .u8 tl, .int .i64 tw] 44) = w3a at *
      generalize w3.heap.size = bx at *
      clear w3
      refine (gedgeM g bv be V E u v _ (unhide hR3).isg (unhide hpe)).mono ?_
      rintro e w4 ⟨rfl, hx4⟩
      have hx4b := hx4.trans (ext_self1 _ (.cells #[.int .i64 0, .int .i64 0, .int .u8 0, .int .i64 0] 47))
      have hR4 := hide ((unhide hR3).go hx4b)
      have hXb4 := hide ((unhide hXb).ext hx4b)
      have hYb := hide (Blk.new w4 47 #[.int .i64 0, .int .i64 0, .int .u8 0, .int .i64 0])
      clear hR3 hx4 hx4b hXb
      go_wp2_with fail
      generalize w4.alloc (.cells #[.int .i64 0, .int .i64 0, .int .u8 0, .int .i64 0] 47) = w4a at *
      generalize w4.heap.size = by_ at *
      clear w4
      have q0 := (unhide hR4).blk.cells 0 (v := .slice A1 V.length cA) rfl
      have q1 := (unhide hR4).blk.cells 1 (v := .slice B1 E.length cB) rfl
      refine wp_region_ext (P := Try.prog) [0,1,2,3,4,5,6,7,8] [] 0 #[true,true,true,true,true,true,true,true,true] (by kernel_rfl) (by kernel_rfl) rfl (by rfl) ?_
      iterate 9
        refine ql_want (v := ?_) rfl (by rfl) (fun W hW => ?_) ?_
        rotate_left
        · go_simp
          first | done | rfl | (go_at_call 30; refine (find_any A1 B1 V cA E.length cB u _ ((unhide hR4).sv.ext (by assumption)) (by omega)).mono ?_; rw [unhide hpv]; rintro _ _ ⟨h1, h2⟩; refine ⟨_, h1, ?_, h2⟩; rfl) | (go_at_call 31; refine (redge_any A1 B1 E V.length cA cB u v _ ((unhide hR4).se.ext (by assumption)) (by omega)).mono ?_; rw [unhide hpe]; rintro _ _ ⟨h1, h2⟩; refine ⟨_, h1, ?_, h2⟩; rfl)
        go_frame
      refine wpQL_nil (fun w5 hx5 => ?_)
      refine wpX_done (by kernel_rfl) ?_
      try go_frame
      have hR5 := hide ((unhide hR4).go hx5)
      have hXb5 := hide ((unhide hXb4).ext hx5)
      have hYb5 := hide ((unhide hYb).ext hx5)
      clear hR4 hXb4 hYb hx5 q0 q1
      have q0 := (unhide hR5).blk.cells 0 (v := .slice A1 V.length cA) rfl
      have q1 := (unhide hR5).blk.cells 1 (v := .slice B1 E.length cB) rfl
      have hself := Ext.refl w5
      go_wp2_with fail
      refine (rnear_any A1 B1 V E cA cB u _ (unhide hR5).sv (unhide hR5).se (unhide hi')).mono ?_
      rintro e w6 ⟨An, cn, Ao, co, rfl, hsn, hso, hx6⟩
      have hR6 := hide ((unhide hR5).go hx6)
      have hXb6 := hide ((unhide hXb5).ext hx6)
      have hYb6 := hide ((unhide hYb5).ext hx6)
      have hsn' := hide hsn
      have hso' := hide hso
      clear hR5 hXb5 hYb5 hx6 q0 q1 hself hsn hso
      have q0 := (unhide hR6).blk.cells 0 (v := .slice A1 V.length cA) rfl
      have q1 := (unhide hR6).blk.cells 1 (v := .slice B1 E.length cB) rfl
      have hself := Ext.refl w6
      have hmx : max (-1 : Int) 0 = 0 := by decide
      go_wp2_with fail
      have x0 := (unhide hXb6).cells 0 (v := .int .i64 u) rfl
      have x1 := (unhide hXb6).cells 1 (v := .int .u8 tl) rfl
      have x2 := (unhide hXb6).cells 2 (v := .int .i64 tw) rfl
      have y0 := (unhide hYb6).cells 0 (v := .int .i64 0) rfl
      have y1 := (unhide hYb6).cells 1 (v := .int .i64 0) rfl
      have y2 := (unhide hYb6).cells 2 (v := .int .u8 0) rfl
      have y3 := (unhide hYb6).cells 3 (v := .int .i64 0) rfl
      obtain ⟨vb, voff, hA1, c0, c1, c2⟩ := atV (unhide hR6).sv hi0
      rw [unhide hvi] at c0 c1 c2
      subst hA1
      simp only at c0 c1 c2
      refine wp_region_still (P := Try.prog) [0,1,2,3,4,5,6,7,8,9,10,11,12,13,14,15,16,17,18,19,20,21,22,23,24,25,26,27,28,29,30,31,32,33,34,35,36,37,38,39] [] 0 #[true,true,true,true,true,true,true,true,true,true,true,true,true,true,true,true,true,true,true,true,true,true,true,true,true,true,true,true,true,true,true,true,true,true,true,true,true,true,true,true] (by kernel_rfl) (by kernel_rfl) rfl (by rfl) ?_
      iterate 40
        first
        | (refine ql_skip rfl (by rfl) ?_)
        | (refine ql_want (v := ?_) rfl (by rfl) (fun W hW => ?_) ?_; rotate_left; (go_simp; (first | done | rfl)))
        try go_frame
      refine wpQL_nil (fun w7 hx7 => ?_)
      refine wpX_done (by kernel_rfl) ?_
      try go_frame
      clear q0 q1 x0 x1 x2 y0 y1 y2 y3 hmx c0 c1 c2 hself hXb6 hYb6
      have hR7 := hide ((unhide hR6).go hx7)
      have hsn7 := hide ((unhide hsn').ext hx7)
      have hso7 := hide ((unhide hso').ext hx7)
      clear hR6 hsn' hso' hx7
      go_wp2_with fail
      go_loopw [20, 21] (fun l i wr => ∃ (k : Nat) (vs : Value) (o : List Int), k ≤ V.length ∧ i = .int .i64 k ∧ vs = l ∧ o = (V.take k).map (·.1) ∧ wr.ownsRow w7.heap.size 3 1 vs o.length (o.flatMap encI) ∧ Ext w7 wr) (fun _ i _ => V.length - (intOf i).toNat)
      case atStart => exact ⟨0, _, [], Nat.zero_le _, rfl, rfl, rfl, World.ownsRow_nil _ _ _ _, Ext.refl _⟩
      case round =>
        obtain ⟨k, vs, o, hk, rfl, hl3, ho, hown, hx⟩ := hrel
        subst hl3
        have hown' := hide hown
        have hx' := hide hx
        have ho' := hide ho
        have hol' := hide (show o.length ≤ 100000 by
          rw [ho, List.length_map, List.length_take]
          omega)
        have hRr := (unhide hR7).go hx
        have q0 := hRr.blk.cells 0 (v := .slice (some ⟨vb, voff, none⟩) V.length cA) rfl
        have hRr' := hide hRr
        clear hown hx ho hRr
        have hself := Ext.refl wr
        by_cases hlt : k < V.length
        · obtain ⟨b, off, hbo, c0, c1, c2⟩ := atV (unhide hRr').sv hlt
          have hst := hide (show o ++ [V[k].1] = (V.take (k + 1)).map (·.1) by rw [unhide ho', List.take_succ_eq_append_getElem hlt, List.map_append]; rfl)
          generalize hy : V[k] = y at c0 c1 c2 hst
          obtain ⟨x, tx⟩ := y
          simp only at c0 c1 c2
          clear hy c1 c2
          injection hbo with hbo; injection hbo with hb1 hb2; subst hb1; subst hb2
          go_wp2_with (at_builtin; refine wp_ap infoI Try.underlying73 one_encI (fun _ => rfl) (by decide) (by decide) wr rfl _ _ rfl w7.heap.size vs _ o x rfl _ _ (by rfl) rfl (by rfl) (by rfl) (unhide hown') (unhide hol') (Below.size (unhide hx')) ?_; intro A2 k1 w8 ho8 hg8; have hx8 := hide (app_step (unhide hx') (unhide hown') (ext_self1 _ _) hg8); have ho8' := hide ho8; clear ho8 hg8)
          go_roundw
          case rel => exact ⟨k + 1, _, o ++ [x], by omega, by go_num, rfl, unhide hst, by have h := unhide ho8'; simpa using h, unhide hx8⟩
          case measure => simp [intOf]; omega
        · have hkV : k = V.length := by omega
          subst hkV
          rw [List.take_length] at ho'
          have hoN := unhide ho'
          subst hoN
          obtain ⟨A3, c3, rfl⟩ := own_slice (unhide hown')
          have hs3 := hide (own_at (unhide hown') (fun _ => rfl))
          have hsn8 := hide ((unhide hsn7).ext (unhide hx'))
          have hso8 := hide ((unhide hso7).ext (unhide hx'))
          clear hown' ho' hol' hx' hR7 hsn7 hso7
          go_wp2_with fail
          clear q0 hself
          obtain ⟨C1, hC1⟩ : ∃ C, setC (nearS u E) = C := ⟨_, rfl⟩
          have hq1 : ∀ w, (Op.equalIn 10000 78 (.agg C1) (.agg C1)).run Try.prog w = .ok true w := fun w => by rw [← hC1]; exact eq_Set w _
          have hC1 := hide hC1
          refine (near_rel g bv be V E u _ (unhide hRr').isg).mono ?_
          rw [unhide hC1]
          rintro e v1 ⟨rfl, hx⟩
          have hE1 := hx
          have hE1 := hide hE1
          clear hx
          go_wp2_with fail
          refine (from01_any An (rnear u V E) cn _ ((unhide hsn8).ext (unhide hE1)) (Nat.le_trans (rnear_le u V E) (by omega))).mono ?_
          rw [rnear_eq (unhide hi'), unhide hC1]
          rintro e v2 ⟨rfl, hx⟩
          have hE2 := (unhide hE1).trans hx
          have hE2 := hide hE2
          clear hx hE1
          go_wp2_with fail
          clear hq1
          obtain ⟨C2, hC2⟩ : ∃ C, setC (incS u E E.length) = C := ⟨_, rfl⟩
          have hq2 : ∀ w, (Op.equalIn 10000 78 (.agg C2) (.agg C2)).run Try.prog w = .ok true w := fun w => by rw [← hC2]; exact eq_Set w _
          have hC2 := hide hC2
          refine (inc_rel g bv be V E u _ ((unhide hRr').isg.ext (unhide hE2))).mono ?_
          rw [unhide hC2]
          rintro e v3 ⟨rfl, hx⟩
          have hE3 := (unhide hE2).trans hx
          have hE3 := hide hE3
          clear hx hE2
          go_wp2_with fail
          refine (from01_any Ao (ron u E E.length) co _ ((unhide hso8).ext (unhide hE3)) (Nat.le_trans (ron_le u E _) (by omega))).mono ?_
          rw [ron_eq, unhide hC2]
          rintro e v4 ⟨rfl, hx⟩
          have hE4 := (unhide hE3).trans hx
          have hE4 := hide hE4
          clear hx hE3
          go_wp2_with fail
          clear hq2
          obtain ⟨C3, hC3⟩ : ∃ C, setC (vS V) = C := ⟨_, rfl⟩
          have hq3 : ∀ w, (Op.equalIn 10000 78 (.agg C3) (.agg C3)).run Try.prog w = .ok true w := fun w => by rw [← hC3]; exact eq_Set w _
          have hC3 := hide hC3
          refine (vset_rel g bv be V E _ ((unhide hRr').isg.ext (unhide hE4))).mono ?_
          rw [unhide hC3]
          rintro e v5 ⟨rfl, hx⟩
          have hE5 := (unhide hE4).trans hx
          have hE5 := hide hE5
          clear hx hE4
          go_wp2_with fail
          refine (from01_n A3 (V.map (·.1)) V.length c3 (List.length_map _) _ ((unhide hs3).ext (unhide hE5)) (by omega)).mono ?_
          rw [← vS_eq, unhide hC3]
          rintro e v6 ⟨rfl, hx⟩
          have hE6 := (unhide hE5).trans hx
          have hE6 := hide hE6
          clear hx hE5
          go_wp2_with fail
          clear hq3
          refine (eset_rel g bv be V E _ ((unhide hRr').isg.ext (unhide hE6))).mono ?_
          rintro e v7 ⟨rfl, hx⟩
          have hE7 := hide ((unhide hE6).trans hx)
          clear hx hE6
          obtain ⟨N, hN⟩ : ∃ N, belS E.length = N := ⟨_, rfl⟩
          rw [hN]
          have hN := hide hN
          have hBp := Blk.new v7 78 (setC 0)
          have hst := store_Set N hBp
          have hBp' := hide (Blk.putS N hBp)
          have hKp := Keep.putS (v7.alloc (.cells (setC 0) 78)) v7.heap.size N
          have hEp := hide ((((unhide hE7).trans (ext_self1 _ (.cells (setC 0) 78))).of_new hKp (by have := Below.size (unhide hE7); simpa using this)))
          rw [zero_Set] at hst hBp' hEp
          clear hBp hKp
          have hsz := setC_size N
          go_wp2_with fail
          clear hst hsz
          generalize putS (v7.alloc (.cells #[.int .u64 0, .int .u64 0, .int .u64 0, .int .u64 0, .int .u64 0, .int .u64 0, .int .u64 0, .int .u64 0, .int .u64 0, .int .u64 0, .int .u64 0, .int .u64 0, .int .u64 0, .int .u64 0, .int .u64 0, .int .u64 0] 78)) v7.heap.size N = v8 at *
          generalize v7.heap.size = bp at *
          go_loop [23] (fun i => ∃ j : Nat, j ≤ 1024 ∧ i = .int .i64 j) (fun i => 1024 - (intOf i).toNat)
          case atStart => exact ⟨0, by omega, rfl⟩
          case round =>
            obtain ⟨j, hj, rfl⟩ := hrel
            by_cases hlj : j < 1024
            · have c0 := cell_of (unhide hBp') hlj
              have hself := Ext.refl v8
              obtain ⟨h1, hw, h6, h7, h8⟩ := idx_facts hlj
              have h9 := tmod64 j
              have h10 := bel_at E.length j nE
              rw [unhide hN] at h10
              go_wp2_with fail
              go_round
              case rel => exact ⟨j + 1, by omega, by go_num⟩
              case measure => simp [intOf]; omega
            · go_wp2_with fail
              refine (known_any _).mono ?_
              rintro e v9 ⟨rfl, hx⟩
              have hx' := hide hx
              clear hx
              go_wp2_with fail
              go_ret
              exact ⟨rfl, (((unhide hRr').ext).trans (unhide hEp)).trans (unhide hx')⟩
    · have hpe := hide hpq
      clear hpq hpr
      refine (len_rel g bv be V E _ (unhide hR').isg).mono ?_
      rintro e w2 ⟨rfl, hx2⟩
      have hR2 := hide ((unhide hR').go hx2)
      clear hR' hx2
      go_wp2_with fail
      refine (vertex_hit g bv be V E u _ (unhide hR2).isg (unhide hu') (unhide hfv).1).mono ?_
      have hvi := hide (unhide hfv).2.2
      have hpv := hide (unhide hfv).2.1
      clear hfv
      generalize (lookM V u).getD (0, 0) = tv at *
      obtain ⟨tl, tw⟩ := tv
      rintro e w3 ⟨rfl, hx3⟩
      have hR3 := hide ((unhide hR2).go (hx3.trans (ext_self1 _ (.cells #[.int .i64 u, .int .u8 tl, .int .i64 tw] 44))))
      have hXb := hide (Blk.new w3 44 #[.int .i64 u, .int .u8 tl, .int .i64 tw])
      clear hR2 hx3
      go_wp2_with fail
      generalize w3.alloc (.cells #[.int .i64 u, .int .u8 tl, .int .i64 tw] 44) = w3a at *
      generalize w3.heap.size = bx at *
      clear w3
      refine (gedgeH g bv be V E u v _ (unhide hR3).isg k0 hk0 (unhide hpe)).mono ?_
      obtain ⟨ek, hek⟩ : ∃ ek, E[k0] = ek := ⟨_, rfl⟩
      rw [hek]
      have hek' := hide hek
      clear hek
      obtain ⟨⟨ea, eb⟩, ⟨el, ew⟩⟩ := ek
      rintro e w4 ⟨rfl, hx4⟩
      have hx4b := hx4.trans (ext_self1 _ (.cells #[.int .i64 ea, .int .i64 eb, .int .u8 el, .int .i64 ew] 47))
      have hR4 := hide ((unhide hR3).go hx4b)
      have hXb4 := hide ((unhide hXb).ext hx4b)
      have hYb := hide (Blk.new w4 47 #[.int .i64 ea, .int .i64 eb, .int .u8 el, .int .i64 ew])
      clear hR3 hx4 hx4b hXb
      go_wp2_with fail
      generalize w4.alloc (.cells #[.int .i64 ea, .int .i64 eb, .int .u8 el, .int .i64 ew] 47) = w4a at *
      generalize w4.heap.size = by_ at *
      clear w4
      have q0 := (unhide hR4).blk.cells 0 (v := .slice A1 V.length cA) rfl
      have q1 := (unhide hR4).blk.cells 1 (v := .slice B1 E.length cB) rfl
      refine wp_region_ext (P := Try.prog) [0,1,2,3,4,5,6,7,8] [] 0 #[true,true,true,true,true,true,true,true,true] (by kernel_rfl) (by kernel_rfl) rfl (by rfl) ?_
      iterate 9
        refine ql_want (v := ?_) rfl (by rfl) (fun W hW => ?_) ?_
        rotate_left
        · go_simp
          first | done | rfl | (go_at_call 30; refine (find_any A1 B1 V cA E.length cB u _ ((unhide hR4).sv.ext (by assumption)) (by omega)).mono ?_; rw [unhide hpv]; rintro _ _ ⟨h1, h2⟩; refine ⟨_, h1, ?_, h2⟩; rfl) | (go_at_call 31; refine (redge_any A1 B1 E V.length cA cB u v _ ((unhide hR4).se.ext (by assumption)) (by omega)).mono ?_; rw [unhide hpe]; rintro _ _ ⟨h1, h2⟩; refine ⟨_, h1, ?_, h2⟩; rfl)
        go_frame
      refine wpQL_nil (fun w5 hx5 => ?_)
      refine wpX_done (by kernel_rfl) ?_
      try go_frame
      have hR5 := hide ((unhide hR4).go hx5)
      have hXb5 := hide ((unhide hXb4).ext hx5)
      have hYb5 := hide ((unhide hYb).ext hx5)
      clear hR4 hXb4 hYb hx5 q0 q1
      have q0 := (unhide hR5).blk.cells 0 (v := .slice A1 V.length cA) rfl
      have q1 := (unhide hR5).blk.cells 1 (v := .slice B1 E.length cB) rfl
      have hself := Ext.refl w5
      go_wp2_with fail
      refine (rnear_any A1 B1 V E cA cB u _ (unhide hR5).sv (unhide hR5).se (unhide hi')).mono ?_
      rintro e w6 ⟨An, cn, Ao, co, rfl, hsn, hso, hx6⟩
      have hR6 := hide ((unhide hR5).go hx6)
      have hXb6 := hide ((unhide hXb5).ext hx6)
      have hYb6 := hide ((unhide hYb5).ext hx6)
      have hsn' := hide hsn
      have hso' := hide hso
      clear hR5 hXb5 hYb5 hx6 q0 q1 hself hsn hso
      have q0 := (unhide hR6).blk.cells 0 (v := .slice A1 V.length cA) rfl
      have q1 := (unhide hR6).blk.cells 1 (v := .slice B1 E.length cB) rfl
      have hself := Ext.refl w6
      have hmx : max (k0 : Int) 0 = (k0 : Int) := by omega
      go_wp2_with fail
      have x0 := (unhide hXb6).cells 0 (v := .int .i64 u) rfl
      have x1 := (unhide hXb6).cells 1 (v := .int .u8 tl) rfl
      have x2 := (unhide hXb6).cells 2 (v := .int .i64 tw) rfl
      have y0 := (unhide hYb6).cells 0 (v := .int .i64 ea) rfl
      have y1 := (unhide hYb6).cells 1 (v := .int .i64 eb) rfl
      have y2 := (unhide hYb6).cells 2 (v := .int .u8 el) rfl
      have y3 := (unhide hYb6).cells 3 (v := .int .i64 ew) rfl
      obtain ⟨vb, voff, hA1, c0, c1, c2⟩ := atV (unhide hR6).sv hi0
      rw [unhide hvi] at c0 c1 c2
      subst hA1
      simp only at c0 c1 c2
      obtain ⟨eb_, eoff, hB1, d0, d1, d2, d3⟩ := atE (unhide hR6).se hk0
      rw [unhide hek'] at d0 d1 d2 d3
      subst hB1
      simp only at d0 d1 d2 d3
      refine wp_region_still (P := Try.prog) [0,1,2,3,4,5,6,7,8,9,10,11,12,13,14,15,16,17,18,19,20,21,22,23,24,25,26,27,28,29,30,31,32,33,34,35,36,37,38,39] [] 0 #[true,true,true,true,true,true,true,true,true,true,true,true,true,true,true,true,true,true,true,true,true,true,true,true,true,true,true,true,true,true,true,true,true,true,true,true,true,true,true,true] (by kernel_rfl) (by kernel_rfl) rfl (by rfl) ?_
      iterate 40
        first
        | (refine ql_skip rfl (by rfl) ?_)
        | (refine ql_want (v := ?_) rfl (by rfl) (fun W hW => ?_) ?_; rotate_left; (go_simp; (first | done | rfl)))
        try go_frame
      refine wpQL_nil (fun w7 hx7 => ?_)
      refine wpX_done (by kernel_rfl) ?_
      try go_frame
      clear q0 q1 x0 x1 x2 y0 y1 y2 y3 hmx c0 c1 c2 d0 d1 d2 d3 hself hXb6 hYb6
      have hR7 := hide ((unhide hR6).go hx7)
      have hsn7 := hide ((unhide hsn').ext hx7)
      have hso7 := hide ((unhide hso').ext hx7)
      clear hR6 hsn' hso' hx7
      go_wp2_with fail
      go_loopw [20, 21] (fun l i wr => ∃ (k : Nat) (vs : Value) (o : List Int), k ≤ V.length ∧ i = .int .i64 k ∧ vs = l ∧ o = (V.take k).map (·.1) ∧ wr.ownsRow w7.heap.size 3 1 vs o.length (o.flatMap encI) ∧ Ext w7 wr) (fun _ i _ => V.length - (intOf i).toNat)
      case atStart => exact ⟨0, _, [], Nat.zero_le _, rfl, rfl, rfl, World.ownsRow_nil _ _ _ _, Ext.refl _⟩
      case round =>
        obtain ⟨k, vs, o, hk, rfl, hl3, ho, hown, hx⟩ := hrel
        subst hl3
        have hown' := hide hown
        have hx' := hide hx
        have ho' := hide ho
        have hol' := hide (show o.length ≤ 100000 by
          rw [ho, List.length_map, List.length_take]
          omega)
        have hRr := (unhide hR7).go hx
        have q0 := hRr.blk.cells 0 (v := .slice (some ⟨vb, voff, none⟩) V.length cA) rfl
        have hRr' := hide hRr
        clear hown hx ho hRr
        have hself := Ext.refl wr
        by_cases hlt : k < V.length
        · obtain ⟨b, off, hbo, c0, c1, c2⟩ := atV (unhide hRr').sv hlt
          have hst := hide (show o ++ [V[k].1] = (V.take (k + 1)).map (·.1) by rw [unhide ho', List.take_succ_eq_append_getElem hlt, List.map_append]; rfl)
          generalize hy : V[k] = y at c0 c1 c2 hst
          obtain ⟨x, tx⟩ := y
          simp only at c0 c1 c2
          clear hy c1 c2
          injection hbo with hbo; injection hbo with hb1 hb2; subst hb1; subst hb2
          go_wp2_with (at_builtin; refine wp_ap infoI Try.underlying73 one_encI (fun _ => rfl) (by decide) (by decide) wr rfl _ _ rfl w7.heap.size vs _ o x rfl _ _ (by rfl) rfl (by rfl) (by rfl) (unhide hown') (unhide hol') (Below.size (unhide hx')) ?_; intro A2 k1 w8 ho8 hg8; have hx8 := hide (app_step (unhide hx') (unhide hown') (ext_self1 _ _) hg8); have ho8' := hide ho8; clear ho8 hg8)
          go_roundw
          case rel => exact ⟨k + 1, _, o ++ [x], by omega, by go_num, rfl, unhide hst, by have h := unhide ho8'; simpa using h, unhide hx8⟩
          case measure => simp [intOf]; omega
        · have hkV : k = V.length := by omega
          subst hkV
          rw [List.take_length] at ho'
          have hoN := unhide ho'
          subst hoN
          obtain ⟨A3, c3, rfl⟩ := own_slice (unhide hown')
          have hs3 := hide (own_at (unhide hown') (fun _ => rfl))
          have hsn8 := hide ((unhide hsn7).ext (unhide hx'))
          have hso8 := hide ((unhide hso7).ext (unhide hx'))
          clear hown' ho' hol' hx' hR7 hsn7 hso7
          go_wp2_with fail
          clear q0 hself
          obtain ⟨C1, hC1⟩ : ∃ C, setC (nearS u E) = C := ⟨_, rfl⟩
          have hq1 : ∀ w, (Op.equalIn 10000 78 (.agg C1) (.agg C1)).run Try.prog w = .ok true w := fun w => by rw [← hC1]; exact eq_Set w _
          have hC1 := hide hC1
          refine (near_rel g bv be V E u _ (unhide hRr').isg).mono ?_
          rw [unhide hC1]
          rintro e v1 ⟨rfl, hx⟩
          have hE1 := hx
          have hE1 := hide hE1
          clear hx
          go_wp2_with fail
          refine (from01_any An (rnear u V E) cn _ ((unhide hsn8).ext (unhide hE1)) (Nat.le_trans (rnear_le u V E) (by omega))).mono ?_
          rw [rnear_eq (unhide hi'), unhide hC1]
          rintro e v2 ⟨rfl, hx⟩
          have hE2 := (unhide hE1).trans hx
          have hE2 := hide hE2
          clear hx hE1
          go_wp2_with fail
          clear hq1
          obtain ⟨C2, hC2⟩ : ∃ C, setC (incS u E E.length) = C := ⟨_, rfl⟩
          have hq2 : ∀ w, (Op.equalIn 10000 78 (.agg C2) (.agg C2)).run Try.prog w = .ok true w := fun w => by rw [← hC2]; exact eq_Set w _
          have hC2 := hide hC2
          refine (inc_rel g bv be V E u _ ((unhide hRr').isg.ext (unhide hE2))).mono ?_
          rw [unhide hC2]
          rintro e v3 ⟨rfl, hx⟩
          have hE3 := (unhide hE2).trans hx
          have hE3 := hide hE3
          clear hx hE2
          go_wp2_with fail
          refine (from01_any Ao (ron u E E.length) co _ ((unhide hso8).ext (unhide hE3)) (Nat.le_trans (ron_le u E _) (by omega))).mono ?_
          rw [ron_eq, unhide hC2]
          rintro e v4 ⟨rfl, hx⟩
          have hE4 := (unhide hE3).trans hx
          have hE4 := hide hE4
          clear hx hE3
          go_wp2_with fail
          clear hq2
          obtain ⟨C3, hC3⟩ : ∃ C, setC (vS V) = C := ⟨_, rfl⟩
          have hq3 : ∀ w, (Op.equalIn 10000 78 (.agg C3) (.agg C3)).run Try.prog w = .ok true w := fun w => by rw [← hC3]; exact eq_Set w _
          have hC3 := hide hC3
          refine (vset_rel g bv be V E _ ((unhide hRr').isg.ext (unhide hE4))).mono ?_
          rw [unhide hC3]
          rintro e v5 ⟨rfl, hx⟩
          have hE5 := (unhide hE4).trans hx
          have hE5 := hide hE5
          clear hx hE4
          go_wp2_with fail
          refine (from01_n A3 (V.map (·.1)) V.length c3 (List.length_map _) _ ((unhide hs3).ext (unhide hE5)) (by omega)).mono ?_
          rw [← vS_eq, unhide hC3]
          rintro e v6 ⟨rfl, hx⟩
          have hE6 := (unhide hE5).trans hx
          have hE6 := hide hE6
          clear hx hE5
          go_wp2_with fail
          clear hq3
          refine (eset_rel g bv be V E _ ((unhide hRr').isg.ext (unhide hE6))).mono ?_
          rintro e v7 ⟨rfl, hx⟩
          have hE7 := hide ((unhide hE6).trans hx)
          clear hx hE6
          obtain ⟨N, hN⟩ : ∃ N, belS E.length = N := ⟨_, rfl⟩
          rw [hN]
          have hN := hide hN
          have hBp := Blk.new v7 78 (setC 0)
          have hst := store_Set N hBp
          have hBp' := hide (Blk.putS N hBp)
          have hKp := Keep.putS (v7.alloc (.cells (setC 0) 78)) v7.heap.size N
          have hEp := hide ((((unhide hE7).trans (ext_self1 _ (.cells (setC 0) 78))).of_new hKp (by have := Below.size (unhide hE7); simpa using this)))
          rw [zero_Set] at hst hBp' hEp
          clear hBp hKp
          have hsz := setC_size N
          go_wp2_with fail
          clear hst hsz
          generalize putS (v7.alloc (.cells #[.int .u64 0, .int .u64 0, .int .u64 0, .int .u64 0, .int .u64 0, .int .u64 0, .int .u64 0, .int .u64 0, .int .u64 0, .int .u64 0, .int .u64 0, .int .u64 0, .int .u64 0, .int .u64 0, .int .u64 0, .int .u64 0] 78)) v7.heap.size N = v8 at *
          generalize v7.heap.size = bp at *
          go_loop [23] (fun i => ∃ j : Nat, j ≤ 1024 ∧ i = .int .i64 j) (fun i => 1024 - (intOf i).toNat)
          case atStart => exact ⟨0, by omega, rfl⟩
          case round =>
            obtain ⟨j, hj, rfl⟩ := hrel
            by_cases hlj : j < 1024
            · have c0 := cell_of (unhide hBp') hlj
              have hself := Ext.refl v8
              obtain ⟨h1, hw, h6, h7, h8⟩ := idx_facts hlj
              have h9 := tmod64 j
              have h10 := bel_at E.length j nE
              rw [unhide hN] at h10
              go_wp2_with fail
              go_round
              case rel => exact ⟨j + 1, by omega, by go_num⟩
              case measure => simp [intOf]; omega
            · go_wp2_with fail
              refine (known_any _).mono ?_
              rintro e v9 ⟨rfl, hx⟩
              have hx' := hide hx
              clear hx
              go_wp2_with fail
              go_ret
              exact ⟨rfl, (((unhide hRr').ext).trans (unhide hEp)).trans (unhide hx')⟩
end Go.Proofs.Ytdkhondfahebnaa
