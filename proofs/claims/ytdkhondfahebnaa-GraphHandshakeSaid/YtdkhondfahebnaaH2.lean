/- Every input makes the law GraphHandshake answer true, and each argument reads behind the call as it read before: the given statement. No condition. -/
import Derived.Test.YtdkhondfahebnaaH1
import Derived.Test.YtdkhondfahebnaaKn
import Derived.Test.YtdkhondfahebnaaOp
import Derived.WalkKit
import Derived.ProofKit
import Derived.OpenShut
import Derived.ShutString
import Derived.ChangeOld
import Derived.Below
/- LAW GraphQueries, the walk. Conditions: see each theorem. -/
namespace Go.Proofs.Ytdkhondfahebnaa
open Go Go.RowKit
attribute [local go_sem] qUpon lUpon

theorem gedgeM (g bv be : Nat) (V : List (Int × Thing)) (E : List ((Int × Int) × Thing)) (u v : Int) (w : World) (hg : IsG w g bv be V E) (hp : posI (isE u v) E = -1) : Calls Try.prog 29 #[.pointer (some ⟨g, 0, none⟩), .int .i64 u, .int .i64 v] w fun e w' => e = .returned (.tuple #[.agg #[.int .i64 0, .int .i64 0, .int .u8 0, .int .i64 0], .int .i64 0, .bool false]) ∧ Ext w w' := by
  have n2 := hg.nE
  obtain ⟨V', E', h1, hV, hE, hi⟩ := hg
  exact gedge_miss g bv be V' E' E u v w h1 hE hi.se (by rw [← hE.length_eq]; exact n2) (by rw [posX_posE hi.lo]; exact hp)
theorem gedgeH (g bv be : Nat) (V : List (Int × Thing)) (E : List ((Int × Int) × Thing)) (u v : Int) (w : World) (hg : IsG w g bv be V E) (k : Nat) (hk : k < E.length) (hp : posI (isE u v) E = k) : Calls Try.prog 29 #[.pointer (some ⟨g, 0, none⟩), .int .i64 u, .int .i64 v] w fun e w' => e = .returned (.tuple #[.agg #[.int .i64 E[k].1.1, .int .i64 E[k].1.2, .int .u8 E[k].2.1, .int .i64 E[k].2.2], .int .i64 k, .bool true]) ∧ Ext w w' := by
  have n2 := hg.nE
  obtain ⟨V', E', h1, hV, hE, hi⟩ := hg
  exact gedge_hit g bv be V' E' E u v w h1 hE hi.se (by rw [← hE.length_eq]; exact n2) k hk (by rw [posX_posE hi.lo]; exact hp)
theorem len_rel (g bv be : Nat) (V : List (Int × Thing)) (E : List ((Int × Int) × Thing)) (w : World) (hg : IsG w g bv be V E) : Calls Try.prog 27 #[.pointer (some ⟨g, 0, none⟩)] w fun e w' => e = .returned (.tuple #[.int .i64 V.length, .int .i64 E.length]) ∧ Ext w w' := by
  obtain ⟨V', E', h1, hV, hE, hi⟩ := hg
  rw [hV.length_eq, hE.length_eq]
  exact len_any g bv be V' E' w h1
theorem near_rel (g bv be : Nat) (V : List (Int × Thing)) (E : List ((Int × Int) × Thing)) (id : Int) (w : World) (hg : IsG w g bv be V E) : Calls Try.prog 33 #[.pointer (some ⟨g, 0, none⟩), .int .i64 id] w fun e w' => e = .returned (.agg (setC (nearS id E))) ∧ Ext w w' :=
  near_gen _ id E w hg.nE fun W hW => (edges_rel g bv be V E W (hg.ext hW)).mono fun e w' h => by
    obtain ⟨A, c, he, ho, hx⟩ := h
    exact ⟨A, c, he, own_at ho (fun _ => rfl), hx⟩
theorem inc_rel (g bv be : Nat) (V : List (Int × Thing)) (E : List ((Int × Int) × Thing)) (id : Int) (w : World) (hg : IsG w g bv be V E) : Calls Try.prog 35 #[.pointer (some ⟨g, 0, none⟩), .int .i64 id] w fun e w' => e = .returned (.agg (setC (incS id E E.length))) ∧ Ext w w' :=
  inc_gen _ id E w hg.nE fun W hW => (edges_rel g bv be V E W (hg.ext hW)).mono fun e w' h => by
    obtain ⟨A, c, he, ho, hx⟩ := h
    exact ⟨A, c, he, own_at ho (fun _ => rfl), hx⟩
theorem vset_rel (g bv be : Nat) (V : List (Int × Thing)) (E : List ((Int × Int) × Thing)) (w : World) (hg : IsG w g bv be V E) : Calls Try.prog 36 #[.pointer (some ⟨g, 0, none⟩)] w fun e w' => e = .returned (.agg (setC (vS V))) ∧ Ext w w' :=
  vset_gen _ V w hg.nV fun W hW => (vertices_rel g bv be V E W (hg.ext hW)).mono fun e w' h => by
    obtain ⟨A, c, he, ho, hx⟩ := h
    exact ⟨A, c, he, own_at ho (fun _ => rfl), hx⟩
theorem eset_rel (g bv be : Nat) (V : List (Int × Thing)) (E : List ((Int × Int) × Thing)) (w : World) (hg : IsG w g bv be V E) : Calls Try.prog 37 #[.pointer (some ⟨g, 0, none⟩)] w fun e w' => e = .returned (.agg (setC (belS E.length))) ∧ Ext w w' :=
  eset_gen _ _ _ w fun W hW => len_rel g bv be V E W (hg.ext hW)

theorem bit_at (N j : Nat) : (bits .and .u64 (wd N (j / 64) / 2 ^ (j % 64)) 1 == 1) = N.testBit j := by
  have e : wd N (j / 64) / 2 ^ (j % 64) = ((wdN N (j / 64) / 2 ^ (j % 64) : Nat) : Int) := by
    unfold wd
    simp
  have hlt : wdN N (j / 64) / 2 ^ (j % 64) < 2 ^ 64 := Nat.lt_of_le_of_lt (Nat.div_le_self _ _) (wdN_lt _ _)
  rw [e, show (1 : Int) = ((1 : Nat) : Int) from rfl, u64_and_nat _ _ hlt (by decide)]
  have h := wdN_bit N (j / 64) (j % 64)
  rw [show 64 * (j / 64) + j % 64 = j by omega, decide_eq_true (show j % 64 < 64 by omega), Bool.true_and] at h
  rw [← h, Nat.testBit_eq_decide_div_mod_eq, Nat.and_one_is_mod, Bool.eq_iff_iff]
  simp only [beq_iff_eq, decide_eq_true_eq]
  omega
theorem bel_at (m j : Nat) (hm : m ≤ 1024) : (bits .and .u64 (wd (belS (m : Int)) (j / 64) / 2 ^ (j % 64)) 1 == 1) = decide (j < m) := by
  rw [bit_at]
  unfold belS
  rw [Nat.testBit_two_pow_sub_one, Int.toNat_natCast, Nat.min_eq_left hm]
theorem from01_n (A : Option Addr) (L : List Int) (n cL : Nat) (hn : L.length = n) (w : World) (hL : SlAt encI 1 w A L) (hl : n ≤ 4096) :
    Calls Try.prog 34 #[.slice A n cL] w fun e w' => e = .returned (.agg (setC (fromS L))) ∧ Ext w w' := by
  subst hn
  exact from01_any A L cL w hL hl

set_option maxRecDepth 100000 in
set_option maxHeartbeats 16000000 in
theorem graphQueries_walk (A : Option Addr) (L : List Ed) (cL : Nat) (u v : Int) (w : World) (hL : SlAt encD 5 w A L) (_hok : ∀ d ∈ L, okD d) (_hl : L.length ≤ 9223372036854775807) (_hc : L.length ≤ cL) (hu : i64ok u) (_hv : i64ok v) :
    Calls Try.prog 8 #[.slice A L.length cL, .int .i64 u, .int .i64 v] w fun e w' => e = .returned (.bool true) ∧ Ext w w' := by
  have hL' := hide hL
  have hu' := hide hu
  clear hL hu
  go_enter Try.func8, Try.ntmps8
  go_wp2_with fail
  refine (made_any A L cL _ (unhide hL')).mono ?_
  rintro e w1 ⟨A1, cA, B1, cB, rfl, hs1, he1, hx1⟩
  have hinv := mdS_inv L
  generalize mdS L = S at *
  obtain ⟨V, E⟩ := S
  simp only at hs1 he1 hinv
  have hs1' := hide hs1
  have he1' := hide he1
  have hx1' := hide hx1
  have hi' := hide hinv
  have nV := hinv.nv
  have nE := hinv.ne
  clear hs1 he1 hx1 hinv
  go_wp2_with fail
  refine (from_any A1 B1 V E cA cB _ ((unhide hs1').ext (ext_self1 _ _)) ((unhide he1').ext (ext_self1 _ _)) (unhide hi')).mono ?_
  rintro e wr ⟨g, bv, be, rfl, hg0, hx0, n1, n2, n3⟩
  have hR : ApRel w wr g bv be w1.heap.size V E A1 B1 cA cB := by
    have h1 := Below.size (unhide hx1')
    simp at n1 n2 n3
    exact ⟨hg0, (Blk.new w1 _ _).ext hx0, ((unhide hs1').ext (ext_self1 _ _)).ext hx0, ((unhide he1').ext (ext_self1 _ _)).ext hx0, ((unhide hx1').trans (ext_self1 _ _)).trans hx0, by omega, by omega, by omega, h1⟩
  have hR' := hide hR
  clear hR hg0 hx0 n1 n2 n3 hs1' he1' hx1'
  generalize w1.heap.size = gw at *
  clear w1
  go_wp2_with fail
  have hfv0 := find_look (u := u) (unhide hi').sv
  have hpe0 := posI_cases (isE u v) E
  rcases hfv0 with hfq | ⟨i0, hi0, hfq⟩
  · have hfv := hide hfq
    clear hfq
    rcases hpe0 with ⟨hpq, hpr⟩ | ⟨k0, hk0, hpq, hpr⟩
    · have hpe := hide hpq
      clear hpq hpr
      refine (len_rel g bv be V E _ (unhide hR').isg).mono ?_
      rintro e w2 ⟨rfl, hx2⟩
      have hR2 := hide ((unhide hR').go hx2)
      clear hR' hx2
      go_wp2_with fail
      refine (vertex_miss g bv be V E u _ (unhide hR2).isg (unhide hu') (unhide hfv).1).mono ?_
      have hpv := hide (unhide hfv).2
      clear hfv
      rintro e w3 ⟨rfl, hx3⟩
      have hR3 := hide ((unhide hR2).go (hx3.trans (ext_self1 _ (.cells #[.int .i64 0, .int .u8 0, .int .i64 0] 44))))
      have hXb := hide (Blk.new w3 44 #[.int .i64 0, .int .u8 0, .int .i64 0])
      clear hR2 hx3
      go_wp2_with fail
      generalize w3.alloc (.cells #[.int .i64 0, .int .u8 0, .int .i64 0] 44) = w3a at *
      generalize w3.heap.size = bx at *
      clear w3
      refine (gedgeM g bv be V E u v _ (unhide hR3).isg (unhide hpe)).mono ?_
      rintro e w4 ⟨rfl, hx4⟩
      have hx4b := hx4.trans (ext_self1 _ (.cells #[.int .i64 0, .int .i64 0, .int .u8 0, .int .i64 0] 47))
      have hR4 := hide ((unhide hR3).go hx4b)
      have hXb4 := hide ((unhide hXb).ext hx4b)
      have hYb := hide (Blk.new w4 47 #[.int .i64 0, .int .i64 0, .int .u8 0, .int .i64 0])
      clear hR3 hx4 hx4b hXb
      go_wp2_with fail
      generalize w4.alloc (.cells #[.int .i64 0, .int .i64 0, .int .u8 0, .int .i64 0] 47) = w4a at *
      generalize w4.heap.size = by_ at *
      clear w4
      have q0 := (unhide hR4).blk.cells 0 (v := .slice A1 V.length cA) rfl
      have q1 := (unhide hR4).blk.cells 1 (v := .slice B1 E.length cB) rfl
      refine wp_region_ext (P := Try.prog) [0,1,2,3,4,5,6,7,8] [] 0 #[true,true,true,true,true,true,true,true,true] (by kernel_rfl) (by kernel_rfl) rfl (by rfl) ?_
      iterate 9
        refine ql_want (v := ?_) rfl (by rfl) (fun W hW => ?_) ?_
        rotate_left
        · go_simp
          first | done | rfl | (go_at_call 30; refine (find_any A1 B1 V cA E.length cB u _ ((unhide hR4).sv.ext (by assumption)) (by omega)).mono ?_; rw [unhide hpv]; rintro _ _ ⟨h1, h2⟩; refine ⟨_, h1, ?_, h2⟩; rfl) | (go_at_call 31; refine (redge_any A1 B1 E V.length cA cB u v _ ((unhide hR4).se.ext (by assumption)) (by omega)).mono ?_; rw [unhide hpe]; rintro _ _ ⟨h1, h2⟩; refine ⟨_, h1, ?_, h2⟩; rfl)
        go_frame
      refine wpQL_nil (fun w5 hx5 => ?_)
      refine wpX_done (by kernel_rfl) ?_
      try go_frame
      have hR5 := hide ((unhide hR4).go hx5)
      have hXb5 := hide ((unhide hXb4).ext hx5)
      have hYb5 := hide ((unhide hYb).ext hx5)
      clear hR4 hXb4 hYb hx5 q0 q1
      have q0 := (unhide hR5).blk.cells 0 (v := .slice A1 V.length cA) rfl
      have q1 := (unhide hR5).blk.cells 1 (v := .slice B1 E.length cB) rfl
      have hself := Ext.refl w5
      go_wp2_with fail
      refine (rnear_any A1 B1 V E cA cB u _ (unhide hR5).sv (unhide hR5).se (unhide hi')).mono ?_
      rintro e w6 ⟨An, cn, Ao, co, rfl, hsn, hso, hx6⟩
      have hR6 := hide ((unhide hR5).go hx6)
      have hXb6 := hide ((unhide hXb5).ext hx6)
      have hYb6 := hide ((unhide hYb5).ext hx6)
      have hsn' := hide hsn
      have hso' := hide hso
      clear hR5 hXb5 hYb5 hx6 q0 q1 hself hsn hso
      have q0 := (unhide hR6).blk.cells 0 (v := .slice A1 V.length cA) rfl
      have q1 := (unhide hR6).blk.cells 1 (v := .slice B1 E.length cB) rfl
      have hself := Ext.refl w6
      have hmx : max (-1 : Int) 0 = 0 := by decide
      go_wp2_with fail
      have x0 := (unhide hXb6).cells 0 (v := .int .i64 0) rfl
      have x1 := (unhide hXb6).cells 1 (v := .int .u8 0) rfl
      have x2 := (unhide hXb6).cells 2 (v := .int .i64 0) rfl
      have y0 := (unhide hYb6).cells 0 (v := .int .i64 0) rfl
      have y1 := (unhide hYb6).cells 1 (v := .int .i64 0) rfl
      have y2 := (unhide hYb6).cells 2 (v := .int .u8 0) rfl
      have y3 := (unhide hYb6).cells 3 (v := .int .i64 0) rfl
      refine wp_region_still (P := Try.prog) [0,1,2,3,4,5,6,7,8,9,10,11,12,13,14,15,16,17,18,19,20,21,22,23,24,25,26,27,28,29,30,31,32,33,34,35,36,37,38,39] [] 0 #[true,true,true,true,true,true,true,true,true,true,true,true,true,true,true,true,true,true,true,true,true,true,true,true,true,true,true,true,true,true,true,true,true,true,true,true,true,true,true,true] (by kernel_rfl) (by kernel_rfl) rfl (by rfl) ?_
      iterate 40
        first
        | (refine ql_skip rfl (by rfl) ?_)
        | (refine ql_want (v := ?_) rfl (by rfl) (fun W hW => ?_) ?_; rotate_left; (go_simp; (first | done | rfl)))
        try go_frame
      refine wpQL_nil (fun w7 hx7 => ?_)
      refine wpX_done (by kernel_rfl) ?_
      try go_frame
      clear q0 q1 x0 x1 x2 y0 y1 y2 y3 hmx hself hXb6 hYb6
      have hR7 := hide ((unhide hR6).go hx7)
      have hsn7 := hide ((unhide hsn').ext hx7)
      have hso7 := hide ((unhide hso').ext hx7)
      clear hR6 hsn' hso' hx7
      go_wp2_with fail
      go_loopw [20, 21] (fun l i wr => ∃ (k : Nat) (vs : Value) (o : List Int), k ≤ V.length ∧ i = .int .i64 k ∧ vs = l ∧ o = (V.take k).map (·.1) ∧ wr.ownsRow w7.heap.size 3 1 vs o.length (o.flatMap encI) ∧ Ext w7 wr) (fun _ i _ => V.length - (intOf i).toNat)
      case atStart => exact ⟨0, _, [], Nat.zero_le _, rfl, rfl, rfl, World.ownsRow_nil _ _ _ _, Ext.refl _⟩
      case round =>
        obtain ⟨k, vs, o, hk, rfl, hl3, ho, hown, hx⟩ := hrel
        subst hl3
        have hown' := hide hown
        have hx' := hide hx
        have ho' := hide ho
        have hol' := hide (show o.length ≤ 100000 by
          rw [ho, List.length_map, List.length_take]
          omega)
        have hRr := (unhide hR7).go hx
        have q0 := hRr.blk.cells 0 (v := .slice A1 V.length cA) rfl
        have hRr' := hide hRr
        clear hown hx ho hRr
        have hself := Ext.refl wr
        by_cases hlt : k < V.length
        · obtain ⟨b, off, hbo, c0, c1, c2⟩ := atV (unhide hRr').sv hlt
          have hst := hide (show o ++ [V[k].1] = (V.take (k + 1)).map (·.1) by rw [unhide ho', List.take_succ_eq_append_getElem hlt, List.map_append]; rfl)
          generalize hy : V[k] = y at c0 c1 c2 hst
          obtain ⟨x, tx⟩ := y
          simp only at c0 c1 c2
          clear hy c1 c2
          subst hbo
          go_wp2_with (at_builtin; refine wp_ap infoI Try.underlying73 one_encI (fun _ => rfl) (by decide) (by decide) wr rfl _ _ rfl w7.heap.size vs _ o x rfl _ _ (by rfl) rfl (by rfl) (by rfl) (unhide hown') (unhide hol') (Below.size (unhide hx')) ?_; intro A2 k1 w8 ho8 hg8; have hx8 := hide (app_step (unhide hx') (unhide hown') (ext_self1 _ _) hg8); have ho8' := hide ho8; clear ho8 hg8)
          go_roundw
          case rel => exact ⟨k + 1, _, o ++ [x], by omega, by go_num, rfl, unhide hst, by have h := unhide ho8'; simpa using h, unhide hx8⟩
          case measure => simp [intOf]; omega
        · have hkV : k = V.length := by omega
          subst hkV
          rw [List.take_length] at ho'
          have hoN := unhide ho'
          subst hoN
          obtain ⟨A3, c3, rfl⟩ := own_slice (unhide hown')
          have hs3 := hide (own_at (unhide hown') (fun _ => rfl))
          have hsn8 := hide ((unhide hsn7).ext (unhide hx'))
          have hso8 := hide ((unhide hso7).ext (unhide hx'))
          clear hown' ho' hol' hx' hR7 hsn7 hso7
          go_wp2_with fail
          clear q0 hself
          obtain ⟨C1, hC1⟩ : ∃ C, setC (nearS u E) = C := ⟨_, rfl⟩
          have hq1 : ∀ w, (Op.equalIn 10000 78 (.agg C1) (.agg C1)).run Try.prog w = .ok true w := fun w => by rw [← hC1]; exact eq_Set w _
          have hC1 := hide hC1
          refine (near_rel g bv be V E u _ (unhide hRr').isg).mono ?_
          rw [unhide hC1]
          rintro e v1 ⟨rfl, hx⟩
          have hE1 := hx
          have hE1 := hide hE1
          clear hx
          go_wp2_with fail
          refine (from01_any An (rnear u V E) cn _ ((unhide hsn8).ext (unhide hE1)) (Nat.le_trans (rnear_le u V E) (by omega))).mono ?_
          rw [rnear_eq (unhide hi'), unhide hC1]
          rintro e v2 ⟨rfl, hx⟩
          have hE2 := (unhide hE1).trans hx
          have hE2 := hide hE2
          clear hx hE1
          go_wp2_with fail
          clear hq1
          obtain ⟨C2, hC2⟩ : ∃ C, setC (incS u E E.length) = C := ⟨_, rfl⟩
          have hq2 : ∀ w, (Op.equalIn 10000 78 (.agg C2) (.agg C2)).run Try.prog w = .ok true w := fun w => by rw [← hC2]; exact eq_Set w _
          have hC2 := hide hC2
          refine (inc_rel g bv be V E u _ ((unhide hRr').isg.ext (unhide hE2))).mono ?_
          rw [unhide hC2]
          rintro e v3 ⟨rfl, hx⟩
          have hE3 := (unhide hE2).trans hx
          have hE3 := hide hE3
          clear hx hE2
          go_wp2_with fail
          refine (from01_any Ao (ron u E E.length) co _ ((unhide hso8).ext (unhide hE3)) (Nat.le_trans (ron_le u E _) (by omega))).mono ?_
          rw [ron_eq, unhide hC2]
          rintro e v4 ⟨rfl, hx⟩
          have hE4 := (unhide hE3).trans hx
          have hE4 := hide hE4
          clear hx hE3
          go_wp2_with fail
          clear hq2
          obtain ⟨C3, hC3⟩ : ∃ C, setC (vS V) = C := ⟨_, rfl⟩
          have hq3 : ∀ w, (Op.equalIn 10000 78 (.agg C3) (.agg C3)).run Try.prog w = .ok true w := fun w => by rw [← hC3]; exact eq_Set w _
          have hC3 := hide hC3
          refine (vset_rel g bv be V E _ ((unhide hRr').isg.ext (unhide hE4))).mono ?_
          rw [unhide hC3]
          rintro e v5 ⟨rfl, hx⟩
          have hE5 := (unhide hE4).trans hx
          have hE5 := hide hE5
          clear hx hE4
          go_wp2_with fail
          refine (from01_n A3 (V.map (·.1)) V.length c3 (List.length_map _) _ ((unhide hs3).ext (unhide hE5)) (by omega)).mono ?_
          rw [← vS_eq, unhide hC3]
          rintro e v6 ⟨rfl, hx⟩
          have hE6 := (unhide hE5).trans hx
          have hE6 := hide hE6
          clear hx hE5
          go_wp2_with fail
          clear hq3
          refine (eset_rel g bv be V E _ ((unhide hRr').isg.ext (unhide hE6))).mono ?_
          rintro e v7 ⟨rfl, hx⟩
          have hE7 := hide ((unhide hE6).trans hx)
          clear hx hE6
          obtain ⟨N, hN⟩ : ∃ N, belS E.length = N := ⟨_, rfl⟩
          rw [hN]
          have hN := hide hN
          have hBp := Blk.new v7 78 (setC 0)
          have hst := store_Set N hBp
          have hBp' := hide (Blk.putS N hBp)
          have hKp := Keep.putS (v7.alloc (.cells (setC 0) 78)) v7.heap.size N
          have hEp := hide ((((unhide hE7).trans (ext_self1 _ (.cells (setC 0) 78))).of_new hKp (by have := Below.size (unhide hE7); simpa using this)))
          rw [zero_Set] at hst hBp' hEp
          clear hBp hKp
          have hsz := setC_size N
          go_wp2_with fail
          clear hst hsz
          generalize putS (v7.alloc (.cells #[.int .u64 0, .int .u64 0, .int .u64 0, .int .u64 0, .int .u64 0, .int .u64 0, .int .u64 0, .int .u64 0, .int .u64 0, .int .u64 0, .int .u64 0, .int .u64 0, .int .u64 0, .int .u64 0, .int .u64 0, .int .u64 0] 78)) v7.heap.size N = v8 at *
          generalize v7.heap.size = bp at *
          go_loop [23] (fun i => ∃ j : Nat, j ≤ 1024 ∧ i = .int .i64 j) (fun i => 1024 - (intOf i).toNat)
          case atStart => exact ⟨0, by omega, rfl⟩
          case round =>
            obtain ⟨j, hj, rfl⟩ := hrel
            by_cases hlj : j < 1024
            · have c0 := cell_of (unhide hBp') hlj
              have hself := Ext.refl v8
              obtain ⟨h1, hw, h6, h7, h8⟩ := idx_facts hlj
              have h9 := tmod64 j
              have h10 := bel_at E.length j nE
              rw [unhide hN] at h10
              go_wp2_with fail
              go_round
              case rel => exact ⟨j + 1, by omega, by go_num⟩
              case measure => simp [intOf]; omega
            · go_wp2_with fail
              refine (known_any _).mono ?_
              rintro e v9 ⟨rfl, hx⟩
              have hx' := hide hx
              clear hx
              go_wp2_with fail
              go_ret
              exact ⟨rfl, (((unhide hRr').ext).trans (unhide hEp)).trans (unhide hx')⟩
    · have hpe := hide hpq
      clear hpq hpr
      refine (len_rel g bv be V E _ (unhide hR').isg).mono ?_
      rintro e w2 ⟨rfl, hx2⟩
      have hR2 := hide ((unhide hR').go hx2)
      clear hR' hx2
      go_wp2_with fail
      refine (vertex_miss g bv be V E u _ (unhide hR2).isg (unhide hu') (unhide hfv).1).mono ?_
      have hpv := hide (unhide hfv).2
      clear hfv
      rintro e w3 ⟨rfl, hx3⟩
      have hR3 := hide ((unhide hR2).go (hx3.trans (ext_self1 _ (.cells #[.int .i64 0, .int .u8 0, .int .i64 0] 44))))
      have hXb := hide (Blk.new w3 44 #[.int .i64 0, .int .u8 0, .int .i64 0])
      clear hR2 hx3
      go_wp2_with fail
      generalize w3.alloc (.cells #[.int .i64 0, .int .u8 0, .int .i64 0] 44) = w3a at *
      generalize w3.heap.size = bx at *
      clear w3
      refine (gedgeH g bv be V E u v _ (unhide hR3).isg k0 hk0 (unhide hpe)).mono ?_
      obtain ⟨ek, hek⟩ : ∃ ek, E[k0] = ek := ⟨_, rfl⟩
      rw [hek]
      have hek' := hide hek
      clear hek
      obtain ⟨⟨ea, eb⟩, ⟨el, ew⟩⟩ := ek
      rintro e w4 ⟨rfl, hx4⟩
      have hx4b := hx4.trans (ext_self1 _ (.cells #[.int .i64 ea, .int .i64 eb, .int .u8 el, .int .i64 ew] 47))
      have hR4 := hide ((unhide hR3).go hx4b)
      have hXb4 := hide ((unhide hXb).ext hx4b)
      have hYb := hide (Blk.new w4 47 #[.int .i64 ea, .int .i64 eb, .int .u8 el, .int .i64 ew])
      clear hR3 hx4 hx4b hXb
      go_wp2_with fail
      generalize w4.alloc (.cells #[.int .i64 ea, .int .i64 eb, .int .u8 el, .int .i64 ew] 47) = w4a at *
      generalize w4.heap.size = by_ at *
      clear w4
      have q0 := (unhide hR4).blk.cells 0 (v := .slice A1 V.length cA) rfl
      have q1 := (unhide hR4).blk.cells 1 (v := .slice B1 E.length cB) rfl
      refine wp_region_ext (P := Try.prog) [0,1,2,3,4,5,6,7,8] [] 0 #[true,true,true,true,true,true,true,true,true] (by kernel_rfl) (by kernel_rfl) rfl (by rfl) ?_
      iterate 9
        refine ql_want (v := ?_) rfl (by rfl) (fun W hW => ?_) ?_
        rotate_left
        · go_simp
          first | done | rfl | (go_at_call 30; refine (find_any A1 B1 V cA E.length cB u _ ((unhide hR4).sv.ext (by assumption)) (by omega)).mono ?_; rw [unhide hpv]; rintro _ _ ⟨h1, h2⟩; refine ⟨_, h1, ?_, h2⟩; rfl) | (go_at_call 31; refine (redge_any A1 B1 E V.length cA cB u v _ ((unhide hR4).se.ext (by assumption)) (by omega)).mono ?_; rw [unhide hpe]; rintro _ _ ⟨h1, h2⟩; refine ⟨_, h1, ?_, h2⟩; rfl)
        go_frame
      refine wpQL_nil (fun w5 hx5 => ?_)
      refine wpX_done (by kernel_rfl) ?_
      try go_frame
      have hR5 := hide ((unhide hR4).go hx5)
      have hXb5 := hide ((unhide hXb4).ext hx5)
      have hYb5 := hide ((unhide hYb).ext hx5)
      clear hR4 hXb4 hYb hx5 q0 q1
      have q0 := (unhide hR5).blk.cells 0 (v := .slice A1 V.length cA) rfl
      have q1 := (unhide hR5).blk.cells 1 (v := .slice B1 E.length cB) rfl
      have hself := Ext.refl w5
      go_wp2_with fail
      refine (rnear_any A1 B1 V E cA cB u _ (unhide hR5).sv (unhide hR5).se (unhide hi')).mono ?_
      rintro e w6 ⟨An, cn, Ao, co, rfl, hsn, hso, hx6⟩
      have hR6 := hide ((unhide hR5).go hx6)
      have hXb6 := hide ((unhide hXb5).ext hx6)
      have hYb6 := hide ((unhide hYb5).ext hx6)
      have hsn' := hide hsn
      have hso' := hide hso
      clear hR5 hXb5 hYb5 hx6 q0 q1 hself hsn hso
      have q0 := (unhide hR6).blk.cells 0 (v := .slice A1 V.length cA) rfl
      have q1 := (unhide hR6).blk.cells 1 (v := .slice B1 E.length cB) rfl
      have hself := Ext.refl w6
      have hmx : max (k0 : Int) 0 = (k0 : Int) := by omega
      go_wp2_with fail
      have x0 := (unhide hXb6).cells 0 (v := .int .i64 0) rfl
      have x1 := (unhide hXb6).cells 1 (v := .int .u8 0) rfl
      have x2 := (unhide hXb6).cells 2 (v := .int .i64 0) rfl
      have y0 := (unhide hYb6).cells 0 (v := .int .i64 ea) rfl
      have y1 := (unhide hYb6).cells 1 (v := .int .i64 eb) rfl
      have y2 := (unhide hYb6).cells 2 (v := .int .u8 el) rfl
      have y3 := (unhide hYb6).cells 3 (v := .int .i64 ew) rfl
      obtain ⟨eb_, eoff, hB1, d0, d1, d2, d3⟩ := atE (unhide hR6).se hk0
      rw [unhide hek'] at d0 d1 d2 d3
      subst hB1
      simp only at d0 d1 d2 d3
      refine wp_region_still (P := Try.prog) [0,1,2,3,4,5,6,7,8,9,10,11,12,13,14,15,16,17,18,19,20,21,22,23,24,25,26,27,28,29,30,31,32,33,34,35,36,37,38,39] [] 0 #[true,true,true,true,true,true,true,true,true,true,true,true,true,true,true,true,true,true,true,true,true,true,true,true,true,true,true,true,true,true,true,true,true,true,true,true,true,true,true,true] (by kernel_rfl) (by kernel_rfl) rfl (by rfl) ?_
      iterate 40
        first
        | (refine ql_skip rfl (by rfl) ?_)
        | (refine ql_want (v := ?_) rfl (by rfl) (fun W hW => ?_) ?_; rotate_left; (go_simp; (first | done | rfl)))
        try go_frame
      refine wpQL_nil (fun w7 hx7 => ?_)
      refine wpX_done (by kernel_rfl) ?_
      try go_frame
      clear q0 q1 x0 x1 x2 y0 y1 y2 y3 hmx d0 d1 d2 d3 hself hXb6 hYb6
      have hR7 := hide ((unhide hR6).go hx7)
      have hsn7 := hide ((unhide hsn').ext hx7)
      have hso7 := hide ((unhide hso').ext hx7)
      clear hR6 hsn' hso' hx7
      go_wp2_with fail
      go_loopw [20, 21] (fun l i wr => ∃ (k : Nat) (vs : Value) (o : List Int), k ≤ V.length ∧ i = .int .i64 k ∧ vs = l ∧ o = (V.take k).map (·.1) ∧ wr.ownsRow w7.heap.size 3 1 vs o.length (o.flatMap encI) ∧ Ext w7 wr) (fun _ i _ => V.length - (intOf i).toNat)
      case atStart => exact ⟨0, _, [], Nat.zero_le _, rfl, rfl, rfl, World.ownsRow_nil _ _ _ _, Ext.refl _⟩
      case round =>
        obtain ⟨k, vs, o, hk, rfl, hl3, ho, hown, hx⟩ := hrel
        subst hl3
        have hown' := hide hown
        have hx' := hide hx
        have ho' := hide ho
        have hol' := hide (show o.length ≤ 100000 by
          rw [ho, List.length_map, List.length_take]
          omega)
        have hRr := (unhide hR7).go hx
        have q0 := hRr.blk.cells 0 (v := .slice A1 V.length cA) rfl
        have hRr' := hide hRr
        clear hown hx ho hRr
        have hself := Ext.refl wr
        by_cases hlt : k < V.length
        · obtain ⟨b, off, hbo, c0, c1, c2⟩ := atV (unhide hRr').sv hlt
          have hst := hide (show o ++ [V[k].1] = (V.take (k + 1)).map (·.1) by rw [unhide ho', List.take_succ_eq_append_getElem hlt, List.map_append]; rfl)
          generalize hy : V[k] = y at c0 c1 c2 hst
          obtain ⟨x, tx⟩ := y
          simp only at c0 c1 c2
          clear hy c1 c2
          subst hbo
          go_wp2_with (at_builtin; refine wp_ap infoI Try.underlying73 one_encI (fun _ => rfl) (by decide) (by decide) wr rfl _ _ rfl w7.heap.size vs _ o x rfl _ _ (by rfl) rfl (by rfl) (by rfl) (unhide hown') (unhide hol') (Below.size (unhide hx')) ?_; intro A2 k1 w8 ho8 hg8; have hx8 := hide (app_step (unhide hx') (unhide hown') (ext_self1 _ _) hg8); have ho8' := hide ho8; clear ho8 hg8)
          go_roundw
          case rel => exact ⟨k + 1, _, o ++ [x], by omega, by go_num, rfl, unhide hst, by have h := unhide ho8'; simpa using h, unhide hx8⟩
          case measure => simp [intOf]; omega
        · have hkV : k = V.length := by omega
          subst hkV
          rw [List.take_length] at ho'
          have hoN := unhide ho'
          subst hoN
          obtain ⟨A3, c3, rfl⟩ := own_slice (unhide hown')
          have hs3 := hide (own_at (unhide hown') (fun _ => rfl))
          have hsn8 := hide ((unhide hsn7).ext (unhide hx'))
          have hso8 := hide ((unhide hso7).ext (unhide hx'))
          clear hown' ho' hol' hx' hR7 hsn7 hso7
          go_wp2_with fail
          clear q0 hself
          obtain ⟨C1, hC1⟩ : ∃ C, setC (nearS u E) = C := ⟨_, rfl⟩
          have hq1 : ∀ w, (Op.equalIn 10000 78 (.agg C1) (.agg C1)).run Try.prog w = .ok true w := fun w => by rw [← hC1]; exact eq_Set w _
          have hC1 := hide hC1
          refine (near_rel g bv be V E u _ (unhide hRr').isg).mono ?_
          rw [unhide hC1]
          rintro e v1 ⟨rfl, hx⟩
          have hE1 := hx
          have hE1 := hide hE1
          clear hx
          go_wp2_with fail
          refine (from01_any An (rnear u V E) cn _ ((unhide hsn8).ext (unhide hE1)) (Nat.le_trans (rnear_le u V E) (by omega))).mono ?_
          rw [rnear_eq (unhide hi'), unhide hC1]
          rintro e v2 ⟨rfl, hx⟩
          have hE2 := (unhide hE1).trans hx
          have hE2 := hide hE2
          clear hx hE1
          go_wp2_with fail
          clear hq1
          obtain ⟨C2, hC2⟩ : ∃ C, setC (incS u E E.length) = C := ⟨_, rfl⟩
          have hq2 : ∀ w, (Op.equalIn 10000 78 (.agg C2) (.agg C2)).run Try.prog w = .ok true w := fun w => by rw [← hC2]; exact eq_Set w _
          have hC2 := hide hC2
          refine (inc_rel g bv be V E u _ ((unhide hRr').isg.ext (unhide hE2))).mono ?_
          rw [unhide hC2]
          rintro e v3 ⟨rfl, hx⟩
          have hE3 := (unhide hE2).trans hx
          have hE3 := hide hE3
          clear hx hE2
          go_wp2_with fail
          refine (from01_any Ao (ron u E E.length) co _ ((unhide hso8).ext (unhide hE3)) (Nat.le_trans (ron_le u E _) (by omega))).mono ?_
          rw [ron_eq, unhide hC2]
          rintro e v4 ⟨rfl, hx⟩
          have hE4 := (unhide hE3).trans hx
          have hE4 := hide hE4
          clear hx hE3
          go_wp2_with fail
          clear hq2
          obtain ⟨C3, hC3⟩ : ∃ C, setC (vS V) = C := ⟨_, rfl⟩
          have hq3 : ∀ w, (Op.equalIn 10000 78 (.agg C3) (.agg C3)).run Try.prog w = .ok true w := fun w => by rw [← hC3]; exact eq_Set w _
          have hC3 := hide hC3
          refine (vset_rel g bv be V E _ ((unhide hRr').isg.ext (unhide hE4))).mono ?_
          rw [unhide hC3]
          rintro e v5 ⟨rfl, hx⟩
          have hE5 := (unhide hE4).trans hx
          have hE5 := hide hE5
          clear hx hE4
          go_wp2_with fail
          refine (from01_n A3 (V.map (·.1)) V.length c3 (List.length_map _) _ ((unhide hs3).ext (unhide hE5)) (by omega)).mono ?_
          rw [← vS_eq, unhide hC3]
          rintro e v6 ⟨rfl, hx⟩
          have hE6 := (unhide hE5).trans hx
          have hE6 := hide hE6
          clear hx hE5
          go_wp2_with fail
          clear hq3
          refine (eset_rel g bv be V E _ ((unhide hRr').isg.ext (unhide hE6))).mono ?_
          rintro e v7 ⟨rfl, hx⟩
          have hE7 := hide ((unhide hE6).trans hx)
          clear hx hE6
          obtain ⟨N, hN⟩ : ∃ N, belS E.length = N := ⟨_, rfl⟩
          rw [hN]
          have hN := hide hN
          have hBp := Blk.new v7 78 (setC 0)
          have hst := store_Set N hBp
          have hBp' := hide (Blk.putS N hBp)
          have hKp := Keep.putS (v7.alloc (.cells (setC 0) 78)) v7.heap.size N
          have hEp := hide ((((unhide hE7).trans (ext_self1 _ (.cells (setC 0) 78))).of_new hKp (by have := Below.size (unhide hE7); simpa using this)))
          rw [zero_Set] at hst hBp' hEp
          clear hBp hKp
          have hsz := setC_size N
          go_wp2_with fail
          clear hst hsz
          generalize putS (v7.alloc (.cells #[.int .u64 0, .int .u64 0, .int .u64 0, .int .u64 0, .int .u64 0, .int .u64 0, .int .u64 0, .int .u64 0, .int .u64 0, .int .u64 0, .int .u64 0, .int .u64 0, .int .u64 0, .int .u64 0, .int .u64 0, .int .u64 0] 78)) v7.heap.size N = v8 at *
          generalize v7.heap.size = bp at *
          go_loop [23] (fun i => ∃ j : Nat, j ≤ 1024 ∧ i = .int .i64 j) (fun i => 1024 - (intOf i).toNat)
          case atStart => exact ⟨0, by omega, rfl⟩
          case round =>
            obtain ⟨j, hj, rfl⟩ := hrel
            by_cases hlj : j < 1024
            · have c0 := cell_of (unhide hBp') hlj
              have hself := Ext.refl v8
              obtain ⟨h1, hw, h6, h7, h8⟩ := idx_facts hlj
              have h9 := tmod64 j
              have h10 := bel_at E.length j nE
              rw [unhide hN] at h10
              go_wp2_with fail
              go_round
              case rel => exact ⟨j + 1, by omega, by go_num⟩
              case measure => simp [intOf]; omega
            · go_wp2_with fail
              refine (known_any _).mono ?_
              rintro e v9 ⟨rfl, hx⟩
              have hx' := hide hx
              clear hx
              go_wp2_with fail
              go_ret
              exact ⟨rfl, (((unhide hRr').ext).trans (unhide hEp)).trans (unhide hx')⟩
  · have hfv := hide hfq
    clear hfq
    rcases hpe0 with ⟨hpq, hpr⟩ | ⟨k0, hk0, hpq, hpr⟩
    · have hpe := hide hpq
      clear hpq hpr
      refine (len_rel g bv be V E _ (unhide hR').isg).mono ?_
      rintro e w2 ⟨rfl, hx2⟩
      have hR2 := hide ((unhide hR').go hx2)
      clear hR' hx2
      go_wp2_with fail
      refine (vertex_hit g bv be V E u _ (unhide hR2).isg (unhide hu') (unhide hfv).1).mono ?_
      have hvi := hide (unhide hfv).2.2
      have hpv := hide (unhide hfv).2.1
      clear hfv
      generalize (lookM V u).getD (0, 0) = tv at *
      obtain ⟨tl, tw⟩ := tv
      rintro e w3 ⟨rfl, hx3⟩
      have hR3 := hide ((unhide hR2).go (hx3.trans (ext_self1 _ (.cells #[.int .i64 u, .int .u8 tl, .int .i64 tw] 44))))
      have hXb := hide (Blk.new w3 44 #[.int .i64 u, .int .u8 tl, .int .i64 tw])
      clear hR2 hx3
      go_wp2_with fail
      generalize w3.alloc (.cells #[.int .i64 u, .int .u8 tl, .int .i64 tw] 44) = w3a at *
      generalize w3.heap.size = bx at *
      clear w3
      refine (gedgeM g bv be V E u v _ (unhide hR3).isg (unhide hpe)).mono ?_
      rintro e w4 ⟨rfl, hx4⟩
      have hx4b := hx4.trans (ext_self1 _ (.cells #[.int .i64 0, .int .i64 0, .int .u8 0, .int .i64 0] 47))
      have hR4 := hide ((unhide hR3).go hx4b)
      have hXb4 := hide ((unhide hXb).ext hx4b)
      have hYb := hide (Blk.new w4 47 #[.int .i64 0, .int .i64 0, .int .u8 0, .int .i64 0])
      clear hR3 hx4 hx4b hXb
      go_wp2_with fail
      generalize w4.alloc (.cells #[.int .i64 0, .int .i64 0, .int .u8 0, .int .i64 0] 47) = w4a at *
      generalize w4.heap.size = by_ at *
      clear w4
      have q0 := (unhide hR4).blk.cells 0 (v := .slice A1 V.length cA) rfl
      have q1 := (unhide hR4).blk.cells 1 (v := .slice B1 E.length cB) rfl
      refine wp_region_ext (P := Try.prog) [0,1,2,3,4,5,6,7,8] [] 0 #[true,true,true,true,true,true,true,true,true] (by kernel_rfl) (by kernel_rfl) rfl (by rfl) ?_
      iterate 9
        refine ql_want (v := ?_) rfl (by rfl) (fun W hW => ?_) ?_
        rotate_left
        · go_simp
          first | done | rfl | (go_at_call 30; refine (find_any A1 B1 V cA E.length cB u _ ((unhide hR4).sv.ext (by assumption)) (by omega)).mono ?_; rw [unhide hpv]; rintro _ _ ⟨h1, h2⟩; refine ⟨_, h1, ?_, h2⟩; rfl) | (go_at_call 31; refine (redge_any A1 B1 E V.length cA cB u v _ ((unhide hR4).se.ext (by assumption)) (by omega)).mono ?_; rw [unhide hpe]; rintro _ _ ⟨h1, h2⟩; refine ⟨_, h1, ?_, h2⟩; rfl)
        go_frame
      refine wpQL_nil (fun w5 hx5 => ?_)
      refine wpX_done (by kernel_rfl) ?_
      try go_frame
      have hR5 := hide ((unhide hR4).go hx5)
      have hXb5 := hide ((unhide hXb4).ext hx5)
      have hYb5 := hide ((unhide hYb).ext hx5)
      clear hR4 hXb4 hYb hx5 q0 q1
      have q0 := (unhide hR5).blk.cells 0 (v := .slice A1 V.length cA) rfl
      have q1 := (unhide hR5).blk.cells 1 (v := .slice B1 E.length cB) rfl
      have hself := Ext.refl w5
      go_wp2_with fail
      refine (rnear_any A1 B1 V E cA cB u _ (unhide hR5).sv (unhide hR5).se (unhide hi')).mono ?_
      rintro e w6 ⟨An, cn, Ao, co, rfl, hsn, hso, hx6⟩
      have hR6 := hide ((unhide hR5).go hx6)
      have hXb6 := hide ((unhide hXb5).ext hx6)
      have hYb6 := hide ((unhide hYb5).ext hx6)
      have hsn' := hide hsn
      have hso' := hide hso
      clear hR5 hXb5 hYb5 hx6 q0 q1 hself hsn hso
      have q0 := (unhide hR6).blk.cells 0 (v := .slice A1 V.length cA) rfl
      have q1 := (unhide hR6).blk.cells 1 (v := .slice B1 E.length cB) rfl
      have hself := Ext.refl w6
      have hmx : max (-1 : Int) 0 = 0 := by decide
      go_wp2_with fail
      have x0 := (unhide hXb6).cells 0 (v := .int .i64 u) rfl
      have x1 := (unhide hXb6).cells 1 (v := .int .u8 tl) rfl
      have x2 := (unhide hXb6).cells 2 (v := .int .i64 tw) rfl
      have y0 := (unhide hYb6).cells 0 (v := .int .i64 0) rfl
      have y1 := (unhide hYb6).cells 1 (v := .int .i64 0) rfl
      have y2 := (unhide hYb6).cells 2 (v := .int .u8 0) rfl
      have y3 := (unhide hYb6).cells 3 (v := .int .i64 0) rfl
      obtain ⟨vb, voff, hA1, c0, c1, c2⟩ := atV (unhide hR6).sv hi0
      rw [unhide hvi] at c0 c1 c2
      subst hA1
      simp only at c0 c1 c2
      refine wp_region_still (P := Try.prog) [0,1,2,3,4,5,6,7,8,9,10,11,12,13,14,15,16,17,18,19,20,21,22,23,24,25,26,27,28,29,30,31,32,33,34,35,36,37,38,39] [] 0 #[true,true,true,true,true,true,true,true,true,true,true,true,true,true,true,true,true,true,true,true,true,true,true,true,true,true,true,true,true,true,true,true,true,true,true,true,true,true,true,true] (by kernel_rfl) (by kernel_rfl) rfl (by rfl) ?_
      iterate 40
        first
        | (refine ql_skip rfl (by rfl) ?_)
        | (refine ql_want (v := ?_) rfl (by rfl) (fun W hW => ?_) ?_; rotate_left; (go_simp; (first | done | rfl)))
        try go_frame
      refine wpQL_nil (fun w7 hx7 => ?_)
      refine wpX_done (by kernel_rfl) ?_
      try go_frame
      clear q0 q1 x0 x1 x2 y0 y1 y2 y3 hmx c0 c1 c2 hself hXb6 hYb6
      have hR7 := hide ((unhide hR6).go hx7)
      have hsn7 := hide ((unhide hsn').ext hx7)
      have hso7 := hide ((unhide hso').ext hx7)
      clear hR6 hsn' hso' hx7
      go_wp2_with fail
      go_loopw [20, 21] (fun l i wr => ∃ (k : Nat) (vs : Value) (o : List Int), k ≤ V.length ∧ i = .int .i64 k ∧ vs = l ∧ o = (V.take k).map (·.1) ∧ wr.ownsRow w7.heap.size 3 1 vs o.length (o.flatMap encI) ∧ Ext w7 wr) (fun _ i _ => V.length - (intOf i).toNat)
      case atStart => exact ⟨0, _, [], Nat.zero_le _, rfl, rfl, rfl, World.ownsRow_nil _ _ _ _, Ext.refl _⟩
      case round =>
        obtain ⟨k, vs, o, hk, rfl, hl3, ho, hown, hx⟩ := hrel
        subst hl3
        have hown' := hide hown
        have hx' := hide hx
        have ho' := hide ho
        have hol' := hide (show o.length ≤ 100000 by
          rw [ho, List.length_map, List.length_take]
          omega)
        have hRr := (unhide hR7).go hx
        have q0 := hRr.blk.cells 0 (v := .slice (some ⟨vb, voff, none⟩) V.length cA) rfl
        have hRr' := hide hRr
        clear hown hx ho hRr
        have hself := Ext.refl wr
        by_cases hlt : k < V.length
        · obtain ⟨b, off, hbo, c0, c1, c2⟩ := atV (unhide hRr').sv hlt
          have hst := hide (show o ++ [V[k].1] = (V.take (k + 1)).map (·.1) by rw [unhide ho', List.take_succ_eq_append_getElem hlt, List.map_append]; rfl)
          generalize hy : V[k] = y at c0 c1 c2 hst
          obtain ⟨x, tx⟩ := y
          simp only at c0 c1 c2
          clear hy c1 c2
          injection hbo with hbo; injection hbo with hb1 hb2; subst hb1; subst hb2
          go_wp2_with (at_builtin; refine wp_ap infoI Try.underlying73 one_encI (fun _ => rfl) (by decide) (by decide) wr rfl _ _ rfl w7.heap.size vs _ o x rfl _ _ (by rfl) rfl (by rfl) (by rfl) (unhide hown') (unhide hol') (Below.size (unhide hx')) ?_; intro A2 k1 w8 ho8 hg8; have hx8 := hide (app_step (unhide hx') (unhide hown') (ext_self1 _ _) hg8); have ho8' := hide ho8; clear ho8 hg8)
          go_roundw
          case rel => exact ⟨k + 1, _, o ++ [x], by omega, by go_num, rfl, unhide hst, by have h := unhide ho8'; simpa using h, unhide hx8⟩
          case measure => simp [intOf]; omega
        · have hkV : k = V.length := by omega
          subst hkV
          rw [List.take_length] at ho'
          have hoN := unhide ho'
          subst hoN
          obtain ⟨A3, c3, rfl⟩ := own_slice (unhide hown')
          have hs3 := hide (own_at (unhide hown') (fun _ => rfl))
          have hsn8 := hide ((unhide hsn7).ext (unhide hx'))
          have hso8 := hide ((unhide hso7).ext (unhide hx'))
          clear hown' ho' hol' hx' hR7 hsn7 hso7
          go_wp2_with fail
          clear q0 hself
          obtain ⟨C1, hC1⟩ : ∃ C, setC (nearS u E) = C := ⟨_, rfl⟩
          have hq1 : ∀ w, (Op.equalIn 10000 78 (.agg C1) (.agg C1)).run Try.prog w = .ok true w := fun w => by rw [← hC1]; exact eq_Set w _
          have hC1 := hide hC1
          refine (near_rel g bv be V E u _ (unhide hRr').isg).mono ?_
          rw [unhide hC1]
          rintro e v1 ⟨rfl, hx⟩
          have hE1 := hx
          have hE1 := hide hE1
          clear hx
          go_wp2_with fail
          refine (from01_any An (rnear u V E) cn _ ((unhide hsn8).ext (unhide hE1)) (Nat.le_trans (rnear_le u V E) (by omega))).mono ?_
          rw [rnear_eq (unhide hi'), unhide hC1]
          rintro e v2 ⟨rfl, hx⟩
          have hE2 := (unhide hE1).trans hx
          have hE2 := hide hE2
          clear hx hE1
          go_wp2_with fail
          clear hq1
          obtain ⟨C2, hC2⟩ : ∃ C, setC (incS u E E.length) = C := ⟨_, rfl⟩
          have hq2 : ∀ w, (Op.equalIn 10000 78 (.agg C2) (.agg C2)).run Try.prog w = .ok true w := fun w => by rw [← hC2]; exact eq_Set w _
          have hC2 := hide hC2
          refine (inc_rel g bv be V E u _ ((unhide hRr').isg.ext (unhide hE2))).mono ?_
          rw [unhide hC2]
          rintro e v3 ⟨rfl, hx⟩
          have hE3 := (unhide hE2).trans hx
          have hE3 := hide hE3
          clear hx hE2
          go_wp2_with fail
          refine (from01_any Ao (ron u E E.length) co _ ((unhide hso8).ext (unhide hE3)) (Nat.le_trans (ron_le u E _) (by omega))).mono ?_
          rw [ron_eq, unhide hC2]
          rintro e v4 ⟨rfl, hx⟩
          have hE4 := (unhide hE3).trans hx
          have hE4 := hide hE4
          clear hx hE3
          go_wp2_with fail
          clear hq2
          obtain ⟨C3, hC3⟩ : ∃ C, setC (vS V) = C := ⟨_, rfl⟩
          have hq3 : ∀ w, (Op.equalIn 10000 78 (.agg C3) (.agg C3)).run Try.prog w = .ok true w := fun w => by rw [← hC3]; exact eq_Set w _
          have hC3 := hide hC3
          refine (vset_rel g bv be V E _ ((unhide hRr').isg.ext (unhide hE4))).mono ?_
          rw [unhide hC3]
          rintro e v5 ⟨rfl, hx⟩
          have hE5 := (unhide hE4).trans hx
          have hE5 := hide hE5
          clear hx hE4
          go_wp2_with fail
          refine (from01_n A3 (V.map (·.1)) V.length c3 (List.length_map _) _ ((unhide hs3).ext (unhide hE5)) (by omega)).mono ?_
          rw [← vS_eq, unhide hC3]
          rintro e v6 ⟨rfl, hx⟩
          have hE6 := (unhide hE5).trans hx
          have hE6 := hide hE6
          clear hx hE5
          go_wp2_with fail
          clear hq3
          refine (eset_rel g bv be V E _ ((unhide hRr').isg.ext (unhide hE6))).mono ?_
          rintro e v7 ⟨rfl, hx⟩
          have hE7 := hide ((unhide hE6).trans hx)
          clear hx hE6
          obtain ⟨N, hN⟩ : ∃ N, belS E.length = N := ⟨_, rfl⟩
          rw [hN]
          have hN := hide hN
          have hBp := Blk.new v7 78 (setC 0)
          have hst := store_Set N hBp
          have hBp' := hide (Blk.putS N hBp)
          have hKp := Keep.putS (v7.alloc (.cells (setC 0) 78)) v7.heap.size N
          have hEp := hide ((((unhide hE7).trans (ext_self1 _ (.cells (setC 0) 78))).of_new hKp (by have := Below.size (unhide hE7); simpa using this)))
          rw [zero_Set] at hst hBp' hEp
          clear hBp hKp
          have hsz := setC_size N
          go_wp2_with fail
          clear hst hsz
          generalize putS (v7.alloc (.cells #[.int .u64 0, .int .u64 0, .int .u64 0, .int .u64 0, .int .u64 0, .int .u64 0, .int .u64 0, .int .u64 0, .int .u64 0, .int .u64 0, .int .u64 0, .int .u64 0, .int .u64 0, .int .u64 0, .int .u64 0, .int .u64 0] 78)) v7.heap.size N = v8 at *
          generalize v7.heap.size = bp at *
          go_loop [23] (fun i => ∃ j : Nat, j ≤ 1024 ∧ i = .int .i64 j) (fun i => 1024 - (intOf i).toNat)
          case atStart => exact ⟨0, by omega, rfl⟩
          case round =>
            obtain ⟨j, hj, rfl⟩ := hrel
            by_cases hlj : j < 1024
            · have c0 := cell_of (unhide hBp') hlj
              have hself := Ext.refl v8
              obtain ⟨h1, hw, h6, h7, h8⟩ := idx_facts hlj
              have h9 := tmod64 j
              have h10 := bel_at E.length j nE
              rw [unhide hN] at h10
              go_wp2_with fail
              go_round
              case rel => exact ⟨j + 1, by omega, by go_num⟩
              case measure => simp [intOf]; omega
            · go_wp2_with fail
              refine (known_any _).mono ?_
              rintro e v9 ⟨rfl, hx⟩
              have hx' := hide hx
              clear hx
              go_wp2_with fail
              go_ret
              exact ⟨rfl, (((unhide hRr').ext).trans (unhide hEp)).trans (unhide hx')⟩
    · have hpe := hide hpq
      clear hpq hpr
      refine (len_rel g bv be V E _ (unhide hR').isg).mono ?_
      rintro e w2 ⟨rfl, hx2⟩
      have hR2 := hide ((unhide hR').go hx2)
      clear hR' hx2
      go_wp2_with fail
      refine (vertex_hit g bv be V E u _ (unhide hR2).isg (unhide hu') (unhide hfv).1).mono ?_
      have hvi := hide (unhide hfv).2.2
      have hpv := hide (unhide hfv).2.1
      clear hfv
      generalize (lookM V u).getD (0, 0) = tv at *
      obtain ⟨tl, tw⟩ := tv
      rintro e w3 ⟨rfl, hx3⟩
      have hR3 := hide ((unhide hR2).go (hx3.trans (ext_self1 _ (.cells #[.int .i64 u, .int .u8 tl, .int .i64 tw] 44))))
      have hXb := hide (Blk.new w3 44 #[.int .i64 u, .int .u8 tl, .int .i64 tw])
      clear hR2 hx3
      go_wp2_with fail
      generalize w3.alloc (.cells #[.int .i64 u, .int .u8 tl, .int .i64 tw] 44) = w3a at *
      generalize w3.heap.size = bx at *
      clear w3
      refine (gedgeH g bv be V E u v _ (unhide hR3).isg k0 hk0 (unhide hpe)).mono ?_
      obtain ⟨ek, hek⟩ : ∃ ek, E[k0] = ek := ⟨_, rfl⟩
      rw [hek]
      have hek' := hide hek
      clear hek
      obtain ⟨⟨ea, eb⟩, ⟨el, ew⟩⟩ := ek
      rintro e w4 ⟨rfl, hx4⟩
      have hx4b := hx4.trans (ext_self1 _ (.cells #[.int .i64 ea, .int .i64 eb, .int .u8 el, .int .i64 ew] 47))
      have hR4 := hide ((unhide hR3).go hx4b)
      have hXb4 := hide ((unhide hXb).ext hx4b)
      have hYb := hide (Blk.new w4 47 #[.int .i64 ea, .int .i64 eb, .int .u8 el, .int .i64 ew])
      clear hR3 hx4 hx4b hXb
      go_wp2_with fail
      generalize w4.alloc (.cells #[.int .i64 ea, .int .i64 eb, .int .u8 el, .int .i64 ew] 47) = w4a at *
      generalize w4.heap.size = by_ at *
      clear w4
      have q0 := (unhide hR4).blk.cells 0 (v := .slice A1 V.length cA) rfl
      have q1 := (unhide hR4).blk.cells 1 (v := .slice B1 E.length cB) rfl
      refine wp_region_ext (P := Try.prog) [0,1,2,3,4,5,6,7,8] [] 0 #[true,true,true,true,true,true,true,true,true] (by kernel_rfl) (by kernel_rfl) rfl (by rfl) ?_
      iterate 9
        refine ql_want (v := ?_) rfl (by rfl) (fun W hW => ?_) ?_
        rotate_left
        · go_simp
          first | done | rfl | (go_at_call 30; refine (find_any A1 B1 V cA E.length cB u _ ((unhide hR4).sv.ext (by assumption)) (by omega)).mono ?_; rw [unhide hpv]; rintro _ _ ⟨h1, h2⟩; refine ⟨_, h1, ?_, h2⟩; rfl) | (go_at_call 31; refine (redge_any A1 B1 E V.length cA cB u v _ ((unhide hR4).se.ext (by assumption)) (by omega)).mono ?_; rw [unhide hpe]; rintro _ _ ⟨h1, h2⟩; refine ⟨_, h1, ?_, h2⟩; rfl)
        go_frame
      refine wpQL_nil (fun w5 hx5 => ?_)
      refine wpX_done (by kernel_rfl) ?_
      try go_frame
      have hR5 := hide ((unhide hR4).go hx5)
      have hXb5 := hide ((unhide hXb4).ext hx5)
      have hYb5 := hide ((unhide hYb).ext hx5)
      clear hR4 hXb4 hYb hx5 q0 q1
      have q0 := (unhide hR5).blk.cells 0 (v := .slice A1 V.length cA) rfl
      have q1 := (unhide hR5).blk.cells 1 (v := .slice B1 E.length cB) rfl
      have hself := Ext.refl w5
      go_wp2_with fail
      refine (rnear_any A1 B1 V E cA cB u _ (unhide hR5).sv (unhide hR5).se (unhide hi')).mono ?_
      rintro e w6 ⟨An, cn, Ao, co, rfl, hsn, hso, hx6⟩
      have hR6 := hide ((unhide hR5).go hx6)
      have hXb6 := hide ((unhide hXb5).ext hx6)
      have hYb6 := hide ((unhide hYb5).ext hx6)
      have hsn' := hide hsn
      have hso' := hide hso
      clear hR5 hXb5 hYb5 hx6 q0 q1 hself hsn hso
      have q0 := (unhide hR6).blk.cells 0 (v := .slice A1 V.length cA) rfl
      have q1 := (unhide hR6).blk.cells 1 (v := .slice B1 E.length cB) rfl
      have hself := Ext.refl w6
      have hmx : max (k0 : Int) 0 = (k0 : Int) := by omega
      go_wp2_with fail
      have x0 := (unhide hXb6).cells 0 (v := .int .i64 u) rfl
      have x1 := (unhide hXb6).cells 1 (v := .int .u8 tl) rfl
      have x2 := (unhide hXb6).cells 2 (v := .int .i64 tw) rfl
      have y0 := (unhide hYb6).cells 0 (v := .int .i64 ea) rfl
      have y1 := (unhide hYb6).cells 1 (v := .int .i64 eb) rfl
      have y2 := (unhide hYb6).cells 2 (v := .int .u8 el) rfl
      have y3 := (unhide hYb6).cells 3 (v := .int .i64 ew) rfl
      obtain ⟨vb, voff, hA1, c0, c1, c2⟩ := atV (unhide hR6).sv hi0
      rw [unhide hvi] at c0 c1 c2
      subst hA1
      simp only at c0 c1 c2
      obtain ⟨eb_, eoff, hB1, d0, d1, d2, d3⟩ := atE (unhide hR6).se hk0
      rw [unhide hek'] at d0 d1 d2 d3
      subst hB1
      simp only at d0 d1 d2 d3
      refine wp_region_still (P := Try.prog) [0,1,2,3,4,5,6,7,8,9,10,11,12,13,14,15,16,17,18,19,20,21,22,23,24,25,26,27,28,29,30,31,32,33,34,35,36,37,38,39] [] 0 #[true,true,true,true,true,true,true,true,true,true,true,true,true,true,true,true,true,true,true,true,true,true,true,true,true,true,true,true,true,true,true,true,true,true,true,true,true,true,true,true] (by kernel_rfl) (by kernel_rfl) rfl (by rfl) ?_
      iterate 40
        first
        | (refine ql_skip rfl (by rfl) ?_)
        | (refine ql_want (v := ?_) rfl (by rfl) (fun W hW => ?_) ?_; rotate_left; (go_simp; (first | done | rfl)))
        try go_frame
      refine wpQL_nil (fun w7 hx7 => ?_)
      refine wpX_done (by kernel_rfl) ?_
      try go_frame
      clear q0 q1 x0 x1 x2 y0 y1 y2 y3 hmx c0 c1 c2 d0 d1 d2 d3 hself hXb6 hYb6
      have hR7 := hide ((unhide hR6).go hx7)
      have hsn7 := hide ((unhide hsn').ext hx7)
      have hso7 := hide ((unhide hso').ext hx7)
      clear hR6 hsn' hso' hx7
      go_wp2_with fail
      go_loopw [20, 21] (fun l i wr => ∃ (k : Nat) (vs : Value) (o : List Int), k ≤ V.length ∧ i = .int .i64 k ∧ vs = l ∧ o = (V.take k).map (·.1) ∧ wr.ownsRow w7.heap.size 3 1 vs o.length (o.flatMap encI) ∧ Ext w7 wr) (fun _ i _ => V.length - (intOf i).toNat)
      case atStart => exact ⟨0, _, [], Nat.zero_le _, rfl, rfl, rfl, World.ownsRow_nil _ _ _ _, Ext.refl _⟩
      case round =>
        obtain ⟨k, vs, o, hk, rfl, hl3, ho, hown, hx⟩ := hrel
        subst hl3
        have hown' := hide hown
        have hx' := hide hx
        have ho' := hide ho
        have hol' := hide (show o.length ≤ 100000 by
          rw [ho, List.length_map, List.length_take]
          omega)
        have hRr := (unhide hR7).go hx
        have q0 := hRr.blk.cells 0 (v := .slice (some ⟨vb, voff, none⟩) V.length cA) rfl
        have hRr' := hide hRr
        clear hown hx ho hRr
        have hself := Ext.refl wr
        by_cases hlt : k < V.length
        · obtain ⟨b, off, hbo, c0, c1, c2⟩ := atV (unhide hRr').sv hlt
          have hst := hide (show o ++ [V[k].1] = (V.take (k + 1)).map (·.1) by rw [unhide ho', List.take_succ_eq_append_getElem hlt, List.map_append]; rfl)
          generalize hy : V[k] = y at c0 c1 c2 hst
          obtain ⟨x, tx⟩ := y
          simp only at c0 c1 c2
          clear hy c1 c2
          injection hbo with hbo; injection hbo with hb1 hb2; subst hb1; subst hb2
          go_wp2_with (at_builtin; refine wp_ap infoI Try.underlying73 one_encI (fun _ => rfl) (by decide) (by decide) wr rfl _ _ rfl w7.heap.size vs _ o x rfl _ _ (by rfl) rfl (by rfl) (by rfl) (unhide hown') (unhide hol') (Below.size (unhide hx')) ?_; intro A2 k1 w8 ho8 hg8; have hx8 := hide (app_step (unhide hx') (unhide hown') (ext_self1 _ _) hg8); have ho8' := hide ho8; clear ho8 hg8)
          go_roundw
          case rel => exact ⟨k + 1, _, o ++ [x], by omega, by go_num, rfl, unhide hst, by have h := unhide ho8'; simpa using h, unhide hx8⟩
          case measure => simp [intOf]; omega
        · have hkV : k = V.length := by omega
          subst hkV
          rw [List.take_length] at ho'
          have hoN := unhide ho'
          subst hoN
          obtain ⟨A3, c3, rfl⟩ := own_slice (unhide hown')
          have hs3 := hide (own_at (unhide hown') (fun _ => rfl))
          have hsn8 := hide ((unhide hsn7).ext (unhide hx'))
          have hso8 := hide ((unhide hso7).ext (unhide hx'))
          clear hown' ho' hol' hx' hR7 hsn7 hso7
          go_wp2_with fail
          clear q0 hself
          obtain ⟨C1, hC1⟩ : ∃ C, setC (nearS u E) = C := ⟨_, rfl⟩
          have hq1 : ∀ w, (Op.equalIn 10000 78 (.agg C1) (.agg C1)).run Try.prog w = .ok true w := fun w => by rw [← hC1]; exact eq_Set w _
          have hC1 := hide hC1
          refine (near_rel g bv be V E u _ (unhide hRr').isg).mono ?_
          rw [unhide hC1]
          rintro e v1 ⟨rfl, hx⟩
          have hE1 := hx
          have hE1 := hide hE1
          clear hx
          go_wp2_with fail
          refine (from01_any An (rnear u V E) cn _ ((unhide hsn8).ext (unhide hE1)) (Nat.le_trans (rnear_le u V E) (by omega))).mono ?_
          rw [rnear_eq (unhide hi'), unhide hC1]
          rintro e v2 ⟨rfl, hx⟩
          have hE2 := (unhide hE1).trans hx
          have hE2 := hide hE2
          clear hx hE1
          go_wp2_with fail
          clear hq1
          obtain ⟨C2, hC2⟩ : ∃ C, setC (incS u E E.length) = C := ⟨_, rfl⟩
          have hq2 : ∀ w, (Op.equalIn 10000 78 (.agg C2) (.agg C2)).run Try.prog w = .ok true w := fun w => by rw [← hC2]; exact eq_Set w _
          have hC2 := hide hC2
          refine (inc_rel g bv be V E u _ ((unhide hRr').isg.ext (unhide hE2))).mono ?_
          rw [unhide hC2]
          rintro e v3 ⟨rfl, hx⟩
          have hE3 := (unhide hE2).trans hx
          have hE3 := hide hE3
          clear hx hE2
          go_wp2_with fail
          refine (from01_any Ao (ron u E E.length) co _ ((unhide hso8).ext (unhide hE3)) (Nat.le_trans (ron_le u E _) (by omega))).mono ?_
          rw [ron_eq, unhide hC2]
          rintro e v4 ⟨rfl, hx⟩
          have hE4 := (unhide hE3).trans hx
          have hE4 := hide hE4
          clear hx hE3
          go_wp2_with fail
          clear hq2
          obtain ⟨C3, hC3⟩ : ∃ C, setC (vS V) = C := ⟨_, rfl⟩
          have hq3 : ∀ w, (Op.equalIn 10000 78 (.agg C3) (.agg C3)).run Try.prog w = .ok true w := fun w => by rw [← hC3]; exact eq_Set w _
          have hC3 := hide hC3
          refine (vset_rel g bv be V E _ ((unhide hRr').isg.ext (unhide hE4))).mono ?_
          rw [unhide hC3]
          rintro e v5 ⟨rfl, hx⟩
          have hE5 := (unhide hE4).trans hx
          have hE5 := hide hE5
          clear hx hE4
          go_wp2_with fail
          refine (from01_n A3 (V.map (·.1)) V.length c3 (List.length_map _) _ ((unhide hs3).ext (unhide hE5)) (by omega)).mono ?_
          rw [← vS_eq, unhide hC3]
          rintro e v6 ⟨rfl, hx⟩
          have hE6 := (unhide hE5).trans hx
          have hE6 := hide hE6
          clear hx hE5
          go_wp2_with fail
          clear hq3
          refine (eset_rel g bv be V E _ ((unhide hRr').isg.ext (unhide hE6))).mono ?_
          rintro e v7 ⟨rfl, hx⟩
          have hE7 := hide ((unhide hE6).trans hx)
          clear hx hE6
          obtain ⟨N, hN⟩ : ∃ N, belS E.length = N := ⟨_, rfl⟩
          rw [hN]
          have hN := hide hN
          have hBp := Blk.new v7 78 (setC 0)
          have hst := store_Set N hBp
          have hBp' := hide (Blk.putS N hBp)
          have hKp := Keep.putS (v7.alloc (.cells (setC 0) 78)) v7.heap.size N
          have hEp := hide ((((unhide hE7).trans (ext_self1 _ (.cells (setC 0) 78))).of_new hKp (by have := Below.size (unhide hE7); simpa using this)))
          rw [zero_Set] at hst hBp' hEp
          clear hBp hKp
          have hsz := setC_size N
          go_wp2_with fail
          clear hst hsz
          generalize putS (v7.alloc (.cells #[.int .u64 0, .int .u64 0, .int .u64 0, .int .u64 0, .int .u64 0, .int .u64 0, .int .u64 0, .int .u64 0, .int .u64 0, .int .u64 0, .int .u64 0, .int .u64 0, .int .u64 0, .int .u64 0, .int .u64 0, .int .u64 0] 78)) v7.heap.size N = v8 at *
          generalize v7.heap.size = bp at *
          go_loop [23] (fun i => ∃ j : Nat, j ≤ 1024 ∧ i = .int .i64 j) (fun i => 1024 - (intOf i).toNat)
          case atStart => exact ⟨0, by omega, rfl⟩
          case round =>
            obtain ⟨j, hj, rfl⟩ := hrel
            by_cases hlj : j < 1024
            · have c0 := cell_of (unhide hBp') hlj
              have hself := Ext.refl v8
              obtain ⟨h1, hw, h6, h7, h8⟩ := idx_facts hlj
              have h9 := tmod64 j
              have h10 := bel_at E.length j nE
              rw [unhide hN] at h10
              go_wp2_with fail
              go_round
              case rel => exact ⟨j + 1, by omega, by go_num⟩
              case measure => simp [intOf]; omega
            · go_wp2_with fail
              refine (known_any _).mono ?_
              rintro e v9 ⟨rfl, hx⟩
              have hx' := hide hx
              clear hx
              go_wp2_with fail
              go_ret
              exact ⟨rfl, (((unhide hRr').ext).trans (unhide hEp)).trans (unhide hx')⟩
end Go.Proofs.Ytdkhondfahebnaa
/- LAW GraphHandshake, the walk. Conditions: see each theorem. -/
namespace Go.Proofs.Ytdkhondfahebnaa
open Go Go.RowKit
attribute [local go_sem] qUpon lUpon

/-- a graph, and its edges and vertices in slices -/
structure HsRel (w wr : World) (g bv be : Nat) (V : List (Int × Thing)) (E : List ((Int × Int) × Thing)) (A B : Option Addr) : Prop where
  isg : IsG wr g bv be V E
  sv : SlAt encV 3 wr A V
  se : SlAt encE 4 wr B E
  ext : Ext w wr
theorem HsRel.go {w wr wr' : World} {g bv be : Nat} {V : List (Int × Thing)} {E : List ((Int × Int) × Thing)} {A B : Option Addr} (h : HsRel w wr g bv be V E A B) (k : Ext wr wr') : HsRel w wr' g bv be V E A B :=
  ⟨h.isg.ext k, h.sv.ext k, h.se.ext k, h.ext.trans k⟩
theorem atVb {w : World} {b off : Nat} {V : List (Int × Thing)} (h : SlAt encV 3 w (some ⟨b, off, none⟩) V) {i : Nat} (hi : i < V.length) {x : Int} (hx : V[i].1 = x) : ∀ W, Ext w W → W.cell? ⟨b, off + i * 3, none⟩ = some (.int .i64 x) := by
  obtain ⟨b', off', e, c0, _⟩ := atV h hi
  injection e with e
  injection e with e1 e2
  subst e1
  subst e2
  subst hx
  exact c0
theorem atEb {w : World} {b off : Nat} {E : List ((Int × Int) × Thing)} (h : SlAt encE 4 w (some ⟨b, off, none⟩) E) {i : Nat} (hi : i < E.length) {x y : Int} (hx : E[i].1 = (x, y)) : (∀ W, Ext w W → W.cell? ⟨b, off + i * 4, none⟩ = some (.int .i64 x)) ∧ (∀ W, Ext w W → W.cell? ⟨b, off + i * 4 + 1, none⟩ = some (.int .i64 y)) := by
  obtain ⟨b', off', e, c0, c1, _⟩ := atE h hi
  injection e with e
  injection e with e1 e2
  subst e1
  subst e2
  rw [hx] at c0 c1
  exact ⟨c0, c1⟩
theorem keep4 (w : World) (b : Nat) (p q r s : Value) : Keep [b] w ((((w.setCell ⟨b, 0, none⟩ p).setCell ⟨b, 1, none⟩ q).setCell ⟨b, 2, none⟩ r).setCell ⟨b, 3, none⟩ s) :=
  (((Keep.setCell w b 0 _).trans (Keep.setCell _ b 1 _)).trans (Keep.setCell _ b 2 _)).trans (Keep.setCell _ b 3 _)
/-- a set stored in a variable of the call's own -/
theorem set_new (w : World) (N : Nat) : ∃ W, (storeCells ⟨w.heap.size, 0, none⟩ (setC N).toList).run Try.prog (w.alloc (.cells #[.int .u64 0, .int .u64 0, .int .u64 0, .int .u64 0, .int .u64 0, .int .u64 0, .int .u64 0, .int .u64 0, .int .u64 0, .int .u64 0, .int .u64 0, .int .u64 0, .int .u64 0, .int .u64 0, .int .u64 0, .int .u64 0] 78)) = .ok () W ∧ Blk W w.heap.size 78 (setC N) ∧ Ext w W := by
  have hB := Blk.new w 78 (setC 0)
  exact ⟨_, store_Set N hB, Blk.putS N hB, (ext_self1 w (.cells (setC 0) 78)).of_new (Keep.putS _ _ _) (by simp)⟩

set_option maxRecDepth 100000 in
set_option maxHeartbeats 16000000 in
theorem graphHandshake_walk (A : Option Addr) (L : List Ed) (cL : Nat) (w : World) (hL : SlAt encD 5 w A L) (_hok : ∀ d ∈ L, okD d) (_hl : L.length ≤ 9223372036854775807) (_hc : L.length ≤ cL) :
    Calls Try.prog 9 #[.slice A L.length cL] w fun e w' => e = .returned (.bool true) ∧ Ext w w' := by
  have hL' := hide hL
  clear hL
  go_enter Try.func9, Try.ntmps9
  go_wp2_with fail
  refine (made_any A L cL _ (unhide hL')).mono ?_
  rintro e w1 ⟨A1, cA, B1, cB, rfl, hs1, he1, hx1⟩
  have hinv := mdS_inv L
  generalize mdS L = S at *
  obtain ⟨V, E⟩ := S
  simp only at hs1 he1 hinv
  have hs1' := hide hs1
  have he1' := hide he1
  have hx1' := hide hx1
  have hi' := hide hinv
  have nV := hinv.nv
  have nE := hinv.ne
  clear hs1 he1 hx1 hinv
  go_wp2_with fail
  refine (from_any A1 B1 V E cA cB _ (unhide hs1') (unhide he1') (unhide hi')).mono ?_
  rintro e w2 ⟨g, bv, be, rfl, hg0, hx0, n1, n2, n3⟩
  have hG2 := hide hg0
  have hX2 := hide ((unhide hx1').trans hx0)
  clear hg0 hx0 n1 n2 n3 hs1' he1' hx1' hL'
  go_wp2_with fail
  refine (edges_rel g bv be V E _ (unhide hG2)).mono ?_
  rintro e w3 ⟨Ae, ce, rfl, hoe, hx3⟩
  have hse := hide (own_at hoe (fun _ => rfl))
  have hG3 := hide ((unhide hG2).ext hx3)
  have hX3 := hide ((unhide hX2).trans hx3)
  clear hG2 hX2 hoe hx3
  go_wp2_with fail
  refine (vertices_rel g bv be V E _ (unhide hG3)).mono ?_
  rintro e w4 ⟨Av, cv, rfl, hov, hx4⟩
  have hH : Hid (HsRel w w4 g bv be V E Av Ae) := hide ⟨(unhide hG3).ext hx4, own_at hov (fun _ => rfl), (unhide hse).ext hx4, (unhide hX3).trans hx4⟩
  clear hse hG3 hX3 hov hx4
  go_wp2_with fail
  go_loopw [6, 7, 8] (fun s o i wr => ∃ k : Nat, k ≤ V.length ∧ i = .int .i64 k ∧ s = .int .i64 (degS E (V.take k)) ∧ o = .int .i64 (degS E (V.take k)) ∧ Ext w4 wr) (fun _ _ i _ => V.length - (intOf i).toNat)
  case atStart => exact ⟨0, Nat.zero_le _, rfl, rfl, rfl, Ext.refl _⟩
  case round =>
    obtain ⟨k, hk, rfl, rfl, rfl, hx⟩ := hrel
    obtain ⟨w5, rfl⟩ : ∃ w5 : World, w5 = wr := ⟨_, rfl⟩
    have hx' := hide hx
    have hH5 := hide ((unhide hH).go hx)
    clear hx
    by_cases hlt : k < V.length
    · obtain ⟨b, off, hAv, c0, c1, c2⟩ := atV (unhide hH5).sv hlt
      have hst := hide (degS_next E V k hlt)
      have hida := hide ((unhide hi').ids V[k] (List.getElem_mem hlt))
      obtain ⟨y, hy⟩ : ∃ y, V[k] = y := ⟨_, rfl⟩
      rw [hy] at c0 c1 c2 hst hida
      have hyx := hide (show V[k].1 = y.1 by rw [hy])
      clear hy c1 c2
      obtain ⟨x, tx⟩ := y
      simp only at c0 hyx
      subst hAv
      have b1 : degS E (V.take k) ≤ 1048576 := by
        have h1 := degS_le E (V.take k)
        have h2 : (V.take k).length * E.length ≤ 1024 * 1024 := Nat.mul_le_mul (by rw [List.length_take]; omega) nE
        omega
      have b2 : degE x E ≤ 1024 := Nat.le_trans (degE_le x E) nE
      generalize degS E (V.take k) = D at *
      have hself := Ext.refl w5
      go_wp2_with fail
      refine (near_rel g bv be V E x _ (unhide hH5).isg).mono ?_
      rintro e w6 ⟨rfl, hx6⟩
      have hcn := hide (near_cnt (unhide hi') x)
      have hsy := hide (fun b (hb : idB b = true) => near_sym (unhide hi') (unhide hida) hb)
      obtain ⟨N, hN⟩ : ∃ N, nearS x E = N := ⟨_, rfl⟩
      rw [hN] at hcn hsy ⊢
      clear hN
      obtain ⟨w7, hst7, hB7, hx7⟩ := set_new w6 N
      have hsz := setC_size N
      have hx57 := hide (hx6.trans hx7)
      have hB7' := hide hB7
      clear hx6 hx7 hB7
      have hself7 := Ext.refl w7
      have e0 := (unhide hB7').cells 0 (v := .int .u64 (wd N 0)) rfl
      have e1 := (unhide hB7').cells 1 (v := .int .u64 (wd N 1)) rfl
      have e2 := (unhide hB7').cells 2 (v := .int .u64 (wd N 2)) rfl
      have e3 := (unhide hB7').cells 3 (v := .int .u64 (wd N 3)) rfl
      have e4 := (unhide hB7').cells 4 (v := .int .u64 (wd N 4)) rfl
      have e5 := (unhide hB7').cells 5 (v := .int .u64 (wd N 5)) rfl
      have e6 := (unhide hB7').cells 6 (v := .int .u64 (wd N 6)) rfl
      have e7 := (unhide hB7').cells 7 (v := .int .u64 (wd N 7)) rfl
      have e8 := (unhide hB7').cells 8 (v := .int .u64 (wd N 8)) rfl
      have e9 := (unhide hB7').cells 9 (v := .int .u64 (wd N 9)) rfl
      have e10 := (unhide hB7').cells 10 (v := .int .u64 (wd N 10)) rfl
      have e11 := (unhide hB7').cells 11 (v := .int .u64 (wd N 11)) rfl
      have e12 := (unhide hB7').cells 12 (v := .int .u64 (wd N 12)) rfl
      have e13 := (unhide hB7').cells 13 (v := .int .u64 (wd N 13)) rfl
      have e14 := (unhide hB7').cells 14 (v := .int .u64 (wd N 14)) rfl
      have e15 := (unhide hB7').cells 15 (v := .int .u64 (wd N 15)) rfl
      go_wp2_with fail
      clear hst7 hsz
      have c0' := fun (W : World) (hW : Ext w7 W) => c0 W ((unhide hx57).trans hW)
      clear c0 hself
      refine (slen_any N _).mono ?_
      rw [unhide hcn]
      rintro e w8 ⟨rfl, hx8⟩
      have c0 := fun (W : World) (hW : Ext w8 W) => c0' W (hx8.trans hW)
      have hx58 := hide ((unhide hx57).trans hx8)
      have hB8 := hide ((unhide hB7').ext hx8)
      have hself8 := Ext.refl w8
      clear c0' hx57 hx8 hB7' hself7 e0 e1 e2 e3 e4 e5 e6 e7 e8 e9 e10 e11 e12 e13 e14 e15
      generalize w6.heap.size = bn at *
      go_wp2_with fail
      refine (inc_rel g bv be V E x _ ((unhide hH5).isg.ext (unhide hx58))).mono ?_
      rintro e w9 ⟨rfl, hx9⟩
      have hx59 := hide ((unhide hx58).trans hx9)
      have hB9 := hide ((unhide hB8).ext hx9)
      clear c0 hx58 hx9 hB8 hself8
      go_wp2_with fail
      refine (slen_any (incS x E E.length) _).mono ?_
      rw [inc_cnt x nE]
      rintro e w10 ⟨rfl, hx10⟩
      have hx50 := hide ((unhide hx59).trans hx10)
      have hB10 := hide ((unhide hB9).ext hx10)
      clear hx59 hx10 hB9
      go_wp2_with fail
      have hD : (D : Int) + (degE x E : Int) = ((degS E (V.take (k + 1)) : Nat) : Int) := by rw [unhide hst]; simp
      rw [hD]
      clear hD
      go_loopw [10] (fun j wr => ∃ m : Nat, m ≤ V.length ∧ j = .int .i64 m ∧ Ext w10 wr) (fun j _ => V.length - (intOf j).toNat)
      case atStart => exact ⟨0, Nat.zero_le _, rfl, Ext.refl _⟩
      case round => as_aux_lemma =>
        obtain ⟨m, hm, rfl, hx⟩ := hrel
        have hx11 := hide hx
        have hHm := hide ((unhide hH5).go ((unhide hx50).trans hx))
        have hBm := (unhide hB10).ext hx
        clear hx
        by_cases hlm : m < V.length
        · obtain ⟨z, hz⟩ : ∃ z, V[m].1 = z := ⟨_, rfl⟩
          have hidz := (unhide hi').ids V[m] (List.getElem_mem hlm)
          rw [hz] at hidz
          have d0 := atVb (unhide hHm).sv hlm hz
          have c0 := atVb (unhide hHm).sv hlt (unhide hyx)
          have hs1 := unhide hsy z hidz
          obtain ⟨P, hP⟩ : ∃ P, (fitB z && N.testBit z.toNat) = P := ⟨_, rfl⟩
          have hs2 := hide (hs1.symm.trans hP)
          have hP' := hide hP
          clear hz hidz hs1 hP
          have hself := Ext.refl wr
          have e0 := hBm.cells 0 (v := .int .u64 (wd N 0)) rfl
          have e1 := hBm.cells 1 (v := .int .u64 (wd N 1)) rfl
          have e2 := hBm.cells 2 (v := .int .u64 (wd N 2)) rfl
          have e3 := hBm.cells 3 (v := .int .u64 (wd N 3)) rfl
          have e4 := hBm.cells 4 (v := .int .u64 (wd N 4)) rfl
          have e5 := hBm.cells 5 (v := .int .u64 (wd N 5)) rfl
          have e6 := hBm.cells 6 (v := .int .u64 (wd N 6)) rfl
          have e7 := hBm.cells 7 (v := .int .u64 (wd N 7)) rfl
          have e8 := hBm.cells 8 (v := .int .u64 (wd N 8)) rfl
          have e9 := hBm.cells 9 (v := .int .u64 (wd N 9)) rfl
          have e10 := hBm.cells 10 (v := .int .u64 (wd N 10)) rfl
          have e11 := hBm.cells 11 (v := .int .u64 (wd N 11)) rfl
          have e12 := hBm.cells 12 (v := .int .u64 (wd N 12)) rfl
          have e13 := hBm.cells 13 (v := .int .u64 (wd N 13)) rfl
          have e14 := hBm.cells 14 (v := .int .u64 (wd N 14)) rfl
          have e15 := hBm.cells 15 (v := .int .u64 (wd N 15)) rfl
          clear hBm
          go_wp2_with fail
          refine wp_region_ext (P := Try.prog) [0,1,2,3,4,5,6,7,8,9,10,11,12,13,14,15,16,17,18,19,20] [] 0 #[true,true,true,true,true,true,true,true,true,true,true,true,true,true,true,true,true,true,true,true,true] (by kernel_rfl) (by kernel_rfl) rfl (by rfl) ?_
          iterate 6
            refine ql_want (v := ?_) rfl (by rfl) (fun W hW => ?_) ?_
            rotate_left
            · go_simp
              first | done | rfl
            go_frame
          iterate 1
            refine ql_want (v := ?_) rfl (by rfl) (fun W hW => ?_) ?_
            rotate_left
            · go_simp
              first | done | rfl | (go_at_call 39; refine (has_any N z _).mono ?_; rw [unhide hP']; rintro _ _ ⟨h1, h2⟩; refine ⟨_, h1, ?_, h2⟩; rfl)
            go_frame
          iterate 6
            refine ql_want (v := ?_) rfl (by rfl) (fun W hW => ?_) ?_
            rotate_left
            · go_simp
              first | done | rfl
            go_frame
          iterate 1
            refine ql_want (v := ?_) rfl (by rfl) (fun W hW => ?_) ?_
            rotate_left
            · go_simp
              first | done | rfl | (go_at_call 33; refine (near_rel g bv be V E z _ ((unhide hHm).isg.ext (by assumption))).mono ?_; rintro _ _ ⟨h1, h2⟩; refine ⟨_, h1, ?_, h2⟩; rfl)
            go_frame
          iterate 5
            refine ql_want (v := ?_) rfl (by rfl) (fun W hW => ?_) ?_
            rotate_left
            · go_simp
              first | done | rfl
            go_frame
          iterate 1
            refine ql_want (v := ?_) rfl (by rfl) (fun W hW => ?_) ?_
            rotate_left
            · go_simp
              first | done | rfl | (go_at_call 39; refine (has_any (nearS z E) x _).mono ?_; rw [unhide hs2]; rintro _ _ ⟨h1, h2⟩; refine ⟨_, h1, ?_, h2⟩; rfl)
            go_frame
          iterate 1
            refine ql_want (v := ?_) rfl (by rfl) (fun W hW => ?_) ?_
            rotate_left
            · go_simp
              first | done | rfl
            go_frame
          refine wpQL_nil (fun wB hxB => ?_)
          refine wpX_done (by kernel_rfl) ?_
          try go_frame
          have hxB' := hide ((unhide hx11).trans hxB)
          clear hxB c0 d0 hself e0 e1 e2 e3 e4 e5 e6 e7 e8 e9 e10 e11 e12 e13 e14 e15
          go_wp2_with fail
          go_roundw
          case rel => exact ⟨m + 1, by omega, by go_num, unhide hxB'⟩
          case measure => simp [intOf]; omega
        · have hkm : m = V.length := by omega
          subst hkm
          clear hBm
          go_wp2_with fail
          go_roundw
          case rel => exact ⟨k + 1, by omega, by go_num, rfl, rfl, ((unhide hx').trans (unhide hx50)).trans (unhide hx11)⟩
          case measure => simp [intOf]; omega
    · have hkV : k = V.length := by omega
      subst hkV
      have hD : ((degS E (V.take V.length) : Nat) : Int) = 2 * (E.length : Int) := by rw [List.take_length, hand (unhide hi')]; simp
      rw [hD]
      clear hD
      go_wp2_with fail
      go_loopw [11] (fun i wr => ∃ k : Nat, k ≤ E.length ∧ i = .int .i64 k ∧ Ext w5 wr) (fun i _ => E.length - (intOf i).toNat)
      case atStart => exact ⟨0, Nat.zero_le _, rfl, Ext.refl _⟩
      case round => as_aux_lemma =>
        obtain ⟨k, hk, rfl, hx⟩ := hrel
        have hx6 := hide hx
        have hH6 := hide ((unhide hH5).go hx)
        clear hx
        by_cases hlt : k < E.length
        · obtain ⟨be_, offe, hAe, c0, c1, c2, c3⟩ := atE (unhide hH6).se hlt
          have hpos := hide (pos_at (unhide hi') hlt)
          have hlo := (unhide hi').lo E[k] (List.getElem_mem hlt)
          have hen := inc_ends hlt
          have hba := inc_bit E[k].1.1 k hlt nE hen.1
          have hbb := inc_bit E[k].1.2 k hlt nE hen.2
          have hge := gedgeH g bv be V E E[k].1.2 E[k].1.1
          have hpv := fun (j : Nat) (hj : j + 1 = k) => (show E[j].1.1 < E[k].1.1 ∨ E[j].1.1 = E[k].1.1 ∧ E[j].1.2 < E[k].1.2 by subst hj; exact edge_lt (unhide hi').se hlt)
          have hge2 := fun (W : World) (hW : IsG W g bv be V E) => hge W hW k hlt (unhide hpos)
          clear hge hpos hen
          obtain ⟨y, hy⟩ : ∃ y, E[k] = y := ⟨_, rfl⟩
          rw [hy] at c0 c1 hlo hba hbb
          simp only [hy] at hge2 hpv
          have hyk := hide (show E[k].1 = y.1 by rw [hy])
          obtain ⟨⟨a, b⟩, ⟨el, ew⟩⟩ := y
          simp only at c0 c1 hlo hba hbb hge2 hpv hyk
          clear hy c2 c3
          subst hAe
          have hab := hide (show decide (b ≤ a) = false by simp; omega)
          have hba' := hide hba
          have hbb' := hide hbb
          have hge' := hide hge2
          have hpv' := hide hpv
          have hself := Ext.refl wr
          clear hba hbb hge2 hpv
          go_wp2_with fail
          refine wp_region_ext (P := Try.prog) [0,1,2,3,4,5,6,7,8,9,10,11,12,13,14,15] [] 4 #[true,true,true,true,true,true,true,true,true,true,true,true,true,true,true,true,false,false,false,false] (by kernel_rfl) (by kernel_rfl) rfl (by rfl) ?_
          iterate 11
            refine ql_want (v := ?_) rfl (by rfl) (fun W hW => ?_) ?_
            rotate_left
            · go_simp
              first | done | rfl
            go_frame
          iterate 1
            refine ql_want (v := ?_) rfl (by rfl) (fun W hW => ?_) ?_
            rotate_left
            · go_simp
              first | done | rfl | (go_at_call 29; refine (unhide hge' _ ((unhide hH6).isg.ext (by assumption))).mono ?_; rintro _ _ ⟨h1, h2⟩; refine ⟨_, h1, ?_, h2⟩; rfl)
            go_frame
          iterate 4
            refine ql_want (v := ?_) rfl (by rfl) (fun W hW => ?_) ?_
            rotate_left
            · go_simp
              first | done | rfl
            go_frame
          refine wpQL_nil (fun w7 hx7 => ?_)
          refine lx_one (i := 16) (by kernel_rfl) rfl (by rfl) #[true,true,true,true,true,true,true,true,true,true,true,true,true,true,true,true,true,false,false,false] (by rfl) ?_
          go_simp
          first | (refine ⟨hx7.trans (ext_self1 _ _), ?_⟩; intro w8 hx8) | intro w8 hx8
          have hB8 := (Blk.new w7 47 #[.int .i64 0, .int .i64 0, .int .u8 0, .int .i64 0]).ext hx8
          have q0 := hB8.cells 0 (v := .int .i64 0) rfl
          have q1 := hB8.cells 1 (v := .int .i64 0) rfl
          have q2 := hB8.cells 2 (v := .int .u8 0) rfl
          have q3 := hB8.cells 3 (v := .int .i64 0) rfl
          have p0 := hB8.frozen 0
          have p1 := hB8.frozen 1
          have p2 := hB8.frozen 2
          have p3 := hB8.frozen 3
          have hself8 := Ext.refl w8
          have hx78 := hide ((hx7.trans (ext_self1 _ _)).trans hx8)
          have hsz7 := hide (Below.size hx7)
          clear hx8 hB8
          refine lx_one (i := 17) (by kernel_rfl) rfl (by rfl) #[true,true,true,true,true,true,true,true,true,true,true,true,true,true,true,true,true,true,false,false] (by rfl) ?_
          go_simp
          have hx8k := (unhide hx78).of_new (keep4 w8 w7.heap.size (.int .i64 a) (.int .i64 b) (.int .u8 el) (.int .i64 ew)) (by have := unhide hsz7; simpa using this)
          refine ⟨hx8k, ?_⟩
          intro w9 hx9
          have hx79 := hide (hx8k.trans hx9)
          clear hx8k
          clear hx78 hsz7 hx9 q0 q1 q2 q3 p0 p1 p2 p3 hself8
          refine lx_one (i := 18) (by kernel_rfl) rfl (by rfl) #[true,true,true,true,true,true,true,true,true,true,true,true,true,true,true,true,true,true,true,false] (by rfl) ?_
          go_simp
          first | (refine ⟨unhide hx79, ?_⟩; intro w10 hx10) | intro w10 hx10
          refine lx_one (i := 19) (by kernel_rfl) rfl (by rfl) #[true,true,true,true,true,true,true,true,true,true,true,true,true,true,true,true,true,true,true,true] (by rfl) ?_
          go_simp
          first | (refine ⟨(unhide hx79).trans hx10, ?_⟩; intro w11 hx11) | intro w11 hx11
          have hxA := hide (((unhide hx79).trans hx10).trans hx11)
          refine wpX_done (by kernel_rfl) ?_
          try go_frame
          have hH7 := hide ((unhide hH6).go (unhide hxA))
          clear hx79 hx10 hx11 hx7 hself c0 c1
          have ce := atEb (unhide hH7).se hlt (unhide hyk)
          obtain ⟨c0, c1⟩ := ce
          have hself := Ext.refl w11
          have hab' := unhide hab
          go_wp2_with fail
          refine wp_region_ext (P := Try.prog) [0,1,2,3,4,5,6,7,8,9,10,11,12,13,14,15,16,17,18,19,20,21,22,23,24,25,26,27,28,29,30,31,32,33,34,35,36,37,38,39,40,41,42,43] [] 0 #[true,true,true,true,true,true,true,true,true,true,true,true,true,true,true,true,true,true,true,true,true,true,true,true,true,true,true,true,true,true,true,true,true,true,true,true,true,true,true,true,true,true,true,true] (by kernel_rfl) (by kernel_rfl) rfl (by rfl) ?_
          iterate 27
            first
            | (refine ql_skip rfl (by rfl) ?_)
            | (refine ql_want (v := ?_) rfl (by rfl) (fun W hW => ?_) ?_; rotate_left; (go_simp; (first | done | rfl)))
            try go_frame
          iterate 1
            refine ql_want (v := ?_) rfl (by rfl) (fun W hW => ?_) ?_
            rotate_left
            · go_simp
              first | done | rfl | (go_at_call 35; refine (inc_rel g bv be V E a _ ((unhide hH7).isg.ext (by assumption))).mono ?_; rintro _ _ ⟨h1, h2⟩; refine ⟨_, h1, ?_, h2⟩; rfl)
            go_frame
          iterate 1
            first
            | (refine ql_skip rfl (by rfl) ?_)
            | (refine ql_want (v := ?_) rfl (by rfl) (fun W hW => ?_) ?_; rotate_left; (go_simp; (first | done | rfl)))
            try go_frame
          iterate 1
            refine ql_want (v := ?_) rfl (by rfl) (fun W hW => ?_) ?_
            rotate_left
            · go_simp
              first | done | rfl | (go_at_call 39; refine (has_any (incS a E E.length) (k : Int) _).mono ?_; rw [unhide hba']; rintro _ _ ⟨h1, h2⟩; refine ⟨_, h1, ?_, h2⟩; rfl)
            go_frame
          iterate 9
            first
            | (refine ql_skip rfl (by rfl) ?_)
            | (refine ql_want (v := ?_) rfl (by rfl) (fun W hW => ?_) ?_; rotate_left; (go_simp; (first | done | rfl)))
            try go_frame
          iterate 1
            refine ql_want (v := ?_) rfl (by rfl) (fun W hW => ?_) ?_
            rotate_left
            · go_simp
              first | done | rfl | (go_at_call 35; refine (inc_rel g bv be V E b _ ((unhide hH7).isg.ext (by assumption))).mono ?_; rintro _ _ ⟨h1, h2⟩; refine ⟨_, h1, ?_, h2⟩; rfl)
            go_frame
          iterate 1
            first
            | (refine ql_skip rfl (by rfl) ?_)
            | (refine ql_want (v := ?_) rfl (by rfl) (fun W hW => ?_) ?_; rotate_left; (go_simp; (first | done | rfl)))
            try go_frame
          iterate 1
            refine ql_want (v := ?_) rfl (by rfl) (fun W hW => ?_) ?_
            rotate_left
            · go_simp
              first | done | rfl | (go_at_call 39; refine (has_any (incS b E E.length) (k : Int) _).mono ?_; rw [unhide hbb']; rintro _ _ ⟨h1, h2⟩; refine ⟨_, h1, ?_, h2⟩; rfl)
            go_frame
          iterate 2
            first
            | (refine ql_skip rfl (by rfl) ?_)
            | (refine ql_want (v := ?_) rfl (by rfl) (fun W hW => ?_) ?_; rotate_left; (go_simp; (first | done | rfl)))
            try go_frame
          refine wpQL_nil (fun wB hxB => ?_)
          refine wpX_done (by kernel_rfl) ?_
          try go_frame
          have hH8 := hide ((unhide hH7).go hxB)
          have hxC := hide ((unhide hxA).trans hxB)
          have ce := atEb (unhide hH8).se hlt (unhide hyk)
          clear hxB hxA hself hlo hab' c0 c1
          obtain ⟨c0, c1⟩ := ce
          have hself := Ext.refl wB
          go_wp2_with fail
          by_cases hk0 : k = 0
          · as_aux_lemma =>
            have hk1 : decide (0 < (k : Int)) = false := by simp [hk0]
            have hk1n : decide (0 < k) = false := by simp [hk0]
            clear hk0
            refine wp_region_still (P := Try.prog) [0,1,2,3,4,5,6,7,8,9,10,11,12,13,14,15,16,17,18,19,20,21,22,23,24,25,26,27,28,29,30,31,32,33,34,35,36,37,38,39,40,41,42,43] [] 0 #[true,true,true,true,true,true,true,true,true,true,true,true,true,true,true,true,true,true,true,true,true,true,true,true,true,true,true,true,true,true,true,true,true,true,true,true,true,true,true,true,true,true,true,true] (by kernel_rfl) (by kernel_rfl) rfl (by rfl) ?_
            iterate 44
              first
              | (refine ql_skip rfl (by rfl) ?_)
              | (refine ql_want (v := ?_) rfl (by rfl) (fun W hW => ?_) ?_; rotate_left; (go_simp; (first | done | rfl)))
              try go_frame
            refine wpQL_nil (fun wD hxD => ?_)
            refine wpX_done (by kernel_rfl) ?_
            try go_frame
            clear c0 c1 hself
            go_wp2_with fail
            go_roundw
            case rel => exact ⟨k + 1, by omega, by go_num, ((unhide hx6).trans (unhide hxC)).trans hxD⟩
            case measure => simp [intOf]; omega
          · obtain ⟨j, hj⟩ : ∃ j, j + 1 = k := ⟨k - 1, by omega⟩
            have hk1 : decide (0 < (k : Int)) = true := by simp; omega
            have hk1n : decide (0 < k) = true := by simp; omega
            have hk2 : (k : Int) - 1 = (j : Int) := by omega
            have hk3 : IntKind.i64.wrap (j : Int) = (j : Int) := by rw [IntWalk.i64_in _ (by omega)]
            have hjl : j < E.length := by omega
            have hcmp := unhide hpv' j hj
            obtain ⟨y, hy⟩ : ∃ y, E[j].1 = y := ⟨_, rfl⟩
            have hcj := atEb (unhide hH8).se hjl (x := y.1) (y := y.2) hy
            rw [hy] at hcmp
            obtain ⟨a', b'⟩ := y
            simp only at hcj hcmp
            obtain ⟨d0, d1⟩ := hcj
            have hj0 : (0 : Int) ≤ (j : Int) := by omega
            have hj1 : (j : Int) < (E.length : Int) := by omega
            clear hy hj hk0
            rcases hcmp with hlt2 | ⟨rfl, hlt2⟩
            · as_aux_lemma =>
              have g1 : decide (a < a') = false := by simp; omega
              have g2 : (a' == a) = false := by simp; omega
              clear hlt2
              refine wp_region_still (P := Try.prog) [0,1,2,3,4,5,6,7,8,9,10,11,12,13,14,15,16,17,18,19,20,21,22,23,24,25,26,27,28,29,30,31,32,33,34,35,36,37,38,39,40,41,42,43] [] 0 #[true,true,true,true,true,true,true,true,true,true,true,true,true,true,true,true,true,true,true,true,true,true,true,true,true,true,true,true,true,true,true,true,true,true,true,true,true,true,true,true,true,true,true,true] (by kernel_rfl) (by kernel_rfl) rfl (by rfl) ?_
              iterate 44
                first
                | (refine ql_skip rfl (by rfl) ?_)
                | (refine ql_want (v := ?_) rfl (by rfl) (fun W hW => ?_) ?_; rotate_left; (go_simp; (first | done | rfl)))
                try go_frame
              refine wpQL_nil (fun wD hxD => ?_)
              refine wpX_done (by kernel_rfl) ?_
              try go_frame
              clear c0 c1 hself
              go_wp2_with fail
              go_roundw
              case rel => exact ⟨k + 1, by omega, by go_num, ((unhide hx6).trans (unhide hxC)).trans hxD⟩
              case measure => simp [intOf]; omega
            · as_aux_lemma =>
              have g1 : decide (a' < a') = false := by simp
              have g3 : decide (b ≤ b') = false := by simp; omega
              clear hlt2
              refine wp_region_still (P := Try.prog) [0,1,2,3,4,5,6,7,8,9,10,11,12,13,14,15,16,17,18,19,20,21,22,23,24,25,26,27,28,29,30,31,32,33,34,35,36,37,38,39,40,41,42,43] [] 0 #[true,true,true,true,true,true,true,true,true,true,true,true,true,true,true,true,true,true,true,true,true,true,true,true,true,true,true,true,true,true,true,true,true,true,true,true,true,true,true,true,true,true,true,true] (by kernel_rfl) (by kernel_rfl) rfl (by rfl) ?_
              iterate 44
                first
                | (refine ql_skip rfl (by rfl) ?_)
                | (refine ql_want (v := ?_) rfl (by rfl) (fun W hW => ?_) ?_; rotate_left; (go_simp; (first | done | rfl)))
                try go_frame
              refine wpQL_nil (fun wD hxD => ?_)
              refine wpX_done (by kernel_rfl) ?_
              try go_frame
              clear c0 c1 hself
              go_wp2_with fail
              go_roundw
              case rel => exact ⟨k + 1, by omega, by go_num, ((unhide hx6).trans (unhide hxC)).trans hxD⟩
              case measure => simp [intOf]; omega
        · have hkE : k = E.length := by omega
          subst hkE
          go_wp2_with fail
          refine (known_any _).mono ?_
          rintro e w6 ⟨rfl, hx7⟩
          have hx8 := hide ((unhide hH6).ext.trans hx7)
          clear hx7
          go_wp2_with fail
          go_ret
          exact ⟨rfl, unhide hx8⟩
end Go.Proofs.Ytdkhondfahebnaa
/- Every input makes the law GraphHandshake answer true, and each argument reads behind the call as it read before: the given statement. No condition. -/
namespace Go.Proofs.Ytdkhondfahebnaa.graphHandshakeRow
open Go.ChangeShapes Go.WideShapes Go.ChangeAt Go.RowKit
set_option linter.unusedVariables false

theorem own : ownKnob Try.prog.godebug = none := by kernel_rfl
theorem laidOut : laidOutB Try.prog = true := by kernel_rfl

set_option maxRecDepth 100000 in
theorem lifted (os : Os) (started : os.Started) (H : Type) (enc : TypeId × Value → H) :
    ReturnsInHanded {} Try.checked os 9 .any (Rows.graphHandshakeSpec.pre6 enc Try.prog Try.f9 Rows.graphHandshakeRow.domain false) (Rows.graphHandshakeSpec.post enc Try.prog Try.f9 false true false false) := by
  refine returnsInHanded_of_change (C := Try.checked) own started (by kernel_rfl) Try.func9
    (ChangeSpec.witness6 (enc := enc) (C := Try.checked) false ⟨#[], #[.slice none 0 0], []⟩ 8 (by kernel_rfl) (by kernel_rfl) (by kernel_rfl) (by kernel_rfl)) ?_
  intro W base args ds gs before hval0 hW hcnd _
  have hval : ∀ (j : Nat) t v, Try.f9.params[j]? = some t → args[j]? = some v → Value.okWide Try.prog W .any base t v := hval0
  have hW' := hW
  obtain ⟨p, q, hA0, hV, rfl, hfz, hnd⟩ := hW
  have hA : DataW.TrodAll enc Try.prog W 0 (fun _ => true) true Try.f9.params.toList args.toList ds p := hA0
  rw [Try.params9] at hA hval
  obtain ⟨v0, vs0, d0, ds0, p0, q0, hargs, rfl, rfl, h0, r0⟩ := trodAll_cons hA
  obtain ⟨rfl, rfl, rfl⟩ := trodAll_nil r0
  obtain rfl : args = #[v0] := by cases args; simp_all
  obtain ⟨rfl, rfl⟩ := trodVars_none hV
  obtain ⟨a0, len0, cap0, rfl⟩ := okWide_slice Try.underlying22 (hval 0 22 v0 rfl rfl)
  have k0 := h0
  have lt0 : ∀ x ∈ p0, x.block < W.heap.size := by obtain ⟨m, hm⟩ := k0; exact DataW.trod_lt m _ _ _ hm
  obtain ⟨fu0, hf0⟩ := h0
  obtain ⟨L0, hn0, hs0, ho0, hm0, hz0⟩ := open_edits (by simpa [Value.cells] using hf0)
  subst hn0
  clear hA0 hval0
  refine (graphHandshake_walk a0 L0 cap0 W hs0 ho0 hm0 hz0).mono fun e W' ⟨he, bel⟩ => ?_
  subst he
  exact ⟨_, rfl, _, _, _, [], _, [], hW', trodAll_mk1 (shut_bool Try.underlying4 _), (trodAll_cons_mk (Below.trod laidOut (by kernel_rfl) (of_decide_eq_true (by kernel_rfl)) k0 bel lt0) trodAll_mk0), rfl, bel.frame _, fun h => by cases h⟩

theorem over : Rows.graphHandshakeRow.holds Try.pinned (OpenSpec.ofChange Rows.graphHandshakeSpec) :=
  OpenClaim.holds_of_wide 9 Try.f9 rfl rfl rfl rfl rfl rfl rfl ⟨rfl, rfl, rfl, rfl, rfl⟩ rfl rfl rfl rfl rfl (by kernel_rfl) Try.func9 (by kernel_rfl)
    (of_decide_eq_true (by kernel_rfl)) (by unfold Func.isWrapper; first | (rw [if_pos (by decide +kernel)]; kernel_rfl) | (rw [if_neg (by decide +kernel)]; exact ⟨rfl, rfl⟩))
    (fun os started H enc _ => lifted os started H enc)
end Go.Proofs.Ytdkhondfahebnaa.graphHandshakeRow
namespace Go.Proofs.Ytdkhondfahebnaa
/-- the given statement -/
theorem graphHandshake_holds : Rows.GraphHandshakeSaid := graphHandshakeRow.over
#print axioms graphHandshake_holds
end Go.Proofs.Ytdkhondfahebnaa
