/- Every input makes the law ChordalTreeLaws answer true, and each argument reads behind the call as it read before: the given card, tied to the program's text. No condition. -/
import Derived.Test.YtmfkkkhddigkfaaGreatDoorE22
import Derived.Test.YtmfkkkhddigkfaaGreatDoorE18
import Derived.Test.YtmfkkkhddigkfaaGreatDoorCards
import Derived.Test.YtmfkkkhddigkfaaGreatDoorTie
import Derived.WalkKit
import Derived.ProofKit
import Derived.OpenShut
import Derived.ShutString
import Derived.ChangeOld
import Derived.Below
import Derived.SevenTiedAt
/- palmettelaw24.ChordalTreeLaws answers true. Conditions: see each theorem. -/
namespace Go.Proofs.YtmfkkkhddigkfaaGreatDoor
open Go Go.RowKit Go.Shelf
attribute [local go_sem] qUpon lUpon
attribute [local irreducible] wpO wpX wpQL

theorem inv_ends {V : List (Int × Thing)} {E : List ((Int × Int) × Thing)} (hi : GInv V E) {e : (Int × Int) × Thing} (he : e ∈ E) : hasE e.1.1 e.1.2 E = true ∧ e.1.1 ∈ V.map (·.1) ∧ e.1.2 ∈ V.map (·.1) ∧ e.1.1 ≠ e.1.2 := by
  have h : hasE e.1.1 e.1.2 E = true := by
    unfold hasE
    rw [decide_eq_true_eq, posI_nonneg]
    have h1 := (hi.lo e he)
    exact ⟨e, he, by unfold isE; simp⟩
  have h2 := hasE_rng hi h
  exact ⟨h, h2.1, h2.2, hasE_ne hi h⟩
theorem hasD {N : Nat} {n : Int} : (fitB n && N.testBit n.toNat) = decide (n ∈ toL N) := by
  rw [Bool.eq_iff_iff, decide_eq_true_eq, mem_toL', Bool.and_eq_true]
  unfold fitB
  rw [Bool.and_eq_true, decide_eq_true_eq, decide_eq_true_eq, and_assoc]
/-- what the law asks of the cliques and their tree -/
structure TlF (V : List (Int × Thing)) (E : List ((Int × Int) × Thing)) (l : List Nat) (up : List Int) (sh : List Nat) : Prop where
  lu : up.length = l.length
  ls : sh.length = l.length
  le : l.length ≤ 1025
  up1 : ∀ (k : Nat) (h : k < up.length), up[k] < (l.length : Int) ∧ (0 < k → 0 ≤ up[k])
  root : ∀ v ∈ V.map (·.1), (List.range l.length).countP (rootB l up v) = 1
  edge : ∀ e ∈ E, ∃ k, k < l.length ∧ e.1.1 ∈ toL (l.getD k 0) ∧ e.1.2 ∈ toL (l.getD k 0)
theorem tlf {V : List (Int × Thing)} {E : List ((Int × Int) × Thing)} (hi : GInv V E) : (peoS V E = none ∧ mcS V E = ([], 3) ∧ ctS V E = ([], [], 3)) ∨ ∃ l up sh, mcS V E = (l, 0) ∧ ctS V E = (up, sh, 0) ∧ TlF V E l up sh := by
  cases hpo : peoS V E with
  | none =>
    have h1 : mcS V E = ([], 3) := by unfold mcS; rw [hpo]; rfl
    refine .inl ⟨rfl, h1, ?_⟩
    unfold ctS
    rw [h1, if_neg]
    rintro ⟨h, _⟩
    cases h
  | some o =>
    have h1 : mcS V E = ((cliquesR V E).map fromS, 0) := by unfold mcS; rw [hpo]; rfl
    obtain ⟨hpm, hpe⟩ := peoS_sound hi hpo
    have hmem : ∀ x, x ∈ o ↔ x ∈ V.map (·.1) := fun x => by rw [hpm.mem_iff, mem_vS hi]
    have hnd : o.Nodup := hpm.nodup_iff.2 (toL_nodup _)
    have hm : ∀ x, x ∈ toL (vS V) ↔ x ∈ o := fun x => by rw [hpm.mem_iff]
    have hVl : (V.map (·.1)).length = o.length := by rw [hpm.length_eq, toL_vS hi]
    have hle := cliques_le hi
    rw [h1] at hle
    obtain ⟨l, hl⟩ : ∃ l, l = (cliquesR V E).map fromS := ⟨_, rfl⟩
    have hedge : ∀ e ∈ E, ∃ k, k < l.length ∧ e.1.1 ∈ toL (l.getD k 0) ∧ e.1.2 ∈ toL (l.getD k 0) := fun e he => by
      obtain ⟨a, b, c, d⟩ := inv_ends hi he
      exact edge_in hi hnd hmem hm hpe hl a b c d
    rw [← hl] at h1 hle
    by_cases hne : l = []
    · refine .inr ⟨l, [], [], h1, by unfold ctS; rw [h1, if_neg]; rintro ⟨_, h⟩; exact h hne, by rw [hne]; rfl, by rw [hne], hle, by simp, fun v hv => ?_, hedge⟩
      have hL := maxL_of hi hnd hmem hm hpe
      rw [← hl] at hL
      obtain ⟨k, hk, _⟩ := hL.into [v] (by simp) (by simp) (fun y hy => by rw [List.mem_singleton] at hy; rw [hy]; exact (hmem v).2 hv) (fun a ha b hb hab => by
        rw [List.mem_singleton] at ha hb
        exact absurd (ha.trans hb.symm) hab)
      rw [hne] at hk
      simp at hk
    · obtain ⟨ord, hT, _⟩ := tree_full hne
      obtain ⟨t1, t2⟩ := tree_laws hi hnd hmem hm hpe hVl hl hne
      refine .inr ⟨l, (treeS l).2.1, (treeS l).2.2, h1, by unfold ctS; rw [h1, if_pos ⟨rfl, hne⟩], hT.lu, hT.ls, hle, fun k hk => ?_, t2, hedge⟩
      have := t1 k (by rw [← hT.lu]; exact hk)
      have e : (treeS l).2.1.getD k 0 = (treeS l).2.1[k] := by simp [List.getD, hk]
      rw [e] at this
      exact this
theorem rootB_cases {l : List Nat} {up : List Int} {v : Int} {k : Nat} {c : Nat} {u : Int} (hc : l.getD k 0 = c) (hu : up.getD k 0 = u) : rootB l up v k = (decide (v ∈ toL c) && (decide (u < 0) || !decide (v ∈ toL (l.getD u.toNat 0)))) := by
  unfold rootB
  rw [hc, hu]
theorem countP_next (p : Nat → Bool) (k : Nat) : (List.range (k + 1)).countP p = (List.range k).countP p + (p k).toNat := by
  rw [List.range_succ, List.countP_append, List.countP_cons, List.countP_nil]
  cases p k <;> rfl
def edgeB (l : List Nat) (u v : Int) (k : Nat) : Bool := (List.range k).any fun k => decide (u ∈ toL (l.getD k 0)) && decide (v ∈ toL (l.getD k 0))
theorem edgeB_next (l : List Nat) (u v : Int) (k : Nat) : edgeB l u v (k + 1) = (edgeB l u v k || (decide (u ∈ toL (l.getD k 0)) && decide (v ∈ toL (l.getD k 0)))) := by
  unfold edgeB
  rw [List.range_succ, List.any_append]
  simp
theorem edgeB_end {l : List Nat} {u v : Int} (h : ∃ k, k < l.length ∧ u ∈ toL (l.getD k 0) ∧ v ∈ toL (l.getD k 0)) : edgeB l u v l.length = true := by
  obtain ⟨k, h1, h2, h3⟩ := h
  unfold edgeB
  rw [List.any_eq_true]
  exact ⟨k, List.mem_range.2 h1, by rw [decide_eq_true h2, decide_eq_true h3]; rfl⟩
theorem getU {l : List Int} {k : Nat} (h : k < l.length) : l.getD k 0 = l[k] := by simp [List.getD, h]

set_option maxRecDepth 100000 in
set_option maxHeartbeats 16000000 in
theorem chordalTreeLaws_walk (A : Option Addr) (L : List Ed) (cL : Nat) (w : World) (hL : SlAt encD 5 w A L) (hT : Tab w) :
    Calls Tryz.prog 10 #[.slice A L.length cL] w fun e w' => e = .returned (.bool true) ∧ Ext w w' := by
  have hL' := hide hL
  have hT' := hide hT
  clear hL hT
  have hP := hide (Sp.new w)
  refine callsIn_wide.1 (callsIn_of_wp_marks (n := 0) Tryz.func10 rfl trivial (wpIn_wide.2 ?_))
  simp only [Tryz.ntmps10, List.size_toArray, List.length_cons, List.length_nil, Nat.reduceAdd, Nat.reduceSub, Array.replicate_succ, Array.replicate_zero, List.push_toArray, List.append_toArray, List.nil_append, List.cons_append]
  try dsimp only
  repeat ((fail_if_success (with_reducible refine wp_reg (id := 1) ?_)); (first | go_values | go_skip | go_step | go_guarded | go_upon | go_in | go_back | fail))
  with_reducible refine wp_reg (id := 1) ?_
  refine wpO_want rfl ?_
  go_simp
  refine (known24_any _ ((unhide hT').ext (unhide hP).extf)).mono ?_
  rintro _ y1 ⟨rfl, hxc⟩
  refine ⟨_, rfl, ?_⟩
  replace hP : Hid (Sp w [] w [] [] [] y1) := hide ((unhide hP).ext hxc)
  clear hxc
  refine wpO_want rfl ?_
  go_simp
  refine wpO_done ?_
  try go_frame
  try dsimp only
  repeat ((fail_if_success (with_reducible refine wp_reg (id := 3) ?_)); (first | go_values | go_skip | go_step | go_guarded | go_upon | go_in | go_back | fail))
  with_reducible refine wp_reg (id := 3) ?_
  refine wpO_val rfl (run_move rfl rfl) ?_
  go_frame
  refine wpO_want rfl ?_
  go_simp
  have hca := take_any A L cL 30 y1 ((unhide hL').ext (unhide hP).extf)
  have hi := hide (mdS_inv L)
  refine hca.mono ?_
  clear hca
  generalize mdS L = S at *
  obtain ⟨V, E⟩ := S
  try dsimp only at hi ⊢
  rintro _ y2 ⟨g, bv, be, A1, B1, cA, cB, rfl, hg0, hs0, he0, hxc⟩
  refine ⟨_, rfl, ?_⟩
  replace hP : Hid (Sp w [] w [] [] [] y2) := hide ((unhide hP).ext hxc)
  have hg := hide hg0
  have hsV := hide hs0
  have hsE := hide he0
  obtain ⟨q, hq⟩ : ∃ q, q = decide ((V.length : Int) ≤ 30) := ⟨_, rfl⟩
  rw [← hq]
  have hq' := hide hq
  have hnV := hide hg0.nV
  have hnE := hide hg0.nE
  clear hxc hg0 hs0 he0 hq
  generalize htu0 : Value.tuple _ = tu
  have htu := hide htu0
  clear htu0
  refine wpO_val rfl (run_move rfl rfl) ?_
  go_frame
  refine wpO_val rfl (run_extract (i := 0) (v := .pointer (some ⟨g, 0, none⟩)) rfl (unhide htu).symm rfl) ?_
  go_frame
  refine wpO_val rfl (run_extract (i := 1) (v := .agg #[.slice A1 V.length cA, .slice B1 E.length cB]) rfl (unhide htu).symm rfl) ?_
  go_frame
  refine wpO_val rfl (run_extract (i := 2) (v := .bool q) rfl (unhide htu).symm rfl) ?_
  go_frame
  refine (unhide hP).allocT 28 #[.slice none 0 0, .slice none 0 0] rfl (by go_simp) ?_
  intro r4 y3 hQ hxa hga
  replace hP : Hid (Sp w [] w [] [(r4, 28, #[.slice none 0 0, .slice none 0 0])] [] y3) := hide hQ
  clear hQ
  try go_frame
  refine wpO_want rfl ?_
  go_simp
  refine (unhide hP).setT 0 #[.slice A1 V.length cA, .slice B1 E.length cB] rfl rfl (fun hb => run_store_row (v := .agg #[.slice A1 V.length cA, .slice B1 E.length cB]) rfl (by rfl) (by rfl) (by simp [go_sem]) hb rfl (fun u hu => by simp [Value.cells] at hu; rcases hu with rfl | rfl <;> rfl)) ?_
  intro y4 hQ hkq
  replace hP : Hid (Sp w [] w [] [(r4, 28, #[.slice A1 V.length cA, .slice B1 E.length cB])] [] y4) := hide hQ
  have hxs := hxa.of_new hkq (fun x hx => by rw [List.mem_singleton] at hx; rw [hx]; exact hga)
  clear hQ hkq hxa hga
  try go_frame
  replace hg := hide ((unhide hg).ext (hxs))
  replace hsV := hide ((unhide hsV).ext (hxs))
  replace hsE := hide ((unhide hsE).ext (hxs))
  clear hxs
  refine wpO_want rfl ?_
  go_simp
  refine wpO_done ?_
  try go_frame
  clear htu
  cases q
  · skip
    go_wp2_with fail
    refine Sp.leaves0 ?_
    exact ⟨_, results_tmp rfl _ _ _, rfl, (unhide hP).extf⟩
  · skip
    have htl := tlf (unhide hi)
    have hmx := hide (fun (W : World) (hW : IsG W g bv be V E) (hT : Tab W) => maxCliques_any (some ⟨g, 0, none⟩) V E W (GL.of hW) hT)
    have hct := hide (fun (W : World) (hW : IsG W g bv be V E) (hT : Tab W) => cliqueTree_any (some ⟨g, 0, none⟩) V E W (GL.of hW) hT)
    have hpt := hide (fun (W : World) (hW : IsG W g bv be V E) (hT : Tab W) => perfect_any (some ⟨g, 0, none⟩) V E W (GL.of hW) hT)
    have hVl := hide (show V.length ≤ 1024 from (unhide hi).nv)
    rcases htl with ⟨hpo, hm1, hc1⟩ | ⟨l, up, sh, hm1, hc1, hF⟩
    · skip
      rw [hpo] at hpt
      rw [hm1] at hmx
      rw [hc1] at hct
      clear hpo hm1 hc1
      try dsimp only
      repeat ((fail_if_success (with_reducible refine wp_reg (id := 6) ?_)); (first | go_values | go_skip | go_step | go_guarded | go_upon | go_in | go_back | fail))
      with_reducible refine wp_reg (id := 6) ?_
      refine wpO_val rfl (run_move rfl rfl) ?_
      go_frame
      refine wpO_want rfl ?_
      go_simp
      have hca := unhide hmx y4 (unhide hg) ((unhide hT').ext (unhide hP).extf)
      unfold McPost at hca
      simp only [List.length_nil] at hca
      refine (hca).mono ?_
      rintro _ y5 ⟨A6, c6, rfl, ho, hxc⟩
      clear hca ho
      refine ⟨_, rfl, ?_⟩
      replace hP : Hid (Sp w [] w [] [(r4, 28, #[.slice A1 V.length cA, .slice B1 E.length cB])] [] y5) := hide ((unhide hP).ext hxc)
      replace hg := hide ((unhide hg).ext (hxc))
      replace hsV := hide ((unhide hsV).ext (hxc))
      replace hsE := hide ((unhide hsE).ext (hxc))
      clear hxc
      generalize htu0 : Value.tuple _ = tu
      have htu := hide htu0
      clear htu0
      refine wpO_val rfl (run_move rfl rfl) ?_
      go_frame
      refine wpO_val rfl (run_extract (i := 0) (v := .slice A6 0 c6) rfl (unhide htu).symm rfl) ?_
      go_frame
      refine wpO_val rfl (run_extract (i := 1) (v := .int .i64 3) rfl (unhide htu).symm rfl) ?_
      go_frame
      iterate 2
        refine wpO_want rfl ?_
        go_simp
      refine wpO_done ?_
      try go_frame
      clear htu
      try dsimp only
      repeat ((fail_if_success (with_reducible refine wp_reg (id := 7) ?_)); (first | go_values | go_skip | go_step | go_guarded | go_upon | go_in | go_back | fail))
      with_reducible refine wp_reg (id := 7) ?_
      refine wpO_val rfl (run_move rfl rfl) ?_
      go_frame
      refine wpO_want rfl ?_
      go_simp
      have hca := unhide hct y5 (unhide hg) ((unhide hT').ext (unhide hP).extf)
      unfold CtPost at hca
      simp only [List.length_nil] at hca
      refine (hca).mono ?_
      rintro _ y6 ⟨A8, A9, c8, c9, rfl, hs1, hs2, hxc⟩
      clear hca hs1 hs2
      refine ⟨_, rfl, ?_⟩
      replace hP : Hid (Sp w [] w [] [(r4, 28, #[.slice A1 V.length cA, .slice B1 E.length cB])] [] y6) := hide ((unhide hP).ext hxc)
      replace hg := hide ((unhide hg).ext (hxc))
      replace hsV := hide ((unhide hsV).ext (hxc))
      replace hsE := hide ((unhide hsE).ext (hxc))
      clear hxc
      generalize htu0 : Value.tuple _ = tu
      have htu := hide htu0
      clear htu0
      refine wpO_val rfl (run_move rfl rfl) ?_
      go_frame
      refine wpO_val rfl (run_extract (i := 0) (v := .slice A8 0 c8) rfl (unhide htu).symm rfl) ?_
      go_frame
      refine wpO_val rfl (run_extract (i := 1) (v := .slice A9 0 c9) rfl (unhide htu).symm rfl) ?_
      go_frame
      refine wpO_val rfl (run_extract (i := 2) (v := .int .i64 3) rfl (unhide htu).symm rfl) ?_
      go_frame
      iterate 3
        refine wpO_want rfl ?_
        go_simp
      refine wpO_done ?_
      try go_frame
      clear htu
      try dsimp only
      repeat ((fail_if_success (with_reducible refine wp_reg (id := 8) ?_)); (first | go_values | go_skip | go_step | go_guarded | go_upon | go_in | go_back | fail))
      with_reducible refine wp_reg (id := 8) ?_
      iterate 3
        refine wpO_want rfl ?_
        go_simp
      refine wpO_out (by rfl) ?_
      go_frame
      refine wpO_out (by rfl) ?_
      go_frame
      refine wpO_want rfl ?_
      go_simp
      refine wpO_done ?_
      try go_frame
      try dsimp only
      repeat ((fail_if_success (with_reducible refine wp_reg (id := 9) ?_)); (first | go_values | go_skip | go_step | go_guarded | go_upon | go_in | go_back | fail))
      with_reducible refine wp_reg (id := 9) ?_
      refine wpO_val rfl (run_move rfl rfl) ?_
      go_frame
      refine wpO_want rfl ?_
      go_simp
      have hca := unhide hpt y6 (unhide hg) ((unhide hT').ext (unhide hP).extf)
      unfold PoPost at hca
      simp only [Option.getD_none, Option.isSome_none, List.length_nil] at hca
      refine (hca).mono ?_
      rintro _ y7 ⟨Ap, cp, rfl, ho, hxc⟩
      clear hca ho
      refine ⟨_, rfl, ?_⟩
      replace hP : Hid (Sp w [] w [] [(r4, 28, #[.slice A1 V.length cA, .slice B1 E.length cB])] [] y7) := hide ((unhide hP).ext hxc)
      replace hg := hide ((unhide hg).ext (hxc))
      replace hsV := hide ((unhide hsV).ext (hxc))
      replace hsE := hide ((unhide hsE).ext (hxc))
      clear hxc
      generalize htu0 : Value.tuple _ = tu
      have htu := hide htu0
      clear htu0
      refine wpO_val rfl (run_move rfl rfl) ?_
      go_frame
      refine wpO_val rfl (run_extract (i := 0) (v := .slice Ap 0 cp) rfl (unhide htu).symm rfl) ?_
      go_frame
      refine wpO_val rfl (run_extract (i := 1) (v := .bool false) rfl (unhide htu).symm rfl) ?_
      go_frame
      iterate 2
        refine wpO_want rfl ?_
        go_simp
      refine wpO_done ?_
      try go_frame
      clear htu
      try dsimp only
      repeat ((fail_if_success (with_reducible refine wp_reg (id := 10) ?_)); (first | go_values | go_skip | go_step | go_guarded | go_upon | go_in | go_back | fail))
      with_reducible refine wp_reg (id := 10) ?_
      iterate 12
        refine wpO_want rfl ?_
        go_simp
      refine wpO_done ?_
      try go_frame
      go_wp2_with fail
      refine Sp.leaves0 ?_
      exact ⟨_, results_tmp rfl _ _ _, rfl, (unhide hP).extf⟩
    · skip
      rw [hm1] at hmx
      rw [hc1] at hct
      obtain ⟨m, hm⟩ : ∃ m, m = l.length := ⟨_, rfl⟩
      have hm' := hide hm
      have hF' := hide hF
      have hmu := hide (show m = up.length by rw [hm]; exact hF.lu.symm)
      have hms := hide (show m = sh.length by rw [hm]; exact hF.ls.symm)
      have hmb := hide (show m ≤ 1025 by rw [hm]; exact hF.le)
      clear hm hm1 hc1 hF hpt
      try dsimp only
      repeat ((fail_if_success (with_reducible refine wp_reg (id := 6) ?_)); (first | go_values | go_skip | go_step | go_guarded | go_upon | go_in | go_back | fail))
      with_reducible refine wp_reg (id := 6) ?_
      refine wpO_val rfl (run_move rfl rfl) ?_
      go_frame
      refine wpO_want rfl ?_
      go_simp
      have hca := unhide hmx y4 (unhide hg) ((unhide hT').ext (unhide hP).extf)
      unfold McPost at hca
      dsimp only at hca
      rw [← unhide hm'] at hca
      refine (hca).mono ?_
      rintro _ y5 ⟨A6, c6, rfl, ho, hxc⟩
      have hs6 := hide (show SlAt encS 16 _ A6 l from own_at (enc := encS) (by rw [← unhide hm']; exact ho) (fun _ => rfl))
      clear hca ho
      refine ⟨_, rfl, ?_⟩
      replace hP : Hid (Sp w [] w [] [(r4, 28, #[.slice A1 V.length cA, .slice B1 E.length cB])] [] y5) := hide ((unhide hP).ext hxc)
      replace hg := hide ((unhide hg).ext (hxc))
      replace hsV := hide ((unhide hsV).ext (hxc))
      replace hsE := hide ((unhide hsE).ext (hxc))
      clear hxc
      generalize htu0 : Value.tuple _ = tu
      have htu := hide htu0
      clear htu0
      refine wpO_val rfl (run_move rfl rfl) ?_
      go_frame
      refine wpO_val rfl (run_extract (i := 0) (v := .slice A6 m c6) rfl (unhide htu).symm rfl) ?_
      go_frame
      refine wpO_val rfl (run_extract (i := 1) (v := .int .i64 0) rfl (unhide htu).symm rfl) ?_
      go_frame
      iterate 2
        refine wpO_want rfl ?_
        go_simp
      refine wpO_done ?_
      try go_frame
      clear htu
      try dsimp only
      repeat ((fail_if_success (with_reducible refine wp_reg (id := 7) ?_)); (first | go_values | go_skip | go_step | go_guarded | go_upon | go_in | go_back | fail))
      with_reducible refine wp_reg (id := 7) ?_
      refine wpO_val rfl (run_move rfl rfl) ?_
      go_frame
      refine wpO_want rfl ?_
      go_simp
      have hca := unhide hct y5 (unhide hg) ((unhide hT').ext (unhide hP).extf)
      unfold CtPost at hca
      dsimp only at hca
      rw [← unhide hmu, ← unhide hms] at hca
      refine (hca).mono ?_
      rintro _ y6 ⟨A8, A9, c8, c9, rfl, hs1, hs2, hxc⟩
      have hs8 := hide hs1
      clear hca hs1 hs2
      refine ⟨_, rfl, ?_⟩
      replace hP : Hid (Sp w [] w [] [(r4, 28, #[.slice A1 V.length cA, .slice B1 E.length cB])] [] y6) := hide ((unhide hP).ext hxc)
      replace hg := hide ((unhide hg).ext (hxc))
      replace hsV := hide ((unhide hsV).ext (hxc))
      replace hsE := hide ((unhide hsE).ext (hxc))
      replace hs6 := hide ((unhide hs6).ext (hxc))
      clear hxc
      generalize htu0 : Value.tuple _ = tu
      have htu := hide htu0
      clear htu0
      refine wpO_val rfl (run_move rfl rfl) ?_
      go_frame
      refine wpO_val rfl (run_extract (i := 0) (v := .slice A8 m c8) rfl (unhide htu).symm rfl) ?_
      go_frame
      refine wpO_val rfl (run_extract (i := 1) (v := .slice A9 m c9) rfl (unhide htu).symm rfl) ?_
      go_frame
      refine wpO_val rfl (run_extract (i := 2) (v := .int .i64 0) rfl (unhide htu).symm rfl) ?_
      go_frame
      iterate 3
        refine wpO_want rfl ?_
        go_simp
      refine wpO_done ?_
      try go_frame
      clear htu
      have hx0 := hide (unhide hP).extf
      have hB4 := hide ((unhide hP).get 0 rfl)
      clear hP hT' hmx hct hg
      have hP : Hid (Sp y6 [] y6 [] [] [] y6) := hide (Sp.new y6)
      have hmm : ((m : Int) != (m : Int)) = false := by simp
      try dsimp only
      repeat ((fail_if_success (with_reducible refine wp_reg (id := 8) ?_)); (first | go_values | go_skip | go_step | go_guarded | go_upon | go_in | go_back | fail))
      with_reducible refine wp_reg (id := 8) ?_
      iterate 6
        refine wpO_want rfl ?_
        go_simp
      refine wpO_done ?_
      try go_frame
      try dsimp only
      repeat ((fail_if_success (with_reducible refine wp_reg (id := 11) ?_)); (first | go_values | go_skip | go_step | go_guarded | go_upon | go_in | go_back | fail))
      with_reducible refine wp_reg (id := 11) ?_
      iterate 12
        refine wpO_want rfl ?_
        go_simp
      refine wpO_done ?_
      try go_frame
      clear hmm
      try dsimp only
      repeat ((fail_if_success (with_reducible refine wp_reg (id := 13) ?_)); (first | go_values | go_skip | go_step | go_guarded | go_upon | go_in | go_back | fail))
      with_reducible refine wp_reg (id := 13) ?_
      refine wpO_want rfl ?_
      go_simp
      refine wpO_done ?_
      try go_frame
      go_wp2_with fail
      obtain ⟨I6_6, hI6_60⟩ : ∃ I : Nat → Act → World → Prop, I = fun fi a' wr => ∃ (i : Nat), a'.tmps.size = 197 ∧ a'.tmps.getD 4 undef = .pointer (some ⟨r4, 0, none⟩) ∧ a'.tmps.getD 6 undef = .slice A6 m c6 ∧ a'.tmps.getD 8 undef = .slice A8 m c8 ∧ a'.tmps.getD 13 undef = .int .i64 (i : Nat) ∧ a'.defers = [] ∧ i ≤ V.length ∧ Sp y6 [] y6 [] [] [] wr ∧ fi = V.length - i := ⟨_, rfl⟩
      have hI6_6 := hide hI6_60
      clear hI6_60
      refine wp_loop_ix I6_6 (V.length - 0) ?_ ?_
      · rw [unhide hI6_6]; exact ⟨0, rfl, rfl, rfl, rfl, rfl, rfl, Nat.zero_le _, unhide hP, rfl⟩
      · rintro fi ⟨tm, dfs⟩ wr hrel
        rw [unhide hI6_6] at hrel
        obtain ⟨i, hsz, e4, e6, e8, e13, hdf, hik, hPr, hfm⟩ := hrel
        obtain ⟨us, rfl⟩ : ∃ us : Nat → Value, tm = #[us 0, us 1, us 2, us 3, us 4, us 5, us 6, us 7, us 8, us 9, us 10, us 11, us 12, us 13, us 14, us 15, us 16, us 17, us 18, us 19, us 20, us 21, us 22, us 23, us 24, us 25, us 26, us 27, us 28, us 29, us 30, us 31, us 32, us 33, us 34, us 35, us 36, us 37, us 38, us 39, us 40, us 41, us 42, us 43, us 44, us 45, us 46, us 47, us 48, us 49, us 50, us 51, us 52, us 53, us 54, us 55, us 56, us 57, us 58, us 59, us 60, us 61, us 62, us 63, us 64, us 65, us 66, us 67, us 68, us 69, us 70, us 71, us 72, us 73, us 74, us 75, us 76, us 77, us 78, us 79, us 80, us 81, us 82, us 83, us 84, us 85, us 86, us 87, us 88, us 89, us 90, us 91, us 92, us 93, us 94, us 95, us 96, us 97, us 98, us 99, us 100, us 101, us 102, us 103, us 104, us 105, us 106, us 107, us 108, us 109, us 110, us 111, us 112, us 113, us 114, us 115, us 116, us 117, us 118, us 119, us 120, us 121, us 122, us 123, us 124, us 125, us 126, us 127, us 128, us 129, us 130, us 131, us 132, us 133, us 134, us 135, us 136, us 137, us 138, us 139, us 140, us 141, us 142, us 143, us 144, us 145, us 146, us 147, us 148, us 149, us 150, us 151, us 152, us 153, us 154, us 155, us 156, us 157, us 158, us 159, us 160, us 161, us 162, us 163, us 164, us 165, us 166, us 167, us 168, us 169, us 170, us 171, us 172, us 173, us 174, us 175, us 176, us 177, us 178, us 179, us 180, us 181, us 182, us 183, us 184, us 185, us 186, us 187, us 188, us 189, us 190, us 191, us 192, us 193, us 194, us 195, us 196] := ⟨fun i => tm.getD i undef, arr_fn hsz⟩
        have h4 : us 4 = .pointer (some ⟨r4, 0, none⟩) := e4
        have h6 : us 6 = .slice A6 m c6 := e6
        have h8 : us 8 = .slice A8 m c8 := e8
        have h13 : us 13 = .int .i64 (i : Nat) := e13
        have hdf2 : dfs = [] := hdf
        subst hdf2
        clear hdf hsz e4 e6 e8 e13
        simp only [h4, h6, h8, h13]
        clear h4 h6 h8 h13
        clear hP
        have hP := hide hPr
        have hfm' := hide hfm
        clear hPr hfm
        by_cases hlt : i < V.length
        · have hil : (i : Int) < (V.length : Int) := by omega
          have hi2 := hide hlt
          have hib : (i : Int) ≤ 1024 := by have := unhide hVl; omega
          obtain ⟨x, hx⟩ : ∃ x, x = V[i].1 := ⟨_, rfl⟩
          have hmemv : x ∈ V.map (·.1) := by rw [hx]; exact List.mem_map.2 ⟨_, List.getElem_mem hlt, rfl⟩
          have hroot := hide ((unhide hF').root _ hmemv)
          have hmp := hide (show 0 < m by
            refine Nat.pos_of_ne_zero fun h0 => ?_
            have h := unhide hroot
            rw [← unhide hm', h0] at h
            simp at h)
          obtain ⟨bV, oV, rfl, d0, d1, d2⟩ := atV (unhide hsV) hlt
          clear d1 d2
          have cV := hide (fun W (hW : Ext y6 W) => show W.cell? ⟨bV, oV + i * 3, none⟩ = some (.int .i64 x) by rw [hx]; exact d0 W hW)
          obtain ⟨b6, o6, rfl, hb6, hcl0⟩ := SlAt.sets (unhide hs6) (by rw [← unhide hm']; exact unhide hmp)
          have hcl := hide (fun (k : Nat) (h : k < l.length) W (hW : Ext _ W) => hcl0 k h [] W (hW.keep []) (by simp))
          clear d0 hx hmemv hcl0 hb6 hlt hik
          have q0 := ((unhide hB4).ext (unhide hP).extf).cells 0 (v := .slice (some ⟨bV, oV, none⟩) V.length cA) rfl
          have hself := Ext.refl wr
          try dsimp only
          repeat ((fail_if_success (with_reducible refine wp_reg (id := 14) ?_)); (first | go_values | go_skip | go_step | go_guarded | go_upon | go_in | go_back | fail))
          with_reducible refine wp_reg (id := 14) ?_
          iterate 5
            refine wpO_want rfl ?_
            go_simp
          clear q0 hself
          refine wpO_done ?_
          try go_frame
          try dsimp only
          repeat ((fail_if_success (with_reducible refine wp_reg (id := 16) ?_)); (first | go_values | go_skip | go_step | go_guarded | go_upon | go_in | go_back | fail))
          with_reducible refine wp_reg (id := 16) ?_
          refine wpO_want rfl ?_
          go_simp
          refine wpO_done ?_
          try go_frame
          try dsimp only
          repeat ((fail_if_success (with_reducible refine wp_reg (id := 17) ?_)); (first | go_values | go_skip | go_step | go_guarded | go_upon | go_in | go_back | fail))
          with_reducible refine wp_reg (id := 17) ?_
          refine wpO_want rfl ?_
          go_simp
          refine wpO_done ?_
          try go_frame
          go_wp2_with fail
          obtain ⟨I6_10, hI6_100⟩ : ∃ I : Nat → Act → World → Prop, I = fun fk a' wr => ∃ (k : Nat), ∃ (n : Nat), a'.tmps.size = 197 ∧ a'.tmps.getD 4 undef = .pointer (some ⟨r4, 0, none⟩) ∧ a'.tmps.getD 6 undef = .slice (some ⟨b6, o6, none⟩) m c6 ∧ a'.tmps.getD 8 undef = .slice A8 m c8 ∧ a'.tmps.getD 13 undef = .int .i64 (i : Nat) ∧ a'.tmps.getD 14 undef = .int .i64 (n : Nat) ∧ a'.tmps.getD 15 undef = .int .i64 (k : Nat) ∧ a'.defers = [] ∧ k ≤ m ∧ n = (List.range k).countP (rootB l up x) ∧ Sp y6 [] y6 [] [] [] wr ∧ fk = m - k := ⟨_, rfl⟩
          have hI6_10 := hide hI6_100
          clear hI6_100
          refine wp_loop_ix I6_10 (m - 0) ?_ ?_
          · rw [unhide hI6_10]; exact ⟨0, 0, rfl, rfl, rfl, rfl, rfl, rfl, rfl, rfl, Nat.zero_le _, rfl, unhide hP, rfl⟩
          · rintro fk ⟨tm, dfs⟩ wr hrel
            rw [unhide hI6_10] at hrel
            obtain ⟨k, n, hsz, e4, e6, e8, e13, e14, e15, hdf, hkm, hn, hPr, hfk⟩ := hrel
            obtain ⟨us, rfl⟩ : ∃ us : Nat → Value, tm = #[us 0, us 1, us 2, us 3, us 4, us 5, us 6, us 7, us 8, us 9, us 10, us 11, us 12, us 13, us 14, us 15, us 16, us 17, us 18, us 19, us 20, us 21, us 22, us 23, us 24, us 25, us 26, us 27, us 28, us 29, us 30, us 31, us 32, us 33, us 34, us 35, us 36, us 37, us 38, us 39, us 40, us 41, us 42, us 43, us 44, us 45, us 46, us 47, us 48, us 49, us 50, us 51, us 52, us 53, us 54, us 55, us 56, us 57, us 58, us 59, us 60, us 61, us 62, us 63, us 64, us 65, us 66, us 67, us 68, us 69, us 70, us 71, us 72, us 73, us 74, us 75, us 76, us 77, us 78, us 79, us 80, us 81, us 82, us 83, us 84, us 85, us 86, us 87, us 88, us 89, us 90, us 91, us 92, us 93, us 94, us 95, us 96, us 97, us 98, us 99, us 100, us 101, us 102, us 103, us 104, us 105, us 106, us 107, us 108, us 109, us 110, us 111, us 112, us 113, us 114, us 115, us 116, us 117, us 118, us 119, us 120, us 121, us 122, us 123, us 124, us 125, us 126, us 127, us 128, us 129, us 130, us 131, us 132, us 133, us 134, us 135, us 136, us 137, us 138, us 139, us 140, us 141, us 142, us 143, us 144, us 145, us 146, us 147, us 148, us 149, us 150, us 151, us 152, us 153, us 154, us 155, us 156, us 157, us 158, us 159, us 160, us 161, us 162, us 163, us 164, us 165, us 166, us 167, us 168, us 169, us 170, us 171, us 172, us 173, us 174, us 175, us 176, us 177, us 178, us 179, us 180, us 181, us 182, us 183, us 184, us 185, us 186, us 187, us 188, us 189, us 190, us 191, us 192, us 193, us 194, us 195, us 196] := ⟨fun i => tm.getD i undef, arr_fn hsz⟩
            have h4 : us 4 = .pointer (some ⟨r4, 0, none⟩) := e4
            have h6 : us 6 = .slice (some ⟨b6, o6, none⟩) m c6 := e6
            have h8 : us 8 = .slice A8 m c8 := e8
            have h13 : us 13 = .int .i64 (i : Nat) := e13
            have h14 : us 14 = .int .i64 (n : Nat) := e14
            have h15 : us 15 = .int .i64 (k : Nat) := e15
            have hdf2 : dfs = [] := hdf
            subst hdf2
            clear hdf hsz e4 e6 e8 e13 e14 e15
            simp only [h4, h6, h8, h13, h14, h15]
            clear h4 h6 h8 h13 h14 h15
            clear hP
            have hP := hide hPr
            have hn' := hide hn
            have hfk' := hide hfk
            clear hPr hn hfk
            by_cases hlt : k < m
            · have hil2 : (k : Int) < (m : Int) := by omega
              have hk2 := hide hlt
              have hkb : (k : Int) ≤ 1025 := by have := unhide hmb; omega
              have hkU : k < up.length := by rw [← unhide hmu]; exact hlt
              have hkL : k < l.length := by rw [← unhide hm']; exact hlt
              have hup := (unhide hF').up1 k hkU
              rw [← unhide hm'] at hup
              have hnb : (n : Int) ≤ 1025 := by have h := List.countP_le_length (p := rootB l up x) (l := List.range k); rw [← unhide hn', List.length_range] at h; omega
              have hnx := countP_next (rootB l up x) k
              rw [← unhide hn'] at hnx
              obtain ⟨b8, o8, rfl, hcz⟩ := cellI (unhide hs8) hkU
              clear hcz
              obtain ⟨u, hu⟩ : ∃ u, u = up[k] := ⟨_, rfl⟩
              obtain ⟨ck, hck⟩ : ∃ c, c = l[k] := ⟨_, rfl⟩
              rw [← hu] at hup
              rw [rootB_cases (c := ck) (u := u) (by rw [getD_get hkL, hck]) (by rw [getU hkU, hu])] at hnx
              have hnx' := hide hnx
              have cu := hide (fun W (hW : Ext wr W) => slE ((unhide hs8).ext (unhide hP).extf) hkU W hW)
              rw [← hu] at cu
              have cs := hide (fun W (hW : Ext wr W) => unhide hcl k hkL W ((unhide hP).extf.trans hW))
              rw [← hck] at cs
              have hup' := hide hup
              clear hu hck hnx hkm hlt
              have hwk : IntKind.i64.wrap ((k : Int) + (m : Int)) = (k : Int) + (m : Int) := IntWalk.i64_in _ (by have := unhide hmb; omega)
              have hg1 : ¬ u ≥ (k : Int) + (m : Int) := by have := (unhide hup').1; omega
              have hg2 : ¬ u ≥ (m : Int) := by have := (unhide hup').1; omega
              try dsimp only
              repeat ((fail_if_success (with_reducible refine wp_reg (id := 18) ?_)); (first | go_values | go_skip | go_step | go_guarded | go_upon | go_in | go_back | fail))
              with_reducible refine wp_reg (id := 18) ?_
              iterate 4
                refine wpO_want rfl ?_
                go_simp
              refine wpO_done ?_
              try go_frame
              have c0 := unhide cu
              have hself := Ext.refl wr
              by_cases hk0 : k = 0
              · have hk3 : ¬ 0 < k := by omega
                replace hk0 := hide hk0
                try dsimp only
                repeat ((fail_if_success (with_reducible refine wp_reg (id := 20) ?_)); (first | go_values | go_skip | go_step | go_guarded | go_upon | go_in | go_back | fail))
                with_reducible refine wp_reg (id := 20) ?_
                iterate 22
                  refine wpO_want rfl ?_
                  go_simp
                refine wpO_out (by rfl) ?_
                go_frame
                refine wpO_out (by rfl) ?_
                go_frame
                refine wpO_out (by rfl) ?_
                go_frame
                refine wpO_out (by rfl) ?_
                go_frame
                refine wpO_out (by rfl) ?_
                go_frame
                iterate 2
                  refine wpO_want rfl ?_
                  go_simp
                refine wpO_done ?_
                try go_frame
                clear c0 hself hwk hg1 hg2 hk3
                go_wp2_with fail
                obtain ⟨h1, hh1⟩ : ∃ h, h = decide (x ∈ toL ck) := ⟨_, rfl⟩
                rw [← hh1] at hnx'
                have hh1' := hide hh1
                clear hh1
                have c0 := fun W (hW : Keep [] wr W) => unhide cu W hW.ext
                have c1 := fun W (hW : Keep [] wr W) => unhide cV W ((unhide hP).extf.trans hW.ext)
                have q0 := fun W (hW : Keep [] wr W) => ((unhide hB4).ext (unhide hP).extf).cells 0 (v := .slice (some ⟨bV, oV, none⟩) V.length cA) rfl W hW.ext
                have hself := Keep.refl [] wr
                cases h1 with
                | false =>
                  refine wp_regionK (P := Tryz.prog) [] [0,1,2,3,4,5,6,7,8,9,10,11,12,13,14,15,16,17,18,19,20,21,22,23,24,25,26,27,28,29,30,31,32,33,34] [] 0 #[true,true,true,true,true,true,true,true,true,true,true,true,true,true,true,true,true,true,true,true,true,true,true,true,true,true,true,true,true,true,true,true,true,true,true] (by kernel_rfl) (by kernel_rfl) rfl (by rfl) ?_
                  iterate 3
                    refine ql_want (v := ?_) rfl (by rfl) (fun W hW => ?_) ?_
                    rotate_left
                    · go_simp
                      first | done | rfl
                    go_frame
                  refine ql_want (v := .agg (setC ck)) rfl (by rfl) (fun W hW => qUpon_ofX (load_SetR rfl rfl (unhide cs W hW.ext))) ?_
                  go_frame
                  iterate 6
                    refine ql_want (v := ?_) rfl (by rfl) (fun W hW => ?_) ?_
                    rotate_left
                    · go_simp
                      first | done | rfl
                    go_frame
                  refine ql_want (v := .bool false) rfl (by rfl) (fun W hW => ?_) ?_
                  · go_simp
                    refine (has_any ck x W).mono ?_
                    rw [hasD, ← unhide hh1']
                    rintro _ _ ⟨h1, h2⟩
                    exact ⟨_, h1, rfl, h2⟩
                  go_frame
                  iterate 1
                    refine ql_want (v := ?_) rfl (by rfl) (fun W hW => ?_) ?_
                    rotate_left
                    · go_simp
                      first | done | rfl
                    go_frame
                  iterate 23
                    first
                    | (refine ql_skip rfl (by rfl) ?_)
                    | (refine ql_want (v := ?_) rfl (by rfl) (fun W hW => ?_) ?_; rotate_left; (go_simp; (first | done | rfl)))
                    try go_frame
                  refine wpQL_nil (fun y7 hxq => ?_)
                  replace hP : Hid (Sp y6 [] y6 [] [] [] y7) := hide ((unhide hP).ext hxq)
                  clear hxq
                  clear c0 c1 q0 hself
                  refine wpX_done (by kernel_rfl) ?_
                  try go_frame
                  go_wp2_with fail
                  have h1 := unhide hk2
                  refine ⟨m - (k + 1), ?_, by have := unhide hfk'; omega⟩
                  rw [unhide hI6_10]
                  exact ⟨k + 1, n, (by first | rfl | trivial), (by first | rfl | trivial), (by first | rfl | trivial), (by first | rfl | trivial), (by first | rfl | trivial), (by first | rfl | trivial), (by first | rfl | (show _ = Value.int _ _; go_num) | go_num), (by first | rfl | trivial), by omega, by rw [unhide hnx']; simp, unhide hP, rfl⟩
                | true =>
                  by_cases hu0 : u < 0
                  · skip
                    refine wp_regionK (P := Tryz.prog) [] [0,1,2,3,4,5,6,7,8,9,10,11,12,13,14,15,16,17,18,19,20,21,22,23,24,25,26,27,28,29,30,31,32,33,34] [] 0 #[true,true,true,true,true,true,true,true,true,true,true,true,true,true,true,true,true,true,true,true,true,true,true,true,true,true,true,true,true,true,true,true,true,true,true] (by kernel_rfl) (by kernel_rfl) rfl (by rfl) ?_
                    iterate 3
                      refine ql_want (v := ?_) rfl (by rfl) (fun W hW => ?_) ?_
                      rotate_left
                      · go_simp
                        first | done | rfl
                      go_frame
                    refine ql_want (v := .agg (setC ck)) rfl (by rfl) (fun W hW => qUpon_ofX (load_SetR rfl rfl (unhide cs W hW.ext))) ?_
                    go_frame
                    iterate 6
                      refine ql_want (v := ?_) rfl (by rfl) (fun W hW => ?_) ?_
                      rotate_left
                      · go_simp
                        first | done | rfl
                      go_frame
                    refine ql_want (v := .bool true) rfl (by rfl) (fun W hW => ?_) ?_
                    · go_simp
                      refine (has_any ck x W).mono ?_
                      rw [hasD, ← unhide hh1']
                      rintro _ _ ⟨h1, h2⟩
                      exact ⟨_, h1, rfl, h2⟩
                    go_frame
                    iterate 1
                      refine ql_want (v := ?_) rfl (by rfl) (fun W hW => ?_) ?_
                      rotate_left
                      · go_simp
                        first | done | rfl
                      go_frame
                    iterate 6
                      refine ql_want (v := ?_) rfl (by rfl) (fun W hW => ?_) ?_
                      rotate_left
                      · go_simp
                        first | done | rfl
                      go_frame
                    iterate 17
                      first
                      | (refine ql_skip rfl (by rfl) ?_)
                      | (refine ql_want (v := ?_) rfl (by rfl) (fun W hW => ?_) ?_; rotate_left; (go_simp; (first | done | rfl)))
                      try go_frame
                    replace hu0 := hide hu0
                    refine wpQL_nil (fun y7 hxq => ?_)
                    replace hP : Hid (Sp y6 [] y6 [] [] [] y7) := hide ((unhide hP).ext hxq)
                    clear hxq
                    clear c0 c1 q0 hself
                    refine wpX_done (by kernel_rfl) ?_
                    try go_frame
                    go_wp2_with fail
                    have h1 := unhide hk2
                    refine ⟨m - (k + 1), ?_, by have := unhide hfk'; omega⟩
                    rw [unhide hI6_10]
                    exact ⟨k + 1, n + 1, (by first | rfl | trivial), (by first | rfl | trivial), (by first | rfl | trivial), (by first | rfl | trivial), (by first | rfl | trivial), (by first | rfl | (show _ = Value.int _ _; go_num) | go_num), (by first | rfl | (show _ = Value.int _ _; go_num) | go_num), (by first | rfl | trivial), by omega, by rw [unhide hnx', decide_eq_true (unhide hu0)]; simp, unhide hP, rfl⟩
                  · obtain ⟨uu, rfl⟩ : ∃ n : Nat, u = (n : Int) := ⟨u.toNat, by omega⟩
                    have huL : uu < l.length := by have := (unhide hup').1; have := unhide hm'; omega
                    have hum : (uu : Int) < (m : Int) := (unhide hup').1
                    obtain ⟨cp, hcp⟩ : ∃ c, c = l[uu] := ⟨_, rfl⟩
                    have cs2 := hide (fun W (hW : Ext wr W) => unhide hcl uu huL W ((unhide hP).extf.trans hW))
                    rw [← hcp] at cs2
                    obtain ⟨h2, hh2⟩ : ∃ h, h = decide (x ∈ toL cp) := ⟨_, rfl⟩
                    have hnx2 := unhide hnx'
                    rw [Int.toNat_natCast, getD_get huL, ← hcp, ← hh2, decide_eq_false hu0] at hnx2
                    have hnx3 := hide hnx2
                    have hh2' := hide hh2
                    clear hcp hh2 hnx2
                    refine wp_regionK (P := Tryz.prog) [] [0,1,2,3,4,5,6,7,8,9,10,11,12,13,14,15,16,17,18,19,20,21,22,23,24,25,26,27,28,29,30,31,32,33,34] [] 0 #[true,true,true,true,true,true,true,true,true,true,true,true,true,true,true,true,true,true,true,true,true,true,true,true,true,true,true,true,true,true,true,true,true,true,true] (by kernel_rfl) (by kernel_rfl) rfl (by rfl) ?_
                    iterate 3
                      refine ql_want (v := ?_) rfl (by rfl) (fun W hW => ?_) ?_
                      rotate_left
                      · go_simp
                        first | done | rfl
                      go_frame
                    refine ql_want (v := .agg (setC ck)) rfl (by rfl) (fun W hW => qUpon_ofX (load_SetR rfl rfl (unhide cs W hW.ext))) ?_
                    go_frame
                    iterate 6
                      refine ql_want (v := ?_) rfl (by rfl) (fun W hW => ?_) ?_
                      rotate_left
                      · go_simp
                        first | done | rfl
                      go_frame
                    refine ql_want (v := .bool true) rfl (by rfl) (fun W hW => ?_) ?_
                    · go_simp
                      refine (has_any ck x W).mono ?_
                      rw [hasD, ← unhide hh1']
                      rintro _ _ ⟨h1, h2⟩
                      exact ⟨_, h1, rfl, h2⟩
                    go_frame
                    iterate 1
                      refine ql_want (v := ?_) rfl (by rfl) (fun W hW => ?_) ?_
                      rotate_left
                      · go_simp
                        first | done | rfl
                      go_frame
                    iterate 6
                      refine ql_want (v := ?_) rfl (by rfl) (fun W hW => ?_) ?_
                      rotate_left
                      · go_simp
                        first | done | rfl
                      go_frame
                    iterate 6
                      refine ql_want (v := ?_) rfl (by rfl) (fun W hW => ?_) ?_
                      rotate_left
                      · go_simp
                        first | done | rfl
                      go_frame
                    refine ql_want (v := .agg (setC cp)) rfl (by rfl) (fun W hW => qUpon_ofX (load_SetR rfl rfl (unhide cs2 W hW.ext))) ?_
                    go_frame
                    iterate 6
                      refine ql_want (v := ?_) rfl (by rfl) (fun W hW => ?_) ?_
                      rotate_left
                      · go_simp
                        first | done | rfl
                      go_frame
                    refine ql_want (v := .bool h2) rfl (by rfl) (fun W hW => ?_) ?_
                    · go_simp
                      refine (has_any cp x W).mono ?_
                      rw [hasD, ← unhide hh2']
                      rintro _ _ ⟨h1, h2⟩
                      exact ⟨_, h1, rfl, h2⟩
                    go_frame
                    iterate 3
                      refine ql_want (v := ?_) rfl (by rfl) (fun W hW => ?_) ?_
                      rotate_left
                      · go_simp
                        first | done | rfl
                      go_frame
                    refine wpQL_nil (fun y7 hxq => ?_)
                    replace hP : Hid (Sp y6 [] y6 [] [] [] y7) := hide ((unhide hP).ext hxq)
                    clear hxq
                    clear c0 c1 q0 hself
                    refine wpX_done (by kernel_rfl) ?_
                    try go_frame
                    clear hu0 hum
                    cases h2 with
                    | false =>
                      go_wp2_with fail
                      have h1 := unhide hk2
                      refine ⟨m - (k + 1), ?_, by have := unhide hfk'; omega⟩
                      rw [unhide hI6_10]
                      exact ⟨k + 1, n + 1, (by first | rfl | trivial), (by first | rfl | trivial), (by first | rfl | trivial), (by first | rfl | trivial), (by first | rfl | trivial), (by first | rfl | (show _ = Value.int _ _; go_num) | go_num), (by first | rfl | (show _ = Value.int _ _; go_num) | go_num), (by first | rfl | trivial), by omega, by rw [unhide hnx3]; rfl, unhide hP, rfl⟩
                    | true =>
                      go_wp2_with fail
                      have h1 := unhide hk2
                      refine ⟨m - (k + 1), ?_, by have := unhide hfk'; omega⟩
                      rw [unhide hI6_10]
                      exact ⟨k + 1, n, (by first | rfl | trivial), (by first | rfl | trivial), (by first | rfl | trivial), (by first | rfl | trivial), (by first | rfl | trivial), (by first | rfl | trivial), (by first | rfl | (show _ = Value.int _ _; go_num) | go_num), (by first | rfl | trivial), by omega, by rw [unhide hnx3]; rfl, unhide hP, rfl⟩
              · have hk3 : 0 < k := by omega
                have hu2 : ¬ u < 0 := by have := (unhide hup').2 (by omega); omega
                try dsimp only
                repeat ((fail_if_success (with_reducible refine wp_reg (id := 20) ?_)); (first | go_values | go_skip | go_step | go_guarded | go_upon | go_in | go_back | fail))
                with_reducible refine wp_reg (id := 20) ?_
                iterate 29
                  refine wpO_want rfl ?_
                  go_simp
                refine wpO_done ?_
                try go_frame
                clear c0 hself hwk hg1 hg2 hk3 hk0 hu2
                go_wp2_with fail
                obtain ⟨h1, hh1⟩ : ∃ h, h = decide (x ∈ toL ck) := ⟨_, rfl⟩
                rw [← hh1] at hnx'
                have hh1' := hide hh1
                clear hh1
                have c0 := fun W (hW : Keep [] wr W) => unhide cu W hW.ext
                have c1 := fun W (hW : Keep [] wr W) => unhide cV W ((unhide hP).extf.trans hW.ext)
                have q0 := fun W (hW : Keep [] wr W) => ((unhide hB4).ext (unhide hP).extf).cells 0 (v := .slice (some ⟨bV, oV, none⟩) V.length cA) rfl W hW.ext
                have hself := Keep.refl [] wr
                cases h1 with
                | false =>
                  refine wp_regionK (P := Tryz.prog) [] [0,1,2,3,4,5,6,7,8,9,10,11,12,13,14,15,16,17,18,19,20,21,22,23,24,25,26,27,28,29,30,31,32,33,34] [] 0 #[true,true,true,true,true,true,true,true,true,true,true,true,true,true,true,true,true,true,true,true,true,true,true,true,true,true,true,true,true,true,true,true,true,true,true] (by kernel_rfl) (by kernel_rfl) rfl (by rfl) ?_
                  iterate 3
                    refine ql_want (v := ?_) rfl (by rfl) (fun W hW => ?_) ?_
                    rotate_left
                    · go_simp
                      first | done | rfl
                    go_frame
                  refine ql_want (v := .agg (setC ck)) rfl (by rfl) (fun W hW => qUpon_ofX (load_SetR rfl rfl (unhide cs W hW.ext))) ?_
                  go_frame
                  iterate 6
                    refine ql_want (v := ?_) rfl (by rfl) (fun W hW => ?_) ?_
                    rotate_left
                    · go_simp
                      first | done | rfl
                    go_frame
                  refine ql_want (v := .bool false) rfl (by rfl) (fun W hW => ?_) ?_
                  · go_simp
                    refine (has_any ck x W).mono ?_
                    rw [hasD, ← unhide hh1']
                    rintro _ _ ⟨h1, h2⟩
                    exact ⟨_, h1, rfl, h2⟩
                  go_frame
                  iterate 1
                    refine ql_want (v := ?_) rfl (by rfl) (fun W hW => ?_) ?_
                    rotate_left
                    · go_simp
                      first | done | rfl
                    go_frame
                  iterate 23
                    first
                    | (refine ql_skip rfl (by rfl) ?_)
                    | (refine ql_want (v := ?_) rfl (by rfl) (fun W hW => ?_) ?_; rotate_left; (go_simp; (first | done | rfl)))
                    try go_frame
                  refine wpQL_nil (fun y7 hxq => ?_)
                  replace hP : Hid (Sp y6 [] y6 [] [] [] y7) := hide ((unhide hP).ext hxq)
                  clear hxq
                  clear c0 c1 q0 hself
                  refine wpX_done (by kernel_rfl) ?_
                  try go_frame
                  go_wp2_with fail
                  have h1 := unhide hk2
                  refine ⟨m - (k + 1), ?_, by have := unhide hfk'; omega⟩
                  rw [unhide hI6_10]
                  exact ⟨k + 1, n, (by first | rfl | trivial), (by first | rfl | trivial), (by first | rfl | trivial), (by first | rfl | trivial), (by first | rfl | trivial), (by first | rfl | trivial), (by first | rfl | (show _ = Value.int _ _; go_num) | go_num), (by first | rfl | trivial), by omega, by rw [unhide hnx']; simp, unhide hP, rfl⟩
                | true =>
                  by_cases hu0 : u < 0
                  · skip
                    refine wp_regionK (P := Tryz.prog) [] [0,1,2,3,4,5,6,7,8,9,10,11,12,13,14,15,16,17,18,19,20,21,22,23,24,25,26,27,28,29,30,31,32,33,34] [] 0 #[true,true,true,true,true,true,true,true,true,true,true,true,true,true,true,true,true,true,true,true,true,true,true,true,true,true,true,true,true,true,true,true,true,true,true] (by kernel_rfl) (by kernel_rfl) rfl (by rfl) ?_
                    iterate 3
                      refine ql_want (v := ?_) rfl (by rfl) (fun W hW => ?_) ?_
                      rotate_left
                      · go_simp
                        first | done | rfl
                      go_frame
                    refine ql_want (v := .agg (setC ck)) rfl (by rfl) (fun W hW => qUpon_ofX (load_SetR rfl rfl (unhide cs W hW.ext))) ?_
                    go_frame
                    iterate 6
                      refine ql_want (v := ?_) rfl (by rfl) (fun W hW => ?_) ?_
                      rotate_left
                      · go_simp
                        first | done | rfl
                      go_frame
                    refine ql_want (v := .bool true) rfl (by rfl) (fun W hW => ?_) ?_
                    · go_simp
                      refine (has_any ck x W).mono ?_
                      rw [hasD, ← unhide hh1']
                      rintro _ _ ⟨h1, h2⟩
                      exact ⟨_, h1, rfl, h2⟩
                    go_frame
                    iterate 1
                      refine ql_want (v := ?_) rfl (by rfl) (fun W hW => ?_) ?_
                      rotate_left
                      · go_simp
                        first | done | rfl
                      go_frame
                    iterate 6
                      refine ql_want (v := ?_) rfl (by rfl) (fun W hW => ?_) ?_
                      rotate_left
                      · go_simp
                        first | done | rfl
                      go_frame
                    iterate 17
                      first
                      | (refine ql_skip rfl (by rfl) ?_)
                      | (refine ql_want (v := ?_) rfl (by rfl) (fun W hW => ?_) ?_; rotate_left; (go_simp; (first | done | rfl)))
                      try go_frame
                    replace hu0 := hide hu0
                    refine wpQL_nil (fun y7 hxq => ?_)
                    replace hP : Hid (Sp y6 [] y6 [] [] [] y7) := hide ((unhide hP).ext hxq)
                    clear hxq
                    clear c0 c1 q0 hself
                    refine wpX_done (by kernel_rfl) ?_
                    try go_frame
                    go_wp2_with fail
                    have h1 := unhide hk2
                    refine ⟨m - (k + 1), ?_, by have := unhide hfk'; omega⟩
                    rw [unhide hI6_10]
                    exact ⟨k + 1, n + 1, (by first | rfl | trivial), (by first | rfl | trivial), (by first | rfl | trivial), (by first | rfl | trivial), (by first | rfl | trivial), (by first | rfl | (show _ = Value.int _ _; go_num) | go_num), (by first | rfl | (show _ = Value.int _ _; go_num) | go_num), (by first | rfl | trivial), by omega, by rw [unhide hnx', decide_eq_true (unhide hu0)]; simp, unhide hP, rfl⟩
                  · obtain ⟨uu, rfl⟩ : ∃ n : Nat, u = (n : Int) := ⟨u.toNat, by omega⟩
                    have huL : uu < l.length := by have := (unhide hup').1; have := unhide hm'; omega
                    have hum : (uu : Int) < (m : Int) := (unhide hup').1
                    obtain ⟨cp, hcp⟩ : ∃ c, c = l[uu] := ⟨_, rfl⟩
                    have cs2 := hide (fun W (hW : Ext wr W) => unhide hcl uu huL W ((unhide hP).extf.trans hW))
                    rw [← hcp] at cs2
                    obtain ⟨h2, hh2⟩ : ∃ h, h = decide (x ∈ toL cp) := ⟨_, rfl⟩
                    have hnx2 := unhide hnx'
                    rw [Int.toNat_natCast, getD_get huL, ← hcp, ← hh2, decide_eq_false hu0] at hnx2
                    have hnx3 := hide hnx2
                    have hh2' := hide hh2
                    clear hcp hh2 hnx2
                    refine wp_regionK (P := Tryz.prog) [] [0,1,2,3,4,5,6,7,8,9,10,11,12,13,14,15,16,17,18,19,20,21,22,23,24,25,26,27,28,29,30,31,32,33,34] [] 0 #[true,true,true,true,true,true,true,true,true,true,true,true,true,true,true,true,true,true,true,true,true,true,true,true,true,true,true,true,true,true,true,true,true,true,true] (by kernel_rfl) (by kernel_rfl) rfl (by rfl) ?_
                    iterate 3
                      refine ql_want (v := ?_) rfl (by rfl) (fun W hW => ?_) ?_
                      rotate_left
                      · go_simp
                        first | done | rfl
                      go_frame
                    refine ql_want (v := .agg (setC ck)) rfl (by rfl) (fun W hW => qUpon_ofX (load_SetR rfl rfl (unhide cs W hW.ext))) ?_
                    go_frame
                    iterate 6
                      refine ql_want (v := ?_) rfl (by rfl) (fun W hW => ?_) ?_
                      rotate_left
                      · go_simp
                        first | done | rfl
                      go_frame
                    refine ql_want (v := .bool true) rfl (by rfl) (fun W hW => ?_) ?_
                    · go_simp
                      refine (has_any ck x W).mono ?_
                      rw [hasD, ← unhide hh1']
                      rintro _ _ ⟨h1, h2⟩
                      exact ⟨_, h1, rfl, h2⟩
                    go_frame
                    iterate 1
                      refine ql_want (v := ?_) rfl (by rfl) (fun W hW => ?_) ?_
                      rotate_left
                      · go_simp
                        first | done | rfl
                      go_frame
                    iterate 6
                      refine ql_want (v := ?_) rfl (by rfl) (fun W hW => ?_) ?_
                      rotate_left
                      · go_simp
                        first | done | rfl
                      go_frame
                    iterate 6
                      refine ql_want (v := ?_) rfl (by rfl) (fun W hW => ?_) ?_
                      rotate_left
                      · go_simp
                        first | done | rfl
                      go_frame
                    refine ql_want (v := .agg (setC cp)) rfl (by rfl) (fun W hW => qUpon_ofX (load_SetR rfl rfl (unhide cs2 W hW.ext))) ?_
                    go_frame
                    iterate 6
                      refine ql_want (v := ?_) rfl (by rfl) (fun W hW => ?_) ?_
                      rotate_left
                      · go_simp
                        first | done | rfl
                      go_frame
                    refine ql_want (v := .bool h2) rfl (by rfl) (fun W hW => ?_) ?_
                    · go_simp
                      refine (has_any cp x W).mono ?_
                      rw [hasD, ← unhide hh2']
                      rintro _ _ ⟨h1, h2⟩
                      exact ⟨_, h1, rfl, h2⟩
                    go_frame
                    iterate 3
                      refine ql_want (v := ?_) rfl (by rfl) (fun W hW => ?_) ?_
                      rotate_left
                      · go_simp
                        first | done | rfl
                      go_frame
                    refine wpQL_nil (fun y7 hxq => ?_)
                    replace hP : Hid (Sp y6 [] y6 [] [] [] y7) := hide ((unhide hP).ext hxq)
                    clear hxq
                    clear c0 c1 q0 hself
                    refine wpX_done (by kernel_rfl) ?_
                    try go_frame
                    clear hu0 hum
                    cases h2 with
                    | false =>
                      go_wp2_with fail
                      have h1 := unhide hk2
                      refine ⟨m - (k + 1), ?_, by have := unhide hfk'; omega⟩
                      rw [unhide hI6_10]
                      exact ⟨k + 1, n + 1, (by first | rfl | trivial), (by first | rfl | trivial), (by first | rfl | trivial), (by first | rfl | trivial), (by first | rfl | trivial), (by first | rfl | (show _ = Value.int _ _; go_num) | go_num), (by first | rfl | (show _ = Value.int _ _; go_num) | go_num), (by first | rfl | trivial), by omega, by rw [unhide hnx3]; rfl, unhide hP, rfl⟩
                    | true =>
                      go_wp2_with fail
                      have h1 := unhide hk2
                      refine ⟨m - (k + 1), ?_, by have := unhide hfk'; omega⟩
                      rw [unhide hI6_10]
                      exact ⟨k + 1, n, (by first | rfl | trivial), (by first | rfl | trivial), (by first | rfl | trivial), (by first | rfl | trivial), (by first | rfl | trivial), (by first | rfl | trivial), (by first | rfl | (show _ = Value.int _ _; go_num) | go_num), (by first | rfl | trivial), by omega, by rw [unhide hnx3]; rfl, unhide hP, rfl⟩
            · have hil2 : ¬ (k : Int) < (m : Int) := by omega
              obtain rfl : k = m := by omega
              obtain rfl : n = 1 := by have h := unhide hroot; rw [← unhide hm', ← unhide hn'] at h; exact h
              clear hlt hn' hfk'
              try dsimp only
              repeat ((fail_if_success (with_reducible refine wp_reg (id := 18) ?_)); (first | go_values | go_skip | go_step | go_guarded | go_upon | go_in | go_back | fail))
              with_reducible refine wp_reg (id := 18) ?_
              iterate 4
                refine wpO_want rfl ?_
                go_simp
              refine wpO_done ?_
              try go_frame
              try dsimp only
              repeat ((fail_if_success (with_reducible refine wp_reg (id := 24) ?_)); (first | go_values | go_skip | go_step | go_guarded | go_upon | go_in | go_back | fail))
              with_reducible refine wp_reg (id := 24) ?_
              iterate 2
                refine wpO_want rfl ?_
                go_simp
              refine wpO_done ?_
              try go_frame
              go_wp2_with fail
              have h1 := unhide hi2
              refine ⟨V.length - (i + 1), ?_, by have := unhide hfm'; omega⟩
              rw [unhide hI6_6]
              exact ⟨i + 1, (by first | rfl | trivial), (by first | rfl | trivial), (by first | rfl | trivial), (by first | rfl | trivial), (by first | rfl | (show _ = Value.int _ _; go_num) | go_num), (by first | rfl | trivial), by omega, unhide hP, rfl⟩
        · have hil : ¬ (i : Int) < (V.length : Int) := by omega
          have q0 := ((unhide hB4).ext (unhide hP).extf).cells 0 (v := .slice A1 V.length cA) rfl
          have hself := Ext.refl wr
          try dsimp only
          repeat ((fail_if_success (with_reducible refine wp_reg (id := 14) ?_)); (first | go_values | go_skip | go_step | go_guarded | go_upon | go_in | go_back | fail))
          with_reducible refine wp_reg (id := 14) ?_
          iterate 5
            refine wpO_want rfl ?_
            go_simp
          clear q0 hself hil hlt hik hfm'
          refine wpO_done ?_
          try go_frame
          try dsimp only
          repeat ((fail_if_success (with_reducible refine wp_reg (id := 26) ?_)); (first | go_values | go_skip | go_step | go_guarded | go_upon | go_in | go_back | fail))
          with_reducible refine wp_reg (id := 26) ?_
          refine wpO_want rfl ?_
          go_simp
          refine wpO_done ?_
          try go_frame
          go_wp2_with fail
          obtain ⟨I6_10, hI6_100⟩ : ∃ I : Nat → Act → World → Prop, I = fun fj a' wr => ∃ (j : Nat), a'.tmps.size = 197 ∧ a'.tmps.getD 4 undef = .pointer (some ⟨r4, 0, none⟩) ∧ a'.tmps.getD 6 undef = .slice A6 m c6 ∧ a'.tmps.getD 16 undef = .int .i64 (j : Nat) ∧ a'.defers = [] ∧ j ≤ E.length ∧ Sp y6 [] y6 [] [] [] wr ∧ fj = E.length - j := ⟨_, rfl⟩
          have hI6_10 := hide hI6_100
          clear hI6_100
          refine wp_loop_ix I6_10 (E.length - 0) ?_ ?_
          · rw [unhide hI6_10]; exact ⟨0, rfl, rfl, rfl, rfl, rfl, Nat.zero_le _, unhide hP, rfl⟩
          · rintro fj ⟨tm, dfs⟩ wr hrel
            rw [unhide hI6_10] at hrel
            obtain ⟨j, hsz, e4, e6, e16, hdf, hjE, hPr, hfj⟩ := hrel
            obtain ⟨us, rfl⟩ : ∃ us : Nat → Value, tm = #[us 0, us 1, us 2, us 3, us 4, us 5, us 6, us 7, us 8, us 9, us 10, us 11, us 12, us 13, us 14, us 15, us 16, us 17, us 18, us 19, us 20, us 21, us 22, us 23, us 24, us 25, us 26, us 27, us 28, us 29, us 30, us 31, us 32, us 33, us 34, us 35, us 36, us 37, us 38, us 39, us 40, us 41, us 42, us 43, us 44, us 45, us 46, us 47, us 48, us 49, us 50, us 51, us 52, us 53, us 54, us 55, us 56, us 57, us 58, us 59, us 60, us 61, us 62, us 63, us 64, us 65, us 66, us 67, us 68, us 69, us 70, us 71, us 72, us 73, us 74, us 75, us 76, us 77, us 78, us 79, us 80, us 81, us 82, us 83, us 84, us 85, us 86, us 87, us 88, us 89, us 90, us 91, us 92, us 93, us 94, us 95, us 96, us 97, us 98, us 99, us 100, us 101, us 102, us 103, us 104, us 105, us 106, us 107, us 108, us 109, us 110, us 111, us 112, us 113, us 114, us 115, us 116, us 117, us 118, us 119, us 120, us 121, us 122, us 123, us 124, us 125, us 126, us 127, us 128, us 129, us 130, us 131, us 132, us 133, us 134, us 135, us 136, us 137, us 138, us 139, us 140, us 141, us 142, us 143, us 144, us 145, us 146, us 147, us 148, us 149, us 150, us 151, us 152, us 153, us 154, us 155, us 156, us 157, us 158, us 159, us 160, us 161, us 162, us 163, us 164, us 165, us 166, us 167, us 168, us 169, us 170, us 171, us 172, us 173, us 174, us 175, us 176, us 177, us 178, us 179, us 180, us 181, us 182, us 183, us 184, us 185, us 186, us 187, us 188, us 189, us 190, us 191, us 192, us 193, us 194, us 195, us 196] := ⟨fun i => tm.getD i undef, arr_fn hsz⟩
            have h4 : us 4 = .pointer (some ⟨r4, 0, none⟩) := e4
            have h6 : us 6 = .slice A6 m c6 := e6
            have h16 : us 16 = .int .i64 (j : Nat) := e16
            have hdf2 : dfs = [] := hdf
            subst hdf2
            clear hdf hsz e4 e6 e16
            simp only [h4, h6, h16]
            clear h4 h6 h16
            clear hP
            have hP := hide hPr
            have hfj' := hide hfj
            clear hPr hfj
            by_cases hlt : j < E.length
            · have hil2 : (j : Int) < (E.length : Int) := by omega
              have hj2 := hide hlt
              have hjb : (j : Int) ≤ 4096 := by have := unhide hnE; omega
              obtain ⟨x, hx⟩ : ∃ x, x = E[j].1.1 := ⟨_, rfl⟩
              obtain ⟨y, hy⟩ : ∃ y, y = E[j].1.2 := ⟨_, rfl⟩
              have hedge : ∃ k, k < l.length ∧ x ∈ toL (l.getD k 0) ∧ y ∈ toL (l.getD k 0) := by rw [hx, hy]; exact (unhide hF').edge _ (List.getElem_mem hlt)
              have hmp := hide (show 0 < m by obtain ⟨k, h, _⟩ := hedge; rw [unhide hm']; omega)
              obtain ⟨bE, oE, rfl, d0, d1, d2, d3⟩ := atE (unhide hsE) hlt
              clear d2 d3
              have hend := hide (edgeB_end hedge)
              have cE := hide (fun W (hW : Ext y6 W) => show W.cell? ⟨bE, oE + j * 4, none⟩ = some (.int .i64 x) by rw [hx]; exact d0 W hW)
              have cF := hide (fun W (hW : Ext y6 W) => show W.cell? ⟨bE, oE + j * 4 + 1, none⟩ = some (.int .i64 y) by rw [hy]; exact d1 W hW)
              obtain ⟨b6, o6, rfl, hb6, hcl0⟩ := SlAt.sets (unhide hs6) (by rw [← unhide hm']; exact unhide hmp)
              have hcl := hide (fun (k : Nat) (h : k < l.length) W (hW : Ext _ W) => hcl0 k h [] W (hW.keep []) (by simp))
              clear d0 d1 hx hy hedge hcl0 hb6 hlt hjE
              have q0 := ((unhide hB4).ext (unhide hP).extf).cells 1 (v := .slice (some ⟨bE, oE, none⟩) E.length cB) rfl
              have hself := Ext.refl wr
              try dsimp only
              repeat ((fail_if_success (with_reducible refine wp_reg (id := 27) ?_)); (first | go_values | go_skip | go_step | go_guarded | go_upon | go_in | go_back | fail))
              with_reducible refine wp_reg (id := 27) ?_
              iterate 5
                refine wpO_want rfl ?_
                go_simp
              clear q0 hself
              refine wpO_done ?_
              try go_frame
              try dsimp only
              repeat ((fail_if_success (with_reducible refine wp_reg (id := 29) ?_)); (first | go_values | go_skip | go_step | go_guarded | go_upon | go_in | go_back | fail))
              with_reducible refine wp_reg (id := 29) ?_
              refine wpO_want rfl ?_
              go_simp
              refine wpO_done ?_
              try go_frame
              try dsimp only
              repeat ((fail_if_success (with_reducible refine wp_reg (id := 30) ?_)); (first | go_values | go_skip | go_step | go_guarded | go_upon | go_in | go_back | fail))
              with_reducible refine wp_reg (id := 30) ?_
              refine wpO_want rfl ?_
              go_simp
              refine wpO_done ?_
              try go_frame
              go_wp2_with fail
              obtain ⟨I6_14, hI6_140⟩ : ∃ I : Nat → Act → World → Prop, I = fun fk a' wr => ∃ (k : Nat), ∃ (q : Bool), a'.tmps.size = 197 ∧ a'.tmps.getD 4 undef = .pointer (some ⟨r4, 0, none⟩) ∧ a'.tmps.getD 6 undef = .slice (some ⟨b6, o6, none⟩) m c6 ∧ a'.tmps.getD 16 undef = .int .i64 (j : Nat) ∧ a'.tmps.getD 17 undef = .bool q ∧ a'.tmps.getD 18 undef = .int .i64 (k : Nat) ∧ a'.defers = [] ∧ k ≤ m ∧ q = edgeB l x y k ∧ Sp y6 [] y6 [] [] [] wr ∧ fk = m - k := ⟨_, rfl⟩
              have hI6_14 := hide hI6_140
              clear hI6_140
              refine wp_loop_ix I6_14 (m - 0) ?_ ?_
              · rw [unhide hI6_14]; exact ⟨0, false, rfl, rfl, rfl, rfl, rfl, rfl, rfl, Nat.zero_le _, rfl, unhide hP, rfl⟩
              · rintro fk ⟨tm, dfs⟩ wr hrel
                rw [unhide hI6_14] at hrel
                obtain ⟨k, q, hsz, e4, e6, e16, e17, e18, hdf, hkm, hq, hPr, hfk⟩ := hrel
                obtain ⟨us, rfl⟩ : ∃ us : Nat → Value, tm = #[us 0, us 1, us 2, us 3, us 4, us 5, us 6, us 7, us 8, us 9, us 10, us 11, us 12, us 13, us 14, us 15, us 16, us 17, us 18, us 19, us 20, us 21, us 22, us 23, us 24, us 25, us 26, us 27, us 28, us 29, us 30, us 31, us 32, us 33, us 34, us 35, us 36, us 37, us 38, us 39, us 40, us 41, us 42, us 43, us 44, us 45, us 46, us 47, us 48, us 49, us 50, us 51, us 52, us 53, us 54, us 55, us 56, us 57, us 58, us 59, us 60, us 61, us 62, us 63, us 64, us 65, us 66, us 67, us 68, us 69, us 70, us 71, us 72, us 73, us 74, us 75, us 76, us 77, us 78, us 79, us 80, us 81, us 82, us 83, us 84, us 85, us 86, us 87, us 88, us 89, us 90, us 91, us 92, us 93, us 94, us 95, us 96, us 97, us 98, us 99, us 100, us 101, us 102, us 103, us 104, us 105, us 106, us 107, us 108, us 109, us 110, us 111, us 112, us 113, us 114, us 115, us 116, us 117, us 118, us 119, us 120, us 121, us 122, us 123, us 124, us 125, us 126, us 127, us 128, us 129, us 130, us 131, us 132, us 133, us 134, us 135, us 136, us 137, us 138, us 139, us 140, us 141, us 142, us 143, us 144, us 145, us 146, us 147, us 148, us 149, us 150, us 151, us 152, us 153, us 154, us 155, us 156, us 157, us 158, us 159, us 160, us 161, us 162, us 163, us 164, us 165, us 166, us 167, us 168, us 169, us 170, us 171, us 172, us 173, us 174, us 175, us 176, us 177, us 178, us 179, us 180, us 181, us 182, us 183, us 184, us 185, us 186, us 187, us 188, us 189, us 190, us 191, us 192, us 193, us 194, us 195, us 196] := ⟨fun i => tm.getD i undef, arr_fn hsz⟩
                have h4 : us 4 = .pointer (some ⟨r4, 0, none⟩) := e4
                have h6 : us 6 = .slice (some ⟨b6, o6, none⟩) m c6 := e6
                have h16 : us 16 = .int .i64 (j : Nat) := e16
                have h17 : us 17 = .bool q := e17
                have h18 : us 18 = .int .i64 (k : Nat) := e18
                have hdf2 : dfs = [] := hdf
                subst hdf2
                clear hdf hsz e4 e6 e16 e17 e18
                simp only [h4, h6, h16, h17, h18]
                clear h4 h6 h16 h17 h18
                clear hP
                have hP := hide hPr
                have hq' := hide hq
                have hfk' := hide hfk
                clear hPr hq hfk
                by_cases hlt : k < m
                · have hil3 : (k : Int) < (m : Int) := by omega
                  have hk2 := hide hlt
                  have hkb : (k : Int) ≤ 1025 := by have := unhide hmb; omega
                  have hkL : k < l.length := by rw [← unhide hm']; exact hlt
                  obtain ⟨ck, hck⟩ : ∃ c, c = l[k] := ⟨_, rfl⟩
                  have hnx := edgeB_next l x y k
                  rw [← unhide hq', getD_get hkL, ← hck] at hnx
                  have cs := hide (fun W (hW : Ext wr W) => unhide hcl k hkL W ((unhide hP).extf.trans hW))
                  rw [← hck] at cs
                  obtain ⟨h1, hh1⟩ : ∃ h, h = decide (x ∈ toL ck) := ⟨_, rfl⟩
                  obtain ⟨h2, hh2⟩ : ∃ h, h = decide (y ∈ toL ck) := ⟨_, rfl⟩
                  rw [← hh1, ← hh2] at hnx
                  have hnx' := hide hnx
                  have hh1' := hide hh1
                  have hh2' := hide hh2
                  clear hck hnx hh1 hh2 hkm hlt
                  try dsimp only
                  repeat ((fail_if_success (with_reducible refine wp_reg (id := 31) ?_)); (first | go_values | go_skip | go_step | go_guarded | go_upon | go_in | go_back | fail))
                  with_reducible refine wp_reg (id := 31) ?_
                  iterate 4
                    refine wpO_want rfl ?_
                    go_simp
                  refine wpO_done ?_
                  try go_frame
                  go_wp2_with fail
                  have c0 := fun W (hW : Keep [] wr W) => unhide cE W ((unhide hP).extf.trans hW.ext)
                  have c1 := fun W (hW : Keep [] wr W) => unhide cF W ((unhide hP).extf.trans hW.ext)
                  have q0 := fun W (hW : Keep [] wr W) => ((unhide hB4).ext (unhide hP).extf).cells 1 (v := .slice (some ⟨bE, oE, none⟩) E.length cB) rfl W hW.ext
                  have hself := Keep.refl [] wr
                  cases q with
                  | true =>
                    refine wp_regionK (P := Tryz.prog) [] [0,1,2,3,4,5,6,7,8,9,10,11,12,13,14,15,16,17,18,19,20,21,22,23,24,25,26,27] [] 0 #[true,true,true,true,true,true,true,true,true,true,true,true,true,true,true,true,true,true,true,true,true,true,true,true,true,true,true,true] (by kernel_rfl) (by kernel_rfl) rfl (by rfl) ?_
                    iterate 2
                      refine ql_want (v := ?_) rfl (by rfl) (fun W hW => ?_) ?_
                      rotate_left
                      · go_simp
                        first | done | rfl
                      go_frame
                    iterate 26
                      first
                      | (refine ql_skip rfl (by rfl) ?_)
                      | (refine ql_want (v := ?_) rfl (by rfl) (fun W hW => ?_) ?_; rotate_left; (go_simp; (first | done | rfl)))
                      try go_frame
                    refine wpQL_nil (fun y7 hxq => ?_)
                    replace hP : Hid (Sp y6 [] y6 [] [] [] y7) := hide ((unhide hP).ext hxq)
                    clear hxq
                    clear c0 c1 q0 hself
                    refine wpX_done (by kernel_rfl) ?_
                    try go_frame
                    go_wp2_with fail
                    have h1 := unhide hk2
                    refine ⟨m - (k + 1), ?_, by have := unhide hfk'; omega⟩
                    rw [unhide hI6_14]
                    exact ⟨k + 1, true, (by first | rfl | trivial), (by first | rfl | trivial), (by first | rfl | trivial), (by first | rfl | trivial), (by first | rfl | trivial), (by first | rfl | (show _ = Value.int _ _; go_num) | go_num), (by first | rfl | trivial), by omega, by rw [unhide hnx']; rfl, unhide hP, rfl⟩
                  | false =>
                    cases h1 with
                    | false =>
                      refine wp_regionK (P := Tryz.prog) [] [0,1,2,3,4,5,6,7,8,9,10,11,12,13,14,15,16,17,18,19,20,21,22,23,24,25,26,27] [] 0 #[true,true,true,true,true,true,true,true,true,true,true,true,true,true,true,true,true,true,true,true,true,true,true,true,true,true,true,true] (by kernel_rfl) (by kernel_rfl) rfl (by rfl) ?_
                      iterate 5
                        refine ql_want (v := ?_) rfl (by rfl) (fun W hW => ?_) ?_
                        rotate_left
                        · go_simp
                          first | done | rfl
                        go_frame
                      refine ql_want (v := .agg (setC ck)) rfl (by rfl) (fun W hW => qUpon_ofX (load_SetR rfl rfl (unhide cs W hW.ext))) ?_
                      go_frame
                      iterate 6
                        refine ql_want (v := ?_) rfl (by rfl) (fun W hW => ?_) ?_
                        rotate_left
                        · go_simp
                          first | done | rfl
                        go_frame
                      refine ql_want (v := .bool false) rfl (by rfl) (fun W hW => ?_) ?_
                      · go_simp
                        refine (has_any ck x W).mono ?_
                        rw [hasD, ← unhide hh1']
                        rintro _ _ ⟨h1, h2⟩
                        exact ⟨_, h1, rfl, h2⟩
                      go_frame
                      iterate 1
                        refine ql_want (v := ?_) rfl (by rfl) (fun W hW => ?_) ?_
                        rotate_left
                        · go_simp
                          first | done | rfl
                        go_frame
                      iterate 14
                        first
                        | (refine ql_skip rfl (by rfl) ?_)
                        | (refine ql_want (v := ?_) rfl (by rfl) (fun W hW => ?_) ?_; rotate_left; (go_simp; (first | done | rfl)))
                        try go_frame
                      refine wpQL_nil (fun y7 hxq => ?_)
                      replace hP : Hid (Sp y6 [] y6 [] [] [] y7) := hide ((unhide hP).ext hxq)
                      clear hxq
                      clear c0 c1 q0 hself
                      refine wpX_done (by kernel_rfl) ?_
                      try go_frame
                      go_wp2_with fail
                      have h1 := unhide hk2
                      refine ⟨m - (k + 1), ?_, by have := unhide hfk'; omega⟩
                      rw [unhide hI6_14]
                      exact ⟨k + 1, false, (by first | rfl | trivial), (by first | rfl | trivial), (by first | rfl | trivial), (by first | rfl | trivial), (by first | rfl | trivial), (by first | rfl | (show _ = Value.int _ _; go_num) | go_num), (by first | rfl | trivial), by omega, by rw [unhide hnx']; rfl, unhide hP, rfl⟩
                    | true =>
                      refine wp_regionK (P := Tryz.prog) [] [0,1,2,3,4,5,6,7,8,9,10,11,12,13,14,15,16,17,18,19,20,21,22,23,24,25,26,27] [] 0 #[true,true,true,true,true,true,true,true,true,true,true,true,true,true,true,true,true,true,true,true,true,true,true,true,true,true,true,true] (by kernel_rfl) (by kernel_rfl) rfl (by rfl) ?_
                      iterate 5
                        refine ql_want (v := ?_) rfl (by rfl) (fun W hW => ?_) ?_
                        rotate_left
                        · go_simp
                          first | done | rfl
                        go_frame
                      refine ql_want (v := .agg (setC ck)) rfl (by rfl) (fun W hW => qUpon_ofX (load_SetR rfl rfl (unhide cs W hW.ext))) ?_
                      go_frame
                      iterate 6
                        refine ql_want (v := ?_) rfl (by rfl) (fun W hW => ?_) ?_
                        rotate_left
                        · go_simp
                          first | done | rfl
                        go_frame
                      refine ql_want (v := .bool true) rfl (by rfl) (fun W hW => ?_) ?_
                      · go_simp
                        refine (has_any ck x W).mono ?_
                        rw [hasD, ← unhide hh1']
                        rintro _ _ ⟨h1, h2⟩
                        exact ⟨_, h1, rfl, h2⟩
                      go_frame
                      iterate 1
                        refine ql_want (v := ?_) rfl (by rfl) (fun W hW => ?_) ?_
                        rotate_left
                        · go_simp
                          first | done | rfl
                        go_frame
                      iterate 3
                        refine ql_want (v := ?_) rfl (by rfl) (fun W hW => ?_) ?_
                        rotate_left
                        · go_simp
                          first | done | rfl
                        go_frame
                      refine ql_want (v := .agg (setC ck)) rfl (by rfl) (fun W hW => qUpon_ofX (load_SetR rfl rfl (unhide cs W hW.ext))) ?_
                      go_frame
                      iterate 6
                        refine ql_want (v := ?_) rfl (by rfl) (fun W hW => ?_) ?_
                        rotate_left
                        · go_simp
                          first | done | rfl
                        go_frame
                      refine ql_want (v := .bool h2) rfl (by rfl) (fun W hW => ?_) ?_
                      · go_simp
                        refine (has_any ck y W).mono ?_
                        rw [hasD, ← unhide hh2']
                        rintro _ _ ⟨h1, h2⟩
                        exact ⟨_, h1, rfl, h2⟩
                      go_frame
                      iterate 3
                        refine ql_want (v := ?_) rfl (by rfl) (fun W hW => ?_) ?_
                        rotate_left
                        · go_simp
                          first | done | rfl
                        go_frame
                      refine wpQL_nil (fun y7 hxq => ?_)
                      replace hP : Hid (Sp y6 [] y6 [] [] [] y7) := hide ((unhide hP).ext hxq)
                      clear hxq
                      clear c0 c1 q0 hself
                      refine wpX_done (by kernel_rfl) ?_
                      try go_frame
                      go_wp2_with fail
                      have h1 := unhide hk2
                      refine ⟨m - (k + 1), ?_, by have := unhide hfk'; omega⟩
                      rw [unhide hI6_14]
                      exact ⟨k + 1, h2, (by first | rfl | trivial), (by first | rfl | trivial), (by first | rfl | trivial), (by first | rfl | trivial), (by first | rfl | trivial), (by first | rfl | (show _ = Value.int _ _; go_num) | go_num), (by first | rfl | trivial), by omega, by rw [unhide hnx']; rfl, unhide hP, rfl⟩
                · have hil3 : ¬ (k : Int) < (m : Int) := by omega
                  obtain rfl : k = m := by omega
                  obtain rfl : q = true := by rw [unhide hq', unhide hm']; exact unhide hend
                  clear hlt hq' hfk'
                  try dsimp only
                  repeat ((fail_if_success (with_reducible refine wp_reg (id := 31) ?_)); (first | go_values | go_skip | go_step | go_guarded | go_upon | go_in | go_back | fail))
                  with_reducible refine wp_reg (id := 31) ?_
                  iterate 4
                    refine wpO_want rfl ?_
                    go_simp
                  refine wpO_done ?_
                  try go_frame
                  try dsimp only
                  repeat ((fail_if_success (with_reducible refine wp_reg (id := 34) ?_)); (first | go_values | go_skip | go_step | go_guarded | go_upon | go_in | go_back | fail))
                  with_reducible refine wp_reg (id := 34) ?_
                  iterate 2
                    refine wpO_want rfl ?_
                    go_simp
                  refine wpO_done ?_
                  try go_frame
                  go_wp2_with fail
                  have h1 := unhide hj2
                  refine ⟨E.length - (j + 1), ?_, by have := unhide hfj'; omega⟩
                  rw [unhide hI6_10]
                  exact ⟨j + 1, (by first | rfl | trivial), (by first | rfl | trivial), (by first | rfl | trivial), (by first | rfl | (show _ = Value.int _ _; go_num) | go_num), (by first | rfl | trivial), by omega, unhide hP, rfl⟩
            · have hil2 : ¬ (j : Int) < (E.length : Int) := by omega
              have q0 := ((unhide hB4).ext (unhide hP).extf).cells 1 (v := .slice B1 E.length cB) rfl
              have hself := Ext.refl wr
              try dsimp only
              repeat ((fail_if_success (with_reducible refine wp_reg (id := 27) ?_)); (first | go_values | go_skip | go_step | go_guarded | go_upon | go_in | go_back | fail))
              with_reducible refine wp_reg (id := 27) ?_
              iterate 5
                refine wpO_want rfl ?_
                go_simp
              clear q0 hself hil2
              refine wpO_done ?_
              try go_frame
              go_wp2_with fail
              refine Sp.leaves0 ?_
              exact ⟨_, results_tmp rfl _ _ _, rfl, (unhide hx0).trans (unhide hP).extf⟩
end Go.Proofs.YtmfkkkhddigkfaaGreatDoor
/- Every input makes the law ChordalTreeLaws answer true, and each argument reads behind the call as it read before: the given card, tied to the program's text. No condition. -/
namespace Go.Proofs.YtmfkkkhddigkfaaGreatDoor.chordalTreeLawsRow
open Go.ChangeShapes Go.WideShapes Go.ChangeAt Go.RowKit
set_option linter.unusedVariables false

theorem own : ownKnob Tryz.prog.godebug = none := by kernel_rfl
theorem laidOut : laidOutB Tryz.prog = true := by kernel_rfl
theorem door_met (os : Os) (args : Array Value) : laidMetH Tryz.prog laidL ((World.doorLaid Tryz.prog 400 os).forCall (fun _ _ => 0) ⟨#[], args, []⟩).memory :=
  laidMetH_of_parts3 (fuel := 8) (laidMet_of_run' 8 (by kernel_rfl) (by kernel_rfl)) (by kernel_rfl) (by kernel_rfl)

set_option maxRecDepth 100000 in
theorem lifted (os : Os) (started : os.Started) (H : Type) (enc : TypeId × Value → H) :
    ReturnsInHanded {} Tryz.checked os 10 .any (fun w args => (Rows.chordalTreeLawsSpec.pre enc Tryz.prog Tryz.f10 [] false w args ∧ laidMetH Tryz.prog laidL w) ∧ sizedMet enc Tryz.prog Tryz.f10 (OpenSpec.ofChange Rows.chordalTreeLawsSpec) false w args)
      (Rows.chordalTreeLawsSpec.post enc Tryz.prog Tryz.f10 false true false false) := by
  refine returnsInHanded_of_change_and (C := Tryz.checked) (X := fun w _ => laidMetH Tryz.prog laidL w) (fun _ _ _ hh h => h.of_heap hh) own started (by kernel_rfl) Tryz.func10
    (ChangeSpec.witness_shaped (enc := enc) (C := Tryz.checked) (os := os) (X := fun w _ => laidMetH Tryz.prog laidL w) false (World.doorLaid Tryz.prog 400 os) #[.slice none 0 0] 8 rfl (World.shaped_of_RefB (by kernel_rfl) (by kernel_rfl)) (by kernel_rfl) (by kernel_rfl) (by kernel_rfl) (door_met os _)) ?_
  intro W base args ds gs before hval0 hW _ _ hL _
  have hval : ∀ (j : Nat) t v, Tryz.f10.params[j]? = some t → args[j]? = some v → Value.okWide Tryz.prog W .any base t v := hval0
  have hW' := hW
  obtain ⟨p, q, hA0, hV, rfl, hfz, hnd⟩ := hW
  have hA : DataW.TrodAll enc Tryz.prog W 0 (fun _ => true) true Tryz.f10.params.toList args.toList ds p := hA0
  rw [Tryz.params10] at hA hval
  obtain ⟨v0, vs0, d0, ds0, p0, q0, hargs, rfl, rfl, h0, r0⟩ := trodAll_cons hA
  obtain ⟨rfl, rfl, rfl⟩ := trodAll_nil r0
  obtain rfl : args = #[v0] := by cases args; simp_all
  obtain ⟨rfl, rfl⟩ := trodVars_none hV
  obtain ⟨a0, len0, cap0, rfl⟩ := okWide_slice Tryz.underlying22 (hval 0 22 v0 rfl rfl)
  have k0 := h0
  have lt0 : ∀ x ∈ p0, x.block < W.heap.size := by obtain ⟨m, hm⟩ := k0; exact DataW.trod_lt m _ _ _ hm
  obtain ⟨fu0, hf0⟩ := h0
  obtain ⟨L0, hn0, hs0, ho0, hm0, hz0⟩ := open_edits (by simpa [Value.cells] using hf0)
  subst hn0
  clear hA0 hval0
  refine (chordalTreeLaws_walk a0 L0 cap0 W hs0 (tab_of_laid hL)).mono fun e W' ⟨he, bel⟩ => ?_
  subst he
  exact ⟨_, rfl, _, _, _, [], _, [], hW', trodAll_mk1 (shut_bool Tryz.underlying4 _), (trodAll_cons_mk (Below.trod laidOut (by kernel_rfl) (of_decide_eq_true (by kernel_rfl)) k0 bel lt0) trodAll_mk0), rfl, bel.frame _, fun h => by cases h⟩

theorem over : Rows.chordalTreeLawsRow.holds Tryz.pinned (OpenSpec.ofChange Rows.chordalTreeLawsSpec) :=
  OpenClaim.holds_of_wide 10 Tryz.f10 rfl rfl rfl rfl rfl rfl rfl ⟨rfl, rfl, rfl, rfl, rfl⟩ rfl rfl rfl rfl rfl (by kernel_rfl) Tryz.func10 (by kernel_rfl)
    (of_decide_eq_true (by kernel_rfl)) (by unfold Func.isWrapper; first | (rw [if_pos (by decide +kernel)]; kernel_rfl) | (rw [if_neg (by decide +kernel)]; exact ⟨rfl, rfl⟩))
    (fun os started H enc _ => lifted os started H enc)
end Go.Proofs.YtmfkkkhddigkfaaGreatDoor.chordalTreeLawsRow
namespace Go.Proofs.YtmfkkkhddigkfaaGreatDoor
open Go
/-- the given statement -/
theorem chordalTreeLaws_holds : Rows.ChordalTreeLawsCardSaid :=
  Claim7.holds_tied_plain_at .later [] [.data] true (true, "1596dd598ae18966c135c2eb214a5a15edddb6ae32de2291f299e988f1ed0cb5") false
    chordalTreeLawsRow.over (fun _ h => by cases h) (by kernel_rfl) (fun _ h => by cases h) chordalTreeLaws_row_tie rfl ⟨rfl, rfl⟩ (by kernel_rfl) rfl
    (fun f fn hf hfn => by
      obtain rfl : f = 10 := Option.some.inj ((show Tryz.prog.funcNamed "palmette/palmettelaw24.ChordalTreeLaws" = some 10 by kernel_rfl).symm.trans hf) |>.symm
      obtain rfl : fn = Tryz.f10 := (Option.some.inj (Tryz.func10.symm.trans hfn)).symm
      exact ⟨by kernel_rfl, fun j t ht => by
        rw [Tryz.params10] at ht
        have h3 : t = 22 := by
          rcases j with _ | j
          · simp at ht; simp [ht]
          · simp at ht
        rcases h3 with rfl
        · exact (show Tryz.prog.wantsStandIn 22 = false by kernel_rfl)⟩)
    (by kernel_rfl)
#print axioms chordalTreeLaws_holds
end Go.Proofs.YtmfkkkhddigkfaaGreatDoor
