/- Every input makes the law ChordalCliques answer true, and each argument reads behind the call as it read before: the given card, tied to the program's text. No condition. -/
import Derived.Test.YtmfkkkhddigkfaaGreatDoorB21
import Derived.Test.YtmfkkkhddigkfaaGreatDoorB9
import Derived.Test.YtmfkkkhddigkfaaGreatDoorB14
import Derived.Test.YtmfkkkhddigkfaaGreatDoorB20
import Derived.Test.YtmfkkkhddigkfaaGreatDoorB7
import Derived.Test.YtmfkkkhddigkfaaGreatDoorB6
import Derived.Test.YtmfkkkhddigkfaaGreatDoorB22
import Derived.Test.YtmfkkkhddigkfaaGreatDoorCards
import Derived.Test.YtmfkkkhddigkfaaGreatDoorTie
import Derived.WalkKit
import Derived.ProofKit
import Derived.OpenShut
import Derived.ShutString
import Derived.ChangeOld
import Derived.Below
import Derived.SevenTiedAt
/- palmetteref24: Simple, Right, Perfect. Conditions: see each theorem. -/
namespace Go.Proofs.YtmfkkkhddigkfaaGreatDoor
open Go Go.RowKit Go.Shelf
attribute [local go_sem] qUpon lUpon
attribute [local irreducible] wpO wpX wpQL

noncomputable def smpB (V : List (Int × Thing)) (E : List ((Int × Int) × Thing)) (v : Int) : Bool := hasV v V && clqB V E (nbrR E v (V.map (·.1)))
def RightP (V : List (Int × Thing)) (L : List Int) : Prop := L.length = V.length ∧ ∀ i (hi : i < L.length), hasV L[i] V = true ∧ ∀ k (hk : k < i), L[k]'(Nat.lt_trans hk hi) ≠ L[i]
open Classical in
noncomputable def rightB (V : List (Int × Thing)) (L : List Int) : Bool := decide (RightP V L)
open Classical in
theorem rightB_true {V : List (Int × Thing)} {L : List Int} (h : RightP V L) : rightB V L = true := decide_eq_true h
open Classical in
theorem rightB_false {V : List (Int × Thing)} {L : List Int} (h : ¬ RightP V L) : rightB V L = false := decide_eq_false h
open Classical in
theorem rightB_iff {V : List (Int × Thing)} {L : List Int} : rightB V L = true ↔ RightP V L := decide_eq_true_iff
open Classical in
noncomputable def perB (V : List (Int × Thing)) (E : List ((Int × Int) × Thing)) (L : List Int) : Bool := decide (PerR V E L)
open Classical in
theorem perB_true {V : List (Int × Thing)} {E : List ((Int × Int) × Thing)} {L : List Int} (h : PerR V E L) : perB V E L = true := decide_eq_true h
open Classical in
theorem perB_false {V : List (Int × Thing)} {E : List ((Int × Int) × Thing)} {L : List Int} (h : ¬ PerR V E L) : perB V E L = false := decide_eq_false h
open Classical in
theorem perB_iff {V : List (Int × Thing)} {E : List ((Int × Int) × Thing)} {L : List Int} : perB V E L = true ↔ PerR V E L := decide_eq_true_iff
theorem nbr_len (E : List ((Int × Int) × Thing)) (v : Int) (M : List Int) : (nbrR E v M).length ≤ M.length := List.length_filter_le _ _

set_option maxRecDepth 100000 in
set_option maxHeartbeats 4000000 in
theorem simpleR_any (A B : Option Addr) (V : List (Int × Thing)) (E : List ((Int × Int) × Thing)) (cA cB : Nat) (v : Int) (w : World) (hV : SlAt encV 3 w A V) (hnV : V.length ≤ 4096) (hE : SlAt encE 4 w B E) (hnE : E.length ≤ 4096) :
    Calls Tryz.prog 24 #[.agg #[.slice A V.length cA, .slice B E.length cB], .int .i64 v] w fun e w' => e = .returned (.bool (smpB V E v)) ∧ Ext w w' := by
  have hV' := hide hV
  have hE' := hide hE
  have hnV' := hide hnV
  have hnE' := hide hnE
  clear hV hE hnV hnE
  obtain ⟨p, hp⟩ : ∃ p, p = posI (fun p => p.1 == v) V := ⟨_, rfl⟩
  have hres : smpB V E v = (decide (0 ≤ p) && clqB V E (nbrR E v (V.map (·.1)))) := by rw [hp]; rfl
  generalize smpB V E v = res at *
  have hres' := hide hres
  have hp' := hide hp
  clear hres hp
  have hP := hide (Sp.new w)
  refine callsIn_wide.1 (callsIn_of_wp_marks (n := 0) Tryz.func24 rfl trivial (wpIn_wide.2 ?_))
  simp only [Tryz.ntmps24, List.size_toArray, List.length_cons, List.length_nil, Nat.reduceAdd, Nat.reduceSub, Array.replicate_succ, Array.replicate_zero, List.push_toArray, List.append_toArray, List.nil_append, List.cons_append]
  try dsimp only
  repeat ((fail_if_success (with_reducible refine wp_reg (id := 0) ?_)); (first | go_values | go_skip | go_step | go_guarded | go_upon | go_in | go_back | fail))
  with_reducible refine wp_reg (id := 0) ?_
  refine (unhide hP).allocO 28 #[.slice A V.length cA, .slice B E.length cB] rfl (run_box (v := .agg #[.slice A V.length cA, .slice B E.length cB]) rfl rfl) ?_
  intro r2 y1 hQ
  replace hP : Hid (Sp w [] w [] [(r2, 28, #[.slice A V.length cA, .slice B E.length cB])] [] y1) := hide hQ
  clear hQ
  refine wpO_want rfl ?_
  go_simp
  refine wpO_done ?_
  try go_frame
  go_wp2_with fail
  by_cases hp0 : 0 ≤ p
  · skip
    have q0 := (unhide hP).cellK (S := []) 0 0 (v := .slice A V.length cA) rfl rfl (by simp)
    have q1 := (unhide hP).cellK (S := []) 0 1 (v := .slice B E.length cB) rfl rfl (by simp)
    have hself := Keep.refl [] y1
    refine wp_regionK (P := Tryz.prog) [] [0,1,2,3,4,5,6,7,8] [] 5 #[true,true,true,true,true,true,true,true,true,false,false,false,false,false] (by kernel_rfl) (by kernel_rfl) rfl (by rfl) ?_
    iterate 2
      refine ql_want (v := ?_) rfl (by rfl) (fun W hW => ?_) ?_
      rotate_left
      · go_simp
        first | done | rfl
      go_frame
    refine ql_want (v := .int .i64 p) rfl (by rfl) (fun W hW => ?_) ?_
    · go_simp
      refine (find_any A B V cA E.length cB v W ((unhide hV').ext ((unhide hP).extf.trans ((Ext.refl _).of_new hW (by simp)))) (unhide hnV')).mono ?_
      rw [← unhide hp']
      rintro _ _ ⟨h1, h2⟩
      exact ⟨_, h1, rfl, h2⟩
    go_frame
    iterate 6
      refine ql_want (v := ?_) rfl (by rfl) (fun W hW => ?_) ?_
      rotate_left
      · go_simp
        first | done | rfl
      go_frame
    refine wpQL_nil (fun y2 hxq => ?_)
    have hK := hide (hxq.keep [])
    replace hP : Hid (Sp w [] w [] [(r2, 28, #[.slice A V.length cA, .slice B E.length cB])] [] y2) := hide ((unhide hP).ext hxq)
    clear hxq
    clear q0 q1 hself
    refine lx_one (i := 9) (by kernel_rfl) rfl (by rfl) #[true,true,true,true,true,true,true,true,true,true,false,false,false,false] (by rfl) ?_
    have hca := ids_any A B V E cA cB y2 ((unhide hV').ext (unhide hP).extf) (unhide hnV')
    obtain ⟨I0, hI0⟩ : ∃ I0, I0 = V.map (·.1) := ⟨_, rfl⟩
    have hIl := hide (show I0.length ≤ 4096 by rw [hI0, List.length_map]; exact unhide hnV')
    rw [← hI0] at hca
    go_simp
    refine (hca).mono ?_
    rintro _ zy3 ⟨A2, c2, rfl, ho, hxc⟩
    clear hca
    obtain ⟨m, hm⟩ : ∃ m, m = I0.length := ⟨_, rfl⟩
    rw [← hm] at ho ⊢
    have hm' := hide hm
    have hI0' := hide hI0
    clear hm hI0
    refine ⟨_, rfl, (unhide hK).trans (hxc.keep _), fun y3 hxd => ?_⟩
    replace hP : Hid (Sp w [] w [] [(r2, 28, #[.slice A V.length cA, .slice B E.length cB])] [(3, 1, .slice A2 m c2, m, I0.flatMap encI)] y3) := hide (((unhide hP).addRow hxc ho).ext hxd)
    replace hK := hide ((unhide hK).trans ((hxc.trans hxd).keep _))
    clear ho
    clear hxc hxd
    try go_frame
    refine lx_one (i := 10) (by kernel_rfl) rfl (by rfl) #[true,true,true,true,true,true,true,true,true,true,true,false,false,false] (by rfl) ?_
    have hca := nearR_any A B V E cA cB A2 I0 c2 v y3 ((unhide hE').ext (unhide hP).extf) (unhide hnE') (own_at (enc := encI) (by have h := (unhide hP).row 0 rfl; rw [unhide hm'] at h; exact h) (fun _ => rfl)) (unhide hIl)
    rw [← unhide hm'] at hca
    obtain ⟨N, hN⟩ : ∃ N, N = nbrR E v I0 := ⟨_, rfl⟩
    have hNl := hide (show N.length ≤ 4096 by rw [hN]; exact Nat.le_trans (nbr_len E v I0) (unhide hIl))
    rw [← hN] at hca
    go_simp
    refine (hca).mono ?_
    rintro _ zy4 ⟨A3, c3, rfl, ho, hxc⟩
    clear hca
    obtain ⟨m3, hm⟩ : ∃ m3, m3 = N.length := ⟨_, rfl⟩
    rw [← hm] at ho ⊢
    have hm3' := hide hm
    have hN' := hide hN
    clear hm hN
    refine ⟨_, rfl, (unhide hK).trans (hxc.keep _), fun y4 hxd => ?_⟩
    replace hP : Hid (Sp w [] w [] [(r2, 28, #[.slice A V.length cA, .slice B E.length cB])] [(3, 1, .slice A2 m c2, m, I0.flatMap encI), (3, 1, .slice A3 m3 c3, m3, N.flatMap encI)] y4) := hide (((unhide hP).addRow hxc ho).ext hxd)
    replace hK := hide ((unhide hK).trans ((hxc.trans hxd).keep _))
    clear ho
    clear hxc hxd
    try go_frame
    refine lx_one (i := 11) (by kernel_rfl) rfl (by rfl) #[true,true,true,true,true,true,true,true,true,true,true,true,false,false] (by rfl) ?_
    have hca := clqR_walk A B V E cA cB A3 N c3 y4 ((unhide hV').ext (unhide hP).extf) (unhide hnV') ((unhide hE').ext (unhide hP).extf) (unhide hnE') (own_at (enc := encI) (by have h := (unhide hP).row 1 rfl; rw [unhide hm3'] at h; exact h) (fun _ => rfl)) (unhide hNl)
    rw [← unhide hm3'] at hca
    obtain ⟨q, hq⟩ : ∃ q, q = clqB V E N := ⟨_, rfl⟩
    rw [← hq] at hca
    have hq' := hide hq
    clear hq
    go_simp
    refine (hca).mono ?_
    rintro _ zy5 ⟨rfl, hxc⟩
    clear hca
    refine ⟨_, rfl, (unhide hK).trans (hxc.keep _), fun y5 hxd => ?_⟩
    replace hP : Hid (Sp w [] w [] [(r2, 28, #[.slice A V.length cA, .slice B E.length cB])] [(3, 1, .slice A2 m c2, m, I0.flatMap encI), (3, 1, .slice A3 m3 c3, m3, N.flatMap encI)] y5) := hide ((unhide hP).ext (hxc.trans hxd))
    replace hK := hide ((unhide hK).trans ((hxc.trans hxd).keep _))
    clear hxc hxd
    try go_frame
    refine lx_rekeep (unhide hK) [12,13] [] 0 2 #[true,true,true,true,true,true,true,true,true,true,true,true,false,false] #[true,true,true,true,true,true,true,true,true,true,true,true,true,true] (by kernel_rfl) rfl (by rfl) ?_
    clear hK
    iterate 2
      refine ql_want (v := ?_) rfl (by rfl) (fun W hW => ?_) ?_
      rotate_left
      · go_simp
        first | done | rfl
      go_frame
    refine wpQL_nil (fun y6 hxq => ?_)
    replace hP : Hid (Sp w [] w [] [(r2, 28, #[.slice A V.length cA, .slice B E.length cB])] [(3, 1, .slice A2 m c2, m, I0.flatMap encI), (3, 1, .slice A3 m3 c3, m3, N.flatMap encI)] y6) := hide ((unhide hP).ext hxq)
    clear hxq
    refine wpX_done (by kernel_rfl) ?_
    try go_frame
    go_wp2_with fail
    refine Sp.leaves0 ?_
    exact ⟨_, results_tmp rfl _ _ _, by rw [unhide hres', decide_eq_true hp0, Bool.true_and, ← unhide hI0', ← unhide hN', ← unhide hq']; rfl, (unhide hP).extf⟩
  · skip
    have q0 := (unhide hP).cellK (S := []) 0 0 (v := .slice A V.length cA) rfl rfl (by simp)
    have q1 := (unhide hP).cellK (S := []) 0 1 (v := .slice B E.length cB) rfl rfl (by simp)
    have hself := Keep.refl [] y1
    refine wp_regionK (P := Tryz.prog) [] [0,1,2,3,4,5,6,7,8,9,10,11,12,13] [] 0 #[true,true,true,true,true,true,true,true,true,true,true,true,true,true] (by kernel_rfl) (by kernel_rfl) rfl (by rfl) ?_
    iterate 2
      refine ql_want (v := ?_) rfl (by rfl) (fun W hW => ?_) ?_
      rotate_left
      · go_simp
        first | done | rfl
      go_frame
    refine ql_want (v := .int .i64 p) rfl (by rfl) (fun W hW => ?_) ?_
    · go_simp
      refine (find_any A B V cA E.length cB v W ((unhide hV').ext ((unhide hP).extf.trans ((Ext.refl _).of_new hW (by simp)))) (unhide hnV')).mono ?_
      rw [← unhide hp']
      rintro _ _ ⟨h1, h2⟩
      exact ⟨_, h1, rfl, h2⟩
    go_frame
    iterate 11
      first
      | (refine ql_skip rfl (by rfl) ?_)
      | (refine ql_want (v := ?_) rfl (by rfl) (fun W hW => ?_) ?_; rotate_left; (go_simp; (first | done | rfl)))
      try go_frame
    refine wpQL_nil (fun y2 hxq => ?_)
    replace hP : Hid (Sp w [] w [] [(r2, 28, #[.slice A V.length cA, .slice B E.length cB])] [] y2) := hide ((unhide hP).ext hxq)
    clear hxq
    clear q0 q1 hself
    refine wpX_done (by kernel_rfl) ?_
    try go_frame
    go_wp2_with fail
    refine Sp.leaves0 ?_
    exact ⟨_, results_tmp rfl _ _ _, by rw [unhide hres', decide_eq_false (by omega), Bool.false_and]; rfl, (unhide hP).extf⟩

set_option maxRecDepth 100000 in
set_option maxHeartbeats 16000000 in
theorem rightR_any (A B : Option Addr) (V : List (Int × Thing)) (E : List ((Int × Int) × Thing)) (cA cB : Nat) (C : Option Addr) (L : List Int) (cL : Nat) (w : World) (hV : SlAt encV 3 w A V) (hnV : V.length ≤ 4096) (hE : SlAt encE 4 w B E) (hnE : E.length ≤ 4096) (hL : SlAt encI 1 w C L) :
    Calls Tryz.prog 31 #[.agg #[.slice A V.length cA, .slice B E.length cB], .slice C L.length cL] w fun e w' => e = .returned (.bool (rightB V L)) ∧ Ext w w' := by
  have hV' := hide hV
  have hE' := hide hE
  have hnV' := hide hnV
  have hnE' := hide hnE
  clear hV hE hnV hnE
  have hL' := hide hL
  obtain ⟨n, hn⟩ : ∃ n, n = L.length := ⟨_, rfl⟩
  obtain ⟨N, hN⟩ : ∃ N, N = V.length := ⟨_, rfl⟩
  have hN' := hide hN
  rw [← hn]
  have hn' := hide hn
  clear hL hn hN
  have hP := hide (Sp.new w)
  refine callsIn_wide.1 (callsIn_of_wp_marks (n := 0) Tryz.func31 rfl trivial (wpIn_wide.2 ?_))
  simp only [Tryz.ntmps31, List.size_toArray, List.length_cons, List.length_nil, Nat.reduceAdd, Nat.reduceSub, Array.replicate_succ, Array.replicate_zero, List.push_toArray, List.append_toArray, List.nil_append, List.cons_append]
  try dsimp only
  repeat ((fail_if_success (with_reducible refine wp_reg (id := 0) ?_)); (first | go_values | go_skip | go_step | go_guarded | go_upon | go_in | go_back | fail))
  with_reducible refine wp_reg (id := 0) ?_
  refine (unhide hP).allocO 28 #[.slice A V.length cA, .slice B E.length cB] rfl (run_box (v := .agg #[.slice A V.length cA, .slice B E.length cB]) rfl rfl) ?_
  intro r2 y1 hQ
  replace hP : Hid (Sp w [] w [] [(r2, 28, #[.slice A V.length cA, .slice B E.length cB])] [] y1) := hide hQ
  clear hQ
  refine wpO_want rfl ?_
  go_simp
  refine wpO_done ?_
  try go_frame
  by_cases hnN : (n : Int) = (V.length : Int)
  · skip
    try dsimp only
    repeat ((fail_if_success (with_reducible refine wp_reg (id := 1) ?_)); (first | go_values | go_skip | go_step | go_guarded | go_upon | go_in | go_back | fail))
    with_reducible refine wp_reg (id := 1) ?_
    have q0 := (unhide hP).cell 0 0 (v := .slice A V.length cA) rfl rfl
    have hself := Ext.refl y1
    iterate 6
      refine wpO_want rfl ?_
      go_simp
    clear q0 hself
    refine wpO_done ?_
    try go_frame
    try dsimp only
    repeat ((fail_if_success (with_reducible refine wp_reg (id := 3) ?_)); (first | go_values | go_skip | go_step | go_guarded | go_upon | go_in | go_back | fail))
    with_reducible refine wp_reg (id := 3) ?_
    refine wpO_want rfl ?_
    go_simp
    refine wpO_done ?_
    try go_frame
    go_wp2_with fail
    have hnV2 := hide (show n ≤ 4096 by have := unhide hnV'; omega)
    have hnN' := hide hnN
    clear hnN
    refine wp_loop_ix (fun fi a' wr => ∃ (i : Nat), a'.tmps.size = 40 ∧ a'.tmps.getD 1 undef = .slice C n cL ∧ a'.tmps.getD 2 undef = .pointer (some ⟨r2, 0, none⟩) ∧ a'.tmps.getD 5 undef = .int .i64 (i : Nat) ∧ a'.defers = [] ∧ i ≤ n ∧ (∀ i' (_ : i' < i) (hl : i' < L.length), hasV L[i'] V = true ∧ ∀ k (hk : k < i'), L[k]'(Nat.lt_trans hk hl) ≠ L[i']) ∧ Sp w [] w [] [(r2, 28, #[.slice A V.length cA, .slice B E.length cB])] [] wr ∧ fi = n - i) (n - 0) ?_ ?_
    · exact ⟨0, rfl, rfl, rfl, rfl, rfl, Nat.zero_le _, fun i' h => absurd h (Nat.not_lt_zero _), unhide hP, rfl⟩
    · rintro fi ⟨tm, dfs⟩ wr ⟨i, hsz, e1, e2, e5, hdf, hin, hok, hPr, hfm⟩
      obtain ⟨us, rfl⟩ : ∃ us : Nat → Value, tm = #[us 0, us 1, us 2, us 3, us 4, us 5, us 6, us 7, us 8, us 9, us 10, us 11, us 12, us 13, us 14, us 15, us 16, us 17, us 18, us 19, us 20, us 21, us 22, us 23, us 24, us 25, us 26, us 27, us 28, us 29, us 30, us 31, us 32, us 33, us 34, us 35, us 36, us 37, us 38, us 39] := ⟨fun i => tm.getD i undef, arr_fn hsz⟩
      have h1 : us 1 = .slice C n cL := e1
      have h2 : us 2 = .pointer (some ⟨r2, 0, none⟩) := e2
      have h5 : us 5 = .int .i64 (i : Nat) := e5
      have hdf2 : dfs = [] := hdf
      subst hdf2
      clear hdf hsz e1 e2 e5
      simp only [h1, h2, h5]
      clear h1 h2 h5
      clear hP
      have hP := hide hPr
      have hok' := hide hok
      have hfm' := hide hfm
      clear hPr hok hfm
      by_cases hlt : i < n
      · have hiL : i < L.length := by have := unhide hn'; omega
        have hilt := hide hlt
        have hil : (i : Int) < (n : Int) := by omega
        have hib : (i : Int) ≤ 4096 := by have := unhide hnV2; omega
        obtain ⟨b, off, rfl, _⟩ := cellI (unhide hL') hiL
        obtain ⟨x, hx⟩ : ∃ x, x = L[i] := ⟨_, rfl⟩
        have hx' := hide hx
        obtain ⟨p, hp⟩ : ∃ p, p = posI (fun p => p.1 == x) V := ⟨_, rfl⟩
        have hp' := hide hp
        have hhv := hide (show hasV x V = decide (0 ≤ p) by rw [hp]; rfl)
        clear hx hp
        try dsimp only
        repeat ((fail_if_success (with_reducible refine wp_reg (id := 4) ?_)); (first | go_values | go_skip | go_step | go_guarded | go_upon | go_in | go_back | fail))
        with_reducible refine wp_reg (id := 4) ?_
        iterate 4
          refine wpO_want rfl ?_
          go_simp
        refine wpO_done ?_
        try go_frame
        go_wp2_with fail
        have c0 := slK (S := []) ((unhide hL').ext (unhide hP).extf) (by simp) hiL
        rw [← unhide hx'] at c0
        have q0 := (unhide hP).cellK (S := []) 0 0 (v := .slice A V.length cA) rfl rfl (by simp)
        have q1 := (unhide hP).cellK (S := []) 0 1 (v := .slice B E.length cB) rfl rfl (by simp)
        have hself := Keep.refl [] wr
        refine wp_regionK (P := Tryz.prog) [] [0,1,2,3,4,5,6] [] 0 #[true,true,true,true,true,true,true] (by kernel_rfl) (by kernel_rfl) rfl (by rfl) ?_
        iterate 5
          refine ql_want (v := ?_) rfl (by rfl) (fun W hW => ?_) ?_
          rotate_left
          · go_simp
            first | done | rfl
          go_frame
        refine ql_want (v := .int .i64 p) rfl (by rfl) (fun W hW => ?_) ?_
        · go_simp
          refine (find_any A B V cA E.length cB x W ((unhide hV').ext ((unhide hP).extf.trans ((Ext.refl _).of_new hW (by simp)))) (unhide hnV')).mono ?_
          rw [← unhide hp']
          rintro _ _ ⟨h1, h2⟩
          exact ⟨_, h1, rfl, h2⟩
        go_frame
        iterate 1
          refine ql_want (v := ?_) rfl (by rfl) (fun W hW => ?_) ?_
          rotate_left
          · go_simp
            first | done | rfl
          go_frame
        refine wpQL_nil (fun y2 hxq => ?_)
        replace hP : Hid (Sp w [] w [] [(r2, 28, #[.slice A V.length cA, .slice B E.length cB])] [] y2) := hide ((unhide hP).ext hxq)
        clear hxq
        refine wpX_done (by kernel_rfl) ?_
        try go_frame
        clear c0 q0 q1 hself
        by_cases hp0 : p < 0
        · skip
          have hres := hide (rightB_false (V := V) (L := L) fun h => by
            have h1 := (h.2 i hiL).1
            rw [← unhide hx', unhide hhv, decide_eq_true_eq] at h1
            omega)
          go_wp2_with fail
          refine Sp.leaves0 ?_
          exact ⟨_, results_tmp rfl _ _ _, by rw [unhide hres]; rfl, (unhide hP).extf⟩
        · skip
          have hhas := hide (show hasV x V = true by rw [unhide hhv, decide_eq_true_eq]; omega)
          clear hhv
          have hp1 : (p < 0) = False := by simp; omega
          replace hp0 := hide hp0
          go_wp2_with fail
          refine wp_loop_ix (fun fi a' wr => ∃ (k : Nat), a'.tmps.size = 40 ∧ a'.tmps.getD 1 undef = .slice (some ⟨b, off, none⟩) n cL ∧ a'.tmps.getD 2 undef = .pointer (some ⟨r2, 0, none⟩) ∧ a'.tmps.getD 5 undef = .int .i64 (i : Nat) ∧ a'.tmps.getD 6 undef = .int .i64 (k : Nat) ∧ a'.defers = [] ∧ k ≤ i ∧ (∀ k' (_ : k' < k) (hl : k' < L.length), L[k'] ≠ x) ∧ Sp w [] w [] [(r2, 28, #[.slice A V.length cA, .slice B E.length cB])] [] wr ∧ fi = i - k) (i - 0) ?_ ?_
          · exact ⟨0, rfl, rfl, rfl, rfl, rfl, rfl, Nat.zero_le _, fun k' h => absurd h (Nat.not_lt_zero _), unhide hP, rfl⟩
          · rintro fi ⟨tm, dfs⟩ wr ⟨k, hsz, e1, e2, e5, e6, hdf, hk, hno, hPr, hfj⟩
            obtain ⟨us, rfl⟩ : ∃ us : Nat → Value, tm = #[us 0, us 1, us 2, us 3, us 4, us 5, us 6, us 7, us 8, us 9, us 10, us 11, us 12, us 13, us 14, us 15, us 16, us 17, us 18, us 19, us 20, us 21, us 22, us 23, us 24, us 25, us 26, us 27, us 28, us 29, us 30, us 31, us 32, us 33, us 34, us 35, us 36, us 37, us 38, us 39] := ⟨fun i => tm.getD i undef, arr_fn hsz⟩
            have h1 : us 1 = .slice (some ⟨b, off, none⟩) n cL := e1
            have h2 : us 2 = .pointer (some ⟨r2, 0, none⟩) := e2
            have h5 : us 5 = .int .i64 (i : Nat) := e5
            have h6 : us 6 = .int .i64 (k : Nat) := e6
            have hdf2 : dfs = [] := hdf
            subst hdf2
            clear hdf hsz e1 e2 e5 e6
            simp only [h1, h2, h5, h6]
            clear h1 h2 h5 h6
            clear hP
            have hP := hide hPr
            have hno' := hide hno
            have hfj' := hide hfj
            clear hPr hno hfj
            by_cases hki : k < i
            · have hkL : k < L.length := by omega
              have hki' := hide hki
              have hkl : (k : Int) < (i : Int) := by omega
              have hkn : k < n := by omega
              obtain ⟨y, hy⟩ : ∃ y, y = L[k] := ⟨_, rfl⟩
              have hy' := hide hy
              clear hy
              try dsimp only
              repeat ((fail_if_success (with_reducible refine wp_reg (id := 9) ?_)); (first | go_values | go_skip | go_step | go_guarded | go_upon | go_in | go_back | fail))
              with_reducible refine wp_reg (id := 9) ?_
              iterate 3
                refine wpO_want rfl ?_
                go_simp
              refine wpO_done ?_
              try go_frame
              go_wp2_with fail
              have c0 := slK (S := []) ((unhide hL').ext (unhide hP).extf) (by simp) hiL
              rw [← unhide hx'] at c0
              have c1 := slK (S := []) ((unhide hL').ext (unhide hP).extf) (by simp) hkL
              rw [← unhide hy'] at c1
              have hself := Keep.refl [] wr
              by_cases hxy : y = x
              · subst hxy
                refine wp_regionK (P := Tryz.prog) [] [0,1,2,3,4,5,6,7,8] [] 0 #[true,true,true,true,true,true,true,true,true] (by kernel_rfl) (by kernel_rfl) rfl (by rfl) ?_
                iterate 9
                  refine ql_want (v := ?_) rfl (by rfl) (fun W hW => ?_) ?_
                  rotate_left
                  · go_simp
                    first | done | rfl
                  go_frame
                refine wpQL_nil (fun y3 hxq => ?_)
                replace hP : Hid (Sp w [] w [] [(r2, 28, #[.slice A V.length cA, .slice B E.length cB])] [] y3) := hide ((unhide hP).ext hxq)
                clear hxq
                refine wpX_done (by kernel_rfl) ?_
                try go_frame
                clear c0 c1 hself
                have hres := hide (rightB_false (V := V) (L := L) fun h => by
                  have h1 := (h.2 i hiL).2 k (unhide hki')
                  rw [← unhide hx', ← unhide hy'] at h1
                  exact h1 rfl)
                go_wp2_with fail
                refine Sp.leaves0 ?_
                exact ⟨_, results_tmp rfl _ _ _, by rw [unhide hres]; rfl, (unhide hP).extf⟩
              · skip
                refine wp_regionK (P := Tryz.prog) [] [0,1,2,3,4,5,6,7,8] [] 0 #[true,true,true,true,true,true,true,true,true] (by kernel_rfl) (by kernel_rfl) rfl (by rfl) ?_
                iterate 9
                  refine ql_want (v := ?_) rfl (by rfl) (fun W hW => ?_) ?_
                  rotate_left
                  · go_simp
                    first | done | rfl
                  go_frame
                refine wpQL_nil (fun y3 hxq => ?_)
                replace hP : Hid (Sp w [] w [] [(r2, 28, #[.slice A V.length cA, .slice B E.length cB])] [] y3) := hide ((unhide hP).ext hxq)
                clear hxq
                refine wpX_done (by kernel_rfl) ?_
                try go_frame
                clear c0 c1 hself
                have hno2 := hide (show ∀ k' (_ : k' < k + 1) (hl : k' < L.length), L[k'] ≠ x from fun k' h1 hl => by
                  rcases Nat.lt_or_ge k' k with h2 | h2
                  · exact unhide hno' k' h2 hl
                  · have : k' = k := by omega
                    subst this
                    rw [← unhide hy']; exact hxy)
                go_wp2_with fail
                have h1 := unhide hki'
                first
                | exact ⟨i - (k + 1), ⟨k + 1, (by first | rfl | trivial), (by first | rfl | trivial), (by first | rfl | trivial), (by first | rfl | (show _ = Value.int _ _; go_num) | go_num), (by first | rfl | (show _ = Value.int _ _; go_num) | go_num), (by first | rfl | trivial), by omega, unhide hno2, unhide hP, rfl⟩, by have := unhide hfj'; omega⟩
                | exact ⟨i - (k + 1), ⟨k + 1, (by first | omega | go_num), by omega, unhide hno2, unhide hP, rfl⟩, by have := unhide hfj'; omega⟩
            · have hke : ¬ (k : Int) < (i : Int) := by omega
              have hok2 := hide (show ∀ i' (_ : i' < i + 1) (hl : i' < L.length), hasV L[i'] V = true ∧ ∀ k (hk : k < i'), L[k]'(Nat.lt_trans hk hl) ≠ L[i'] from fun i' h1 hl => by
                rcases Nat.lt_or_ge i' i with h2 | h2
                · exact unhide hok' i' h2 hl
                · have : i' = i := by omega
                  subst this
                  refine ⟨by rw [← unhide hx']; exact unhide hhas, fun k' hk' => ?_⟩
                  rw [← unhide hx']
                  exact unhide hno' k' (by omega) _)
              try dsimp only
              repeat ((fail_if_success (with_reducible refine wp_reg (id := 9) ?_)); (first | go_values | go_skip | go_step | go_guarded | go_upon | go_in | go_back | fail))
              with_reducible refine wp_reg (id := 9) ?_
              iterate 3
                refine wpO_want rfl ?_
                go_simp
              refine wpO_done ?_
              try go_frame
              clear hke
              go_wp2_with fail
              have h1 := unhide hilt
              first
              | exact ⟨n - (i + 1), ⟨i + 1, (by first | rfl | trivial), (by first | rfl | trivial), (by first | rfl | trivial), (by first | rfl | (show _ = Value.int _ _; go_num) | go_num), (by first | rfl | trivial), by omega, unhide hok2, unhide hP, rfl⟩, by have := unhide hfm'; omega⟩
              | exact ⟨n - (i + 1), ⟨i + 1, (by first | omega | go_num), by omega, unhide hok2, unhide hP, rfl⟩, by have := unhide hfm'; omega⟩
      · have hie : ¬ (i : Int) < (n : Int) := by omega
        have hres := hide (rightB_true (V := V) (L := L) ⟨by have h1 := unhide hnN'; have := unhide hn'; omega, fun i' h => unhide hok' i' (by have := unhide hn'; omega) h⟩)
        try dsimp only
        repeat ((fail_if_success (with_reducible refine wp_reg (id := 4) ?_)); (first | go_values | go_skip | go_step | go_guarded | go_upon | go_in | go_back | fail))
        with_reducible refine wp_reg (id := 4) ?_
        iterate 4
          refine wpO_want rfl ?_
          go_simp
        refine wpO_done ?_
        try go_frame
        go_wp2_with fail
        refine Sp.leaves0 ?_
        exact ⟨_, results_tmp rfl _ _ _, by rw [unhide hres]; rfl, (unhide hP).extf⟩
  · skip
    try dsimp only
    repeat ((fail_if_success (with_reducible refine wp_reg (id := 1) ?_)); (first | go_values | go_skip | go_step | go_guarded | go_upon | go_in | go_back | fail))
    with_reducible refine wp_reg (id := 1) ?_
    have q0 := (unhide hP).cell 0 0 (v := .slice A V.length cA) rfl rfl
    have hself := Ext.refl y1
    iterate 6
      refine wpO_want rfl ?_
      go_simp
    clear q0 hself
    refine wpO_done ?_
    try go_frame
    have hres := hide (rightB_false (V := V) (L := L) fun h => hnN (by have := h.1; have := unhide hn'; omega))
    go_wp2_with fail
    refine Sp.leaves0 ?_
    exact ⟨_, results_tmp rfl _ _ _, by rw [unhide hres]; rfl, (unhide hP).extf⟩

set_option maxRecDepth 100000 in
set_option maxHeartbeats 16000000 in
theorem perfectR_any (A B : Option Addr) (V : List (Int × Thing)) (E : List ((Int × Int) × Thing)) (cA cB : Nat) (C : Option Addr) (L : List Int) (cL : Nat) (w : World) (hV : SlAt encV 3 w A V) (hnV : V.length ≤ 4096) (hE : SlAt encE 4 w B E) (hnE : E.length ≤ 4096) (hL : SlAt encI 1 w C L) (hl : L.length ≤ 4096) (hcL : L.length ≤ cL) :
    Calls Tryz.prog 32 #[.agg #[.slice A V.length cA, .slice B E.length cB], .slice C L.length cL] w fun e w' => e = .returned (.bool (perB V E L)) ∧ Ext w w' := by
  have hV' := hide hV
  have hE' := hide hE
  have hnV' := hide hnV
  have hnE' := hide hnE
  clear hV hE hnV hnE
  have hL' := hide hL
  obtain ⟨n, hn⟩ : ∃ n, n = L.length := ⟨_, rfl⟩
  rw [← hn] at hl hcL ⊢
  have hn' := hide hn
  have hl' := hide hl
  have hcL' := hide hcL
  clear hL hn hl hcL
  have hP := hide (Sp.new w)
  refine callsIn_wide.1 (callsIn_of_wp_marks (n := 0) Tryz.func32 rfl trivial (wpIn_wide.2 ?_))
  simp only [Tryz.ntmps32, List.size_toArray, List.length_cons, List.length_nil, Nat.reduceAdd, Nat.reduceSub, Array.replicate_succ, Array.replicate_zero, List.push_toArray, List.append_toArray, List.nil_append, List.cons_append]
  try dsimp only
  repeat ((fail_if_success (with_reducible refine wp_reg (id := 0) ?_)); (first | go_values | go_skip | go_step | go_guarded | go_upon | go_in | go_back | fail))
  with_reducible refine wp_reg (id := 0) ?_
  refine (unhide hP).allocO 28 #[.slice A V.length cA, .slice B E.length cB] rfl (run_box (v := .agg #[.slice A V.length cA, .slice B E.length cB]) rfl rfl) ?_
  intro r2 y1 hQ
  replace hP : Hid (Sp w [] w [] [(r2, 28, #[.slice A V.length cA, .slice B E.length cB])] [] y1) := hide hQ
  clear hQ
  refine wpO_want rfl ?_
  go_simp
  refine wpO_done ?_
  try go_frame
  try dsimp only
  repeat ((fail_if_success (with_reducible refine wp_reg (id := 1) ?_)); (first | go_values | go_skip | go_step | go_guarded | go_upon | go_in | go_back | fail))
  with_reducible refine wp_reg (id := 1) ?_
  refine wpO_want rfl ?_
  go_simp
  refine wpO_done ?_
  try go_frame
  go_wp2_with fail
  refine wp_loop_ix (fun fi a' wr => ∃ (i : Nat), a'.tmps.size = 25 ∧ a'.tmps.getD 1 undef = .slice C n cL ∧ a'.tmps.getD 2 undef = .pointer (some ⟨r2, 0, none⟩) ∧ a'.tmps.getD 5 undef = .int .i64 (i : Nat) ∧ a'.defers = [] ∧ i ≤ n ∧ (∀ i' (_ : i' < i) (hl : i' < L.length), ClqR V E (nbrR E L[i'] (L.drop (i' + 1)))) ∧ Sp w [] w [] [(r2, 28, #[.slice A V.length cA, .slice B E.length cB])] [] wr ∧ fi = n - i) (n - 0) ?_ ?_
  · exact ⟨0, rfl, rfl, rfl, rfl, rfl, Nat.zero_le _, fun i' h => absurd h (Nat.not_lt_zero _), unhide hP, rfl⟩
  · rintro fi ⟨tm, dfs⟩ wr ⟨i, hsz, e1, e2, e5, hdf, hin, hok, hPr, hfm⟩
    obtain ⟨us, rfl⟩ : ∃ us : Nat → Value, tm = #[us 0, us 1, us 2, us 3, us 4, us 5, us 6, us 7, us 8, us 9, us 10, us 11, us 12, us 13, us 14, us 15, us 16, us 17, us 18, us 19, us 20, us 21, us 22, us 23, us 24] := ⟨fun i => tm.getD i undef, arr_fn hsz⟩
    have h1 : us 1 = .slice C n cL := e1
    have h2 : us 2 = .pointer (some ⟨r2, 0, none⟩) := e2
    have h5 : us 5 = .int .i64 (i : Nat) := e5
    have hdf2 : dfs = [] := hdf
    subst hdf2
    clear hdf hsz e1 e2 e5
    simp only [h1, h2, h5]
    clear h1 h2 h5
    clear hP
    have hP := hide hPr
    have hok' := hide hok
    have hfm' := hide hfm
    clear hPr hok hfm
    by_cases hlt : i < n
    · have hiL : i < L.length := by have := unhide hn'; omega
      have hilt := hide hlt
      have hil : (i : Int) < (n : Int) := by omega
      have hib : (i : Int) ≤ 4096 := by have := unhide hl'; omega
      have hw1 : IntKind.i64.wrap ((i : Int) + 1) = ((i + 1 : Nat) : Int) := by rw [show (i : Int) + 1 = ((i + 1 : Nat) : Int) by omega]; exact IntWalk.i64_in _ (by omega)
      obtain ⟨b, off, rfl, _⟩ := cellI (unhide hL') hiL
      obtain ⟨x, hx⟩ : ∃ x, x = L[i] := ⟨_, rfl⟩
      have hx' := hide hx
      obtain ⟨M, hM⟩ : ∃ M, M = L.drop (i + 1) := ⟨_, rfl⟩
      have hMl := hide (show M.length = n - (i + 1) by rw [hM, List.length_drop, ← unhide hn'])
      have hMs := hide (fun (W : World) (h : SlAt encI 1 W (some ⟨b, off, none⟩) L) => by
        have h2 := h.rest (i + 1) cL (by have := unhide hcL'; have := unhide hn'; omega)
        rw [← hM] at h2
        exact h2)
      have hM' := hide hM
      clear hx hM
      try dsimp only
      repeat ((fail_if_success (with_reducible refine wp_reg (id := 2) ?_)); (first | go_values | go_skip | go_step | go_guarded | go_upon | go_in | go_back | fail))
      with_reducible refine wp_reg (id := 2) ?_
      iterate 4
        refine wpO_want rfl ?_
        go_simp
      refine wpO_done ?_
      try go_frame
      go_wp2_with fail
      have c0 := slK (S := []) ((unhide hL').ext (unhide hP).extf) (by simp) hiL
      rw [← unhide hx'] at c0
      have q0 := (unhide hP).cellK (S := []) 0 0 (v := .slice A V.length cA) rfl rfl (by simp)
      have q1 := (unhide hP).cellK (S := []) 0 1 (v := .slice B E.length cB) rfl rfl (by simp)
      have hself := Keep.refl [] wr
      refine wp_regionK (P := Tryz.prog) [] [0,1,2,3,4,5,6,7,8,9] [] 3 #[true,true,true,true,true,true,true,true,true,true,false,false,false] (by kernel_rfl) (by kernel_rfl) rfl (by rfl) ?_
      iterate 9
        refine ql_want (v := ?_) rfl (by rfl) (fun W hW => ?_) ?_
        rotate_left
        · go_simp
          first | done | rfl
        go_frame
      refine ql_want (v := .slice (restA (some ⟨b, off, none⟩) (i + 1) cL 1) (n - (i + 1)) (cL - (i + 1))) rfl (by rfl) (fun W hW => by rw [run_sl_from (k := i + 1) rfl rfl (by rfl) Tryz.underlying31 (Tryz.sizeOf3 W) (by omega)]; exact qUpon_value (Ext.refl _)) ?_
      go_frame
      refine wpQL_nil (fun y2 hxq => ?_)
      have hK := hide (hxq.keep [])
      replace hP : Hid (Sp w [] w [] [(r2, 28, #[.slice A V.length cA, .slice B E.length cB])] [] y2) := hide ((unhide hP).ext hxq)
      clear hxq
      clear c0 q0 q1 hself
      refine lx_one (i := 10) (by kernel_rfl) rfl (by rfl) #[true,true,true,true,true,true,true,true,true,true,true,false,false] (by rfl) ?_
      have hca := nearR_any A B V E cA cB (restA (some ⟨b, off, none⟩) (i + 1) cL 1) M (cL - (i + 1)) x y2 ((unhide hE').ext (unhide hP).extf) (unhide hnE') (unhide hMs _ ((unhide hL').ext (unhide hP).extf)) (by have := unhide hMl; have := unhide hl'; omega)
      rw [unhide hMl] at hca
      obtain ⟨N, hN⟩ : ∃ N, N = nbrR E x M := ⟨_, rfl⟩
      have hNl := hide (show N.length ≤ 4096 by rw [hN]; have := nbr_len E x M; have := unhide hMl; have := unhide hl'; omega)
      rw [← hN] at hca
      go_simp
      refine (hca).mono ?_
      rintro _ zy3 ⟨A3, c3, rfl, ho, hxc⟩
      clear hca
      obtain ⟨m3, hm⟩ : ∃ m3, m3 = N.length := ⟨_, rfl⟩
      rw [← hm] at ho ⊢
      have hm3' := hide hm
      have hN' := hide hN
      clear hm hN
      refine ⟨_, rfl, (unhide hK).trans (hxc.keep _), fun y3 hxd => ?_⟩
      replace hP : Hid (Sp w [] w [] [(r2, 28, #[.slice A V.length cA, .slice B E.length cB])] [(3, 1, .slice A3 m3 c3, m3, N.flatMap encI)] y3) := hide (((unhide hP).addRow hxc ho).ext hxd)
      replace hK := hide ((unhide hK).trans ((hxc.trans hxd).keep _))
      clear ho
      clear hxc hxd
      try go_frame
      refine lx_one (i := 11) (by kernel_rfl) rfl (by rfl) #[true,true,true,true,true,true,true,true,true,true,true,true,false] (by rfl) ?_
      have hca := clqR_walk A B V E cA cB A3 N c3 y3 ((unhide hV').ext (unhide hP).extf) (unhide hnV') ((unhide hE').ext (unhide hP).extf) (unhide hnE') (own_at (enc := encI) (by have h := (unhide hP).row 0 rfl; rw [unhide hm3'] at h; exact h) (fun _ => rfl)) (unhide hNl)
      rw [← unhide hm3'] at hca
      obtain ⟨q, hq⟩ : ∃ q, q = clqB V E N := ⟨_, rfl⟩
      rw [← hq] at hca
      have hq' := hide hq
      clear hq
      go_simp
      refine (hca).mono ?_
      rintro _ zy4 ⟨rfl, hxc⟩
      clear hca
      refine ⟨_, rfl, (unhide hK).trans (hxc.keep _), fun y4 hxd => ?_⟩
      replace hP : Hid (Sp w [] w [] [(r2, 28, #[.slice A V.length cA, .slice B E.length cB])] [(3, 1, .slice A3 m3 c3, m3, N.flatMap encI)] y4) := hide ((unhide hP).ext (hxc.trans hxd))
      replace hK := hide ((unhide hK).trans ((hxc.trans hxd).keep _))
      clear hxc hxd
      try go_frame
      refine lx_rekeep (unhide hK) [12] [] 0 1 #[true,true,true,true,true,true,true,true,true,true,true,true,false] #[true,true,true,true,true,true,true,true,true,true,true,true,true] (by kernel_rfl) rfl (by rfl) ?_
      clear hK
      iterate 1
        refine ql_want (v := ?_) rfl (by rfl) (fun W hW => ?_) ?_
        rotate_left
        · go_simp
          first | done | rfl
        go_frame
      refine wpQL_nil (fun y5 hxq => ?_)
      replace hP : Hid (Sp w [] w [] [(r2, 28, #[.slice A V.length cA, .slice B E.length cB])] [(3, 1, .slice A3 m3 c3, m3, N.flatMap encI)] y5) := hide ((unhide hP).ext hxq)
      clear hxq
      refine wpX_done (by kernel_rfl) ?_
      try go_frame
      cases q
      · skip
        have hres := hide (perB_false (V := V) (E := E) (L := L) fun h => by
          have h1 := clqB_true.2 (h i hiL)
          rw [← unhide hx', ← unhide hM', ← unhide hN', ← unhide hq'] at h1
          cases h1)
        go_wp2_with fail
        refine Sp.leaves0 ?_
        exact ⟨_, results_tmp rfl _ _ _, by rw [unhide hres]; rfl, (unhide hP).extf⟩
      · skip
        have hok2 := hide (show ∀ i' (_ : i' < i + 1) (hl : i' < L.length), ClqR V E (nbrR E L[i'] (L.drop (i' + 1))) from fun i' h1 hl => by
          rcases Nat.lt_or_ge i' i with h2 | h2
          · exact unhide hok' i' h2 hl
          · have : i' = i := by omega
            subst this
            rw [← unhide hx', ← unhide hM', ← unhide hN']
            exact clqB_true.1 (unhide hq').symm)
        replace hP : Hid (Sp w [] w [] [(r2, 28, #[.slice A V.length cA, .slice B E.length cB])] [] y5) := hide ((unhide hP).sub (List.Sublist.refl _) (List.nil_sublist _))
        go_wp2_with fail
        have h1 := unhide hilt
        first
        | exact ⟨n - (i + 1), ⟨i + 1, (by first | rfl | trivial), (by first | rfl | trivial), (by first | rfl | trivial), (by first | rfl | (show _ = Value.int _ _; go_num) | go_num), (by first | rfl | trivial), by omega, unhide hok2, unhide hP, rfl⟩, by have := unhide hfm'; omega⟩
        | exact ⟨n - (i + 1), ⟨i + 1, (by first | omega | go_num), by omega, unhide hok2, unhide hP, rfl⟩, by have := unhide hfm'; omega⟩
    · have hie : ¬ (i : Int) < (n : Int) := by omega
      have hres := hide (perB_true (V := V) (E := E) (L := L) fun i' h => unhide hok' i' (by have := unhide hn'; omega) h)
      try dsimp only
      repeat ((fail_if_success (with_reducible refine wp_reg (id := 2) ?_)); (first | go_values | go_skip | go_step | go_guarded | go_upon | go_in | go_back | fail))
      with_reducible refine wp_reg (id := 2) ?_
      iterate 4
        refine wpO_want rfl ?_
        go_simp
      refine wpO_done ?_
      try go_frame
      go_wp2_with fail
      refine Sp.leaves0 ?_
      exact ⟨_, results_tmp rfl _ _ _, by rw [unhide hres]; rfl, (unhide hP).extf⟩
end Go.Proofs.YtmfkkkhddigkfaaGreatDoor
/- law01.From: a list of numbers as a set. Conditions: see each theorem. -/
namespace Go.Proofs.YtmfkkkhddigkfaaGreatDoor
open Go Go.RowKit
attribute [local go_sem] qUpon lUpon

theorem bitW_shl (n : Nat) : IntKind.u64.wrap (2 ^ (n % 64)) = bitW n := by
  rw [IntKind.wrap_u64]
  have h3 : 2 ^ (n % 64) < 2 ^ 64 := Nat.pow_lt_pow_right (by omega) (by omega)
  have e : ((2 : Int) ^ (n % 64)) = ((2 ^ (n % 64) : Nat) : Int) := by simp
  unfold bitW
  rw [e]
  generalize 2 ^ (n % 64) = m at h3
  omega
theorem bitW_shl' (n : Nat) : IntKind.u64.wrap (2 ^ ((n : Int) % 64).toNat) = bitW n := by
  rw [show ((n : Int) % 64).toNat = n % 64 by omega]
  exact bitW_shl n
theorem tmod64 (n : Nat) : ((n : Nat) : Int).tmod 64 = ((n % 64 : Nat) : Int) := by
  rw [Int.tmod_eq_emod_of_nonneg (by omega)]
  omega

/-- a set with one more element, in memory: all that the walk needs behind the store -/
theorem with_step {w wr w3 w4 : World} {b4 b2 n N : Nat} {T : TypeId} {A : Option Addr} {L : List Int} (hB : Blk wr b4 T (setC N)) (hA : Blk wr b2 T (setC 0)) (hs : SlAt encI 1 wr A L) (hx : Ext w wr) (hx3 : Ext wr w3) (hx4 : Ext (w3.setCell ⟨b4, n / 64, none⟩ (.int .u64 (bits .or .u64 (wd N (n / 64)) (bitW n)))) w4) (hb : w.heap.size ≤ b4) (hne : b2 ≠ b4) :
    Blk w4 b4 T (setC (N ||| 2 ^ n)) ∧ Blk w4 b2 T (setC 0) ∧ SlAt encI 1 w4 A L ∧ Ext w w4 := by
  have hk3 : Keep [b4] w3 (w3.setCell ⟨b4, n / 64, none⟩ (.int .u64 (bits .or .u64 (wd N (n / 64)) (bitW n)))) := Keep.setCell _ _ _ _
  refine ⟨?_, ((hA.ext hx3).keep hk3 (by simpa using hne)).ext hx4, ((hs.ext hx3).keep_S (hB.ext hx3) encI_nu encI0 hk3).ext hx4, ((hx.trans hx3).of_new hk3 (by simpa using hb)).trans hx4⟩
  have h := ((hB.ext hx3).set (n / 64) (.int .u64 (bits .or .u64 (wd N (n / 64)) (bitW n)))).ext hx4
  rwa [setC_with N n] at h
set_option maxRecDepth 100000 in
set_option maxHeartbeats 8000000 in
theorem from01_any (A : Option Addr) (L : List Int) (cL : Nat) (w : World) (hL : SlAt encI 1 w A L) (_hl : L.length ≤ 4096) :
    Calls Tryz.prog 71 #[.slice A L.length cL] w fun e w' => e = .returned (.agg (setC (fromS L))) ∧ Ext w w' := by
  have hB0 := hide (Blk.new w 51 (setC 0))
  have hs0 := hide hL
  clear hL
  go_enter Tryz.func71, Tryz.ntmps71
  go_wp2_with fail
  have hx1 := hide ((ext_self1 w (.cells (setC 0) 51)).trans (ext_self1 _ (.cells (setC 0) 51)))
  have hB2 := hide ((unhide hB0).ext (ext_self1 (w.alloc (.cells (setC 0) 51)) (.cells (setC 0) 51)))
  have hB4 := hide (Blk.new (w.alloc (.cells (setC 0) 51)) 51 (setC 0))
  have hs : (w.alloc (.cells (setC 0) 51)).heap.size = w.heap.size + 1 := World.size_alloc _ _
  rw [hs] at hB4
  clear hs hB0
  have hz : setC 0 = #[.int .u64 0, .int .u64 0, .int .u64 0, .int .u64 0, .int .u64 0, .int .u64 0, .int .u64 0, .int .u64 0, .int .u64 0, .int .u64 0, .int .u64 0, .int .u64 0, .int .u64 0, .int .u64 0, .int .u64 0, .int .u64 0] := rfl
  rw [hz] at hx1 hB2 hB4
  generalize (w.alloc (.cells #[.int .u64 0, .int .u64 0, .int .u64 0, .int .u64 0, .int .u64 0, .int .u64 0, .int .u64 0, .int .u64 0, .int .u64 0, .int .u64 0, .int .u64 0, .int .u64 0, .int .u64 0, .int .u64 0, .int .u64 0, .int .u64 0] 51)).alloc (.cells #[.int .u64 0, .int .u64 0, .int .u64 0, .int .u64 0, .int .u64 0, .int .u64 0, .int .u64 0, .int .u64 0, .int .u64 0, .int .u64 0, .int .u64 0, .int .u64 0, .int .u64 0, .int .u64 0, .int .u64 0, .int .u64 0] 51) = W1 at *
  rw [← hz] at hB4 hB2
  clear hz
  have hlo := hide (show w.heap.size ≤ w.heap.size + 1 ∧ w.heap.size ≠ w.heap.size + 1 by omega)
  have hlo2 := hide (Nat.le_refl w.heap.size)
  generalize hb4e : w.heap.size + 1 = b4 at *
  generalize hb2e : w.heap.size = b2 at *
  have hlo : Hid (w.heap.size ≤ b4 ∧ b2 ≠ b4) := by rw [hb2e]; exact hlo
  have hs1 := hide ((unhide hs0).ext (unhide hx1))
  clear hs0
  go_loopw [4] (fun i wr => ∃ k : Nat, k ≤ L.length ∧ i = .int .i64 k ∧ Blk wr b4 51 (setC (fromS (L.take k))) ∧ Blk wr b2 51 (setC 0) ∧ SlAt encI 1 wr A L ∧ Ext w wr) (fun i _ => L.length - (intOf i).toNat)
  case atStart => exact ⟨0, Nat.zero_le _, rfl, unhide hB4, unhide hB2, unhide hs1, unhide hx1⟩
  case round =>
    obtain ⟨k, hk, rfl, hB, hA, hs, hx⟩ := hrel
    have hB' := hide hB
    have hA' := hide hA
    have hs' := hide hs
    have hx' := hide hx
    clear hB4 hB2 hs1 hx1 hB hA hs hx
    by_cases hlt : k < L.length
    · have hB := unhide hB'
      obtain ⟨bb, off, rfl, c0⟩ := atI (unhide hs') hlt
      have hn' := hide (fromS_next L k hlt)
      generalize L[k] = x at c0 hn'
      generalize fromS (L.take k) = N at hB hB' hn'
      have hself := Ext.refl wr
      by_cases hf : fitB x = true
      · obtain ⟨n, rfl⟩ : ∃ n : Nat, x = n := ⟨x.toNat, by simp [fitB] at hf; omega⟩
        have hn : n < 1024 := by simp [fitB] at hf; omega
        have hN := hide (show withS N (n : Int) = N ||| 2 ^ n by rw [withS, if_pos hf, Int.toNat_natCast])
        obtain ⟨h1, hw, h6, h7, h8⟩ := idx_facts hn
        have h9 := tmod64 n
        have h10 := bitW_shl' n
        have k0 := cell_of hB hn
        have z0 : ¬ (n : Int) < 0 := by omega
        have z1 : (n : Int) < 1024 := by omega
        clear hB hf
        go_wp2_with fail
        refine wp_region_ext (P := Tryz.prog) [0,1,2,3,4,5,6,7,8,9,10,11,12,13,14,15,16,17,18,19] [20] 1 #[true,true,true,true,true,true,true,true,true,true,true,true,true,true,true,true,true,true,true,true,false] (by kernel_rfl) (by kernel_rfl) rfl (by rfl) ?_
        iterate 20
          refine ql_want (v := ?_) rfl (by rfl) (fun W hW => ?_) ?_
          rotate_left
          · go_simp
            first | done | rfl
          go_frame
        refine wpQL_nil (fun w3 hx3 => ?_)
        have c1 := k0 w3 hx3
        have f1 := ((unhide hB').ext hx3).frozen (n / 64)
        refine lx_one (i := 20) (by kernel_rfl) rfl (by rfl) #[true,true,true,true,true,true,true,true,true,true,true,true,true,true,true,true,true,true,true,true,true] (by rfl) ?_
        go_simp
        intro w4 hx4
        have hst := with_step (unhide hB') (unhide hA') (unhide hs') (unhide hx') hx3 hx4 (unhide hlo).1 (unhide hlo).2
        have hB3 := hide hst.1
        have hA3 := hide hst.2.1
        have hs3 := hide hst.2.2.1
        have hx5 := hide hst.2.2.2
        clear hB' hA' hs' hx' hx3 hx4 c0 c1 f1 k0 h1 hw h6 h7 h8 h9 h10 hst hself
        refine wpX_done (by kernel_rfl) ?_
        try go_frame
        go_wp2_with fail
        go_roundw
        case rel => exact ⟨k + 1, by omega, by go_num, by rw [unhide hn', unhide hN]; exact unhide hB3, unhide hA3, unhide hs3, unhide hx5⟩
        case measure => simp [intOf]; omega
      · have hN := hide (show withS N x = N by rw [withS, if_neg hf])
        clear hB
        by_cases h0 : x < 0
        · go_wp2_with fail
          go_roundw
          case rel => exact ⟨k + 1, by omega, by go_num, by rw [unhide hn', unhide hN]; exact unhide hB', unhide hA', unhide hs', unhide hx'⟩
          case measure => simp [intOf]; omega
        · have h1 : ¬ x < 1024 := by simp [fitB] at hf; omega
          go_wp2_with fail
          go_roundw
          case rel => exact ⟨k + 1, by omega, by go_num, by rw [unhide hn', unhide hN]; exact unhide hB', unhide hA', unhide hs', unhide hx'⟩
          case measure => simp [intOf]; omega
    · have hke : k = L.length := by omega
      have hB := unhide hB'
      have hA := unhide hA'
      rw [hke, List.take_length] at hB hB'
      have hself := Ext.refl wr
      clear hlt
      obtain ⟨N, hN⟩ : ∃ N, fromS L = N := ⟨_, rfl⟩
      rw [hN] at hB hB'
      have hN' := hide hN
      clear hN
      have e0 := hB.cells 0 (v := .int .u64 (wd N 0)) rfl
      have e1 := hB.cells 1 (v := .int .u64 (wd N 1)) rfl
      have e2 := hB.cells 2 (v := .int .u64 (wd N 2)) rfl
      have e3 := hB.cells 3 (v := .int .u64 (wd N 3)) rfl
      have e4 := hB.cells 4 (v := .int .u64 (wd N 4)) rfl
      have e5 := hB.cells 5 (v := .int .u64 (wd N 5)) rfl
      have e6 := hB.cells 6 (v := .int .u64 (wd N 6)) rfl
      have e7 := hB.cells 7 (v := .int .u64 (wd N 7)) rfl
      have e8 := hB.cells 8 (v := .int .u64 (wd N 8)) rfl
      have e9 := hB.cells 9 (v := .int .u64 (wd N 9)) rfl
      have e10 := hB.cells 10 (v := .int .u64 (wd N 10)) rfl
      have e11 := hB.cells 11 (v := .int .u64 (wd N 11)) rfl
      have e12 := hB.cells 12 (v := .int .u64 (wd N 12)) rfl
      have e13 := hB.cells 13 (v := .int .u64 (wd N 13)) rfl
      have e14 := hB.cells 14 (v := .int .u64 (wd N 14)) rfl
      have e15 := hB.cells 15 (v := .int .u64 (wd N 15)) rfl
      have g0 := hA.frozen 0
      have g1 := hA.frozen 1
      have g2 := hA.frozen 2
      have g3 := hA.frozen 3
      have g4 := hA.frozen 4
      have g5 := hA.frozen 5
      have g6 := hA.frozen 6
      have g7 := hA.frozen 7
      have g8 := hA.frozen 8
      have g9 := hA.frozen 9
      have g10 := hA.frozen 10
      have g11 := hA.frozen 11
      have g12 := hA.frozen 12
      have g13 := hA.frozen 13
      have g14 := hA.frozen 14
      have g15 := hA.frozen 15
      have z0 := hA.cells 0 (v := .int .u64 (wd 0 0)) rfl
      have z1 := hA.cells 1 (v := .int .u64 (wd 0 1)) rfl
      have z2 := hA.cells 2 (v := .int .u64 (wd 0 2)) rfl
      have z3 := hA.cells 3 (v := .int .u64 (wd 0 3)) rfl
      have z4 := hA.cells 4 (v := .int .u64 (wd 0 4)) rfl
      have z5 := hA.cells 5 (v := .int .u64 (wd 0 5)) rfl
      have z6 := hA.cells 6 (v := .int .u64 (wd 0 6)) rfl
      have z7 := hA.cells 7 (v := .int .u64 (wd 0 7)) rfl
      have z8 := hA.cells 8 (v := .int .u64 (wd 0 8)) rfl
      have z9 := hA.cells 9 (v := .int .u64 (wd 0 9)) rfl
      have z10 := hA.cells 10 (v := .int .u64 (wd 0 10)) rfl
      have z11 := hA.cells 11 (v := .int .u64 (wd 0 11)) rfl
      have z12 := hA.cells 12 (v := .int .u64 (wd 0 12)) rfl
      have z13 := hA.cells 13 (v := .int .u64 (wd 0 13)) rfl
      have z14 := hA.cells 14 (v := .int .u64 (wd 0 14)) rfl
      have z15 := hA.cells 15 (v := .int .u64 (wd 0 15)) rfl
      clear hB hA
      go_wp2_with fail
      refine bodyPost_ret (ret_cell1 rfl rfl (load_Set _ b2 N (Blk.set16 N (unhide hA')))) rfl ?_
      exact ⟨by rw [unhide hN'], (unhide hx').of_new (Keep.set16 wr b2 N) (by simp; omega)⟩
end Go.Proofs.YtmfkkkhddigkfaaGreatDoor
/- law01.To. Conditions: see each theorem. -/
namespace Go.Proofs.YtmfkkkhddigkfaaGreatDoor
open Go Go.RowKit
attribute [local go_sem] qUpon lUpon

theorem bit_at (N j : Nat) : (bits .and .u64 (wd N (j / 64) / 2 ^ (j % 64)) 1 == 1) = N.testBit j := by
  have e : wd N (j / 64) / 2 ^ (j % 64) = ((wdN N (j / 64) / 2 ^ (j % 64) : Nat) : Int) := by
    unfold wd
    simp
  have hlt : wdN N (j / 64) / 2 ^ (j % 64) < 2 ^ 64 := Nat.lt_of_le_of_lt (Nat.div_le_self _ _) (wdN_lt _ _)
  rw [e, show (1 : Int) = ((1 : Nat) : Int) from rfl, u64_and_nat _ _ hlt (by decide)]
  have h := wdN_bit N (j / 64) (j % 64)
  rw [show 64 * (j / 64) + j % 64 = j by omega, decide_eq_true (show j % 64 < 64 by omega), Bool.true_and] at h
  rw [← h, Nat.testBit_eq_decide_div_mod_eq, Nat.and_one_is_mod, Bool.eq_iff_iff]
  simp only [beq_iff_eq, decide_eq_true_eq]
  omega

set_option maxRecDepth 100000 in
set_option maxHeartbeats 4000000 in
theorem to01_any (N : Nat) (w : World) :
    Calls Tryz.prog 29 #[.agg (setC N)] w fun e w' => ∃ A c, e = .returned (.slice A (toL N).length c) ∧ w'.ownsRow w.heap.size 3 1 (.slice A (toL N).length c) (toL N).length ((toL N).flatMap encI) ∧ Ext w w' := by
  have hB := hide (Blk.new w 51 (setC N))
  have ho := World.ownsRow_made (base := w.heap.size + 1) (e := 3) (size := 1) (w.alloc (.cells (setC N) 51)) #[] 0 (by rw [World.size_alloc]; omega) (by decide) rfl
  rw [World.size_alloc] at ho
  have ho' := hide ho
  have hs1 := hide (World.size_alloc w (.cells (setC N) 51))
  clear ho
  go_enter Tryz.func29, Tryz.ntmps29
  go_wp2_with fail
  have hx0 := hide (ext_self1 w (.cells (setC N) 51))
  generalize w.alloc (.cells (setC N) 51) = w1 at *
  generalize hgw : w.heap.size = gw at *
  have hxs := hide (ext_self1 w1 (.cells #[] 3))
  go_loopw [3, 4] (fun l i wr => ∃ (k : Nat) (vs : Value) (o : List Int), k ≤ 1024 ∧ i = .int .i64 k ∧ vs = l ∧ o = toK N k ∧ wr.ownsRow (gw + 1) 3 1 vs o.length (o.flatMap encI) ∧ Ext w1 wr) (fun _ i _ => 1024 - (intOf i).toNat)
  case atStart => exact ⟨0, _, [], by omega, rfl, rfl, rfl, unhide ho', unhide hxs⟩
  case round =>
    obtain ⟨k, vs, o, hk, rfl, hl3, ho, hown, hx⟩ := hrel
    subst hl3
    have hown' := hide hown
    have hx' := hide hx
    have hst := hide (toK_next N k)
    have hol' := hide (show o.length ≤ 100000 by
      rw [ho]
      have := toK_le N k
      omega)
    have hBr := (unhide hB).ext hx
    have ho2 := hide ho
    clear hown hx ho ho' hxs
    have hself := Ext.refl wr
    by_cases hlt : k < 1024
    · have c0 := cell_of hBr hlt
      obtain ⟨h1, hw, h6, h7, h8⟩ := idx_facts hlt
      have h9 := tmod64 k
      have h10 := bit_at N k
      clear hBr
      rcases hb : N.testBit k
      · rw [hb] at h10
        have hb' := hide hb
        clear hb
        go_wp2_with fail
        go_roundw
        case rel => exact ⟨k + 1, _, o, by omega, by go_num, rfl, by rw [unhide hst, unhide hb', unhide ho2]; rfl, unhide hown', unhide hx'⟩
        case measure => simp [intOf]; omega
      · rw [hb] at h10
        have hb' := hide hb
        clear hb
        go_wp2_with (at_builtin; refine wp_ap infoI Tryz.underlying48 one_encI (fun _ => rfl) (by decide) (by decide) wr rfl _ _ rfl (gw + 1) vs _ (o) ((k : Int)) rfl _ _ (by rfl) rfl (by rfl) (by rfl) (unhide hown') (unhide hol') (by rw [← unhide hs1]; exact Below.size (unhide hx')) ?_; intro A2 k1 w4 ho4 hg4; have hx4 := hide (app_step2 (unhide hx') (unhide hown') (ext_self1 _ _) hg4 (Nat.le_of_eq (unhide hs1))); have ho4' := hide ho4; clear ho4 hg4)
        go_roundw
        case rel => exact ⟨k + 1, _, o ++ [(k : Int)], by omega, by go_num, rfl, by rw [unhide hst, unhide hb', unhide ho2]; rfl, by have h := unhide ho4'; simpa using h, unhide hx4⟩
        case measure => simp [intOf]; omega
    · have hke : k = 1024 := by omega
      subst hke
      have hoN := unhide ho2
      subst hoN
      obtain ⟨A1, c1, rfl⟩ := own_slice (unhide hown')
      clear hBr
      go_wp2_with fail
      go_ret
      refine ⟨A1, c1, rfl, ?_, (unhide hx0).trans (unhide hx')⟩
      have h := unhide hown'
      exact own_base_le h (by omega)
end Go.Proofs.YtmfkkkhddigkfaaGreatDoor
/- palmettelaw24.ChordalCliques answers true. Conditions: see each theorem. -/
namespace Go.Proofs.YtmfkkkhddigkfaaGreatDoor
open Go Go.RowKit Go.Shelf
attribute [local go_sem] qUpon lUpon
attribute [local irreducible] wpO wpX wpQL

theorem Sp.setNL {P : Program} {l : List Oper} {o : Oper} {a : Act} {W w wf : World} {T0 : List Nat} {ds : List Deferred} {L : List Cl} {Rs : List Rw} {S : List Nat} {w1 : World} {safe : Nat → Bool} {q : Prop} {Q : Act → World → Prop} {n : Nat} {li : Array Bool} (h : Sp wf T0 w ds L Rs W) (hK : Keep S w1 W) (i : Nat) {c : Nat} {t : TypeId} {cs : Array Value} (cs' : Array Value) (hi : L[i]? = some (c, t, cs)) (hc : w1.heap.size ≤ c) (hrun : Blk W c t cs → (execOp a.eval o).run P W = .ok .skip (W.setRow c cs'))
    (hk : ∀ W', Sp wf T0 w ds (L.set i (c, t, cs')) Rs W' → Keep S w1 W' → wpX P l.toArray Ext (Keep S w1) safe Q n li (a.put o.dst undef) W') : lUpon P (fun v w' => (q → Keep S w1 w') ∧ ∀ w'', Ext w' w'' → wpX P l.toArray Ext (Keep S w1) safe Q n li (a.put o.dst v) w'') ((execOp a.eval o).run P W) := by
  rw [hrun (h.get i hi)]
  have hK2 : Keep S w1 (W.setRow c cs') := hK.of_new (Keep.setRow W c cs') (fun x hx => by rw [List.mem_singleton] at hx; subst hx; exact .inr hc)
  exact lUpon_skip ⟨fun _ => hK2, fun W' hx => hk W' ((h.set i hi).ext hx) (hK2.trans (hx.keep S))⟩
theorem smp_ref {V : List (Int × Thing)} {E : List ((Int × Int) × Thing)} (hi : GInv V E) (id : Int) : ((fitB id && (vS V).testBit id.toNat) && simpleS E id (vS V)) = smpB V E id := by
  have h1 : (fitB id && (vS V).testBit id.toNat) = hasV id V := by
    rw [Bool.eq_iff_iff]
    have h2 : (fitB id && (vS V).testBit id.toNat) = true ↔ id ∈ toL (vS V) := by
      rw [mem_toL']
      unfold fitB
      simp [and_assoc]
    rw [h2, mem_vS hi]
    exact hasV_iff.symm
  have h3 : simpleS E id (vS V) = clqB V E (nbrR E id (V.map (·.1))) := by
    rw [Bool.eq_iff_iff, simpleS_iff hi, clqB_true, toL_vS hi]
    exact (smp_nbr hi ((sv_map.1 hi.sv).imp fun h => Int.ne_of_lt h) (fun x hx => hx)).symm
  unfold smpB
  rw [h1, h3]
theorem clq_ref {V : List (Int × Thing)} {E : List ((Int × Int) × Thing)} (hi : GInv V E) (r : Nat) : (subS r (vS V) && cliqueS E r) = clqB V E (toL r) := by
  rw [Bool.eq_iff_iff, clqB_true, clqR_any hi, Bool.and_eq_true, subS_iff, cliqueS_iff hi]
  exact ⟨fun h => ⟨(toL_sorted r).imp fun h => Int.ne_of_lt h, fun x hx => (mem_vS hi).1 (h.1 x hx), h.2⟩, fun h => ⟨fun x hx => (mem_vS hi).2 (h.2.1 x hx), h.2.2⟩⟩

set_option maxRecDepth 100000 in
set_option maxHeartbeats 16000000 in
theorem chordalCliques_walk (A : Option Addr) (L : List Ed) (cL : Nat) (N : Nat) (id : Int) (w : World) (hL : SlAt encD 5 w A L) (_hN : N < 2 ^ (64 * 16)) (_hid : i64ok id) (hT : Tab w) :
    Calls Tryz.prog 6 #[.slice A L.length cL, .agg (setC N), .int .i64 id] w fun e w' => e = .returned (.bool true) ∧ Ext w w' := by
  have hL' := hide hL
  have hT' := hide hT
  clear hL hT
  have hP := hide (Sp.new w)
  refine callsIn_wide.1 (callsIn_of_wp_marks (n := 0) Tryz.func6 rfl trivial (wpIn_wide.2 ?_))
  simp only [Tryz.ntmps6, List.size_toArray, List.length_cons, List.length_nil, Nat.reduceAdd, Nat.reduceSub, Array.replicate_succ, Array.replicate_zero, List.push_toArray, List.append_toArray, List.nil_append, List.cons_append]
  try dsimp only
  repeat ((fail_if_success (with_reducible refine wp_reg (id := 0) ?_)); (first | go_values | go_skip | go_step | go_guarded | go_upon | go_in | go_back | fail))
  with_reducible refine wp_reg (id := 0) ?_
  refine (unhide hP).allocO 51 (setC N) rfl (run_box (v := .agg (setC N)) rfl rfl) ?_
  intro r4 y1 hQ
  replace hP : Hid (Sp w [] w [] [(r4, 51, setC N)] [] y1) := hide hQ
  clear hQ
  refine wpO_want rfl ?_
  go_simp
  refine wpO_done ?_
  try go_frame
  try dsimp only
  repeat ((fail_if_success (with_reducible refine wp_reg (id := 1) ?_)); (first | go_values | go_skip | go_step | go_guarded | go_upon | go_in | go_back | fail))
  with_reducible refine wp_reg (id := 1) ?_
  refine wpO_want rfl ?_
  go_simp
  refine (known24_any _ ((unhide hT').ext (unhide hP).extf)).mono ?_
  rintro _ y2 ⟨rfl, hxc⟩
  refine ⟨_, rfl, ?_⟩
  replace hP : Hid (Sp w [] w [] [(r4, 51, setC N)] [] y2) := hide ((unhide hP).ext hxc)
  clear hxc
  refine wpO_want rfl ?_
  go_simp
  refine wpO_done ?_
  try go_frame
  try dsimp only
  repeat ((fail_if_success (with_reducible refine wp_reg (id := 3) ?_)); (first | go_values | go_skip | go_step | go_guarded | go_upon | go_in | go_back | fail))
  with_reducible refine wp_reg (id := 3) ?_
  refine wpO_val rfl (run_move rfl rfl) ?_
  go_frame
  refine wpO_want rfl ?_
  go_simp
  have hca := take_any A L cL 12 y2 ((unhide hL').ext (unhide hP).extf)
  have hi := hide (mdS_inv L)
  refine hca.mono ?_
  clear hca
  generalize mdS L = S at *
  obtain ⟨V, E⟩ := S
  try dsimp only at hi ⊢
  rintro _ y3 ⟨g, bv, be, A1, B1, cA, cB, rfl, hg0, hs0, he0, hxc⟩
  refine ⟨_, rfl, ?_⟩
  replace hP : Hid (Sp w [] w [] [(r4, 51, setC N)] [] y3) := hide ((unhide hP).ext hxc)
  have hg := hide hg0
  have hsV := hide hs0
  have hsE := hide he0
  obtain ⟨q, hq⟩ : ∃ q, q = decide ((V.length : Int) ≤ 12) := ⟨_, rfl⟩
  rw [← hq]
  have hq' := hide hq
  have hnV := hide hg0.nV
  have hnE := hide hg0.nE
  clear hxc hg0 hs0 he0 hq
  generalize htu0 : Value.tuple _ = tu
  have htu := hide htu0
  clear htu0
  refine wpO_val rfl (run_move rfl rfl) ?_
  go_frame
  refine wpO_val rfl (run_extract (i := 0) (v := .pointer (some ⟨g, 0, none⟩)) rfl (unhide htu).symm rfl) ?_
  go_frame
  refine wpO_val rfl (run_extract (i := 1) (v := .agg #[.slice A1 V.length cA, .slice B1 E.length cB]) rfl (unhide htu).symm rfl) ?_
  go_frame
  refine wpO_val rfl (run_extract (i := 2) (v := .bool q) rfl (unhide htu).symm rfl) ?_
  go_frame
  refine (unhide hP).allocT 28 #[.slice none 0 0, .slice none 0 0] rfl (by go_simp) ?_
  intro r8 y4 hQ hxa hga
  replace hP : Hid (Sp w [] w [] [(r4, 51, setC N), (r8, 28, #[.slice none 0 0, .slice none 0 0])] [] y4) := hide hQ
  clear hQ
  try go_frame
  refine wpO_want rfl ?_
  go_simp
  refine (unhide hP).setT 1 #[.slice A1 V.length cA, .slice B1 E.length cB] rfl rfl (fun hb => run_store_row (v := .agg #[.slice A1 V.length cA, .slice B1 E.length cB]) rfl (by rfl) (by rfl) (by simp [go_sem]) hb rfl (fun u hu => by simp [Value.cells] at hu; rcases hu with rfl | rfl <;> rfl)) ?_
  intro y5 hQ hkq
  replace hP : Hid (Sp w [] w [] [(r4, 51, setC N), (r8, 28, #[.slice A1 V.length cA, .slice B1 E.length cB])] [] y5) := hide hQ
  have hxs := hxa.of_new hkq (fun x hx => by rw [List.mem_singleton] at hx; rw [hx]; exact hga)
  clear hQ hkq hxa hga
  try go_frame
  replace hg := hide ((unhide hg).ext (hxs))
  replace hsV := hide ((unhide hsV).ext (hxs))
  replace hsE := hide ((unhide hsE).ext (hxs))
  clear hxs
  refine wpO_want rfl ?_
  go_simp
  refine wpO_done ?_
  try go_frame
  clear htu
  cases q
  · skip
    go_wp2_with fail
    refine Sp.leaves0 ?_
    exact ⟨_, results_tmp rfl _ _ _, rfl, (unhide hP).extf⟩
  · skip
    have hsr := hide (fun x => smp_ref (unhide hi) x)
    have hcr := hide (fun r => clq_ref (unhide hi) r)
    have hVl := hide (show V.length ≤ 1024 from (unhide hi).nv)
    have hbb := fun q : Bool => show (q == q) = true by cases q <;> rfl
    have hbn := fun q : Bool => show (q != q) = false by cases q <;> rfl
    have hbb' := hide hbb
    have hbn' := hide hbn
    clear hbb hbn
    try dsimp only
    repeat ((fail_if_success (with_reducible refine wp_reg (id := 6) ?_)); (first | go_values | go_skip | go_step | go_guarded | go_upon | go_in | go_back | fail))
    with_reducible refine wp_reg (id := 6) ?_
    refine wpO_want rfl ?_
    go_simp
    refine wpO_done ?_
    try go_frame
    go_wp2_with fail
    refine wp_loop_ix (fun fi a' wr => ∃ (k : Nat), a'.tmps.size = 77 ∧ a'.tmps.getD 2 undef = .int .i64 id ∧ a'.tmps.getD 4 undef = .pointer (some ⟨r4, 0, none⟩) ∧ a'.tmps.getD 7 undef = .pointer (some ⟨g, 0, none⟩) ∧ a'.tmps.getD 8 undef = .pointer (some ⟨r8, 0, none⟩) ∧ a'.tmps.getD 10 undef = .int .i64 (k : Nat) ∧ a'.defers = [] ∧ k ≤ V.length ∧ IsG wr g bv be V E ∧ SlAt encV 3 wr A1 V ∧ SlAt encE 4 wr B1 E ∧ Sp w [] w [] [(r4, 51, setC N), (r8, 28, #[.slice A1 V.length cA, .slice B1 E.length cB])] [] wr ∧ fi = V.length - k) (V.length - 0) ?_ ?_
    · exact ⟨0, rfl, rfl, rfl, rfl, rfl, rfl, rfl, Nat.zero_le _, unhide hg, unhide hsV, unhide hsE, unhide hP, rfl⟩
    · rintro fi ⟨tm, dfs⟩ wr ⟨k, hsz, e2, e4, e7, e8, e10, hdf, hk, hgw, hvw, hew, hPr, hfm⟩
      obtain ⟨us, rfl⟩ : ∃ us : Nat → Value, tm = #[us 0, us 1, us 2, us 3, us 4, us 5, us 6, us 7, us 8, us 9, us 10, us 11, us 12, us 13, us 14, us 15, us 16, us 17, us 18, us 19, us 20, us 21, us 22, us 23, us 24, us 25, us 26, us 27, us 28, us 29, us 30, us 31, us 32, us 33, us 34, us 35, us 36, us 37, us 38, us 39, us 40, us 41, us 42, us 43, us 44, us 45, us 46, us 47, us 48, us 49, us 50, us 51, us 52, us 53, us 54, us 55, us 56, us 57, us 58, us 59, us 60, us 61, us 62, us 63, us 64, us 65, us 66, us 67, us 68, us 69, us 70, us 71, us 72, us 73, us 74, us 75, us 76] := ⟨fun i => tm.getD i undef, arr_fn hsz⟩
      have h2 : us 2 = .int .i64 id := e2
      have h4 : us 4 = .pointer (some ⟨r4, 0, none⟩) := e4
      have h7 : us 7 = .pointer (some ⟨g, 0, none⟩) := e7
      have h8 : us 8 = .pointer (some ⟨r8, 0, none⟩) := e8
      have h10 : us 10 = .int .i64 (k : Nat) := e10
      have hdf2 : dfs = [] := hdf
      subst hdf2
      clear hdf hsz e2 e4 e7 e8 e10
      simp only [h2, h4, h7, h8, h10]
      clear h2 h4 h7 h8 h10
      clear hP hg hsV hsE
      have hP := hide hPr
      have hg := hide hgw
      have hsV := hide hvw
      have hsE := hide hew
      have hfm' := hide hfm
      clear hPr hfm hgw hvw hew
      by_cases hlt : k < V.length
      · have hkl : (k : Int) < (V.length : Int) := by omega
        have hkv := hide hlt
        have hkb : (k : Int) ≤ 1024 := by have := unhide hVl; omega
        obtain ⟨bV, oV, rfl, d0, _, _⟩ := atV (unhide hsV) hlt
        obtain ⟨x, hx⟩ : ∃ x, x = V[k].1 := ⟨_, rfl⟩
        have c0 := hide (fun W (hW : Keep [] wr W) => show W.cell? ⟨bV, oV + k * 3, none⟩ = some (.int .i64 x) by rw [hx]; exact d0 W hW.ext)
        clear d0 hx
        have q0 := (unhide hP).cell 1 0 (v := .slice (some ⟨bV, oV, none⟩) V.length cA) rfl rfl
        have hself := Ext.refl wr
        try dsimp only
        repeat ((fail_if_success (with_reducible refine wp_reg (id := 7) ?_)); (first | go_values | go_skip | go_step | go_guarded | go_upon | go_in | go_back | fail))
        with_reducible refine wp_reg (id := 7) ?_
        iterate 5
          refine wpO_want rfl ?_
          go_simp
        clear q0 hself
        refine wpO_done ?_
        try go_frame
        go_wp2_with fail
        have c1 := unhide c0
        have q0 := (unhide hP).cellK (S := []) 1 0 (v := .slice (some ⟨bV, oV, none⟩) V.length cA) rfl rfl (by simp)
        have q1 := (unhide hP).cellK (S := []) 1 1 (v := .slice B1 E.length cB) rfl rfl (by simp)
        have hself := Keep.refl [] wr
        obtain ⟨q, hq⟩ : ∃ q, q = smpB V E x := ⟨_, rfl⟩
        have hsx := hide (unhide hsr x)
        rw [← hq] at hsx
        have hq' := hide hq
        have hqn := unhide hbn' q
        clear hq
        refine wp_regionK (P := Tryz.prog) [] [0,1,2,3,4,5,6,7,8,9,10,11,12,13,14,15,16] [] 0 #[true,true,true,true,true,true,true,true,true,true,true,true,true,true,true,true,true] (by kernel_rfl) (by kernel_rfl) rfl (by rfl) ?_
        iterate 7
          refine ql_want (v := ?_) rfl (by rfl) (fun W hW => ?_) ?_
          rotate_left
          · go_simp
            first | done | rfl
          go_frame
        refine ql_want (v := .bool q) rfl (by rfl) (fun W hW => ?_) ?_
        · go_simp
          refine (isSimplicial_any (some ⟨g, 0, none⟩) V E x W (GL.of ((unhide hg).ext ((Ext.refl _).of_new hW (by simp)))) ((unhide hT').ext ((unhide hP).extf.trans ((Ext.refl _).of_new hW (by simp))))).mono ?_
          rw [unhide hsx]
          rintro _ _ ⟨h1, h2⟩
          exact ⟨_, h1, rfl, h2⟩
        go_frame
        iterate 7
          refine ql_want (v := ?_) rfl (by rfl) (fun W hW => ?_) ?_
          rotate_left
          · go_simp
            first | done | rfl
          go_frame
        refine ql_want (v := .bool q) rfl (by rfl) (fun W hW => ?_) ?_
        · go_simp
          refine (simpleR_any (some ⟨bV, oV, none⟩) B1 V E cA cB x W ((unhide hsV).ext ((Ext.refl _).of_new hW (by simp))) (unhide hnV) ((unhide hsE).ext ((Ext.refl _).of_new hW (by simp))) (unhide hnE)).mono ?_
          rw [← unhide hq']
          rintro _ _ ⟨h1, h2⟩
          exact ⟨_, h1, rfl, h2⟩
        go_frame
        iterate 1
          refine ql_want (v := ?_) rfl (by rfl) (fun W hW => ?_) ?_
          rotate_left
          · go_simp
            first | done | rfl
          go_frame
        refine wpQL_nil (fun y6 hxq => ?_)
        replace hP : Hid (Sp w [] w [] [(r4, 51, setC N), (r8, 28, #[.slice (some ⟨bV, oV, none⟩) V.length cA, .slice B1 E.length cB])] [] y6) := hide ((unhide hP).ext hxq)
        replace hg := hide ((unhide hg).ext hxq)
        replace hsV := hide ((unhide hsV).ext hxq)
        replace hsE := hide ((unhide hsE).ext hxq)
        clear hxq
        refine wpX_done (by kernel_rfl) ?_
        try go_frame
        clear c1 q0 q1 hself hqn
        go_wp2_with fail
        have h1 := unhide hkv
        first
        | exact ⟨V.length - (k + 1), ⟨k + 1, (by first | rfl | trivial), (by first | rfl | trivial), (by first | rfl | trivial), (by first | rfl | trivial), (by first | rfl | trivial), (by first | rfl | (show _ = Value.int _ _; go_num) | go_num), (by first | rfl | trivial), by omega, unhide hg, unhide hsV, unhide hsE, unhide hP, rfl⟩, by have := unhide hfm'; omega⟩
        | exact ⟨V.length - (k + 1), ⟨k + 1, (by first | omega | go_num), by omega, unhide hg, unhide hsV, unhide hsE, unhide hP, rfl⟩, by have := unhide hfm'; omega⟩
      · have hkl : ¬ (k : Int) < (V.length : Int) := by omega
        have q0 := (unhide hP).cell 1 0 (v := .slice A1 V.length cA) rfl rfl
        have hself := Ext.refl wr
        try dsimp only
        repeat ((fail_if_success (with_reducible refine wp_reg (id := 7) ?_)); (first | go_values | go_skip | go_step | go_guarded | go_upon | go_in | go_back | fail))
        with_reducible refine wp_reg (id := 7) ?_
        iterate 5
          refine wpO_want rfl ?_
          go_simp
        clear q0 hself hkl
        refine wpO_done ?_
        try go_frame
        go_wp2_with fail
        refine wp_regionK (P := Tryz.prog) [] [0,1,2,3] [] 2 #[true,true,true,true,false,false] (by kernel_rfl) (by kernel_rfl) rfl (by rfl) ?_
        refine ql_want (v := .agg (setC N)) rfl (by rfl) (fun W hW => qUpon_ofX (load_SetR rfl rfl ((unhide hP).wholeK 0 rfl hW (by simp)))) ?_
        go_frame
        iterate 1
          refine ql_want (v := ?_) rfl (by rfl) (fun W hW => ?_) ?_
          rotate_left
          · go_simp
            first | done | rfl
          go_frame
        refine ql_want (v := .agg (setC (vS V))) rfl (by rfl) (fun W hW => ?_) ?_
        · go_simp
          refine (vsetG (some ⟨g, 0, none⟩) V E W (GL.of ((unhide hg).ext ((Ext.refl _).of_new hW (by simp))))).mono ?_
          rintro _ _ ⟨h1, h2⟩
          exact ⟨_, h1, rfl, h2⟩
        go_frame
        refine ql_want (v := .agg (setC (N &&& vS V))) rfl (by rfl) (fun W hW => ?_) ?_
        · go_simp
          refine (inter_any _ _ W).mono ?_
          rintro _ _ ⟨h1, h2⟩
          exact ⟨_, h1, rfl, h2⟩
        go_frame
        refine wpQL_nil (fun y6 hxq => ?_)
        have hK := hide (hxq.keep [])
        replace hP : Hid (Sp w [] w [] [(r4, 51, setC N), (r8, 28, #[.slice A1 V.length cA, .slice B1 E.length cB])] [] y6) := hide ((unhide hP).ext hxq)
        clear hxq
        refine lx_one (i := 4) (by kernel_rfl) rfl (by rfl) #[true,true,true,true,true,false] (by rfl) ?_
        refine (unhide hP).allocL (unhide hK) (v := fun b => .pointer (some ⟨b, 0, none⟩)) 51 (setC 0) ?_ ?_
        · exact run_alloc_set rfl
        intro r11 y7 hQ hK2 hg2
        replace hP : Hid (Sp w [] w [] [(r4, 51, setC N), (r8, 28, #[.slice A1 V.length cA, .slice B1 E.length cB]), (r11, 51, setC 0)] [] y7) := hide hQ
        replace hK := hide hK2
        have hge_r11 := hide hg2
        clear hQ hK2 hg2
        try go_frame
        refine lx_one (i := 5) (by kernel_rfl) rfl (by rfl) #[true,true,true,true,true,true] (by rfl) ?_
        refine (unhide hP).setNL (unhide hK) 2 (setC (N &&& vS V)) rfl (unhide hge_r11) (fun hb => store_SetR (N := N &&& vS V) rfl (by rfl) (by rfl) hb) ?_
        intro y8 hQ hK2
        replace hP : Hid (Sp w [] w [] [(r4, 51, setC N), (r8, 28, #[.slice A1 V.length cA, .slice B1 E.length cB]), (r11, 51, setC (N &&& vS V))] [] y8) := hide hQ
        replace hK := hide hK2
        clear hQ hK2
        try go_frame
        refine wpX_done (by kernel_rfl) ?_
        try go_frame
        replace hg := hide ((unhide hg).ext (unhide hK).ext)
        replace hsV := hide ((unhide hsV).ext (unhide hK).ext)
        replace hsE := hide ((unhide hsE).ext (unhide hK).ext)
        clear hK hge_r11
        go_wp2_with fail
        obtain ⟨q1, hq1⟩ : ∃ q, q = smpB V E id := ⟨_, rfl⟩
        have hs1 := hide (unhide hsr id)
        rw [← hq1] at hs1
        have hq1' := hide hq1
        obtain ⟨M, hM⟩ : ∃ M, M = N &&& vS V := ⟨_, rfl⟩
        obtain ⟨q2, hq2⟩ : ∃ q, q = clqB V E (toL N) := ⟨_, rfl⟩
        obtain ⟨q3, hq3⟩ : ∃ q, q = clqB V E (toL M) := ⟨_, rfl⟩
        have hc2 := hide (unhide hcr N)
        have hc3 := hide (unhide hcr M)
        rw [← hq2] at hc2
        rw [← hq3] at hc3
        rw [← hM] at hP
        have hq2' := hide hq2
        have hq3' := hide hq3
        have hb1 := unhide hbb' q1
        have hb2 := unhide hbb' q2
        have hb3 := unhide hbb' q3
        clear hq1 hM hq2 hq3
        have q0 := (unhide hP).cellK (S := []) 1 0 (v := .slice A1 V.length cA) rfl rfl (by simp)
        have q1w := (unhide hP).cellK (S := []) 1 1 (v := .slice B1 E.length cB) rfl rfl (by simp)
        have hself := Keep.refl [] y8
        refine wp_regionK (P := Tryz.prog) [] [0,1,2,3,4,5,6,7,8,9,10,11,12] [] 15 #[true,true,true,true,true,true,true,true,true,true,true,true,true,false,false,false,false,false,false,false,false,false,false,false,false,false,false,false] (by kernel_rfl) (by kernel_rfl) rfl (by rfl) ?_
        iterate 2
          refine ql_want (v := ?_) rfl (by rfl) (fun W hW => ?_) ?_
          rotate_left
          · go_simp
            first | done | rfl
          go_frame
        refine ql_want (v := .bool q1) rfl (by rfl) (fun W hW => ?_) ?_
        · go_simp
          refine (isSimplicial_any (some ⟨g, 0, none⟩) V E id W (GL.of ((unhide hg).ext ((Ext.refl _).of_new hW (by simp)))) ((unhide hT').ext ((unhide hP).extf.trans ((Ext.refl _).of_new hW (by simp))))).mono ?_
          rw [unhide hs1]
          rintro _ _ ⟨h1, h2⟩
          exact ⟨_, h1, rfl, h2⟩
        go_frame
        iterate 2
          refine ql_want (v := ?_) rfl (by rfl) (fun W hW => ?_) ?_
          rotate_left
          · go_simp
            first | done | rfl
          go_frame
        refine ql_want (v := .bool q1) rfl (by rfl) (fun W hW => ?_) ?_
        · go_simp
          refine (simpleR_any A1 B1 V E cA cB id W ((unhide hsV).ext ((Ext.refl _).of_new hW (by simp))) (unhide hnV) ((unhide hsE).ext ((Ext.refl _).of_new hW (by simp))) (unhide hnE)).mono ?_
          rw [← unhide hq1']
          rintro _ _ ⟨h1, h2⟩
          exact ⟨_, h1, rfl, h2⟩
        go_frame
        iterate 3
          refine ql_want (v := ?_) rfl (by rfl) (fun W hW => ?_) ?_
          rotate_left
          · go_simp
            first | done | rfl
          go_frame
        refine ql_want (v := .agg (setC N)) rfl (by rfl) (fun W hW => qUpon_ofX (load_SetR rfl rfl ((unhide hP).wholeK 0 rfl hW (by simp)))) ?_
        go_frame
        refine ql_want (v := .bool q2) rfl (by rfl) (fun W hW => ?_) ?_
        · go_simp
          refine (isClique_any (some ⟨g, 0, none⟩) V E N W (GL.of ((unhide hg).ext ((Ext.refl _).of_new hW (by simp)))) ((unhide hT').ext ((unhide hP).extf.trans ((Ext.refl _).of_new hW (by simp))))).mono ?_
          rw [unhide hc2]
          rintro _ _ ⟨h1, h2⟩
          exact ⟨_, h1, rfl, h2⟩
        go_frame
        iterate 1
          refine ql_want (v := ?_) rfl (by rfl) (fun W hW => ?_) ?_
          rotate_left
          · go_simp
            first | done | rfl
          go_frame
        refine ql_want (v := .agg (setC N)) rfl (by rfl) (fun W hW => qUpon_ofX (load_SetR rfl rfl ((unhide hP).wholeK 0 rfl hW (by simp)))) ?_
        go_frame
        refine wpQL_nil (fun y9 hxq => ?_)
        have hK := hide (hxq.keep [])
        replace hP : Hid (Sp w [] w [] [(r4, 51, setC N), (r8, 28, #[.slice A1 V.length cA, .slice B1 E.length cB]), (r11, 51, setC M)] [] y9) := hide ((unhide hP).ext hxq)
        replace hg := hide ((unhide hg).ext hxq)
        replace hsV := hide ((unhide hsV).ext hxq)
        replace hsE := hide ((unhide hsE).ext hxq)
        clear hxq
        clear q0 q1w hself
        refine lx_one (i := 13) (by kernel_rfl) rfl (by rfl) #[true,true,true,true,true,true,true,true,true,true,true,true,true,true,false,false,false,false,false,false,false,false,false,false,false,false,false,false] (by rfl) ?_
        go_simp
        refine (to01_any N y9).mono ?_
        rintro _ zy10 ⟨A5, cA5, rfl, ho, hxc⟩
        obtain ⟨l5, hlA5⟩ : ∃ l, l = toL N := ⟨_, rfl⟩
        rw [← hlA5] at ho ⊢
        obtain ⟨nA5, hnA5⟩ : ∃ n, n = l5.length := ⟨_, rfl⟩
        rw [← hnA5] at ho ⊢
        have hnA5' := hide hnA5
        have hlA5' := hide hlA5
        have hmA5 := hide (show l5.length ≤ 4096 by rw [hlA5]; exact Nat.le_trans (toL_len_le _) (by omega))
        clear hnA5 hlA5
        refine ⟨_, rfl, (unhide hK).trans (hxc.keep _), fun y10 hxd => ?_⟩
        replace hP : Hid (Sp w [] w [] [(r4, 51, setC N), (r8, 28, #[.slice A1 V.length cA, .slice B1 E.length cB]), (r11, 51, setC M)] [(3, 1, .slice A5 nA5 cA5, nA5, l5.flatMap encI)] y10) := hide (((unhide hP).addRow hxc ho).ext hxd)
        replace hK := hide ((unhide hK).trans ((hxc.trans hxd).keep _))
        clear ho
        replace hg := hide ((unhide hg).ext (hxc.trans hxd))
        replace hsV := hide ((unhide hsV).ext (hxc.trans hxd))
        replace hsE := hide ((unhide hsE).ext (hxc.trans hxd))
        clear hxc hxd
        try go_frame
        have q0 := (unhide hP).cellK (S := []) 1 0 (v := .slice A1 V.length cA) rfl rfl (by simp)
        have q1w := (unhide hP).cellK (S := []) 1 1 (v := .slice B1 E.length cB) rfl rfl (by simp)
        have hself := Keep.refl [] y10
        refine lx_rekeep (unhide hK) [14,15,16,17,18,19,20,21,22] [] 5 14 #[true,true,true,true,true,true,true,true,true,true,true,true,true,true,false,false,false,false,false,false,false,false,false,false,false,false,false,false] #[true,true,true,true,true,true,true,true,true,true,true,true,true,true,true,true,true,true,true,true,true,true,true,false,false,false,false,false] (by kernel_rfl) rfl (by rfl) ?_
        clear hK
        have hcl := hide (fun (W : World) (hW : Keep [] y10 W) => by
          have h := clqR_walk A1 B1 V E cA cB A5 l5 cA5 W ((unhide hsV).ext ((Ext.refl _).of_new hW (by simp))) (unhide hnV) ((unhide hsE).ext ((Ext.refl _).of_new hW (by simp))) (unhide hnE) ((own_at (enc := encI) (by have h := (unhide hP).row 0 rfl; rw [unhide hnA5'] at h; exact h) (fun _ => rfl)).ext ((Ext.refl _).of_new hW (by simp))) (unhide hmA5)
          rw [← unhide hnA5', unhide hlA5', ← unhide hq2'] at h
          exact h)
        refine ql_want (v := .bool q2) rfl (by rfl) (fun W hW => ?_) ?_
        · go_simp
          refine (unhide hcl W hW).mono ?_
          rintro _ _ ⟨h1, h2⟩
          exact ⟨_, h1, rfl, h2⟩
        go_frame
        clear hcl
        iterate 4
          refine ql_want (v := ?_) rfl (by rfl) (fun W hW => ?_) ?_
          rotate_left
          · go_simp
            first | done | rfl
          go_frame
        refine ql_want (v := .agg (setC M)) rfl (by rfl) (fun W hW => qUpon_ofX (load_SetR rfl rfl ((unhide hP).wholeK 2 rfl hW (by simp)))) ?_
        go_frame
        refine ql_want (v := .bool q3) rfl (by rfl) (fun W hW => ?_) ?_
        · go_simp
          refine (isClique_any (some ⟨g, 0, none⟩) V E M W (GL.of ((unhide hg).ext ((Ext.refl _).of_new hW (by simp)))) ((unhide hT').ext ((unhide hP).extf.trans ((Ext.refl _).of_new hW (by simp))))).mono ?_
          rw [unhide hc3]
          rintro _ _ ⟨h1, h2⟩
          exact ⟨_, h1, rfl, h2⟩
        go_frame
        iterate 1
          refine ql_want (v := ?_) rfl (by rfl) (fun W hW => ?_) ?_
          rotate_left
          · go_simp
            first | done | rfl
          go_frame
        refine ql_want (v := .agg (setC M)) rfl (by rfl) (fun W hW => qUpon_ofX (load_SetR rfl rfl ((unhide hP).wholeK 2 rfl hW (by simp)))) ?_
        go_frame
        refine wpQL_nil (fun y11 hxq => ?_)
        have hK := hide (hxq.keep [])
        replace hP : Hid (Sp w [] w [] [(r4, 51, setC N), (r8, 28, #[.slice A1 V.length cA, .slice B1 E.length cB]), (r11, 51, setC M)] [(3, 1, .slice A5 nA5 cA5, nA5, l5.flatMap encI)] y11) := hide ((unhide hP).ext hxq)
        replace hg := hide ((unhide hg).ext hxq)
        replace hsV := hide ((unhide hsV).ext hxq)
        replace hsE := hide ((unhide hsE).ext hxq)
        clear hxq
        clear q0 q1w hself
        refine lx_one (i := 23) (by kernel_rfl) rfl (by rfl) #[true,true,true,true,true,true,true,true,true,true,true,true,true,true,true,true,true,true,true,true,true,true,true,true,false,false,false,false] (by rfl) ?_
        go_simp
        refine (to01_any M y11).mono ?_
        rintro _ zy12 ⟨A6, cA6, rfl, ho, hxc⟩
        obtain ⟨l6, hlA6⟩ : ∃ l, l = toL M := ⟨_, rfl⟩
        rw [← hlA6] at ho ⊢
        obtain ⟨nA6, hnA6⟩ : ∃ n, n = l6.length := ⟨_, rfl⟩
        rw [← hnA6] at ho ⊢
        have hnA6' := hide hnA6
        have hlA6' := hide hlA6
        have hmA6 := hide (show l6.length ≤ 4096 by rw [hlA6]; exact Nat.le_trans (toL_len_le _) (by omega))
        clear hnA6 hlA6
        refine ⟨_, rfl, (unhide hK).trans (hxc.keep _), fun y12 hxd => ?_⟩
        replace hP : Hid (Sp w [] w [] [(r4, 51, setC N), (r8, 28, #[.slice A1 V.length cA, .slice B1 E.length cB]), (r11, 51, setC M)] [(3, 1, .slice A5 nA5 cA5, nA5, l5.flatMap encI), (3, 1, .slice A6 nA6 cA6, nA6, l6.flatMap encI)] y12) := hide (((unhide hP).addRow hxc ho).ext hxd)
        replace hK := hide ((unhide hK).trans ((hxc.trans hxd).keep _))
        clear ho
        replace hg := hide ((unhide hg).ext (hxc.trans hxd))
        replace hsV := hide ((unhide hsV).ext (hxc.trans hxd))
        replace hsE := hide ((unhide hsE).ext (hxc.trans hxd))
        clear hxc hxd
        try go_frame
        have q0 := (unhide hP).cellK (S := []) 1 0 (v := .slice A1 V.length cA) rfl rfl (by simp)
        have q1w := (unhide hP).cellK (S := []) 1 1 (v := .slice B1 E.length cB) rfl rfl (by simp)
        have hself := Keep.refl [] y12
        refine lx_rekeep (unhide hK) [24,25,26,27] [] 0 4 #[true,true,true,true,true,true,true,true,true,true,true,true,true,true,true,true,true,true,true,true,true,true,true,true,false,false,false,false] #[true,true,true,true,true,true,true,true,true,true,true,true,true,true,true,true,true,true,true,true,true,true,true,true,true,true,true,true] (by kernel_rfl) rfl (by rfl) ?_
        clear hK
        have hcl := hide (fun (W : World) (hW : Keep [] y12 W) => by
          have h := clqR_walk A1 B1 V E cA cB A6 l6 cA6 W ((unhide hsV).ext ((Ext.refl _).of_new hW (by simp))) (unhide hnV) ((unhide hsE).ext ((Ext.refl _).of_new hW (by simp))) (unhide hnE) ((own_at (enc := encI) (by have h := (unhide hP).row 1 rfl; rw [unhide hnA6'] at h; exact h) (fun _ => rfl)).ext ((Ext.refl _).of_new hW (by simp))) (unhide hmA6)
          rw [← unhide hnA6', unhide hlA6', ← unhide hq3'] at h
          exact h)
        refine ql_want (v := .bool q3) rfl (by rfl) (fun W hW => ?_) ?_
        · go_simp
          refine (unhide hcl W hW).mono ?_
          rintro _ _ ⟨h1, h2⟩
          exact ⟨_, h1, rfl, h2⟩
        go_frame
        clear hcl
        iterate 3
          refine ql_want (v := ?_) rfl (by rfl) (fun W hW => ?_) ?_
          rotate_left
          · go_simp
            first | done | rfl
          go_frame
        refine wpQL_nil (fun y13 hxq => ?_)
        replace hP : Hid (Sp w [] w [] [(r4, 51, setC N), (r8, 28, #[.slice A1 V.length cA, .slice B1 E.length cB]), (r11, 51, setC M)] [(3, 1, .slice A5 nA5 cA5, nA5, l5.flatMap encI), (3, 1, .slice A6 nA6 cA6, nA6, l6.flatMap encI)] y13) := hide ((unhide hP).ext hxq)
        replace hg := hide ((unhide hg).ext hxq)
        replace hsV := hide ((unhide hsV).ext hxq)
        replace hsE := hide ((unhide hsE).ext hxq)
        clear hxq
        clear q0 q1w hself
        refine wpX_done (by kernel_rfl) ?_
        try go_frame
        go_wp2_with fail
        refine Sp.leaves0 ?_
        exact ⟨_, results_tmp rfl _ _ _, rfl, (unhide hP).extf⟩
end Go.Proofs.YtmfkkkhddigkfaaGreatDoor
/- Every input makes the law ChordalCliques answer true, and each argument reads behind the call as it read before: the given card, tied to the program's text. No condition. -/
namespace Go.Proofs.YtmfkkkhddigkfaaGreatDoor.chordalCliquesRow
open Go.ChangeShapes Go.WideShapes Go.ChangeAt Go.RowKit
set_option linter.unusedVariables false

theorem own : ownKnob Tryz.prog.godebug = none := by kernel_rfl
theorem laidOut : laidOutB Tryz.prog = true := by kernel_rfl
theorem door_met (os : Os) (args : Array Value) : laidMetH Tryz.prog laidL ((World.doorLaid Tryz.prog 400 os).forCall (fun _ _ => 0) ⟨#[], args, []⟩).memory :=
  laidMetH_of_parts3 (fuel := 8) (laidMet_of_run' 8 (by kernel_rfl) (by kernel_rfl)) (by kernel_rfl) (by kernel_rfl)

set_option maxRecDepth 100000 in
theorem lifted (os : Os) (started : os.Started) (H : Type) (enc : TypeId × Value → H) :
    ReturnsInHanded {} Tryz.checked os 6 .any (fun w args => (Rows.chordalCliquesSpec.pre enc Tryz.prog Tryz.f6 [] false w args ∧ laidMetH Tryz.prog laidL w) ∧ sizedMet enc Tryz.prog Tryz.f6 (OpenSpec.ofChange Rows.chordalCliquesSpec) false w args)
      (Rows.chordalCliquesSpec.post enc Tryz.prog Tryz.f6 false true false false) := by
  refine returnsInHanded_of_change_and (C := Tryz.checked) (X := fun w _ => laidMetH Tryz.prog laidL w) (fun _ _ _ hh h => h.of_heap hh) own started (by kernel_rfl) Tryz.func6
    (ChangeSpec.witness_shaped (enc := enc) (C := Tryz.checked) (os := os) (X := fun w _ => laidMetH Tryz.prog laidL w) false (World.doorLaid Tryz.prog 400 os) #[.slice none 0 0, .agg #[.int .u64 0, .int .u64 0, .int .u64 0, .int .u64 0, .int .u64 0, .int .u64 0, .int .u64 0, .int .u64 0, .int .u64 0, .int .u64 0, .int .u64 0, .int .u64 0, .int .u64 0, .int .u64 0, .int .u64 0, .int .u64 0], .int .i64 0] 8 rfl (World.shaped_of_RefB (by kernel_rfl) (by kernel_rfl)) (by kernel_rfl) (by kernel_rfl) (by kernel_rfl) (door_met os _)) ?_
  intro W base args ds gs before hval0 hW _ _ hL _
  have hval : ∀ (j : Nat) t v, Tryz.f6.params[j]? = some t → args[j]? = some v → Value.okWide Tryz.prog W .any base t v := hval0
  have hW' := hW
  obtain ⟨p, q, hA0, hV, rfl, hfz, hnd⟩ := hW
  have hA : DataW.TrodAll enc Tryz.prog W 0 (fun _ => true) true Tryz.f6.params.toList args.toList ds p := hA0
  rw [Tryz.params6] at hA hval
  obtain ⟨v0, vs0, d0, ds0, p0, q0, hargs, rfl, rfl, h0, r0⟩ := trodAll_cons hA
  obtain ⟨v1, vs1, d1, ds1, p1, q1, rfl, rfl, rfl, h1, r1⟩ := trodAll_cons r0
  obtain ⟨v2, vs2, d2, ds2, p2, q2, rfl, rfl, rfl, h2, r2⟩ := trodAll_cons r1
  obtain ⟨rfl, rfl, rfl⟩ := trodAll_nil r2
  obtain rfl : args = #[v0, v1, v2] := by cases args; simp_all
  obtain ⟨rfl, rfl⟩ := trodVars_none hV
  obtain ⟨a0, len0, cap0, rfl⟩ := okWide_slice Tryz.underlying22 (hval 0 22 v0 rfl rfl)
  have k0 := h0
  have lt0 : ∀ x ∈ p0, x.block < W.heap.size := by obtain ⟨m, hm⟩ := k0; exact DataW.trod_lt m _ _ _ hm
  obtain ⟨fu0, hf0⟩ := h0
  obtain ⟨L0, hn0, hs0, ho0, hm0, hz0⟩ := open_edits (by simpa [Value.cells] using hf0)
  subst hn0
  have k1 := h1
  have lt1 : ∀ x ∈ p1, x.block < W.heap.size := by obtain ⟨m, hm⟩ := k1; exact DataW.trod_lt m _ _ _ hm
  obtain ⟨x1, rfl, ho1⟩ := open_set (hval 1 51 v1 rfl rfl) h1
  obtain ⟨a2, rfl, rfl, rfl, w2⟩ := open_int Tryz.underlying3 (hval 2 3 v2 rfl rfl) h2
  clear hA0 hval0
  refine (chordalCliques_walk a0 L0 cap0 x1 a2 W hs0 ho1 (i64_of_wf w2) (tab_of_laid hL)).mono fun e W' ⟨he, bel⟩ => ?_
  subst he
  exact ⟨_, rfl, _, _, _, [], _, [], hW', trodAll_mk1 (shut_bool Tryz.underlying4 _), (trodAll_cons_mk (Below.trod laidOut (by kernel_rfl) (of_decide_eq_true (by kernel_rfl)) k0 bel lt0) (trodAll_cons_mk (Below.trod laidOut (by kernel_rfl) (of_decide_eq_true (by kernel_rfl)) k1 bel lt1) (trodAll_cons_mk (shut_int Tryz.underlying3 w2) trodAll_mk0))), rfl, bel.frame _, fun h => by cases h⟩

theorem over : Rows.chordalCliquesRow.holds Tryz.pinned (OpenSpec.ofChange Rows.chordalCliquesSpec) :=
  OpenClaim.holds_of_wide 6 Tryz.f6 rfl rfl rfl rfl rfl rfl rfl ⟨rfl, rfl, rfl, rfl, rfl⟩ rfl rfl rfl rfl rfl (by kernel_rfl) Tryz.func6 (by kernel_rfl)
    (of_decide_eq_true (by kernel_rfl)) (by unfold Func.isWrapper; first | (rw [if_pos (by decide +kernel)]; kernel_rfl) | (rw [if_neg (by decide +kernel)]; exact ⟨rfl, rfl⟩))
    (fun os started H enc _ => lifted os started H enc)
end Go.Proofs.YtmfkkkhddigkfaaGreatDoor.chordalCliquesRow
namespace Go.Proofs.YtmfkkkhddigkfaaGreatDoor
open Go
/-- the given statement -/
theorem chordalCliques_holds : Rows.ChordalCliquesCardSaid :=
  Claim7.holds_tied_plain_at .later [] [.data] true (true, "1596dd598ae18966c135c2eb214a5a15edddb6ae32de2291f299e988f1ed0cb5") false
    chordalCliquesRow.over (fun _ h => by cases h) (by kernel_rfl) (fun _ h => by cases h) chordalCliques_row_tie rfl ⟨rfl, rfl⟩ (by kernel_rfl) rfl
    (fun f fn hf hfn => by
      obtain rfl : f = 6 := Option.some.inj ((show Tryz.prog.funcNamed "palmette/palmettelaw24.ChordalCliques" = some 6 by kernel_rfl).symm.trans hf) |>.symm
      obtain rfl : fn = Tryz.f6 := (Option.some.inj (Tryz.func6.symm.trans hfn)).symm
      exact ⟨by kernel_rfl, fun j t ht => by
        rw [Tryz.params6] at ht
        have h3 : t = 22 ∨ t = 51 ∨ t = 3 := by
          rcases j with _ | _ | _ | j
          · simp at ht; simp [ht]
          · simp at ht; simp [ht]
          · simp at ht; simp [ht]
          · simp at ht
        rcases h3 with rfl | rfl | rfl
        · exact (show Tryz.prog.wantsStandIn 22 = false by kernel_rfl)
        · exact (show Tryz.prog.wantsStandIn 51 = false by kernel_rfl)
        · exact (show Tryz.prog.wantsStandIn 3 = false by kernel_rfl)⟩)
    (by kernel_rfl)
#print axioms chordalCliques_holds
end Go.Proofs.YtmfkkkhddigkfaaGreatDoor
