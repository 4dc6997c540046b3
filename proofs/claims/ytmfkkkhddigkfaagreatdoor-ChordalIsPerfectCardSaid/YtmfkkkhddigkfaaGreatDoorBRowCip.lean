/- Every input makes the law ChordalIsPerfect answer true, and each argument reads behind the call as it read before: the given card, tied to the program's text. No condition. -/
import Derived.Test.YtmfkkkhddigkfaaGreatDoorB21
import Derived.Test.YtmfkkkhddigkfaaGreatDoorB9
import Derived.Test.YtmfkkkhddigkfaaGreatDoorB14
import Derived.Test.YtmfkkkhddigkfaaGreatDoorB20
import Derived.Test.YtmfkkkhddigkfaaGreatDoorB11
import Derived.Test.YtmfkkkhddigkfaaGreatDoorB12
import Derived.Test.YtmfkkkhddigkfaaGreatDoorB13
import Derived.Test.YtmfkkkhddigkfaaGreatDoorB7
import Derived.Test.YtmfkkkhddigkfaaGreatDoorB15
import Derived.Test.YtmfkkkhddigkfaaGreatDoorB22
import Derived.Test.YtmfkkkhddigkfaaGreatDoorCards
import Derived.Test.YtmfkkkhddigkfaaGreatDoorTie
import Derived.WalkKit
import Derived.ProofKit
import Derived.OpenShut
import Derived.ShutString
import Derived.ChangeOld
import Derived.Below
import Derived.SevenTiedAt
/- palmetteref24: Simple, Right, Perfect. Conditions: see each theorem. -/
namespace Go.Proofs.YtmfkkkhddigkfaaGreatDoor
open Go Go.RowKit Go.Shelf
attribute [local go_sem] qUpon lUpon
attribute [local irreducible] wpO wpX wpQL

noncomputable def smpB (V : List (Int × Thing)) (E : List ((Int × Int) × Thing)) (v : Int) : Bool := hasV v V && clqB V E (nbrR E v (V.map (·.1)))
def RightP (V : List (Int × Thing)) (L : List Int) : Prop := L.length = V.length ∧ ∀ i (hi : i < L.length), hasV L[i] V = true ∧ ∀ k (hk : k < i), L[k]'(Nat.lt_trans hk hi) ≠ L[i]
open Classical in
noncomputable def rightB (V : List (Int × Thing)) (L : List Int) : Bool := decide (RightP V L)
open Classical in
theorem rightB_true {V : List (Int × Thing)} {L : List Int} (h : RightP V L) : rightB V L = true := decide_eq_true h
open Classical in
theorem rightB_false {V : List (Int × Thing)} {L : List Int} (h : ¬ RightP V L) : rightB V L = false := decide_eq_false h
open Classical in
theorem rightB_iff {V : List (Int × Thing)} {L : List Int} : rightB V L = true ↔ RightP V L := decide_eq_true_iff
open Classical in
noncomputable def perB (V : List (Int × Thing)) (E : List ((Int × Int) × Thing)) (L : List Int) : Bool := decide (PerR V E L)
open Classical in
theorem perB_true {V : List (Int × Thing)} {E : List ((Int × Int) × Thing)} {L : List Int} (h : PerR V E L) : perB V E L = true := decide_eq_true h
open Classical in
theorem perB_false {V : List (Int × Thing)} {E : List ((Int × Int) × Thing)} {L : List Int} (h : ¬ PerR V E L) : perB V E L = false := decide_eq_false h
open Classical in
theorem perB_iff {V : List (Int × Thing)} {E : List ((Int × Int) × Thing)} {L : List Int} : perB V E L = true ↔ PerR V E L := decide_eq_true_iff
theorem nbr_len (E : List ((Int × Int) × Thing)) (v : Int) (M : List Int) : (nbrR E v M).length ≤ M.length := List.length_filter_le _ _

set_option maxRecDepth 100000 in
set_option maxHeartbeats 4000000 in
theorem simpleR_any (A B : Option Addr) (V : List (Int × Thing)) (E : List ((Int × Int) × Thing)) (cA cB : Nat) (v : Int) (w : World) (hV : SlAt encV 3 w A V) (hnV : V.length ≤ 4096) (hE : SlAt encE 4 w B E) (hnE : E.length ≤ 4096) :
    Calls Tryz.prog 24 #[.agg #[.slice A V.length cA, .slice B E.length cB], .int .i64 v] w fun e w' => e = .returned (.bool (smpB V E v)) ∧ Ext w w' := by
  have hV' := hide hV
  have hE' := hide hE
  have hnV' := hide hnV
  have hnE' := hide hnE
  clear hV hE hnV hnE
  obtain ⟨p, hp⟩ : ∃ p, p = posI (fun p => p.1 == v) V := ⟨_, rfl⟩
  have hres : smpB V E v = (decide (0 ≤ p) && clqB V E (nbrR E v (V.map (·.1)))) := by rw [hp]; rfl
  generalize smpB V E v = res at *
  have hres' := hide hres
  have hp' := hide hp
  clear hres hp
  have hP := hide (Sp.new w)
  refine callsIn_wide.1 (callsIn_of_wp_marks (n := 0) Tryz.func24 rfl trivial (wpIn_wide.2 ?_))
  simp only [Tryz.ntmps24, List.size_toArray, List.length_cons, List.length_nil, Nat.reduceAdd, Nat.reduceSub, Array.replicate_succ, Array.replicate_zero, List.push_toArray, List.append_toArray, List.nil_append, List.cons_append]
  try dsimp only
  repeat ((fail_if_success (with_reducible refine wp_reg (id := 0) ?_)); (first | go_values | go_skip | go_step | go_guarded | go_upon | go_in | go_back | fail))
  with_reducible refine wp_reg (id := 0) ?_
  refine (unhide hP).allocO 28 #[.slice A V.length cA, .slice B E.length cB] rfl (run_box (v := .agg #[.slice A V.length cA, .slice B E.length cB]) rfl rfl) ?_
  intro r2 y1 hQ
  replace hP : Hid (Sp w [] w [] [(r2, 28, #[.slice A V.length cA, .slice B E.length cB])] [] y1) := hide hQ
  clear hQ
  refine wpO_want rfl ?_
  go_simp
  refine wpO_done ?_
  try go_frame
  go_wp2_with fail
  by_cases hp0 : 0 ≤ p
  · skip
    have q0 := (unhide hP).cellK (S := []) 0 0 (v := .slice A V.length cA) rfl rfl (by simp)
    have q1 := (unhide hP).cellK (S := []) 0 1 (v := .slice B E.length cB) rfl rfl (by simp)
    have hself := Keep.refl [] y1
    refine wp_regionK (P := Tryz.prog) [] [0,1,2,3,4,5,6,7,8] [] 5 #[true,true,true,true,true,true,true,true,true,false,false,false,false,false] (by kernel_rfl) (by kernel_rfl) rfl (by rfl) ?_
    iterate 2
      refine ql_want (v := ?_) rfl (by rfl) (fun W hW => ?_) ?_
      rotate_left
      · go_simp
        first | done | rfl
      go_frame
    refine ql_want (v := .int .i64 p) rfl (by rfl) (fun W hW => ?_) ?_
    · go_simp
      refine (find_any A B V cA E.length cB v W ((unhide hV').ext ((unhide hP).extf.trans ((Ext.refl _).of_new hW (by simp)))) (unhide hnV')).mono ?_
      rw [← unhide hp']
      rintro _ _ ⟨h1, h2⟩
      exact ⟨_, h1, rfl, h2⟩
    go_frame
    iterate 6
      refine ql_want (v := ?_) rfl (by rfl) (fun W hW => ?_) ?_
      rotate_left
      · go_simp
        first | done | rfl
      go_frame
    refine wpQL_nil (fun y2 hxq => ?_)
    have hK := hide (hxq.keep [])
    replace hP : Hid (Sp w [] w [] [(r2, 28, #[.slice A V.length cA, .slice B E.length cB])] [] y2) := hide ((unhide hP).ext hxq)
    clear hxq
    clear q0 q1 hself
    refine lx_one (i := 9) (by kernel_rfl) rfl (by rfl) #[true,true,true,true,true,true,true,true,true,true,false,false,false,false] (by rfl) ?_
    have hca := ids_any A B V E cA cB y2 ((unhide hV').ext (unhide hP).extf) (unhide hnV')
    obtain ⟨I0, hI0⟩ : ∃ I0, I0 = V.map (·.1) := ⟨_, rfl⟩
    have hIl := hide (show I0.length ≤ 4096 by rw [hI0, List.length_map]; exact unhide hnV')
    rw [← hI0] at hca
    go_simp
    refine (hca).mono ?_
    rintro _ zy3 ⟨A2, c2, rfl, ho, hxc⟩
    clear hca
    obtain ⟨m, hm⟩ : ∃ m, m = I0.length := ⟨_, rfl⟩
    rw [← hm] at ho ⊢
    have hm' := hide hm
    have hI0' := hide hI0
    clear hm hI0
    refine ⟨_, rfl, (unhide hK).trans (hxc.keep _), fun y3 hxd => ?_⟩
    replace hP : Hid (Sp w [] w [] [(r2, 28, #[.slice A V.length cA, .slice B E.length cB])] [(3, 1, .slice A2 m c2, m, I0.flatMap encI)] y3) := hide (((unhide hP).addRow hxc ho).ext hxd)
    replace hK := hide ((unhide hK).trans ((hxc.trans hxd).keep _))
    clear ho
    clear hxc hxd
    try go_frame
    refine lx_one (i := 10) (by kernel_rfl) rfl (by rfl) #[true,true,true,true,true,true,true,true,true,true,true,false,false,false] (by rfl) ?_
    have hca := nearR_any A B V E cA cB A2 I0 c2 v y3 ((unhide hE').ext (unhide hP).extf) (unhide hnE') (own_at (enc := encI) (by have h := (unhide hP).row 0 rfl; rw [unhide hm'] at h; exact h) (fun _ => rfl)) (unhide hIl)
    rw [← unhide hm'] at hca
    obtain ⟨N, hN⟩ : ∃ N, N = nbrR E v I0 := ⟨_, rfl⟩
    have hNl := hide (show N.length ≤ 4096 by rw [hN]; exact Nat.le_trans (nbr_len E v I0) (unhide hIl))
    rw [← hN] at hca
    go_simp
    refine (hca).mono ?_
    rintro _ zy4 ⟨A3, c3, rfl, ho, hxc⟩
    clear hca
    obtain ⟨m3, hm⟩ : ∃ m3, m3 = N.length := ⟨_, rfl⟩
    rw [← hm] at ho ⊢
    have hm3' := hide hm
    have hN' := hide hN
    clear hm hN
    refine ⟨_, rfl, (unhide hK).trans (hxc.keep _), fun y4 hxd => ?_⟩
    replace hP : Hid (Sp w [] w [] [(r2, 28, #[.slice A V.length cA, .slice B E.length cB])] [(3, 1, .slice A2 m c2, m, I0.flatMap encI), (3, 1, .slice A3 m3 c3, m3, N.flatMap encI)] y4) := hide (((unhide hP).addRow hxc ho).ext hxd)
    replace hK := hide ((unhide hK).trans ((hxc.trans hxd).keep _))
    clear ho
    clear hxc hxd
    try go_frame
    refine lx_one (i := 11) (by kernel_rfl) rfl (by rfl) #[true,true,true,true,true,true,true,true,true,true,true,true,false,false] (by rfl) ?_
    have hca := clqR_walk A B V E cA cB A3 N c3 y4 ((unhide hV').ext (unhide hP).extf) (unhide hnV') ((unhide hE').ext (unhide hP).extf) (unhide hnE') (own_at (enc := encI) (by have h := (unhide hP).row 1 rfl; rw [unhide hm3'] at h; exact h) (fun _ => rfl)) (unhide hNl)
    rw [← unhide hm3'] at hca
    obtain ⟨q, hq⟩ : ∃ q, q = clqB V E N := ⟨_, rfl⟩
    rw [← hq] at hca
    have hq' := hide hq
    clear hq
    go_simp
    refine (hca).mono ?_
    rintro _ zy5 ⟨rfl, hxc⟩
    clear hca
    refine ⟨_, rfl, (unhide hK).trans (hxc.keep _), fun y5 hxd => ?_⟩
    replace hP : Hid (Sp w [] w [] [(r2, 28, #[.slice A V.length cA, .slice B E.length cB])] [(3, 1, .slice A2 m c2, m, I0.flatMap encI), (3, 1, .slice A3 m3 c3, m3, N.flatMap encI)] y5) := hide ((unhide hP).ext (hxc.trans hxd))
    replace hK := hide ((unhide hK).trans ((hxc.trans hxd).keep _))
    clear hxc hxd
    try go_frame
    refine lx_rekeep (unhide hK) [12,13] [] 0 2 #[true,true,true,true,true,true,true,true,true,true,true,true,false,false] #[true,true,true,true,true,true,true,true,true,true,true,true,true,true] (by kernel_rfl) rfl (by rfl) ?_
    clear hK
    iterate 2
      refine ql_want (v := ?_) rfl (by rfl) (fun W hW => ?_) ?_
      rotate_left
      · go_simp
        first | done | rfl
      go_frame
    refine wpQL_nil (fun y6 hxq => ?_)
    replace hP : Hid (Sp w [] w [] [(r2, 28, #[.slice A V.length cA, .slice B E.length cB])] [(3, 1, .slice A2 m c2, m, I0.flatMap encI), (3, 1, .slice A3 m3 c3, m3, N.flatMap encI)] y6) := hide ((unhide hP).ext hxq)
    clear hxq
    refine wpX_done (by kernel_rfl) ?_
    try go_frame
    go_wp2_with fail
    refine Sp.leaves0 ?_
    exact ⟨_, results_tmp rfl _ _ _, by rw [unhide hres', decide_eq_true hp0, Bool.true_and, ← unhide hI0', ← unhide hN', ← unhide hq']; rfl, (unhide hP).extf⟩
  · skip
    have q0 := (unhide hP).cellK (S := []) 0 0 (v := .slice A V.length cA) rfl rfl (by simp)
    have q1 := (unhide hP).cellK (S := []) 0 1 (v := .slice B E.length cB) rfl rfl (by simp)
    have hself := Keep.refl [] y1
    refine wp_regionK (P := Tryz.prog) [] [0,1,2,3,4,5,6,7,8,9,10,11,12,13] [] 0 #[true,true,true,true,true,true,true,true,true,true,true,true,true,true] (by kernel_rfl) (by kernel_rfl) rfl (by rfl) ?_
    iterate 2
      refine ql_want (v := ?_) rfl (by rfl) (fun W hW => ?_) ?_
      rotate_left
      · go_simp
        first | done | rfl
      go_frame
    refine ql_want (v := .int .i64 p) rfl (by rfl) (fun W hW => ?_) ?_
    · go_simp
      refine (find_any A B V cA E.length cB v W ((unhide hV').ext ((unhide hP).extf.trans ((Ext.refl _).of_new hW (by simp)))) (unhide hnV')).mono ?_
      rw [← unhide hp']
      rintro _ _ ⟨h1, h2⟩
      exact ⟨_, h1, rfl, h2⟩
    go_frame
    iterate 11
      first
      | (refine ql_skip rfl (by rfl) ?_)
      | (refine ql_want (v := ?_) rfl (by rfl) (fun W hW => ?_) ?_; rotate_left; (go_simp; (first | done | rfl)))
      try go_frame
    refine wpQL_nil (fun y2 hxq => ?_)
    replace hP : Hid (Sp w [] w [] [(r2, 28, #[.slice A V.length cA, .slice B E.length cB])] [] y2) := hide ((unhide hP).ext hxq)
    clear hxq
    clear q0 q1 hself
    refine wpX_done (by kernel_rfl) ?_
    try go_frame
    go_wp2_with fail
    refine Sp.leaves0 ?_
    exact ⟨_, results_tmp rfl _ _ _, by rw [unhide hres', decide_eq_false (by omega), Bool.false_and]; rfl, (unhide hP).extf⟩

set_option maxRecDepth 100000 in
set_option maxHeartbeats 16000000 in
theorem rightR_any (A B : Option Addr) (V : List (Int × Thing)) (E : List ((Int × Int) × Thing)) (cA cB : Nat) (C : Option Addr) (L : List Int) (cL : Nat) (w : World) (hV : SlAt encV 3 w A V) (hnV : V.length ≤ 4096) (hE : SlAt encE 4 w B E) (hnE : E.length ≤ 4096) (hL : SlAt encI 1 w C L) :
    Calls Tryz.prog 31 #[.agg #[.slice A V.length cA, .slice B E.length cB], .slice C L.length cL] w fun e w' => e = .returned (.bool (rightB V L)) ∧ Ext w w' := by
  have hV' := hide hV
  have hE' := hide hE
  have hnV' := hide hnV
  have hnE' := hide hnE
  clear hV hE hnV hnE
  have hL' := hide hL
  obtain ⟨n, hn⟩ : ∃ n, n = L.length := ⟨_, rfl⟩
  obtain ⟨N, hN⟩ : ∃ N, N = V.length := ⟨_, rfl⟩
  have hN' := hide hN
  rw [← hn]
  have hn' := hide hn
  clear hL hn hN
  have hP := hide (Sp.new w)
  refine callsIn_wide.1 (callsIn_of_wp_marks (n := 0) Tryz.func31 rfl trivial (wpIn_wide.2 ?_))
  simp only [Tryz.ntmps31, List.size_toArray, List.length_cons, List.length_nil, Nat.reduceAdd, Nat.reduceSub, Array.replicate_succ, Array.replicate_zero, List.push_toArray, List.append_toArray, List.nil_append, List.cons_append]
  try dsimp only
  repeat ((fail_if_success (with_reducible refine wp_reg (id := 0) ?_)); (first | go_values | go_skip | go_step | go_guarded | go_upon | go_in | go_back | fail))
  with_reducible refine wp_reg (id := 0) ?_
  refine (unhide hP).allocO 28 #[.slice A V.length cA, .slice B E.length cB] rfl (run_box (v := .agg #[.slice A V.length cA, .slice B E.length cB]) rfl rfl) ?_
  intro r2 y1 hQ
  replace hP : Hid (Sp w [] w [] [(r2, 28, #[.slice A V.length cA, .slice B E.length cB])] [] y1) := hide hQ
  clear hQ
  refine wpO_want rfl ?_
  go_simp
  refine wpO_done ?_
  try go_frame
  by_cases hnN : (n : Int) = (V.length : Int)
  · skip
    try dsimp only
    repeat ((fail_if_success (with_reducible refine wp_reg (id := 1) ?_)); (first | go_values | go_skip | go_step | go_guarded | go_upon | go_in | go_back | fail))
    with_reducible refine wp_reg (id := 1) ?_
    have q0 := (unhide hP).cell 0 0 (v := .slice A V.length cA) rfl rfl
    have hself := Ext.refl y1
    iterate 6
      refine wpO_want rfl ?_
      go_simp
    clear q0 hself
    refine wpO_done ?_
    try go_frame
    try dsimp only
    repeat ((fail_if_success (with_reducible refine wp_reg (id := 3) ?_)); (first | go_values | go_skip | go_step | go_guarded | go_upon | go_in | go_back | fail))
    with_reducible refine wp_reg (id := 3) ?_
    refine wpO_want rfl ?_
    go_simp
    refine wpO_done ?_
    try go_frame
    go_wp2_with fail
    have hnV2 := hide (show n ≤ 4096 by have := unhide hnV'; omega)
    have hnN' := hide hnN
    clear hnN
    refine wp_loop_ix (fun fi a' wr => ∃ (i : Nat), a'.tmps.size = 40 ∧ a'.tmps.getD 1 undef = .slice C n cL ∧ a'.tmps.getD 2 undef = .pointer (some ⟨r2, 0, none⟩) ∧ a'.tmps.getD 5 undef = .int .i64 (i : Nat) ∧ a'.defers = [] ∧ i ≤ n ∧ (∀ i' (_ : i' < i) (hl : i' < L.length), hasV L[i'] V = true ∧ ∀ k (hk : k < i'), L[k]'(Nat.lt_trans hk hl) ≠ L[i']) ∧ Sp w [] w [] [(r2, 28, #[.slice A V.length cA, .slice B E.length cB])] [] wr ∧ fi = n - i) (n - 0) ?_ ?_
    · exact ⟨0, rfl, rfl, rfl, rfl, rfl, Nat.zero_le _, fun i' h => absurd h (Nat.not_lt_zero _), unhide hP, rfl⟩
    · rintro fi ⟨tm, dfs⟩ wr ⟨i, hsz, e1, e2, e5, hdf, hin, hok, hPr, hfm⟩
      obtain ⟨us, rfl⟩ : ∃ us : Nat → Value, tm = #[us 0, us 1, us 2, us 3, us 4, us 5, us 6, us 7, us 8, us 9, us 10, us 11, us 12, us 13, us 14, us 15, us 16, us 17, us 18, us 19, us 20, us 21, us 22, us 23, us 24, us 25, us 26, us 27, us 28, us 29, us 30, us 31, us 32, us 33, us 34, us 35, us 36, us 37, us 38, us 39] := ⟨fun i => tm.getD i undef, arr_fn hsz⟩
      have h1 : us 1 = .slice C n cL := e1
      have h2 : us 2 = .pointer (some ⟨r2, 0, none⟩) := e2
      have h5 : us 5 = .int .i64 (i : Nat) := e5
      have hdf2 : dfs = [] := hdf
      subst hdf2
      clear hdf hsz e1 e2 e5
      simp only [h1, h2, h5]
      clear h1 h2 h5
      clear hP
      have hP := hide hPr
      have hok' := hide hok
      have hfm' := hide hfm
      clear hPr hok hfm
      by_cases hlt : i < n
      · have hiL : i < L.length := by have := unhide hn'; omega
        have hilt := hide hlt
        have hil : (i : Int) < (n : Int) := by omega
        have hib : (i : Int) ≤ 4096 := by have := unhide hnV2; omega
        obtain ⟨b, off, rfl, _⟩ := cellI (unhide hL') hiL
        obtain ⟨x, hx⟩ : ∃ x, x = L[i] := ⟨_, rfl⟩
        have hx' := hide hx
        obtain ⟨p, hp⟩ : ∃ p, p = posI (fun p => p.1 == x) V := ⟨_, rfl⟩
        have hp' := hide hp
        have hhv := hide (show hasV x V = decide (0 ≤ p) by rw [hp]; rfl)
        clear hx hp
        try dsimp only
        repeat ((fail_if_success (with_reducible refine wp_reg (id := 4) ?_)); (first | go_values | go_skip | go_step | go_guarded | go_upon | go_in | go_back | fail))
        with_reducible refine wp_reg (id := 4) ?_
        iterate 4
          refine wpO_want rfl ?_
          go_simp
        refine wpO_done ?_
        try go_frame
        go_wp2_with fail
        have c0 := slK (S := []) ((unhide hL').ext (unhide hP).extf) (by simp) hiL
        rw [← unhide hx'] at c0
        have q0 := (unhide hP).cellK (S := []) 0 0 (v := .slice A V.length cA) rfl rfl (by simp)
        have q1 := (unhide hP).cellK (S := []) 0 1 (v := .slice B E.length cB) rfl rfl (by simp)
        have hself := Keep.refl [] wr
        refine wp_regionK (P := Tryz.prog) [] [0,1,2,3,4,5,6] [] 0 #[true,true,true,true,true,true,true] (by kernel_rfl) (by kernel_rfl) rfl (by rfl) ?_
        iterate 5
          refine ql_want (v := ?_) rfl (by rfl) (fun W hW => ?_) ?_
          rotate_left
          · go_simp
            first | done | rfl
          go_frame
        refine ql_want (v := .int .i64 p) rfl (by rfl) (fun W hW => ?_) ?_
        · go_simp
          refine (find_any A B V cA E.length cB x W ((unhide hV').ext ((unhide hP).extf.trans ((Ext.refl _).of_new hW (by simp)))) (unhide hnV')).mono ?_
          rw [← unhide hp']
          rintro _ _ ⟨h1, h2⟩
          exact ⟨_, h1, rfl, h2⟩
        go_frame
        iterate 1
          refine ql_want (v := ?_) rfl (by rfl) (fun W hW => ?_) ?_
          rotate_left
          · go_simp
            first | done | rfl
          go_frame
        refine wpQL_nil (fun y2 hxq => ?_)
        replace hP : Hid (Sp w [] w [] [(r2, 28, #[.slice A V.length cA, .slice B E.length cB])] [] y2) := hide ((unhide hP).ext hxq)
        clear hxq
        refine wpX_done (by kernel_rfl) ?_
        try go_frame
        clear c0 q0 q1 hself
        by_cases hp0 : p < 0
        · skip
          have hres := hide (rightB_false (V := V) (L := L) fun h => by
            have h1 := (h.2 i hiL).1
            rw [← unhide hx', unhide hhv, decide_eq_true_eq] at h1
            omega)
          go_wp2_with fail
          refine Sp.leaves0 ?_
          exact ⟨_, results_tmp rfl _ _ _, by rw [unhide hres]; rfl, (unhide hP).extf⟩
        · skip
          have hhas := hide (show hasV x V = true by rw [unhide hhv, decide_eq_true_eq]; omega)
          clear hhv
          have hp1 : (p < 0) = False := by simp; omega
          replace hp0 := hide hp0
          go_wp2_with fail
          refine wp_loop_ix (fun fi a' wr => ∃ (k : Nat), a'.tmps.size = 40 ∧ a'.tmps.getD 1 undef = .slice (some ⟨b, off, none⟩) n cL ∧ a'.tmps.getD 2 undef = .pointer (some ⟨r2, 0, none⟩) ∧ a'.tmps.getD 5 undef = .int .i64 (i : Nat) ∧ a'.tmps.getD 6 undef = .int .i64 (k : Nat) ∧ a'.defers = [] ∧ k ≤ i ∧ (∀ k' (_ : k' < k) (hl : k' < L.length), L[k'] ≠ x) ∧ Sp w [] w [] [(r2, 28, #[.slice A V.length cA, .slice B E.length cB])] [] wr ∧ fi = i - k) (i - 0) ?_ ?_
          · exact ⟨0, rfl, rfl, rfl, rfl, rfl, rfl, Nat.zero_le _, fun k' h => absurd h (Nat.not_lt_zero _), unhide hP, rfl⟩
          · rintro fi ⟨tm, dfs⟩ wr ⟨k, hsz, e1, e2, e5, e6, hdf, hk, hno, hPr, hfj⟩
            obtain ⟨us, rfl⟩ : ∃ us : Nat → Value, tm = #[us 0, us 1, us 2, us 3, us 4, us 5, us 6, us 7, us 8, us 9, us 10, us 11, us 12, us 13, us 14, us 15, us 16, us 17, us 18, us 19, us 20, us 21, us 22, us 23, us 24, us 25, us 26, us 27, us 28, us 29, us 30, us 31, us 32, us 33, us 34, us 35, us 36, us 37, us 38, us 39] := ⟨fun i => tm.getD i undef, arr_fn hsz⟩
            have h1 : us 1 = .slice (some ⟨b, off, none⟩) n cL := e1
            have h2 : us 2 = .pointer (some ⟨r2, 0, none⟩) := e2
            have h5 : us 5 = .int .i64 (i : Nat) := e5
            have h6 : us 6 = .int .i64 (k : Nat) := e6
            have hdf2 : dfs = [] := hdf
            subst hdf2
            clear hdf hsz e1 e2 e5 e6
            simp only [h1, h2, h5, h6]
            clear h1 h2 h5 h6
            clear hP
            have hP := hide hPr
            have hno' := hide hno
            have hfj' := hide hfj
            clear hPr hno hfj
            by_cases hki : k < i
            · have hkL : k < L.length := by omega
              have hki' := hide hki
              have hkl : (k : Int) < (i : Int) := by omega
              have hkn : k < n := by omega
              obtain ⟨y, hy⟩ : ∃ y, y = L[k] := ⟨_, rfl⟩
              have hy' := hide hy
              clear hy
              try dsimp only
              repeat ((fail_if_success (with_reducible refine wp_reg (id := 9) ?_)); (first | go_values | go_skip | go_step | go_guarded | go_upon | go_in | go_back | fail))
              with_reducible refine wp_reg (id := 9) ?_
              iterate 3
                refine wpO_want rfl ?_
                go_simp
              refine wpO_done ?_
              try go_frame
              go_wp2_with fail
              have c0 := slK (S := []) ((unhide hL').ext (unhide hP).extf) (by simp) hiL
              rw [← unhide hx'] at c0
              have c1 := slK (S := []) ((unhide hL').ext (unhide hP).extf) (by simp) hkL
              rw [← unhide hy'] at c1
              have hself := Keep.refl [] wr
              by_cases hxy : y = x
              · subst hxy
                refine wp_regionK (P := Tryz.prog) [] [0,1,2,3,4,5,6,7,8] [] 0 #[true,true,true,true,true,true,true,true,true] (by kernel_rfl) (by kernel_rfl) rfl (by rfl) ?_
                iterate 9
                  refine ql_want (v := ?_) rfl (by rfl) (fun W hW => ?_) ?_
                  rotate_left
                  · go_simp
                    first | done | rfl
                  go_frame
                refine wpQL_nil (fun y3 hxq => ?_)
                replace hP : Hid (Sp w [] w [] [(r2, 28, #[.slice A V.length cA, .slice B E.length cB])] [] y3) := hide ((unhide hP).ext hxq)
                clear hxq
                refine wpX_done (by kernel_rfl) ?_
                try go_frame
                clear c0 c1 hself
                have hres := hide (rightB_false (V := V) (L := L) fun h => by
                  have h1 := (h.2 i hiL).2 k (unhide hki')
                  rw [← unhide hx', ← unhide hy'] at h1
                  exact h1 rfl)
                go_wp2_with fail
                refine Sp.leaves0 ?_
                exact ⟨_, results_tmp rfl _ _ _, by rw [unhide hres]; rfl, (unhide hP).extf⟩
              · skip
                refine wp_regionK (P := Tryz.prog) [] [0,1,2,3,4,5,6,7,8] [] 0 #[true,true,true,true,true,true,true,true,true] (by kernel_rfl) (by kernel_rfl) rfl (by rfl) ?_
                iterate 9
                  refine ql_want (v := ?_) rfl (by rfl) (fun W hW => ?_) ?_
                  rotate_left
                  · go_simp
                    first | done | rfl
                  go_frame
                refine wpQL_nil (fun y3 hxq => ?_)
                replace hP : Hid (Sp w [] w [] [(r2, 28, #[.slice A V.length cA, .slice B E.length cB])] [] y3) := hide ((unhide hP).ext hxq)
                clear hxq
                refine wpX_done (by kernel_rfl) ?_
                try go_frame
                clear c0 c1 hself
                have hno2 := hide (show ∀ k' (_ : k' < k + 1) (hl : k' < L.length), L[k'] ≠ x from fun k' h1 hl => by
                  rcases Nat.lt_or_ge k' k with h2 | h2
                  · exact unhide hno' k' h2 hl
                  · have : k' = k := by omega
                    subst this
                    rw [← unhide hy']; exact hxy)
                go_wp2_with fail
                have h1 := unhide hki'
                first
                | exact ⟨i - (k + 1), ⟨k + 1, (by first | rfl | trivial), (by first | rfl | trivial), (by first | rfl | trivial), (by first | rfl | (show _ = Value.int _ _; go_num) | go_num), (by first | rfl | (show _ = Value.int _ _; go_num) | go_num), (by first | rfl | trivial), by omega, unhide hno2, unhide hP, rfl⟩, by have := unhide hfj'; omega⟩
                | exact ⟨i - (k + 1), ⟨k + 1, (by first | omega | go_num), by omega, unhide hno2, unhide hP, rfl⟩, by have := unhide hfj'; omega⟩
            · have hke : ¬ (k : Int) < (i : Int) := by omega
              have hok2 := hide (show ∀ i' (_ : i' < i + 1) (hl : i' < L.length), hasV L[i'] V = true ∧ ∀ k (hk : k < i'), L[k]'(Nat.lt_trans hk hl) ≠ L[i'] from fun i' h1 hl => by
                rcases Nat.lt_or_ge i' i with h2 | h2
                · exact unhide hok' i' h2 hl
                · have : i' = i := by omega
                  subst this
                  refine ⟨by rw [← unhide hx']; exact unhide hhas, fun k' hk' => ?_⟩
                  rw [← unhide hx']
                  exact unhide hno' k' (by omega) _)
              try dsimp only
              repeat ((fail_if_success (with_reducible refine wp_reg (id := 9) ?_)); (first | go_values | go_skip | go_step | go_guarded | go_upon | go_in | go_back | fail))
              with_reducible refine wp_reg (id := 9) ?_
              iterate 3
                refine wpO_want rfl ?_
                go_simp
              refine wpO_done ?_
              try go_frame
              clear hke
              go_wp2_with fail
              have h1 := unhide hilt
              first
              | exact ⟨n - (i + 1), ⟨i + 1, (by first | rfl | trivial), (by first | rfl | trivial), (by first | rfl | trivial), (by first | rfl | (show _ = Value.int _ _; go_num) | go_num), (by first | rfl | trivial), by omega, unhide hok2, unhide hP, rfl⟩, by have := unhide hfm'; omega⟩
              | exact ⟨n - (i + 1), ⟨i + 1, (by first | omega | go_num), by omega, unhide hok2, unhide hP, rfl⟩, by have := unhide hfm'; omega⟩
      · have hie : ¬ (i : Int) < (n : Int) := by omega
        have hres := hide (rightB_true (V := V) (L := L) ⟨by have h1 := unhide hnN'; have := unhide hn'; omega, fun i' h => unhide hok' i' (by have := unhide hn'; omega) h⟩)
        try dsimp only
        repeat ((fail_if_success (with_reducible refine wp_reg (id := 4) ?_)); (first | go_values | go_skip | go_step | go_guarded | go_upon | go_in | go_back | fail))
        with_reducible refine wp_reg (id := 4) ?_
        iterate 4
          refine wpO_want rfl ?_
          go_simp
        refine wpO_done ?_
        try go_frame
        go_wp2_with fail
        refine Sp.leaves0 ?_
        exact ⟨_, results_tmp rfl _ _ _, by rw [unhide hres]; rfl, (unhide hP).extf⟩
  · skip
    try dsimp only
    repeat ((fail_if_success (with_reducible refine wp_reg (id := 1) ?_)); (first | go_values | go_skip | go_step | go_guarded | go_upon | go_in | go_back | fail))
    with_reducible refine wp_reg (id := 1) ?_
    have q0 := (unhide hP).cell 0 0 (v := .slice A V.length cA) rfl rfl
    have hself := Ext.refl y1
    iterate 6
      refine wpO_want rfl ?_
      go_simp
    clear q0 hself
    refine wpO_done ?_
    try go_frame
    have hres := hide (rightB_false (V := V) (L := L) fun h => hnN (by have := h.1; have := unhide hn'; omega))
    go_wp2_with fail
    refine Sp.leaves0 ?_
    exact ⟨_, results_tmp rfl _ _ _, by rw [unhide hres]; rfl, (unhide hP).extf⟩

set_option maxRecDepth 100000 in
set_option maxHeartbeats 16000000 in
theorem perfectR_any (A B : Option Addr) (V : List (Int × Thing)) (E : List ((Int × Int) × Thing)) (cA cB : Nat) (C : Option Addr) (L : List Int) (cL : Nat) (w : World) (hV : SlAt encV 3 w A V) (hnV : V.length ≤ 4096) (hE : SlAt encE 4 w B E) (hnE : E.length ≤ 4096) (hL : SlAt encI 1 w C L) (hl : L.length ≤ 4096) (hcL : L.length ≤ cL) :
    Calls Tryz.prog 32 #[.agg #[.slice A V.length cA, .slice B E.length cB], .slice C L.length cL] w fun e w' => e = .returned (.bool (perB V E L)) ∧ Ext w w' := by
  have hV' := hide hV
  have hE' := hide hE
  have hnV' := hide hnV
  have hnE' := hide hnE
  clear hV hE hnV hnE
  have hL' := hide hL
  obtain ⟨n, hn⟩ : ∃ n, n = L.length := ⟨_, rfl⟩
  rw [← hn] at hl hcL ⊢
  have hn' := hide hn
  have hl' := hide hl
  have hcL' := hide hcL
  clear hL hn hl hcL
  have hP := hide (Sp.new w)
  refine callsIn_wide.1 (callsIn_of_wp_marks (n := 0) Tryz.func32 rfl trivial (wpIn_wide.2 ?_))
  simp only [Tryz.ntmps32, List.size_toArray, List.length_cons, List.length_nil, Nat.reduceAdd, Nat.reduceSub, Array.replicate_succ, Array.replicate_zero, List.push_toArray, List.append_toArray, List.nil_append, List.cons_append]
  try dsimp only
  repeat ((fail_if_success (with_reducible refine wp_reg (id := 0) ?_)); (first | go_values | go_skip | go_step | go_guarded | go_upon | go_in | go_back | fail))
  with_reducible refine wp_reg (id := 0) ?_
  refine (unhide hP).allocO 28 #[.slice A V.length cA, .slice B E.length cB] rfl (run_box (v := .agg #[.slice A V.length cA, .slice B E.length cB]) rfl rfl) ?_
  intro r2 y1 hQ
  replace hP : Hid (Sp w [] w [] [(r2, 28, #[.slice A V.length cA, .slice B E.length cB])] [] y1) := hide hQ
  clear hQ
  refine wpO_want rfl ?_
  go_simp
  refine wpO_done ?_
  try go_frame
  try dsimp only
  repeat ((fail_if_success (with_reducible refine wp_reg (id := 1) ?_)); (first | go_values | go_skip | go_step | go_guarded | go_upon | go_in | go_back | fail))
  with_reducible refine wp_reg (id := 1) ?_
  refine wpO_want rfl ?_
  go_simp
  refine wpO_done ?_
  try go_frame
  go_wp2_with fail
  refine wp_loop_ix (fun fi a' wr => ∃ (i : Nat), a'.tmps.size = 25 ∧ a'.tmps.getD 1 undef = .slice C n cL ∧ a'.tmps.getD 2 undef = .pointer (some ⟨r2, 0, none⟩) ∧ a'.tmps.getD 5 undef = .int .i64 (i : Nat) ∧ a'.defers = [] ∧ i ≤ n ∧ (∀ i' (_ : i' < i) (hl : i' < L.length), ClqR V E (nbrR E L[i'] (L.drop (i' + 1)))) ∧ Sp w [] w [] [(r2, 28, #[.slice A V.length cA, .slice B E.length cB])] [] wr ∧ fi = n - i) (n - 0) ?_ ?_
  · exact ⟨0, rfl, rfl, rfl, rfl, rfl, Nat.zero_le _, fun i' h => absurd h (Nat.not_lt_zero _), unhide hP, rfl⟩
  · rintro fi ⟨tm, dfs⟩ wr ⟨i, hsz, e1, e2, e5, hdf, hin, hok, hPr, hfm⟩
    obtain ⟨us, rfl⟩ : ∃ us : Nat → Value, tm = #[us 0, us 1, us 2, us 3, us 4, us 5, us 6, us 7, us 8, us 9, us 10, us 11, us 12, us 13, us 14, us 15, us 16, us 17, us 18, us 19, us 20, us 21, us 22, us 23, us 24] := ⟨fun i => tm.getD i undef, arr_fn hsz⟩
    have h1 : us 1 = .slice C n cL := e1
    have h2 : us 2 = .pointer (some ⟨r2, 0, none⟩) := e2
    have h5 : us 5 = .int .i64 (i : Nat) := e5
    have hdf2 : dfs = [] := hdf
    subst hdf2
    clear hdf hsz e1 e2 e5
    simp only [h1, h2, h5]
    clear h1 h2 h5
    clear hP
    have hP := hide hPr
    have hok' := hide hok
    have hfm' := hide hfm
    clear hPr hok hfm
    by_cases hlt : i < n
    · have hiL : i < L.length := by have := unhide hn'; omega
      have hilt := hide hlt
      have hil : (i : Int) < (n : Int) := by omega
      have hib : (i : Int) ≤ 4096 := by have := unhide hl'; omega
      have hw1 : IntKind.i64.wrap ((i : Int) + 1) = ((i + 1 : Nat) : Int) := by rw [show (i : Int) + 1 = ((i + 1 : Nat) : Int) by omega]; exact IntWalk.i64_in _ (by omega)
      obtain ⟨b, off, rfl, _⟩ := cellI (unhide hL') hiL
      obtain ⟨x, hx⟩ : ∃ x, x = L[i] := ⟨_, rfl⟩
      have hx' := hide hx
      obtain ⟨M, hM⟩ : ∃ M, M = L.drop (i + 1) := ⟨_, rfl⟩
      have hMl := hide (show M.length = n - (i + 1) by rw [hM, List.length_drop, ← unhide hn'])
      have hMs := hide (fun (W : World) (h : SlAt encI 1 W (some ⟨b, off, none⟩) L) => by
        have h2 := h.rest (i + 1) cL (by have := unhide hcL'; have := unhide hn'; omega)
        rw [← hM] at h2
        exact h2)
      have hM' := hide hM
      clear hx hM
      try dsimp only
      repeat ((fail_if_success (with_reducible refine wp_reg (id := 2) ?_)); (first | go_values | go_skip | go_step | go_guarded | go_upon | go_in | go_back | fail))
      with_reducible refine wp_reg (id := 2) ?_
      iterate 4
        refine wpO_want rfl ?_
        go_simp
      refine wpO_done ?_
      try go_frame
      go_wp2_with fail
      have c0 := slK (S := []) ((unhide hL').ext (unhide hP).extf) (by simp) hiL
      rw [← unhide hx'] at c0
      have q0 := (unhide hP).cellK (S := []) 0 0 (v := .slice A V.length cA) rfl rfl (by simp)
      have q1 := (unhide hP).cellK (S := []) 0 1 (v := .slice B E.length cB) rfl rfl (by simp)
      have hself := Keep.refl [] wr
      refine wp_regionK (P := Tryz.prog) [] [0,1,2,3,4,5,6,7,8,9] [] 3 #[true,true,true,true,true,true,true,true,true,true,false,false,false] (by kernel_rfl) (by kernel_rfl) rfl (by rfl) ?_
      iterate 9
        refine ql_want (v := ?_) rfl (by rfl) (fun W hW => ?_) ?_
        rotate_left
        · go_simp
          first | done | rfl
        go_frame
      refine ql_want (v := .slice (restA (some ⟨b, off, none⟩) (i + 1) cL 1) (n - (i + 1)) (cL - (i + 1))) rfl (by rfl) (fun W hW => by rw [run_sl_from (k := i + 1) rfl rfl (by rfl) Tryz.underlying31 (Tryz.sizeOf3 W) (by omega)]; exact qUpon_value (Ext.refl _)) ?_
      go_frame
      refine wpQL_nil (fun y2 hxq => ?_)
      have hK := hide (hxq.keep [])
      replace hP : Hid (Sp w [] w [] [(r2, 28, #[.slice A V.length cA, .slice B E.length cB])] [] y2) := hide ((unhide hP).ext hxq)
      clear hxq
      clear c0 q0 q1 hself
      refine lx_one (i := 10) (by kernel_rfl) rfl (by rfl) #[true,true,true,true,true,true,true,true,true,true,true,false,false] (by rfl) ?_
      have hca := nearR_any A B V E cA cB (restA (some ⟨b, off, none⟩) (i + 1) cL 1) M (cL - (i + 1)) x y2 ((unhide hE').ext (unhide hP).extf) (unhide hnE') (unhide hMs _ ((unhide hL').ext (unhide hP).extf)) (by have := unhide hMl; have := unhide hl'; omega)
      rw [unhide hMl] at hca
      obtain ⟨N, hN⟩ : ∃ N, N = nbrR E x M := ⟨_, rfl⟩
      have hNl := hide (show N.length ≤ 4096 by rw [hN]; have := nbr_len E x M; have := unhide hMl; have := unhide hl'; omega)
      rw [← hN] at hca
      go_simp
      refine (hca).mono ?_
      rintro _ zy3 ⟨A3, c3, rfl, ho, hxc⟩
      clear hca
      obtain ⟨m3, hm⟩ : ∃ m3, m3 = N.length := ⟨_, rfl⟩
      rw [← hm] at ho ⊢
      have hm3' := hide hm
      have hN' := hide hN
      clear hm hN
      refine ⟨_, rfl, (unhide hK).trans (hxc.keep _), fun y3 hxd => ?_⟩
      replace hP : Hid (Sp w [] w [] [(r2, 28, #[.slice A V.length cA, .slice B E.length cB])] [(3, 1, .slice A3 m3 c3, m3, N.flatMap encI)] y3) := hide (((unhide hP).addRow hxc ho).ext hxd)
      replace hK := hide ((unhide hK).trans ((hxc.trans hxd).keep _))
      clear ho
      clear hxc hxd
      try go_frame
      refine lx_one (i := 11) (by kernel_rfl) rfl (by rfl) #[true,true,true,true,true,true,true,true,true,true,true,true,false] (by rfl) ?_
      have hca := clqR_walk A B V E cA cB A3 N c3 y3 ((unhide hV').ext (unhide hP).extf) (unhide hnV') ((unhide hE').ext (unhide hP).extf) (unhide hnE') (own_at (enc := encI) (by have h := (unhide hP).row 0 rfl; rw [unhide hm3'] at h; exact h) (fun _ => rfl)) (unhide hNl)
      rw [← unhide hm3'] at hca
      obtain ⟨q, hq⟩ : ∃ q, q = clqB V E N := ⟨_, rfl⟩
      rw [← hq] at hca
      have hq' := hide hq
      clear hq
      go_simp
      refine (hca).mono ?_
      rintro _ zy4 ⟨rfl, hxc⟩
      clear hca
      refine ⟨_, rfl, (unhide hK).trans (hxc.keep _), fun y4 hxd => ?_⟩
      replace hP : Hid (Sp w [] w [] [(r2, 28, #[.slice A V.length cA, .slice B E.length cB])] [(3, 1, .slice A3 m3 c3, m3, N.flatMap encI)] y4) := hide ((unhide hP).ext (hxc.trans hxd))
      replace hK := hide ((unhide hK).trans ((hxc.trans hxd).keep _))
      clear hxc hxd
      try go_frame
      refine lx_rekeep (unhide hK) [12] [] 0 1 #[true,true,true,true,true,true,true,true,true,true,true,true,false] #[true,true,true,true,true,true,true,true,true,true,true,true,true] (by kernel_rfl) rfl (by rfl) ?_
      clear hK
      iterate 1
        refine ql_want (v := ?_) rfl (by rfl) (fun W hW => ?_) ?_
        rotate_left
        · go_simp
          first | done | rfl
        go_frame
      refine wpQL_nil (fun y5 hxq => ?_)
      replace hP : Hid (Sp w [] w [] [(r2, 28, #[.slice A V.length cA, .slice B E.length cB])] [(3, 1, .slice A3 m3 c3, m3, N.flatMap encI)] y5) := hide ((unhide hP).ext hxq)
      clear hxq
      refine wpX_done (by kernel_rfl) ?_
      try go_frame
      cases q
      · skip
        have hres := hide (perB_false (V := V) (E := E) (L := L) fun h => by
          have h1 := clqB_true.2 (h i hiL)
          rw [← unhide hx', ← unhide hM', ← unhide hN', ← unhide hq'] at h1
          cases h1)
        go_wp2_with fail
        refine Sp.leaves0 ?_
        exact ⟨_, results_tmp rfl _ _ _, by rw [unhide hres]; rfl, (unhide hP).extf⟩
      · skip
        have hok2 := hide (show ∀ i' (_ : i' < i + 1) (hl : i' < L.length), ClqR V E (nbrR E L[i'] (L.drop (i' + 1))) from fun i' h1 hl => by
          rcases Nat.lt_or_ge i' i with h2 | h2
          · exact unhide hok' i' h2 hl
          · have : i' = i := by omega
            subst this
            rw [← unhide hx', ← unhide hM', ← unhide hN']
            exact clqB_true.1 (unhide hq').symm)
        replace hP : Hid (Sp w [] w [] [(r2, 28, #[.slice A V.length cA, .slice B E.length cB])] [] y5) := hide ((unhide hP).sub (List.Sublist.refl _) (List.nil_sublist _))
        go_wp2_with fail
        have h1 := unhide hilt
        first
        | exact ⟨n - (i + 1), ⟨i + 1, (by first | rfl | trivial), (by first | rfl | trivial), (by first | rfl | trivial), (by first | rfl | (show _ = Value.int _ _; go_num) | go_num), (by first | rfl | trivial), by omega, unhide hok2, unhide hP, rfl⟩, by have := unhide hfm'; omega⟩
        | exact ⟨n - (i + 1), ⟨i + 1, (by first | omega | go_num), by omega, unhide hok2, unhide hP, rfl⟩, by have := unhide hfm'; omega⟩
    · have hie : ¬ (i : Int) < (n : Int) := by omega
      have hres := hide (perB_true (V := V) (E := E) (L := L) fun i' h => unhide hok' i' (by have := unhide hn'; omega) h)
      try dsimp only
      repeat ((fail_if_success (with_reducible refine wp_reg (id := 2) ?_)); (first | go_values | go_skip | go_step | go_guarded | go_upon | go_in | go_back | fail))
      with_reducible refine wp_reg (id := 2) ?_
      iterate 4
        refine wpO_want rfl ?_
        go_simp
      refine wpO_done ?_
      try go_frame
      go_wp2_with fail
      refine Sp.leaves0 ?_
      exact ⟨_, results_tmp rfl _ _ _, by rw [unhide hres]; rfl, (unhide hP).extf⟩
end Go.Proofs.YtmfkkkhddigkfaaGreatDoor
/- chordal.IsPerfect. Conditions: see each theorem. -/
namespace Go.Proofs.YtmfkkkhddigkfaaGreatDoor
open Go Go.RowKit Go.Shelf
attribute [local go_sem] qUpon lUpon
attribute [local irreducible] wpO wpX wpQL

theorem cnt_toK (N : Nat) : ∀ k, cntF N k = (toK N k).length
  | 0 => rfl
  | k + 1 => by
    rw [toK_next]
    show cntF N k + (N.testBit k).toNat = _
    rw [cnt_toK N k]
    cases N.testBit k <;> simp
/-- what IsPerfect answers -/
def okS (V : List (Int × Thing)) (L : List Int) : Bool := eqS (fromS L) (vS V) && decide ((L.length : Int) = (cntF (vS V) 1024 : Nat))
def isPerS (V : List (Int × Thing)) (E : List ((Int × Int) × Thing)) (L : List Int) : Bool × Int := if okS V L = true then (perS E L (vS V), 0) else (false, 3)
theorem perm_of {α : Type} : ∀ {l m : List α}, l.Nodup → (∀ x ∈ l, x ∈ m) → m.length ≤ l.length → l.Perm m
  | [], m, _, _, h => by
    have : m = [] := List.length_eq_zero_iff.1 (by simpa using h)
    subst this
    exact List.Perm.refl _
  | x :: l, m, hn, hs, h => by
    obtain ⟨a, b, rfl⟩ := List.append_of_mem (hs x (by simp))
    have hn2 := List.nodup_cons.1 hn
    have hp : (a ++ x :: b).Perm (x :: (a ++ b)) := List.perm_middle
    refine List.Perm.trans (List.Perm.cons x (perm_of hn2.2 (fun y hy => ?_) ?_)) hp.symm
    · have := hp.mem_iff.1 (hs y (by simp [hy]))
      rcases List.mem_cons.1 this with rfl | h3
      · exact absurd hy hn2.1
      · exact h3
    · simp at h ⊢
      omega
theorem okS_right {V : List (Int × Thing)} {E : List ((Int × Int) × Thing)} (hi : GInv V E) (L : List Int) : okS V L = true ↔ L.length = V.length ∧ ∀ x, (0 ≤ x ∧ x < 1024 ∧ x ∈ L) ↔ x ∈ V.map (·.1) := by
  have hc : cntF (vS V) 1024 = V.length := by
    rw [cnt_toK]
    show (toL (vS V)).length = _
    rw [toL_vS hi, List.length_map]
  have he : eqS (fromS L) (vS V) = true ↔ ∀ x, (0 ≤ x ∧ x < 1024 ∧ x ∈ L) ↔ x ∈ V.map (·.1) := by
    have h1 : eqS (fromS L) (vS V) = true ↔ ∀ x, x ∈ toL (fromS L) ↔ x ∈ toL (vS V) := by
      rw [eqS_iff]
      have hm := fun N x => mem_toL' (N := N) (x := x)
      constructor
      · intro h x
        rw [hm, hm]
        constructor
        · rintro ⟨h1, h2, h3⟩; exact ⟨h1, h2, by rw [← h x.toNat (by omega)]; exact h3⟩
        · rintro ⟨h1, h2, h3⟩; exact ⟨h1, h2, by rw [h x.toNat (by omega)]; exact h3⟩
      · intro h k hk
        have h1 := h (k : Int)
        rw [hm, hm] at h1
        simp only [Int.toNat_natCast] at h1
        rw [Bool.eq_iff_iff]
        exact ⟨fun h2 => (h1.1 ⟨by omega, by omega, h2⟩).2.2, fun h2 => (h1.2 ⟨by omega, by omega, h2⟩).2.2⟩
    rw [h1]
    refine forall_congr' fun x => ?_
    rw [mem_from, mem_vS hi]
  unfold okS
  rw [Bool.and_eq_true, he, decide_eq_true_eq, hc]
  constructor
  · rintro ⟨h1, h2⟩; exact ⟨by omega, h1⟩
  · rintro ⟨h1, h2⟩; exact ⟨h2, by omega⟩
theorem right_ok {V : List (Int × Thing)} {E : List ((Int × Int) × Thing)} (hi : GInv V E) (L : List Int) : okS V L = rightB V L := by
  rw [Bool.eq_iff_iff, okS_right hi L, rightB_iff]
  have hnV : (V.map (·.1)).Nodup := (sv_map.1 hi.sv).imp fun h => Int.ne_of_lt h
  constructor
  · rintro ⟨h1, h2⟩
    refine ⟨h1, ?_⟩
    have hall : ∀ x ∈ V.map (·.1), x ∈ L := fun x hx => ((h2 x).2 hx).2.2
    -- as long as the vertices and holding them all: the same list up to order
    have hperm : L.Perm (V.map (·.1)) := (perm_of hnV hall (by rw [List.length_map]; omega)).symm
    have hn : L.Nodup := hperm.nodup_iff.2 hnV
    have hp := List.pairwise_iff_getElem.1 (List.nodup_iff_pairwise_ne.1 hn)
    exact fun i hii => ⟨hasV_iff.2 (hperm.mem_iff.1 (List.getElem_mem hii)), fun k hk => hp k i (Nat.lt_trans hk hii) hii hk⟩
  · rintro ⟨h1, h2⟩
    refine ⟨h1, fun x => ?_⟩
    have hm : ∀ y ∈ L, y ∈ V.map (·.1) := fun y hy => by
      obtain ⟨i, hii, rfl⟩ := List.getElem_of_mem hy
      exact hasV_iff.1 (h2 i hii).1
    have hn : L.Nodup := by
      rw [List.nodup_iff_pairwise_ne, List.pairwise_iff_getElem]
      exact fun i k hii hk hik => (h2 k hk).2 i hik
    have hperm : L.Perm (V.map (·.1)) := perm_of hn hm (by rw [List.length_map]; omega)
    constructor
    · rintro ⟨_, _, h3⟩; exact hm x h3
    · intro hx
      have := ids_rng hi hx
      exact ⟨this.1, this.2, hperm.mem_iff.2 hx⟩
theorem right_nodup {V : List (Int × Thing)} {L : List Int} (h : RightP V L) : L.Nodup ∧ ∀ x ∈ L, x ∈ V.map (·.1) :=
  ⟨by
    rw [List.nodup_iff_pairwise_ne, List.pairwise_iff_getElem]
    exact fun i k hii hk hik => (h.2 k hk).2 i hik, fun y hy => by
    obtain ⟨i, hii, rfl⟩ := List.getElem_of_mem hy
    exact hasV_iff.1 (h.2 i hii).1⟩
theorem per_ref {V : List (Int × Thing)} {E : List ((Int × Int) × Thing)} (hi : GInv V E) {L : List Int} (h : rightB V L = true) : perS E L (vS V) = perB V E L := by
  have hr := rightB_iff.1 h
  obtain ⟨hn, hm⟩ := right_nodup hr
  rw [Bool.eq_iff_iff, perB_iff, perR_iff hi L hn hm]
  refine perS_iff hi L (vS V) hn fun x => ?_
  have h2 := (okS_right hi L).1 (by rw [right_ok hi]; exact h)
  rw [mem_vS hi]
  exact ⟨fun hx => ((h2.2 x).2 hx).2.2, fun hx => hm x hx⟩

set_option maxRecDepth 100000 in
set_option maxHeartbeats 16000000 in
theorem isPerfect_any (og : Option Addr) (V : List (Int × Thing)) (E : List ((Int × Int) × Thing)) (C : Option Addr) (L : List Int) (n cL : Nat) (w : World) (hg : GL w og V E) (hT : Tab w) (hL : SlAt encI 1 w C L) (hn : n = L.length) (hl : n ≤ 4611686018427387904) :
    Calls Tryz.prog 30 #[.pointer og, .slice C n cL] w fun e w' => e = .returned (.tuple #[.bool (isPerS V E L).1, .int .i64 (isPerS V E L).2]) ∧ Ext w w' := by
  have hg' := hide hg
  have hT' := hide hT
  have hL' := hide hL
  have hn' := hide hn
  obtain ⟨b1, hb1⟩ : ∃ b, b = eqS (fromS L) (vS V) := ⟨_, rfl⟩
  obtain ⟨ct, hct⟩ : ∃ c, c = cntF (vS V) 1024 := ⟨_, rfl⟩
  have hr : isPerS V E L = if (b1 && decide ((n : Int) = (ct : Nat))) = true then (perS E L (vS V), 0) else (false, 3) := by rw [hb1, hct, hn]; rfl
  generalize isPerS V E L = res at *
  have hres := hide hr
  have hb1' := hide hb1
  have hct' := hide hct
  clear hg hT hL hn hr hb1 hct
  have hP := hide (Sp.new w)
  refine callsIn_wide.1 (callsIn_of_wp_marks (n := 0) Tryz.func30 rfl trivial (wpIn_wide.2 ?_))
  simp only [Tryz.ntmps30, List.size_toArray, List.length_cons, List.length_nil, Nat.reduceAdd, Nat.reduceSub, Array.replicate_succ, Array.replicate_zero, List.push_toArray, List.append_toArray, List.nil_append, List.cons_append]
  try dsimp only
  repeat ((fail_if_success (with_reducible refine wp_reg (id := 0) ?_)); (first | go_values | go_skip | go_step | go_guarded | go_upon | go_in | go_back | fail))
  with_reducible refine wp_reg (id := 0) ?_
  iterate 2
    refine wpO_want rfl ?_
    go_simp
  refine wpO_done ?_
  try go_frame
  try dsimp only
  repeat ((fail_if_success (with_reducible refine wp_reg (id := 1) ?_)); (first | go_values | go_skip | go_step | go_guarded | go_upon | go_in | go_back | fail))
  with_reducible refine wp_reg (id := 1) ?_
  refine wpO_val rfl (run_move rfl rfl) ?_
  go_frame
  refine wpO_want rfl ?_
  go_simp
  refine (vsetG og V E _ ((unhide hg').ext (unhide hP).extf)).mono ?_
  rintro _ y1 ⟨rfl, hxc⟩
  refine ⟨_, rfl, ?_⟩
  replace hP : Hid (Sp w [] w [] [] [] y1) := hide ((unhide hP).ext hxc)
  clear hxc
  refine (unhide hP).allocO 51 (setC 0) rfl (run_alloc_set rfl) ?_
  intro r6 y2 hQ
  replace hP : Hid (Sp w [] w [] [(r6, 51, setC 0)] [] y2) := hide hQ
  clear hQ
  refine (unhide hP).setO 0 (setC (vS V)) rfl rfl (fun hb => store_SetR (N := vS V) rfl rfl rfl hb) ?_
  intro y3 hQ
  replace hP : Hid (Sp w [] w [] [(r6, 51, setC (vS V))] [] y3) := hide hQ
  clear hQ
  refine wpO_done ?_
  try go_frame
  go_wp2_with fail
  cases b1
  · skip
    refine wp_regionK (P := Tryz.prog) [] [0,1,2,3,4,5,6,7,8,9,10] [] 0 #[true,true,true,true,true,true,true,true,true,true,true] (by kernel_rfl) (by kernel_rfl) rfl (by rfl) ?_
    iterate 1
      refine ql_want (v := ?_) rfl (by rfl) (fun W hW => ?_) ?_
      rotate_left
      · go_simp
        first | done | rfl
      go_frame
    refine ql_want (v := .agg (setC (fromS L))) rfl (by rfl) (fun W hW => ?_) ?_
    · go_simp
      refine (of_n C L n cL W (unhide hn') ((unhide hL').ext ((unhide hP).extf.trans ((Ext.refl _).of_new hW (by simp)))) (by rw [← unhide hn']; exact hl)).mono ?_
      rintro _ _ ⟨h1, h2⟩
      exact ⟨_, h1, rfl, h2⟩
    go_frame
    refine ql_want (v := .agg (setC (vS V))) rfl (by rfl) (fun W hW => qUpon_ofX (load_SetR rfl rfl ((unhide hP).wholeK 0 rfl hW (by simp)))) ?_
    go_frame
    refine ql_want (v := .bool (!false)) rfl (by rfl) (fun W hW => qUpon_ofX (by rw [run_neq_Set (N := fromS L) (M := vS V) rfl (by rfl) (by rfl), ← unhide hb1'])) ?_
    go_frame
    simp only [Bool.not_false]
    try go_frame
    iterate 7
      first
      | (refine ql_skip rfl (by rfl) ?_)
      | (refine ql_want (v := ?_) rfl (by rfl) (fun W hW => ?_) ?_; rotate_left; (go_simp; (first | done | rfl)))
      try go_frame
    refine wpQL_nil (fun y4 hxq => ?_)
    replace hP : Hid (Sp w [] w [] [(r6, 51, setC (vS V))] [] y4) := hide ((unhide hP).ext hxq)
    clear hxq
    refine wpX_done (by kernel_rfl) ?_
    try go_frame
    go_wp2_with fail
    refine Sp.leaves0 ?_
    exact ⟨_, results_tmp2 rfl _ _ _, by rw [unhide hres]; rfl, (unhide hP).extf⟩
  · by_cases hnc : (n : Int) = (ct : Int)
    · have hcb : ((n : Int) != (ct : Int)) = false := by simp; omega
      replace hnc := hide hnc
      refine wp_regionK (P := Tryz.prog) [] [0,1,2,3,4,5,6,7,8,9,10] [] 0 #[true,true,true,true,true,true,true,true,true,true,true] (by kernel_rfl) (by kernel_rfl) rfl (by rfl) ?_
      iterate 1
        refine ql_want (v := ?_) rfl (by rfl) (fun W hW => ?_) ?_
        rotate_left
        · go_simp
          first | done | rfl
        go_frame
      refine ql_want (v := .agg (setC (fromS L))) rfl (by rfl) (fun W hW => ?_) ?_
      · go_simp
        refine (of_n C L n cL W (unhide hn') ((unhide hL').ext ((unhide hP).extf.trans ((Ext.refl _).of_new hW (by simp)))) (by rw [← unhide hn']; exact hl)).mono ?_
        rintro _ _ ⟨h1, h2⟩
        exact ⟨_, h1, rfl, h2⟩
      go_frame
      refine ql_want (v := .agg (setC (vS V))) rfl (by rfl) (fun W hW => qUpon_ofX (load_SetR rfl rfl ((unhide hP).wholeK 0 rfl hW (by simp)))) ?_
      go_frame
      refine ql_want (v := .bool (!true)) rfl (by rfl) (fun W hW => qUpon_ofX (by rw [run_neq_Set (N := fromS L) (M := vS V) rfl (by rfl) (by rfl), ← unhide hb1'])) ?_
      go_frame
      simp only [Bool.not_true]
      try go_frame
      iterate 3
        refine ql_want (v := ?_) rfl (by rfl) (fun W hW => ?_) ?_
        rotate_left
        · go_simp
          first | done | rfl
        go_frame
      refine ql_want (v := .agg (setC (vS V))) rfl (by rfl) (fun W hW => qUpon_ofX (load_SetR rfl rfl ((unhide hP).wholeK 0 rfl hW (by simp)))) ?_
      go_frame
      refine ql_want (v := .int .i64 (ct : Nat)) rfl (by rfl) (fun W hW => ?_) ?_
      · go_simp
        refine (slen_any (vS V) W).mono ?_
        rw [← unhide hct']
        rintro _ _ ⟨h1, h2⟩
        exact ⟨_, h1, rfl, h2⟩
      go_frame
      iterate 2
        refine ql_want (v := ?_) rfl (by rfl) (fun W hW => ?_) ?_
        rotate_left
        · go_simp
          first | done | rfl
        go_frame
      refine wpQL_nil (fun y4 hxq => ?_)
      replace hP : Hid (Sp w [] w [] [(r6, 51, setC (vS V))] [] y4) := hide ((unhide hP).ext hxq)
      clear hxq
      refine wpX_done (by kernel_rfl) ?_
      try go_frame
      have hres2 := hide (show res = (perS E L (vS V), 0) by rw [unhide hres, Bool.true_and, if_pos (decide_eq_true (unhide hnc))])
      clear hres hcb
      try dsimp only
      repeat ((fail_if_success (with_reducible refine wp_reg (id := 4) ?_)); (first | go_values | go_skip | go_step | go_guarded | go_upon | go_in | go_back | fail))
      with_reducible refine wp_reg (id := 4) ?_
      iterate 3
        refine wpO_want rfl ?_
        go_simp
      refine wpO_done ?_
      try go_frame
      go_wp2_with fail
      refine wp_loop_ix (fun fi a' wr => ∃ (k : Nat), ∃ (N : Nat), a'.tmps.size = 37 ∧ a'.tmps.getD 0 undef = .pointer og ∧ a'.tmps.getD 6 undef = .pointer (some ⟨r6, 0, none⟩) ∧ a'.tmps.getD 22 undef = .slice C n cL ∧ a'.tmps.getD 23 undef = .int .i64 (n : Nat) ∧ a'.tmps.getD 24 undef = .int .i64 (k : Nat) ∧ a'.defers = [] ∧ k ≤ n ∧ perS E L (vS V) = perS E (L.drop k) N ∧ Sp w [] w [] [(r6, 51, setC N)] [] wr ∧ fi = n - k) (n - 0) ?_ ?_
      · exact ⟨0, vS V, rfl, rfl, rfl, rfl, rfl, rfl, rfl, Nat.zero_le _, rfl, unhide hP, rfl⟩
      · rintro fi ⟨tm, dfs⟩ wr ⟨k, N, hsz, e0, e6, e22, e23, e24, hdf, hk, hpe, hPr, hfm⟩
        obtain ⟨us, rfl⟩ : ∃ us : Nat → Value, tm = #[us 0, us 1, us 2, us 3, us 4, us 5, us 6, us 7, us 8, us 9, us 10, us 11, us 12, us 13, us 14, us 15, us 16, us 17, us 18, us 19, us 20, us 21, us 22, us 23, us 24, us 25, us 26, us 27, us 28, us 29, us 30, us 31, us 32, us 33, us 34, us 35, us 36] := ⟨fun i => tm.getD i undef, arr_fn hsz⟩
        have h0 : us 0 = .pointer og := e0
        have h6 : us 6 = .pointer (some ⟨r6, 0, none⟩) := e6
        have h22 : us 22 = .slice C n cL := e22
        have h23 : us 23 = .int .i64 (n : Nat) := e23
        have h24 : us 24 = .int .i64 (k : Nat) := e24
        have hdf2 : dfs = [] := hdf
        subst hdf2
        clear hdf hsz e0 e6 e22 e23 e24
        simp only [h0, h6, h22, h23, h24]
        clear h0 h6 h22 h23 h24
        clear hP
        have hP := hide hPr
        have hpe' := hide hpe
        have hfm' := hide hfm
        clear hPr hpe hfm
        by_cases hlt : k < n
        · have hkl : (k : Int) < (n : Int) := by omega
          have hkL : k < L.length := by have := unhide hn'; omega
          have hlt' := hide hlt
          have hkb : (k : Int) ≤ 4611686018427387904 := by omega
          obtain ⟨b, off, rfl, _⟩ := cellI (unhide hL') hkL
          obtain ⟨v, hv⟩ : ∃ v, v = L[k] := ⟨_, rfl⟩
          have hdr := hide (show perS E L (vS V) = (simpleS E v N && perS E (L.drop (k + 1)) (withoutS N v)) by rw [unhide hpe', List.drop_eq_getElem_cons hkL, ← hv]; rfl)
          have hv' := hide hv
          clear hv hpe'
          try dsimp only
          repeat ((fail_if_success (with_reducible refine wp_reg (id := 5) ?_)); (first | go_values | go_skip | go_step | go_guarded | go_upon | go_in | go_back | fail))
          with_reducible refine wp_reg (id := 5) ?_
          refine wpO_want rfl ?_
          go_simp
          refine wpO_done ?_
          try go_frame
          have c0 := slE ((unhide hL').ext (unhide hP).extf) hkL
          rw [← unhide hv'] at c0
          have hself := Ext.refl wr
          try dsimp only
          repeat ((fail_if_success (with_reducible refine wp_reg (id := 6) ?_)); (first | go_values | go_skip | go_step | go_guarded | go_upon | go_in | go_back | fail))
          with_reducible refine wp_reg (id := 6) ?_
          iterate 3
            refine wpO_want rfl ?_
            go_simp
          clear c0 hself
          refine wpO_done ?_
          try go_frame
          try dsimp only
          repeat ((fail_if_success (with_reducible refine wp_reg (id := 7) ?_)); (first | go_values | go_skip | go_step | go_guarded | go_upon | go_in | go_back | fail))
          with_reducible refine wp_reg (id := 7) ?_
          iterate 2
            refine wpO_want rfl ?_
            go_simp
          refine wpO_val rfl (load_SetR (N := N) rfl rfl ((unhide hP).get 0 rfl).whole) ?_
          refine wpO_want rfl ?_
          go_simp
          obtain ⟨q, hq⟩ : ∃ q, q = simpleS E v N := ⟨_, rfl⟩
          rw [← hq] at hdr
          have hq' := hide hq
          clear hq
          have hca := simple_any og V E v N wr ((unhide hg').ext (unhide hP).extf) ((unhide hT').ext (unhide hP).extf)
          rw [← unhide hq'] at hca
          refine (hca).mono ?_
          rintro _ y5 ⟨rfl, hxc⟩
          clear hca
          refine ⟨_, rfl, ?_⟩
          replace hP : Hid (Sp w [] w [] [(r6, 51, setC N)] [] y5) := hide ((unhide hP).ext hxc)
          clear hxc
          refine wpO_want rfl ?_
          go_simp
          refine wpO_done ?_
          try go_frame
          cases q
          · have hre := hide (show res = (false, 0) by rw [unhide hres2, unhide hdr]; rfl)
            go_wp2_with fail
            refine Sp.leaves0 ?_
            exact ⟨_, results_tmp2 rfl _ _ _, by rw [unhide hre]; rfl, (unhide hP).extf⟩
          · have hpn := hide (show perS E L (vS V) = perS E (L.drop (k + 1)) (withoutS N v) by rw [unhide hdr]; rfl)
            try dsimp only
            repeat ((fail_if_success (with_reducible refine wp_reg (id := 9) ?_)); (first | go_values | go_skip | go_step | go_guarded | go_upon | go_in | go_back | fail))
            with_reducible refine wp_reg (id := 9) ?_
            refine wpO_val rfl (load_SetR (N := N) rfl rfl ((unhide hP).get 0 rfl).whole) ?_
            refine wpO_want rfl ?_
            go_simp
            refine wpO_want rfl ?_
            go_simp
            refine (without_S N v _).mono ?_
            rintro _ y6 ⟨rfl, hxc⟩
            refine ⟨_, rfl, ?_⟩
            replace hP : Hid (Sp w [] w [] [(r6, 51, setC N)] [] y6) := hide ((unhide hP).ext hxc)
            clear hxc
            refine (unhide hP).setO 0 (setC (withoutS N v)) rfl rfl (fun hb => store_SetR (N := withoutS N v) rfl rfl rfl hb) ?_
            intro y7 hQ
            replace hP : Hid (Sp w [] w [] [(r6, 51, setC (withoutS N v))] [] y7) := hide hQ
            clear hQ
            refine wpO_done ?_
            try go_frame
            have hw1 : IntKind.i64.wrap ((k : Int) + 1) = (k : Int) + 1 := IntWalk.i64_in _ (by omega)
            try dsimp only
            repeat ((fail_if_success (with_reducible refine wp_reg (id := 10) ?_)); (first | go_values | go_skip | go_step | go_guarded | go_upon | go_in | go_back | fail))
            with_reducible refine wp_reg (id := 10) ?_
            iterate 2
              refine wpO_want rfl ?_
              go_simp
            refine wpO_done ?_
            try go_frame
            go_wp2_with fail
            have h1 := unhide hlt'
            first
            | exact ⟨n - (k + 1), ⟨k + 1, withoutS N v, (by first | rfl | trivial), (by first | rfl | trivial), (by first | rfl | trivial), (by first | rfl | trivial), (by first | rfl | trivial), (by first | rfl | (show _ = Value.int _ _; go_num) | go_num), (by first | rfl | trivial), by omega, unhide hpn, unhide hP, rfl⟩, by have := unhide hfm'; omega⟩
            | exact ⟨n - (k + 1), ⟨k + 1, withoutS N v, (by first | omega | go_num), by omega, unhide hpn, unhide hP, rfl⟩, by have := unhide hfm'; omega⟩
        · have hke : ¬ (k : Int) < (n : Int) := by omega
          have hre := hide (show res = (true, 0) by rw [unhide hres2, unhide hpe', List.drop_eq_nil_of_le (by have := unhide hn'; omega)]; rfl)
          go_wp2_with fail
          refine Sp.leaves0 ?_
          exact ⟨_, results_tmp2 rfl _ _ _, by rw [unhide hre]; rfl, (unhide hP).extf⟩
    · have hcb : ((n : Int) != (ct : Int)) = true := by simp; omega
      replace hnc := hide hnc
      refine wp_regionK (P := Tryz.prog) [] [0,1,2,3,4,5,6,7,8,9,10] [] 0 #[true,true,true,true,true,true,true,true,true,true,true] (by kernel_rfl) (by kernel_rfl) rfl (by rfl) ?_
      iterate 1
        refine ql_want (v := ?_) rfl (by rfl) (fun W hW => ?_) ?_
        rotate_left
        · go_simp
          first | done | rfl
        go_frame
      refine ql_want (v := .agg (setC (fromS L))) rfl (by rfl) (fun W hW => ?_) ?_
      · go_simp
        refine (of_n C L n cL W (unhide hn') ((unhide hL').ext ((unhide hP).extf.trans ((Ext.refl _).of_new hW (by simp)))) (by rw [← unhide hn']; exact hl)).mono ?_
        rintro _ _ ⟨h1, h2⟩
        exact ⟨_, h1, rfl, h2⟩
      go_frame
      refine ql_want (v := .agg (setC (vS V))) rfl (by rfl) (fun W hW => qUpon_ofX (load_SetR rfl rfl ((unhide hP).wholeK 0 rfl hW (by simp)))) ?_
      go_frame
      refine ql_want (v := .bool (!true)) rfl (by rfl) (fun W hW => qUpon_ofX (by rw [run_neq_Set (N := fromS L) (M := vS V) rfl (by rfl) (by rfl), ← unhide hb1'])) ?_
      go_frame
      simp only [Bool.not_true]
      try go_frame
      iterate 3
        refine ql_want (v := ?_) rfl (by rfl) (fun W hW => ?_) ?_
        rotate_left
        · go_simp
          first | done | rfl
        go_frame
      refine ql_want (v := .agg (setC (vS V))) rfl (by rfl) (fun W hW => qUpon_ofX (load_SetR rfl rfl ((unhide hP).wholeK 0 rfl hW (by simp)))) ?_
      go_frame
      refine ql_want (v := .int .i64 (ct : Nat)) rfl (by rfl) (fun W hW => ?_) ?_
      · go_simp
        refine (slen_any (vS V) W).mono ?_
        rw [← unhide hct']
        rintro _ _ ⟨h1, h2⟩
        exact ⟨_, h1, rfl, h2⟩
      go_frame
      iterate 2
        refine ql_want (v := ?_) rfl (by rfl) (fun W hW => ?_) ?_
        rotate_left
        · go_simp
          first | done | rfl
        go_frame
      refine wpQL_nil (fun y4 hxq => ?_)
      replace hP : Hid (Sp w [] w [] [(r6, 51, setC (vS V))] [] y4) := hide ((unhide hP).ext hxq)
      clear hxq
      refine wpX_done (by kernel_rfl) ?_
      try go_frame
      go_wp2_with fail
      refine Sp.leaves0 ?_
      exact ⟨_, results_tmp2 rfl _ _ _, by rw [unhide hres, Bool.true_and, if_neg (by rw [decide_eq_true_eq]; exact unhide hnc)]; rfl, (unhide hP).extf⟩
end Go.Proofs.YtmfkkkhddigkfaaGreatDoor
/- palmettelaw24.ChordalIsPerfect answers true. Conditions: see each theorem. -/
namespace Go.Proofs.YtmfkkkhddigkfaaGreatDoor
open Go Go.RowKit Go.Shelf
attribute [local go_sem] qUpon lUpon
attribute [local irreducible] wpO wpX wpQL

theorem Sp.swapR {wf : World} {T0 : List Nat} {w W : World} {ds : List Deferred} {L : List Cl} {r1 r2 : Rw} (h : Sp wf T0 w ds L [r1, r2] W) : Sp wf T0 w ds L [r2, r1] W := by
  have hp : (stT L [r2, r1]).Perm (stT L [r1, r2]) := by
    unfold stT rwT
    refine List.Perm.append_left _ ?_
    simp only [List.flatMap_cons, List.flatMap_nil, List.append_nil]
    exact List.perm_append_comm
  exact h.step (Keep.refl [] W) (by simp) ⟨h.st.cells, fun q hq => h.st.rows q (by simp at hq ⊢; exact hq.symm), hp.nodup_iff.2 h.st.nd, fun x hx => h.st.ge x (hp.mem_iff.1 hx)⟩ (fun x hx => .inl (hp.mem_iff.1 hx))
theorem len_outK {α : Type} (l : List α) {k : Nat} (h : k < l.length) : (l.take k ++ l.drop (k + 1)).length = l.length - 1 := by
  rw [List.length_append, List.length_take, List.length_drop]; omega
theorem perm_outK {α : Type} (o l : List α) {k : Nat} (h : k < l.length) : ((o ++ [l[k]]) ++ (l.take k ++ l.drop (k + 1))).Perm (o ++ l) := by
  rw [List.append_assoc]
  refine List.Perm.append_left o ?_
  have e : l = l.take k ++ l[k] :: l.drop (k + 1) := by rw [← List.drop_eq_getElem_cons h, List.take_append_drop]
  have h2 : (l[k] :: (l.take k ++ l.drop (k + 1))).Perm (l.take k ++ l[k] :: l.drop (k + 1)) := List.perm_middle.symm
  rw [← e] at h2
  exact h2
theorem perm_right {V : List (Int × Thing)} {E : List ((Int × Int) × Thing)} (hi : GInv V E) {o : List Int} (h : o.Perm (V.map (·.1))) : rightB V o = true := by
  have hnd : (V.map (·.1)).Nodup := (sv_map.1 hi.sv).imp fun h => Int.ne_of_lt h
  have hn : o.Nodup := h.nodup_iff.2 hnd
  have hp := List.pairwise_iff_getElem.1 (List.nodup_iff_pairwise_ne.1 hn)
  exact rightB_iff.2 ⟨by rw [h.length_eq, List.length_map], fun i hii => ⟨hasV_iff.2 (h.mem_iff.1 (List.getElem_mem hii)), fun k hk => hp k i (Nat.lt_trans hk hii) hii hk⟩⟩
theorem isPer_right {V : List (Int × Thing)} {E : List ((Int × Int) × Thing)} (hi : GInv V E) (o : List Int) : isPerS V E o = if rightB V o = true then (perB V E o, 0) else (false, 3) := by
  unfold isPerS
  rw [right_ok hi]
  by_cases h : rightB V o = true
  · rw [if_pos h, if_pos h, per_ref hi h]
  · rw [if_neg h, if_neg h]

set_option maxRecDepth 100000 in
set_option maxHeartbeats 16000000 in
theorem chordalIsPerfect_walk (A : Option Addr) (L : List Ed) (cL : Nat) (C : Option Addr) (M : List Int) (cM : Nat) (t : Int) (w : World) (hL : SlAt encD 5 w A L) (hM : SlAt encI 1 w C M) (_hMo : ∀ d ∈ M, i64ok d) (_hMl : M.length ≤ 9223372036854775807) (hMc : M.length ≤ cM) (ht : 0 ≤ t ∧ t ≤ 18446744073709551615) (hT : Tab w) :
    Calls Tryz.prog 8 #[.slice A L.length cL, .slice C M.length cM, .int .u64 t] w fun e w' => e = .returned (.bool true) ∧ Ext w w' := by
  have hL' := hide hL
  have hT' := hide hT
  have hM' := hide hM
  obtain ⟨nM, hnM⟩ : ∃ n, n = M.length := ⟨_, rfl⟩
  rw [← hnM] at hMc ⊢
  have hnM' := hide hnM
  have hMc' := hide hMc
  obtain ⟨t0, rfl⟩ : ∃ t0 : Nat, t = (t0 : Int) := ⟨t.toNat, by omega⟩
  have ht' := hide (show t0 < 18446744073709551616 by omega)
  clear hM hMc hnM ht _hMl _hMo
  clear hL hT
  have hP := hide (Sp.new w)
  refine callsIn_wide.1 (callsIn_of_wp_marks (n := 0) Tryz.func8 rfl trivial (wpIn_wide.2 ?_))
  simp only [Tryz.ntmps8, List.size_toArray, List.length_cons, List.length_nil, Nat.reduceAdd, Nat.reduceSub, Array.replicate_succ, Array.replicate_zero, List.push_toArray, List.append_toArray, List.nil_append, List.cons_append]
  try dsimp only
  repeat ((fail_if_success (with_reducible refine wp_reg (id := 1) ?_)); (first | go_values | go_skip | go_step | go_guarded | go_upon | go_in | go_back | fail))
  with_reducible refine wp_reg (id := 1) ?_
  refine wpO_want rfl ?_
  go_simp
  refine (known24_any _ ((unhide hT').ext (unhide hP).extf)).mono ?_
  rintro _ y1 ⟨rfl, hxc⟩
  refine ⟨_, rfl, ?_⟩
  replace hP : Hid (Sp w [] w [] [] [] y1) := hide ((unhide hP).ext hxc)
  clear hxc
  refine wpO_want rfl ?_
  go_simp
  refine wpO_done ?_
  try go_frame
  try dsimp only
  repeat ((fail_if_success (with_reducible refine wp_reg (id := 3) ?_)); (first | go_values | go_skip | go_step | go_guarded | go_upon | go_in | go_back | fail))
  with_reducible refine wp_reg (id := 3) ?_
  refine wpO_val rfl (run_move rfl rfl) ?_
  go_frame
  refine wpO_want rfl ?_
  go_simp
  have hca := take_any A L cL 9 y1 ((unhide hL').ext (unhide hP).extf)
  have hi := hide (mdS_inv L)
  refine hca.mono ?_
  clear hca
  generalize mdS L = S at *
  obtain ⟨V, E⟩ := S
  try dsimp only at hi ⊢
  rintro _ y2 ⟨g, bv, be, A1, B1, cA, cB, rfl, hg0, hs0, he0, hxc⟩
  refine ⟨_, rfl, ?_⟩
  replace hP : Hid (Sp w [] w [] [] [] y2) := hide ((unhide hP).ext hxc)
  have hg := hide hg0
  have hsV := hide hs0
  have hsE := hide he0
  obtain ⟨q, hq⟩ : ∃ q, q = decide ((V.length : Int) ≤ 9) := ⟨_, rfl⟩
  rw [← hq]
  have hq' := hide hq
  have hnV := hide hg0.nV
  have hnE := hide hg0.nE
  clear hxc hg0 hs0 he0 hq
  generalize htu0 : Value.tuple _ = tu
  have htu := hide htu0
  clear htu0
  refine wpO_val rfl (run_move rfl rfl) ?_
  go_frame
  refine wpO_val rfl (run_extract (i := 0) (v := .pointer (some ⟨g, 0, none⟩)) rfl (unhide htu).symm rfl) ?_
  go_frame
  refine wpO_val rfl (run_extract (i := 1) (v := .agg #[.slice A1 V.length cA, .slice B1 E.length cB]) rfl (unhide htu).symm rfl) ?_
  go_frame
  refine wpO_val rfl (run_extract (i := 2) (v := .bool q) rfl (unhide htu).symm rfl) ?_
  go_frame
  refine (unhide hP).allocT 28 #[.slice none 0 0, .slice none 0 0] rfl (by go_simp) ?_
  intro r8 y3 hQ hxa hga
  replace hP : Hid (Sp w [] w [] [(r8, 28, #[.slice none 0 0, .slice none 0 0])] [] y3) := hide hQ
  clear hQ
  try go_frame
  refine wpO_want rfl ?_
  go_simp
  refine (unhide hP).setT 0 #[.slice A1 V.length cA, .slice B1 E.length cB] rfl rfl (fun hb => run_store_row (v := .agg #[.slice A1 V.length cA, .slice B1 E.length cB]) rfl (by rfl) (by rfl) (by simp [go_sem]) hb rfl (fun u hu => by simp [Value.cells] at hu; rcases hu with rfl | rfl <;> rfl)) ?_
  intro y4 hQ hkq
  replace hP : Hid (Sp w [] w [] [(r8, 28, #[.slice A1 V.length cA, .slice B1 E.length cB])] [] y4) := hide hQ
  have hxs := hxa.of_new hkq (fun x hx => by rw [List.mem_singleton] at hx; rw [hx]; exact hga)
  clear hQ hkq hxa hga
  try go_frame
  replace hg := hide ((unhide hg).ext (hxs))
  replace hsV := hide ((unhide hsV).ext (hxs))
  replace hsE := hide ((unhide hsE).ext (hxs))
  clear hxs
  refine wpO_want rfl ?_
  go_simp
  refine wpO_done ?_
  try go_frame
  clear htu
  cases q
  · skip
    go_wp2_with fail
    refine Sp.leaves0 ?_
    exact ⟨_, results_tmp rfl _ _ _, rfl, (unhide hP).extf⟩
  · skip
    by_cases hm20 : (nM : Int) > 20
    · skip
      go_wp2_with fail
      refine Sp.leaves0 ?_
      exact ⟨_, results_tmp rfl _ _ _, rfl, (unhide hP).extf⟩
    · have hm2 := hide (show nM ≤ 20 by omega)
      have hipr := hide (fun o => isPer_right (unhide hi) o)
      have hpr := hide (fun (o : List Int) (h : o.Perm (V.map (·.1))) => perm_right (unhide hi) h)
      have hVl := hide (show V.length ≤ 1024 from (unhide hi).nv)
      try dsimp only
      repeat ((fail_if_success (with_reducible refine wp_reg (id := 4) ?_)); (first | go_values | go_skip | go_step | go_guarded | go_upon | go_in | go_back | fail))
      with_reducible refine wp_reg (id := 4) ?_
      iterate 7
        refine wpO_want rfl ?_
        go_simp
      refine wpO_done ?_
      try go_frame
      clear hm20
      have hx0 := hide (unhide hP).extf
      have hB8 := hide ((unhide hP).get 0 rfl)
      have hTz := hide ((unhide hT').ext (unhide hx0))
      have hMz := hide ((unhide hM').ext (unhide hx0))
      clear hP hT' hM'
      have hP : Hid (Sp y4 [] y4 [] [] [] y4) := hide (Sp.new y4)
      try dsimp only
      repeat ((fail_if_success (with_reducible refine wp_reg (id := 6) ?_)); (first | go_values | go_skip | go_step | go_guarded | go_upon | go_in | go_back | fail))
      with_reducible refine wp_reg (id := 6) ?_
      have q0 := ((unhide hB8).ext (unhide hP).extf).cells 0 (v := .slice A1 V.length cA) rfl
      have q1 := ((unhide hB8).ext (unhide hP).extf).cells 1 (v := .slice B1 E.length cB) rfl
      have hself := Ext.refl y4
      refine wpO_want rfl ?_
      go_simp
      clear q0 q1 hself
      refine wpO_want rfl ?_
      go_simp
      obtain ⟨ids, hids⟩ : ∃ ids, ids = V.map (·.1) := ⟨_, rfl⟩
      have hidl := hide (show ids.length ≤ 1024 by rw [hids, List.length_map]; exact unhide hVl)
      have hca := ids_any A1 B1 V E cA cB y4 (unhide hsV) (unhide hnV)
      rw [← hids] at hca hpr
      clear hids
      refine (hca).mono ?_
      rintro _ y5 ⟨A5, c5, rfl, ho, hxc⟩
      obtain ⟨nl, hnl⟩ : ∃ nl, nl = ids.length := ⟨_, rfl⟩
      rw [← hnl] at ho ⊢
      have hnl' := hide hnl
      clear hca hnl
      refine ⟨_, rfl, ?_⟩
      replace hP : Hid (Sp y4 [] y4 [] [] [(3, 1, .slice A5 nl c5, nl, ids.flatMap encI)] y5) := hide ((unhide hP).addRow hxc ho)
      clear hxc ho
      refine wpO_want rfl ?_
      go_simp
      refine wpO_done ?_
      try go_frame
      try dsimp only
      repeat ((fail_if_success (with_reducible refine wp_reg (id := 7) ?_)); (first | go_values | go_skip | go_step | go_guarded | go_upon | go_in | go_back | fail))
      with_reducible refine wp_reg (id := 7) ?_
      refine wpO_want rfl ?_
      go_simp
      refine wpO_done ?_
      try go_frame
      replace hP : Hid (Sp y4 [] y4 [] [] [(3, 1, .slice A5 nl c5, nl, ids.flatMap encI), (3, 1, .slice none 0 0, 0, ([] : List Int).flatMap encI)] y5) := hide ((unhide hP).nil 3 1)
      go_wp2_with fail
      refine wp_loop_ix (fun fi a' wr => ∃ (lf : List Int), ∃ (al : List Int), ∃ (A5 : Option Addr), ∃ (A6 : Option Addr), ∃ (nl : Nat), ∃ (na : Nat), ∃ (c5 : Nat), ∃ (c6 : Nat), ∃ (tn : Nat), a'.tmps.size = 105 ∧ a'.tmps.getD 1 undef = .slice C nM cM ∧ a'.tmps.getD 2 undef = .int .u64 ((tn : Nat) : Int) ∧ a'.tmps.getD 7 undef = .pointer (some ⟨g, 0, none⟩) ∧ a'.tmps.getD 8 undef = .pointer (some ⟨r8, 0, none⟩) ∧ a'.tmps.getD 10 undef = .slice A5 nl c5 ∧ a'.tmps.getD 11 undef = .slice A6 na c6 ∧ a'.defers = [] ∧ (al ++ lf).Perm ids ∧ tn < 18446744073709551616 ∧ nl = lf.length ∧ na = al.length ∧ Sp y4 [] y4 [] [] [(3, 1, .slice A5 nl c5, nl, lf.flatMap encI), (3, 1, .slice A6 na c6, na, al.flatMap encI)] wr ∧ fi = nl) (nl) ?_ ?_
      · exact ⟨ids, [], A5, none, nl, 0, c5, 0, t0, rfl, rfl, rfl, rfl, rfl, rfl, rfl, rfl, List.Perm.refl _, unhide ht', unhide hnl', rfl, unhide hP, rfl⟩
      · rintro fi ⟨tm, dfs⟩ wr ⟨lf, al, A5, A6, nl, na, c5, c6, tn, hsz, e1, e2, e7, e8, e10, e11, hdf, hperm, htn, hlf, hal, hPr, hfm⟩
        obtain ⟨us, rfl⟩ : ∃ us : Nat → Value, tm = #[us 0, us 1, us 2, us 3, us 4, us 5, us 6, us 7, us 8, us 9, us 10, us 11, us 12, us 13, us 14, us 15, us 16, us 17, us 18, us 19, us 20, us 21, us 22, us 23, us 24, us 25, us 26, us 27, us 28, us 29, us 30, us 31, us 32, us 33, us 34, us 35, us 36, us 37, us 38, us 39, us 40, us 41, us 42, us 43, us 44, us 45, us 46, us 47, us 48, us 49, us 50, us 51, us 52, us 53, us 54, us 55, us 56, us 57, us 58, us 59, us 60, us 61, us 62, us 63, us 64, us 65, us 66, us 67, us 68, us 69, us 70, us 71, us 72, us 73, us 74, us 75, us 76, us 77, us 78, us 79, us 80, us 81, us 82, us 83, us 84, us 85, us 86, us 87, us 88, us 89, us 90, us 91, us 92, us 93, us 94, us 95, us 96, us 97, us 98, us 99, us 100, us 101, us 102, us 103, us 104] := ⟨fun i => tm.getD i undef, arr_fn hsz⟩
        have h1 : us 1 = .slice C nM cM := e1
        have h2 : us 2 = .int .u64 ((tn : Nat) : Int) := e2
        have h7 : us 7 = .pointer (some ⟨g, 0, none⟩) := e7
        have h8 : us 8 = .pointer (some ⟨r8, 0, none⟩) := e8
        have h10 : us 10 = .slice A5 nl c5 := e10
        have h11 : us 11 = .slice A6 na c6 := e11
        have hdf2 : dfs = [] := hdf
        subst hdf2
        clear hdf hsz e1 e2 e7 e8 e10 e11
        simp only [h1, h2, h7, h8, h10, h11]
        clear h1 h2 h7 h8 h10 h11
        clear hP hnl' ht'
        have hP := hide hPr
        have hperm' := hide hperm
        have htn' := hide htn
        have hlf' := hide hlf
        have hal' := hide hal
        have hfm' := hide hfm
        have hln := hide (show na + nl ≤ 1024 by have h := hperm.length_eq; rw [List.length_append] at h; have := unhide hidl; omega)
        clear hPr hfm hperm htn hlf hal
        by_cases hpos : 0 < nl
        · have hpI : (0 : Int) < (nl : Int) := by omega
          obtain ⟨kk, hkk⟩ : ∃ kk, kk = tn % nl := ⟨_, rfl⟩
          have hkn : kk < nl := by rw [hkk]; exact Nat.mod_lt _ hpos
          have hkL : kk < lf.length := by have := unhide hlf'; omega
          obtain ⟨bl, ol, rfl, hcz⟩ := cellI (own_at (enc := encI) (by have h := (unhide hP).row 0 rfl; rw [unhide hlf'] at h; exact h) (fun _ => rfl)) hkL
          clear hcz
          have hnlb : nl ≤ 1024 := by have := unhide hln; omega
          have hrem : ((tn : Int)).tmod (nl : Int) = (kk : Int) := by
            rw [Int.tmod_eq_emod_of_nonneg (by omega), hkk]
            exact (Int.natCast_emod _ _).symm
          obtain ⟨td, htd⟩ : ∃ td, td = tn / nl := ⟨_, rfl⟩
          have hquo : ((tn : Int)).tdiv (nl : Int) = (td : Int) := by
            rw [Int.tdiv_eq_ediv_of_nonneg (by omega), htd]
            exact (Int.natCast_ediv _ _).symm
          have hquo2 : (tn : Int) / (nl : Int) = (td : Int) := by rw [htd]; exact (Int.natCast_ediv _ _).symm
          have htdb := hide (show td < 18446744073709551616 by rw [htd]; exact Nat.lt_of_le_of_lt (Nat.div_le_self _ _) (unhide htn'))
          have hwu : IntKind.u64.wrap (nl : Int) = (nl : Int) := IntWalk.u64_in _ (by omega)
          have hwk : IntKind.i64.wrap (kk : Int) = (kk : Int) := IntWalk.i64_in _ (by omega)
          have hwk1 : IntKind.i64.wrap ((kk : Int) + 1) = ((kk + 1 : Nat) : Int) := by rw [show (kk : Int) + 1 = ((kk + 1 : Nat) : Int) by omega]; exact IntWalk.i64_in _ (by omega)
          have hwuk : IntKind.u64.wrap (kk : Int) = (kk : Int) := IntWalk.u64_in _ (by omega)
          have hwtd : IntKind.u64.wrap (td : Int) = (td : Int) := IntWalk.u64_in _ (by have := unhide htdb; omega)
          have hnz : ¬ nl = 0 := by omega
          obtain ⟨y, hy⟩ : ∃ y, y = lf[kk] := ⟨_, rfl⟩
          have hy' := hide hy
          clear hy hkk htd
          try dsimp only
          repeat ((fail_if_success (with_reducible refine wp_reg (id := 8) ?_)); (first | go_values | go_skip | go_step | go_guarded | go_upon | go_in | go_back | fail))
          with_reducible refine wp_reg (id := 8) ?_
          iterate 3
            refine wpO_want rfl ?_
            go_simp
          refine wpO_done ?_
          try go_frame
          try dsimp only
          repeat ((fail_if_success (with_reducible refine wp_reg (id := 9) ?_)); (first | go_values | go_skip | go_step | go_guarded | go_upon | go_in | go_back | fail))
          with_reducible refine wp_reg (id := 9) ?_
          iterate 7
            refine wpO_want rfl ?_
            go_simp
          refine wpO_done ?_
          try go_frame
          try dsimp only
          repeat ((fail_if_success (with_reducible refine wp_reg (id := 10) ?_)); (first | go_values | go_skip | go_step | go_guarded | go_upon | go_in | go_back | fail))
          with_reducible refine wp_reg (id := 10) ?_
          iterate 6
            refine wpO_want rfl ?_
            go_simp
          refine wpO_done ?_
          try go_frame
          clear hrem hquo hquo2 hwu hwuk hwtd hnz hpI
          have c0 := slE (own_at (enc := encI) (by have h := (unhide hP).row 0 rfl; rw [unhide hlf'] at h; exact h) (fun _ => rfl)) hkL
          rw [← unhide hy'] at c0
          have hself := Ext.refl wr
          try dsimp only
          repeat ((fail_if_success (with_reducible refine wp_reg (id := 11) ?_)); (first | go_values | go_skip | go_step | go_guarded | go_upon | go_in | go_back | fail))
          with_reducible refine wp_reg (id := 11) ?_
          iterate 5
            refine wpO_want rfl ?_
            go_simp
          clear c0 hself
          refine (unhide hP).build1O 3 #[.int .i64 y] rfl (run_build1 rfl rfl) ?_
          intro bt y6 hQ
          replace hP : Hid (Sp y4 [] y4 [] [(bt, 3, #[.int .i64 y])] [(3, 1, .slice (some ⟨bl, ol, none⟩) nl c5, nl, lf.flatMap encI), (3, 1, .slice A6 na c6, na, al.flatMap encI)] y6) := hide hQ
          clear hQ
          go_frame
          refine (unhide hP).ap1O (enc := encI) (T := 3) (ST := 31) 1 (v := .slice A6 na c6) (m := na) (xs := al) rfl rfl infoI Tryz.underlying31 one_encI (fun _ => rfl) (by decide) (by decide) rfl y rfl rfl ((unhide hP).get 0 rfl) (by have := unhide hln; omega) ?_
          intro A7 cA7 y7 hQ
          replace hP : Hid (Sp y4 [] y4 [] [(bt, 3, #[.int .i64 y])] [(3, 1, .slice (some ⟨bl, ol, none⟩) nl c5, nl, lf.flatMap encI), (3, 1, .slice A7 (na + 1) cA7, na + 1, (al ++ [y]).flatMap encI)] y7) := hide hQ
          clear hQ
          try go_frame
          refine wpO_want rfl ?_
          go_simp
          refine wpO_done ?_
          try go_frame
          replace hP : Hid (Sp y4 [] y4 [] [] [(3, 1, .slice (some ⟨bl, ol, none⟩) nl c5, nl, lf.flatMap encI), (3, 1, .slice A7 (na + 1) cA7, na + 1, (al ++ [y]).flatMap encI)] y7) := hide ((unhide hP).sub (List.sublist_append_left _ ([(bt, 3, #[.int .i64 y])] : List Cl)) (List.Sublist.refl _))
          go_wp2_with fail
          have hself := Keep.refl [] y7
          have hcap := own_cap ((unhide hP).row 0 rfl)
          refine wp_regionK (P := Tryz.prog) [] [1,2,3,5,6,7,8] [] 4 #[false,true,true,true,false,true,true,true,true,false,false] (by kernel_rfl) (by kernel_rfl) rfl (by rfl) ?_
          iterate 2
            refine ql_want (v := ?_) rfl (by rfl) (fun W hW => ?_) ?_
            rotate_left
            · go_simp
              first | done | rfl
            go_frame
          refine ql_want (v := .slice (some ⟨bl, ol, none⟩) kk c5) rfl (by rfl) (fun W hW => by rw [run_sl_to (k := kk) rfl rfl (by rfl) Tryz.underlying31 (Tryz.sizeOf3 W) (by omega)]; exact qUpon_value (Ext.refl _)) ?_
          go_frame
          iterate 3
            refine ql_want (v := ?_) rfl (by rfl) (fun W hW => ?_) ?_
            rotate_left
            · go_simp
              first | done | rfl
            go_frame
          refine ql_want (v := .slice (restA (some ⟨bl, ol, none⟩) (kk + 1) c5 1) (nl - (kk + 1)) (c5 - (kk + 1))) rfl (by rfl) (fun W hW => by rw [run_sl_from (k := kk + 1) rfl rfl (by rfl) Tryz.underlying31 (Tryz.sizeOf3 W) (by omega)]; exact qUpon_value (Ext.refl _)) ?_
          go_frame
          refine wpQL_nil (fun y8 hxq => ?_)
          have hK := hide (hxq.keep [])
          replace hP : Hid (Sp y4 [] y4 [] [] [(3, 1, .slice (some ⟨bl, ol, none⟩) nl c5, nl, lf.flatMap encI), (3, 1, .slice A7 (na + 1) cA7, na + 1, (al ++ [y]).flatMap encI)] y8) := hide ((unhide hP).ext hxq)
          clear hxq
          clear hself
          refine lx_one (i := 0) (by kernel_rfl) rfl (by rfl) #[true,true,true,true,false,true,true,true,true,false,false] (by rfl) ?_
          refine (unhide hP).allocL (unhide hK) (v := fun b => .slice (some ⟨b, 0, none⟩) 0 0) 3 #[] ?_ ?_
          · go_simp
          intro be y9 hQ hK2 hg2
          replace hP : Hid (Sp y4 [] y4 [] [(be, 3, #[])] [(3, 1, .slice (some ⟨bl, ol, none⟩) nl c5, nl, lf.flatMap encI), (3, 1, .slice A7 (na + 1) cA7, na + 1, (al ++ [y]).flatMap encI)] y9) := hide hQ
          replace hK := hide hK2
          have hge_be := hide hg2
          clear hQ hK2 hg2
          try go_frame
          replace hP : Hid (Sp y4 [] y4 [] [] [(3, 1, .slice (some ⟨bl, ol, none⟩) nl c5, nl, lf.flatMap encI), (3, 1, .slice A7 (na + 1) cA7, na + 1, (al ++ [y]).flatMap encI), (3, 1, .slice (some ⟨be, 0, none⟩) 0 0, 0, [])] y9) := hide (Sp.toRow (L := []) (b := be) (t := 3) (n := 0) (cs := #[]) (unhide hP) rfl (by decide))
          refine lx_one (i := 4) (by kernel_rfl) rfl (by rfl) #[true,true,true,true,true,true,true,true,true,false,false] (by rfl) ?_
          refine (unhide hP).apAL (unhide hK) (enc := encI) (T := 3) (ST := 31) 2 (v := .slice (some ⟨be, 0, none⟩) 0 0) (m := 0) (xs := ([] : List Int)) rfl (fun z hz => .inr (by simp [Value.ownBlock] at hz; subst hz; exact unhide hge_be)) infoI Tryz.underlying31 one_encI (fun _ => rfl) (by decide) (by decide) rfl (lf.take kk) rfl rfl (by rw [List.length_take]; omega) (SlAt.upto (own_at (enc := encI) (by have h := (unhide hP).row 0 rfl; rw [unhide hlf'] at h; exact h) (fun _ => rfl)) kk) (by omega) ?_
          intro A8 cA8 y10 hQ hK2 hg2
          replace hP : Hid (Sp y4 [] y4 [] [] [(3, 1, .slice (some ⟨bl, ol, none⟩) nl c5, nl, lf.flatMap encI), (3, 1, .slice A7 (na + 1) cA7, na + 1, (al ++ [y]).flatMap encI), (3, 1, .slice A8 (0 + kk) cA8, 0 + kk, (([] : List Int) ++ (lf.take kk)).flatMap encI)] y10) := hide hQ
          replace hK := hide hK2
          have hge_A8 := hide hg2
          clear hQ hK2 hg2
          try go_frame
          refine lx_one (i := 9) (by kernel_rfl) rfl (by rfl) #[true,true,true,true,true,true,true,true,true,true,false] (by rfl) ?_
          refine (unhide hP).apAL (unhide hK) (enc := encI) (T := 3) (ST := 31) 2 (v := .slice A8 (0 + kk) cA8) (m := 0 + kk) (xs := ([] ++ lf.take kk)) rfl (unhide hge_A8) infoI Tryz.underlying31 one_encI (fun _ => rfl) (by decide) (by decide) rfl (lf.drop (kk + 1)) rfl rfl (by rw [List.length_drop, ← unhide hlf']) (SlAt.rest (own_at (enc := encI) (by have h := (unhide hP).row 0 rfl; rw [unhide hlf'] at h; exact h) (fun _ => rfl)) (kk + 1) c5 (by rw [← unhide hlf']; exact hcap)) (by omega) ?_
          intro A9 cA9 y11 hQ hK2 hg2
          replace hP : Hid (Sp y4 [] y4 [] [] [(3, 1, .slice (some ⟨bl, ol, none⟩) nl c5, nl, lf.flatMap encI), (3, 1, .slice A7 (na + 1) cA7, na + 1, (al ++ [y]).flatMap encI), (3, 1, .slice A9 (0 + kk + (nl - (kk + 1))) cA9, 0 + kk + (nl - (kk + 1)), (([] ++ lf.take kk) ++ (lf.drop (kk + 1))).flatMap encI)] y11) := hide hQ
          replace hK := hide hK2
          have hge_A9 := hide hg2
          clear hQ hK2 hg2
          try go_frame
          obtain ⟨n9, hn9⟩ : ∃ n9, n9 = 0 + kk + (nl - (kk + 1)) := ⟨_, rfl⟩
          rw [← hn9] at hP ⊢
          have hn9' := hide hn9
          clear hn9
          refine lx_rekeep (unhide hK) [10] [] 0 1 #[true,true,true,true,true,true,true,true,true,true,false] #[true,true,true,true,true,true,true,true,true,true,true] (by kernel_rfl) rfl (by rfl) ?_
          clear hK
          iterate 1
            refine ql_want (v := ?_) rfl (by rfl) (fun W hW => ?_) ?_
            rotate_left
            · go_simp
              first | done | rfl
            go_frame
          refine wpQL_nil (fun y12 hxq => ?_)
          replace hP : Hid (Sp y4 [] y4 [] [] [(3, 1, .slice (some ⟨bl, ol, none⟩) nl c5, nl, lf.flatMap encI), (3, 1, .slice A7 (na + 1) cA7, na + 1, (al ++ [y]).flatMap encI), (3, 1, .slice A9 n9 cA9, n9, ([] ++ lf.take kk ++ lf.drop (kk + 1)).flatMap encI)] y12) := hide ((unhide hP).ext hxq)
          clear hxq
          refine wpX_done (by kernel_rfl) ?_
          try go_frame
          have hl9 : n9 = (lf.take kk ++ lf.drop (kk + 1)).length := by rw [len_outK lf hkL, unhide hn9', ← unhide hlf']; omega
          have hpm := (perm_outK al lf hkL).trans (unhide hperm')
          rw [← unhide hy'] at hpm
          have hl9' := hide hl9
          have hpm' := hide hpm
          have hn9b := hide (show n9 < nl by rw [unhide hn9']; omega)
          clear hl9 hpm hcap
          go_wp2_with fail
          have h9 := unhide hP
          have hPn : Sp y4 [] y4 [] [] [(3, 1, .slice A9 n9 cA9, n9, (lf.take kk ++ lf.drop (kk + 1)).flatMap encI), (3, 1, .slice A7 (na + 1) cA7, na + 1, (al ++ [y]).flatMap encI)] y12 := Sp.swapR (h9.sub (List.Sublist.refl _) (List.sublist_cons_self _ _))
          have h1 := unhide hn9b
          have h2 := unhide hfm'
          first
          | exact ⟨n9, ⟨lf.take kk ++ lf.drop (kk + 1), al ++ [y], A9, A7, n9, na + 1, cA9, cA7, td, (by first | rfl | trivial), (by first | rfl | trivial), (by first | rfl | (show _ = Value.int _ _; go_num) | go_num), (by first | rfl | trivial), (by first | rfl | trivial), (by first | rfl | trivial), (by first | rfl | trivial), (by first | rfl | trivial), unhide hpm', unhide htdb, unhide hl9', by rw [List.length_append, List.length_singleton, ← unhide hal'], hPn, rfl⟩, by omega⟩
          | exact ⟨n9, ⟨lf.take kk ++ lf.drop (kk + 1), al ++ [y], A9, A7, n9, na + 1, cA9, cA7, td, (by first | omega | go_num), unhide hpm', unhide htdb, unhide hl9', by rw [List.length_append, List.length_singleton, ← unhide hal'], hPn, rfl⟩, by omega⟩
        · have hpI : ¬ (0 : Int) < (nl : Int) := by omega
          have hlf0 : lf = [] := by have := unhide hlf'; exact List.eq_nil_of_length_eq_zero (by omega)
          have hal2 : al.Perm ids := by have h := unhide hperm'; rw [hlf0, List.append_nil] at h; exact h
          have hra0 := unhide hpr al hal2
          obtain ⟨pa, hpa⟩ : ∃ pa, pa = perB V E al := ⟨_, rfl⟩
          have hia := hide (show isPerS V E al = (pa, 0) by rw [unhide hipr al, if_pos hra0, hpa])
          have hpa' := hide hpa
          obtain ⟨pm, hpm⟩ : ∃ pm, pm = perB V E M := ⟨_, rfl⟩
          obtain ⟨q, hq⟩ : ∃ q, q = rightB V M := ⟨_, rfl⟩
          have him0 : isPerS V E M = if q = true then (pm, 0) else (false, 3) := by rw [unhide hipr M, hq, hpm]
          have hpm' := hide hpm
          have hq' := hide hq
          clear hpa hra0 hal2 hpm hq hpr hipr
          try dsimp only
          repeat ((fail_if_success (with_reducible refine wp_reg (id := 8) ?_)); (first | go_values | go_skip | go_step | go_guarded | go_upon | go_in | go_back | fail))
          with_reducible refine wp_reg (id := 8) ?_
          iterate 3
            refine wpO_want rfl ?_
            go_simp
          refine wpO_done ?_
          try go_frame
          clear hpI hpos
          try dsimp only
          repeat ((fail_if_success (with_reducible refine wp_reg (id := 13) ?_)); (first | go_values | go_skip | go_step | go_guarded | go_upon | go_in | go_back | fail))
          with_reducible refine wp_reg (id := 13) ?_
          refine wpO_val rfl (run_move rfl rfl) ?_
          go_frame
          refine wpO_val rfl (run_move rfl rfl) ?_
          go_frame
          refine wpO_want rfl ?_
          go_simp
          have hca := isPerfect_any (some ⟨g, 0, none⟩) V E A6 al na c6 wr (GL.of ((unhide hg).ext (unhide hP).extf)) ((unhide hTz).ext (unhide hP).extf) (own_at (enc := encI) (by have h := (unhide hP).row 1 rfl; rw [unhide hal'] at h; exact h) (fun _ => rfl)) (unhide hal') (by have := unhide hln; omega)
          rw [unhide hia] at hca
          refine (hca).mono ?_
          rintro _ y6 ⟨rfl, hxc⟩
          clear hca
          refine ⟨_, rfl, ?_⟩
          replace hP : Hid (Sp y4 [] y4 [] [] [(3, 1, .slice A5 nl c5, nl, lf.flatMap encI), (3, 1, .slice A6 na c6, na, al.flatMap encI)] y6) := hide ((unhide hP).ext hxc)
          clear hxc
          generalize htu0 : Value.tuple _ = tu
          have htu := hide htu0
          clear htu0
          refine wpO_val rfl (run_move rfl rfl) ?_
          go_frame
          refine wpO_val rfl (run_extract (i := 0) (v := .bool pa) rfl (unhide htu).symm rfl) ?_
          go_frame
          refine wpO_val rfl (run_extract (i := 1) (v := .int .i64 0) rfl (unhide htu).symm rfl) ?_
          go_frame
          iterate 2
            refine wpO_want rfl ?_
            go_simp
          refine wpO_done ?_
          try go_frame
          clear htu
          cases q with
          | false =>
            have him := hide (show isPerS V E M = (false, 3) from him0)
            clear him0
            try dsimp only
            repeat ((fail_if_success (with_reducible refine wp_reg (id := 14) ?_)); (first | go_values | go_skip | go_step | go_guarded | go_upon | go_in | go_back | fail))
            with_reducible refine wp_reg (id := 14) ?_
            refine wpO_val rfl (run_move rfl rfl) ?_
            go_frame
            refine wpO_val rfl (run_move rfl rfl) ?_
            go_frame
            refine wpO_want rfl ?_
            go_simp
            have hca := isPerfect_any (some ⟨g, 0, none⟩) V E C M nM cM y6 (GL.of ((unhide hg).ext (unhide hP).extf)) ((unhide hTz).ext (unhide hP).extf) ((unhide hMz).ext (unhide hP).extf) (unhide hnM') (by have := unhide hm2; omega)
            rw [unhide him] at hca
            refine (hca).mono ?_
            rintro _ y7 ⟨rfl, hxc⟩
            clear hca
            refine ⟨_, rfl, ?_⟩
            replace hP : Hid (Sp y4 [] y4 [] [] [(3, 1, .slice A5 nl c5, nl, lf.flatMap encI), (3, 1, .slice A6 na c6, na, al.flatMap encI)] y7) := hide ((unhide hP).ext hxc)
            clear hxc
            generalize htu0 : Value.tuple _ = tu
            have htu := hide htu0
            clear htu0
            refine wpO_val rfl (run_move rfl rfl) ?_
            go_frame
            refine wpO_val rfl (run_extract (i := 0) (v := .bool false) rfl (unhide htu).symm rfl) ?_
            go_frame
            refine wpO_val rfl (run_extract (i := 1) (v := .int .i64 3) rfl (unhide htu).symm rfl) ?_
            go_frame
            iterate 2
              refine wpO_want rfl ?_
              go_simp
            refine wpO_done ?_
            try go_frame
            clear htu
            try dsimp only
            repeat ((fail_if_success (with_reducible refine wp_reg (id := 15) ?_)); (first | go_values | go_skip | go_step | go_guarded | go_upon | go_in | go_back | fail))
            with_reducible refine wp_reg (id := 15) ?_
            have q0 := ((unhide hB8).ext (unhide hP).extf).cells 0 (v := .slice A1 V.length cA) rfl
            have q1 := ((unhide hB8).ext (unhide hP).extf).cells 1 (v := .slice B1 E.length cB) rfl
            have hself := Ext.refl y7
            iterate 6
              refine wpO_want rfl ?_
              go_simp
            clear q0 q1 hself
            refine wpO_want rfl ?_
            go_simp
            have hca := perfectR_any A1 B1 V E cA cB A6 al c6 y7 ((unhide hsV).ext (unhide hP).extf) (unhide hnV) ((unhide hsE).ext (unhide hP).extf) (unhide hnE) (own_at (enc := encI) (by have h := (unhide hP).row 1 rfl; rw [unhide hal'] at h; exact h) (fun _ => rfl)) (by have := unhide hln; have := unhide hal'; omega) (by have h := own_cap ((unhide hP).row 1 rfl); rw [unhide hal'] at h; exact h)
            rw [← unhide hal', ← unhide hpa'] at hca
            refine (hca).mono ?_
            rintro _ y8 ⟨rfl, hxc⟩
            clear hca
            refine ⟨_, rfl, ?_⟩
            replace hP : Hid (Sp y4 [] y4 [] [] [(3, 1, .slice A5 nl c5, nl, lf.flatMap encI), (3, 1, .slice A6 na c6, na, al.flatMap encI)] y8) := hide ((unhide hP).ext hxc)
            clear hxc
            have hnp : (pa != pa) = false := by cases pa <;> rfl
            iterate 2
              refine wpO_want rfl ?_
              go_simp
            refine wpO_done ?_
            try go_frame
            clear hnp
            try dsimp only
            repeat ((fail_if_success (with_reducible refine wp_reg (id := 17) ?_)); (first | go_values | go_skip | go_step | go_guarded | go_upon | go_in | go_back | fail))
            with_reducible refine wp_reg (id := 17) ?_
            have q0 := ((unhide hB8).ext (unhide hP).extf).cells 0 (v := .slice A1 V.length cA) rfl
            have q1 := ((unhide hB8).ext (unhide hP).extf).cells 1 (v := .slice B1 E.length cB) rfl
            have hself := Ext.refl y8
            iterate 2
              refine wpO_want rfl ?_
              go_simp
            clear q0 q1 hself
            refine wpO_want rfl ?_
            go_simp
            have hca := rightR_any A1 B1 V E cA cB C M cM y8 ((unhide hsV).ext (unhide hP).extf) (unhide hnV) ((unhide hsE).ext (unhide hP).extf) (unhide hnE) ((unhide hMz).ext (unhide hP).extf)
            rw [← unhide hnM', ← unhide hq'] at hca
            refine (hca).mono ?_
            rintro _ y9 ⟨rfl, hxc⟩
            clear hca
            refine ⟨_, rfl, ?_⟩
            replace hP : Hid (Sp y4 [] y4 [] [] [(3, 1, .slice A5 nl c5, nl, lf.flatMap encI), (3, 1, .slice A6 na c6, na, al.flatMap encI)] y9) := hide ((unhide hP).ext hxc)
            clear hxc
            refine wpO_want rfl ?_
            go_simp
            refine wpO_done ?_
            try go_frame
            try dsimp only
            repeat ((fail_if_success (with_reducible refine wp_reg (id := 18) ?_)); (first | go_values | go_skip | go_step | go_guarded | go_upon | go_in | go_back | fail))
            with_reducible refine wp_reg (id := 18) ?_
            iterate 7
              refine wpO_want rfl ?_
              go_simp
            refine wpO_done ?_
            try go_frame
            go_wp2_with fail
            exact ⟨_, results_tmp rfl _ _ _, rfl, (unhide hx0).trans (unhide hP).extf⟩
          | true =>
            have him := hide (show isPerS V E M = (pm, 0) from him0)
            clear him0
            try dsimp only
            repeat ((fail_if_success (with_reducible refine wp_reg (id := 14) ?_)); (first | go_values | go_skip | go_step | go_guarded | go_upon | go_in | go_back | fail))
            with_reducible refine wp_reg (id := 14) ?_
            refine wpO_val rfl (run_move rfl rfl) ?_
            go_frame
            refine wpO_val rfl (run_move rfl rfl) ?_
            go_frame
            refine wpO_want rfl ?_
            go_simp
            have hca := isPerfect_any (some ⟨g, 0, none⟩) V E C M nM cM y6 (GL.of ((unhide hg).ext (unhide hP).extf)) ((unhide hTz).ext (unhide hP).extf) ((unhide hMz).ext (unhide hP).extf) (unhide hnM') (by have := unhide hm2; omega)
            rw [unhide him] at hca
            refine (hca).mono ?_
            rintro _ y7 ⟨rfl, hxc⟩
            clear hca
            refine ⟨_, rfl, ?_⟩
            replace hP : Hid (Sp y4 [] y4 [] [] [(3, 1, .slice A5 nl c5, nl, lf.flatMap encI), (3, 1, .slice A6 na c6, na, al.flatMap encI)] y7) := hide ((unhide hP).ext hxc)
            clear hxc
            generalize htu0 : Value.tuple _ = tu
            have htu := hide htu0
            clear htu0
            refine wpO_val rfl (run_move rfl rfl) ?_
            go_frame
            refine wpO_val rfl (run_extract (i := 0) (v := .bool pm) rfl (unhide htu).symm rfl) ?_
            go_frame
            refine wpO_val rfl (run_extract (i := 1) (v := .int .i64 0) rfl (unhide htu).symm rfl) ?_
            go_frame
            iterate 2
              refine wpO_want rfl ?_
              go_simp
            refine wpO_done ?_
            try go_frame
            clear htu
            try dsimp only
            repeat ((fail_if_success (with_reducible refine wp_reg (id := 15) ?_)); (first | go_values | go_skip | go_step | go_guarded | go_upon | go_in | go_back | fail))
            with_reducible refine wp_reg (id := 15) ?_
            have q0 := ((unhide hB8).ext (unhide hP).extf).cells 0 (v := .slice A1 V.length cA) rfl
            have q1 := ((unhide hB8).ext (unhide hP).extf).cells 1 (v := .slice B1 E.length cB) rfl
            have hself := Ext.refl y7
            iterate 6
              refine wpO_want rfl ?_
              go_simp
            clear q0 q1 hself
            refine wpO_want rfl ?_
            go_simp
            have hca := perfectR_any A1 B1 V E cA cB A6 al c6 y7 ((unhide hsV).ext (unhide hP).extf) (unhide hnV) ((unhide hsE).ext (unhide hP).extf) (unhide hnE) (own_at (enc := encI) (by have h := (unhide hP).row 1 rfl; rw [unhide hal'] at h; exact h) (fun _ => rfl)) (by have := unhide hln; have := unhide hal'; omega) (by have h := own_cap ((unhide hP).row 1 rfl); rw [unhide hal'] at h; exact h)
            rw [← unhide hal', ← unhide hpa'] at hca
            refine (hca).mono ?_
            rintro _ y8 ⟨rfl, hxc⟩
            clear hca
            refine ⟨_, rfl, ?_⟩
            replace hP : Hid (Sp y4 [] y4 [] [] [(3, 1, .slice A5 nl c5, nl, lf.flatMap encI), (3, 1, .slice A6 na c6, na, al.flatMap encI)] y8) := hide ((unhide hP).ext hxc)
            clear hxc
            have hnp : (pa != pa) = false := by cases pa <;> rfl
            iterate 2
              refine wpO_want rfl ?_
              go_simp
            refine wpO_done ?_
            try go_frame
            clear hnp
            try dsimp only
            repeat ((fail_if_success (with_reducible refine wp_reg (id := 17) ?_)); (first | go_values | go_skip | go_step | go_guarded | go_upon | go_in | go_back | fail))
            with_reducible refine wp_reg (id := 17) ?_
            have q0 := ((unhide hB8).ext (unhide hP).extf).cells 0 (v := .slice A1 V.length cA) rfl
            have q1 := ((unhide hB8).ext (unhide hP).extf).cells 1 (v := .slice B1 E.length cB) rfl
            have hself := Ext.refl y8
            iterate 2
              refine wpO_want rfl ?_
              go_simp
            clear q0 q1 hself
            refine wpO_want rfl ?_
            go_simp
            have hca := rightR_any A1 B1 V E cA cB C M cM y8 ((unhide hsV).ext (unhide hP).extf) (unhide hnV) ((unhide hsE).ext (unhide hP).extf) (unhide hnE) ((unhide hMz).ext (unhide hP).extf)
            rw [← unhide hnM', ← unhide hq'] at hca
            refine (hca).mono ?_
            rintro _ y9 ⟨rfl, hxc⟩
            clear hca
            refine ⟨_, rfl, ?_⟩
            replace hP : Hid (Sp y4 [] y4 [] [] [(3, 1, .slice A5 nl c5, nl, lf.flatMap encI), (3, 1, .slice A6 na c6, na, al.flatMap encI)] y9) := hide ((unhide hP).ext hxc)
            clear hxc
            refine wpO_want rfl ?_
            go_simp
            refine wpO_done ?_
            try go_frame
            try dsimp only
            repeat ((fail_if_success (with_reducible refine wp_reg (id := 19) ?_)); (first | go_values | go_skip | go_step | go_guarded | go_upon | go_in | go_back | fail))
            with_reducible refine wp_reg (id := 19) ?_
            have q0 := ((unhide hB8).ext (unhide hP).extf).cells 0 (v := .slice A1 V.length cA) rfl
            have q1 := ((unhide hB8).ext (unhide hP).extf).cells 1 (v := .slice B1 E.length cB) rfl
            have hself := Ext.refl y9
            iterate 6
              refine wpO_want rfl ?_
              go_simp
            clear q0 q1 hself
            refine wpO_want rfl ?_
            go_simp
            have hca := perfectR_any A1 B1 V E cA cB C M cM y9 ((unhide hsV).ext (unhide hP).extf) (unhide hnV) ((unhide hsE).ext (unhide hP).extf) (unhide hnE) ((unhide hMz).ext (unhide hP).extf) (by have := unhide hm2; have := unhide hnM'; omega) (by have h := unhide hMc'; rw [unhide hnM'] at h; exact h)
            rw [← unhide hnM', ← unhide hpm'] at hca
            refine (hca).mono ?_
            rintro _ y10 ⟨rfl, hxc⟩
            clear hca
            refine ⟨_, rfl, ?_⟩
            replace hP : Hid (Sp y4 [] y4 [] [] [(3, 1, .slice A5 nl c5, nl, lf.flatMap encI), (3, 1, .slice A6 na c6, na, al.flatMap encI)] y10) := hide ((unhide hP).ext hxc)
            clear hxc
            have hnp : (pm == pm) = true := by cases pm <;> rfl
            iterate 3
              refine wpO_want rfl ?_
              go_simp
            refine wpO_done ?_
            try go_frame
            clear hnp
            go_wp2_with fail
            exact ⟨_, results_tmp rfl _ _ _, rfl, (unhide hx0).trans (unhide hP).extf⟩
end Go.Proofs.YtmfkkkhddigkfaaGreatDoor
/- Every input makes the law ChordalIsPerfect answer true, and each argument reads behind the call as it read before: the given card, tied to the program's text. No condition. -/
namespace Go.Proofs.YtmfkkkhddigkfaaGreatDoor.chordalIsPerfectRow
open Go.ChangeShapes Go.WideShapes Go.ChangeAt Go.RowKit
set_option linter.unusedVariables false

theorem own : ownKnob Tryz.prog.godebug = none := by kernel_rfl
theorem laidOut : laidOutB Tryz.prog = true := by kernel_rfl
theorem door_met (os : Os) (args : Array Value) : laidMetH Tryz.prog laidL ((World.doorLaid Tryz.prog 400 os).forCall (fun _ _ => 0) ⟨#[], args, []⟩).memory :=
  laidMetH_of_parts3 (fuel := 8) (laidMet_of_run' 8 (by kernel_rfl) (by kernel_rfl)) (by kernel_rfl) (by kernel_rfl)

set_option maxRecDepth 100000 in
theorem lifted (os : Os) (started : os.Started) (H : Type) (enc : TypeId × Value → H) :
    ReturnsInHanded {} Tryz.checked os 8 .any (fun w args => (Rows.chordalIsPerfectSpec.pre enc Tryz.prog Tryz.f8 [] false w args ∧ laidMetH Tryz.prog laidL w) ∧ sizedMet enc Tryz.prog Tryz.f8 (OpenSpec.ofChange Rows.chordalIsPerfectSpec) false w args)
      (Rows.chordalIsPerfectSpec.post enc Tryz.prog Tryz.f8 false true false false) := by
  refine returnsInHanded_of_change_and (C := Tryz.checked) (X := fun w _ => laidMetH Tryz.prog laidL w) (fun _ _ _ hh h => h.of_heap hh) own started (by kernel_rfl) Tryz.func8
    (ChangeSpec.witness_shaped (enc := enc) (C := Tryz.checked) (os := os) (X := fun w _ => laidMetH Tryz.prog laidL w) false (World.doorLaid Tryz.prog 400 os) #[.slice none 0 0, .slice none 0 0, .int .u64 0] 8 rfl (World.shaped_of_RefB (by kernel_rfl) (by kernel_rfl)) (by kernel_rfl) (by kernel_rfl) (by kernel_rfl) (door_met os _)) ?_
  intro W base args ds gs before hval0 hW _ _ hL _
  have hval : ∀ (j : Nat) t v, Tryz.f8.params[j]? = some t → args[j]? = some v → Value.okWide Tryz.prog W .any base t v := hval0
  have hW' := hW
  obtain ⟨p, q, hA0, hV, rfl, hfz, hnd⟩ := hW
  have hA : DataW.TrodAll enc Tryz.prog W 0 (fun _ => true) true Tryz.f8.params.toList args.toList ds p := hA0
  rw [Tryz.params8] at hA hval
  obtain ⟨v0, vs0, d0, ds0, p0, q0, hargs, rfl, rfl, h0, r0⟩ := trodAll_cons hA
  obtain ⟨v1, vs1, d1, ds1, p1, q1, rfl, rfl, rfl, h1, r1⟩ := trodAll_cons r0
  obtain ⟨v2, vs2, d2, ds2, p2, q2, rfl, rfl, rfl, h2, r2⟩ := trodAll_cons r1
  obtain ⟨rfl, rfl, rfl⟩ := trodAll_nil r2
  obtain rfl : args = #[v0, v1, v2] := by cases args; simp_all
  obtain ⟨rfl, rfl⟩ := trodVars_none hV
  obtain ⟨a0, len0, cap0, rfl⟩ := okWide_slice Tryz.underlying22 (hval 0 22 v0 rfl rfl)
  have k0 := h0
  have lt0 : ∀ x ∈ p0, x.block < W.heap.size := by obtain ⟨m, hm⟩ := k0; exact DataW.trod_lt m _ _ _ hm
  obtain ⟨fu0, hf0⟩ := h0
  obtain ⟨L0, hn0, hs0, ho0, hm0, hz0⟩ := open_edits (by simpa [Value.cells] using hf0)
  subst hn0
  obtain ⟨a1, len1, cap1, rfl⟩ := okWide_slice Tryz.underlying31 (hval 1 31 v1 rfl rfl)
  have k1 := h1
  have lt1 : ∀ x ∈ p1, x.block < W.heap.size := by obtain ⟨m, hm⟩ := k1; exact DataW.trod_lt m _ _ _ hm
  obtain ⟨fu1, hf1⟩ := h1
  obtain ⟨L1, hn1, hs1, ho1, hm1, hz1⟩ := open_ints (by simpa [Value.cells] using hf1)
  subst hn1
  obtain ⟨a2, rfl, rfl, rfl, w2⟩ := open_int Tryz.underlying49 (hval 2 49 v2 rfl rfl) h2
  clear hA0 hval0
  refine (chordalIsPerfect_walk a0 L0 cap0 a1 L1 cap1 a2 W hs0 hs1 ho1 hm1 hz1 (Go.bounds_u64 w2) (tab_of_laid hL)).mono fun e W' ⟨he, bel⟩ => ?_
  subst he
  exact ⟨_, rfl, _, _, _, [], _, [], hW', trodAll_mk1 (shut_bool Tryz.underlying4 _), (trodAll_cons_mk (Below.trod laidOut (by kernel_rfl) (of_decide_eq_true (by kernel_rfl)) k0 bel lt0) (trodAll_cons_mk (Below.trod laidOut (by kernel_rfl) (of_decide_eq_true (by kernel_rfl)) k1 bel lt1) (trodAll_cons_mk (shut_int Tryz.underlying49 w2) trodAll_mk0))), rfl, bel.frame _, fun h => by cases h⟩

theorem over : Rows.chordalIsPerfectRow.holds Tryz.pinned (OpenSpec.ofChange Rows.chordalIsPerfectSpec) :=
  OpenClaim.holds_of_wide 8 Tryz.f8 rfl rfl rfl rfl rfl rfl rfl ⟨rfl, rfl, rfl, rfl, rfl⟩ rfl rfl rfl rfl rfl (by kernel_rfl) Tryz.func8 (by kernel_rfl)
    (of_decide_eq_true (by kernel_rfl)) (by unfold Func.isWrapper; first | (rw [if_pos (by decide +kernel)]; kernel_rfl) | (rw [if_neg (by decide +kernel)]; exact ⟨rfl, rfl⟩))
    (fun os started H enc _ => lifted os started H enc)
end Go.Proofs.YtmfkkkhddigkfaaGreatDoor.chordalIsPerfectRow
namespace Go.Proofs.YtmfkkkhddigkfaaGreatDoor
open Go
/-- the given statement -/
theorem chordalIsPerfect_holds : Rows.ChordalIsPerfectCardSaid :=
  Claim7.holds_tied_plain_at .later [] [.data] true (true, "1596dd598ae18966c135c2eb214a5a15edddb6ae32de2291f299e988f1ed0cb5") false
    chordalIsPerfectRow.over (fun _ h => by cases h) (by kernel_rfl) (fun _ h => by cases h) chordalIsPerfect_row_tie rfl ⟨rfl, rfl⟩ (by kernel_rfl) rfl
    (fun f fn hf hfn => by
      obtain rfl : f = 8 := Option.some.inj ((show Tryz.prog.funcNamed "palmette/palmettelaw24.ChordalIsPerfect" = some 8 by kernel_rfl).symm.trans hf) |>.symm
      obtain rfl : fn = Tryz.f8 := (Option.some.inj (Tryz.func8.symm.trans hfn)).symm
      exact ⟨by kernel_rfl, fun j t ht => by
        rw [Tryz.params8] at ht
        have h3 : t = 22 ∨ t = 31 ∨ t = 49 := by
          rcases j with _ | _ | _ | j
          · simp at ht; simp [ht]
          · simp at ht; simp [ht]
          · simp at ht; simp [ht]
          · simp at ht
        rcases h3 with rfl | rfl | rfl
        · exact (show Tryz.prog.wantsStandIn 22 = false by kernel_rfl)
        · exact (show Tryz.prog.wantsStandIn 31 = false by kernel_rfl)
        · exact (show Tryz.prog.wantsStandIn 49 = false by kernel_rfl)⟩)
    (by kernel_rfl)
#print axioms chordalIsPerfect_holds
end Go.Proofs.YtmfkkkhddigkfaaGreatDoor
