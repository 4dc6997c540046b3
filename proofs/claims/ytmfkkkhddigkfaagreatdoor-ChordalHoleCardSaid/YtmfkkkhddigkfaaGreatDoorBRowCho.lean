/- Every input makes the law ChordalHole answer true, and each argument reads behind the call as it read before: the given card, tied to the program's text. No condition. -/
import Derived.Test.YtmfkkkhddigkfaaGreatDoorB21
import Derived.Test.YtmfkkkhddigkfaaGreatDoorB22
import Derived.Test.YtmfkkkhddigkfaaGreatDoorB20
import Derived.Test.YtmfkkkhddigkfaaGreatDoorCards
import Derived.Test.YtmfkkkhddigkfaaGreatDoorTie
import Derived.WalkKit
import Derived.ProofKit
import Derived.OpenShut
import Derived.ShutString
import Derived.ChangeOld
import Derived.Below
import Derived.SevenTiedAt
/- palmetteref24.hole, Hole. Conditions: see each theorem. -/
namespace Go.Proofs.YtmfkkkhddigkfaaGreatDoor
open Go Go.RowKit Go.Shelf
attribute [local go_sem] qUpon lUpon
attribute [local irreducible] wpO wpX wpQL

/-- a hole is answered, or none -/
def HoPost (w : World) (o : Option (List Int)) (e : Ending) (w' : World) : Prop := match o with
  | none => e = .returned (.slice none 0 0) ∧ Ext w w'
  | some l => ∃ b off c, e = .returned (.slice (some ⟨b, off, none⟩) l.length c) ∧ SlAt encI 1 w' (some ⟨b, off, none⟩) l ∧ Ext w w'
theorem HoPost.no {w w' : World} (h : Ext w w') : HoPost w none (.returned (.slice none 0 0)) w' := ⟨rfl, h⟩
theorem HoPost.yes {w w' : World} {l : List Int} {b off n c : Nat} (hn : n = l.length) (h : SlAt encI 1 w' (some ⟨b, off, none⟩) l) (hx : Ext w w') : HoPost w (some l) (.returned (.slice (some ⟨b, off, none⟩) n c)) w' := ⟨b, off, c, by rw [hn], h, hx⟩
/-- what the reference tries at one vertex -/
def holG (V : List (Int × Thing)) (E : List ((Int × Int) × Thing)) (n f : Nat) (way : List Int) (v : Int) : Option (List Int) := if v ≤ way[0]?.getD 0 ∨ ¬ hasE (way.getLastD 0) v E = true then none else if fitsR E n way v = true then holeQ V E n f (way ++ [v]) else none
theorem holeQ_step (V : List (Int × Thing)) (E : List ((Int × Int) × Thing)) (n f : Nat) (way : List Int) : holeQ V E n (f + 1) way = (V.map (·.1)).findSome? (holG V E n f way) := rfl
def fitsK (E : List ((Int × Int) × Thing)) (n : Nat) (way : List Int) (v : Int) (j : Nat) : Bool := (List.range j).all fun k => !(decide (way[k]?.getD 0 = v) || (hasE (way[k]?.getD 0) v E && !(decide (k = 0) && decide (way.length + 1 = n))))
theorem fitsK_zero (E : List ((Int × Int) × Thing)) (n : Nat) (way : List Int) (v : Int) : fitsK E n way v 0 = true := rfl
theorem fitsK_next (E : List ((Int × Int) × Thing)) (n : Nat) (way : List Int) (v : Int) (j : Nat) : fitsK E n way v (j + 1) = (fitsK E n way v j && !(decide (way[j]?.getD 0 = v) || (hasE (way[j]?.getD 0) v E && !(decide (j = 0) && decide (way.length + 1 = n))))) := by
  unfold fitsK
  rw [List.range_succ, List.all_append]
  simp
theorem fitsK_all (E : List ((Int × Int) × Thing)) (n : Nat) (way : List Int) (v : Int) : fitsR E n way v = fitsK E n way v (way.length - 1) := rfl

set_option maxRecDepth 100000 in
set_option maxHeartbeats 16000000 in
theorem holeR_any (A B : Option Addr) (V : List (Int × Thing)) (E : List ((Int × Int) × Thing)) (cA cB : Nat) (hl4 : V.length ≤ 4096 ∧ E.length ≤ 4096) (n : Nat) (hn5 : n ≤ 5000) : ∀ (f : Nat) (C : Option Addr) (L : List Int) (cL : Nat) (w : World), SlAt encV 3 w A V → SlAt encE 4 w B E → SlAt encI 1 w C L → 0 < L.length → L.length + f = n →
    Calls Tryz.prog 55 #[.agg #[.slice A V.length cA, .slice B E.length cB], .slice C L.length cL, .int .i64 n] w (HoPost w (holeQ V E n f L)) := by
  intro f
  induction f with
  | zero =>
    intro C L cL w hV hE hL h0 hf
    have hE' := hide hE
    have hL' := hide hL
    have hres : holeQ V E n 0 L = if hasE (L[0]?.getD 0) (L.getLastD 0) E = true then some L else none := rfl
    obtain ⟨b, off, rfl, hcc⟩ := atI hL (i := 0) h0
    obtain ⟨m, hm⟩ : ∃ m, m = L.length := ⟨_, rfl⟩
    obtain ⟨m1, hm1⟩ : ∃ m1, m1 + 1 = m := ⟨m - 1, by omega⟩
    have hmn : m = n := by omega
    have hwm : IntKind.i64.wrap ((m : Int) - 1) = (m1 : Int) := by rw [show (m : Int) - 1 = (m1 : Int) by omega]; exact IntWalk.i64_in _ (by omega)
    have hlt0 : 0 < m := by omega
    have hlt1 : m1 < m := by omega
    have hlt2 : (m1 : Int) < (m : Int) := by omega
    rw [last_get h0, first_get h0] at hres
    obtain ⟨x0, hx0⟩ : ∃ x0, x0 = L[0] := ⟨_, rfl⟩
    obtain ⟨x1, hx1⟩ : ∃ x1, x1 = L[L.length - 1] := ⟨_, rfl⟩
    rw [← hx0, ← hx1] at hres
    have c0 := slK (S := []) (unhide hL') (by simp) h0
    have c1 := slK (S := []) (unhide hL') (by simp) (show L.length - 1 < L.length by omega)
    rw [← hx0] at c0
    rw [← hx1, show L.length - 1 = m1 by omega] at c1
    obtain ⟨q, hq⟩ : ∃ q, q = hasE x0 x1 E := ⟨_, rfl⟩
    rw [← hq] at hres
    generalize holeQ V E n 0 L = res at *
    rw [← hm]
    have hres' := hide hres
    have hm' := hide hm
    have hq' := hide hq
    subst hmn
    have hf' := hide hf
    clear hV hE hL h0 hcc hm hx0 hx1 hq hres hf
    have hP := hide (Sp.new w)
    have hlo := hide (fun (W : World) (hW : Keep [] w W) => show W.cell? ⟨b, off, none⟩ = some (.int .i64 x0) from c0 W hW)
    have hla := hide (fun (W : World) (hW : Keep [] w W) => c1 W hW)
    clear c0 c1
    refine callsIn_wide.1 (callsIn_of_wp_marks (n := 0) Tryz.func55 rfl trivial (wpIn_wide.2 ?_))
    simp only [Tryz.ntmps55, List.size_toArray, List.length_cons, List.length_nil, Nat.reduceAdd, Nat.reduceSub, Array.replicate_succ, Array.replicate_zero, List.push_toArray, List.append_toArray, List.nil_append, List.cons_append]
    try dsimp only
    repeat ((fail_if_success (with_reducible refine wp_reg (id := 0) ?_)); (first | go_values | go_skip | go_step | go_guarded | go_upon | go_in | go_back | fail))
    with_reducible refine wp_reg (id := 0) ?_
    refine (unhide hP).allocO 28 #[.slice A V.length cA, .slice B E.length cB] rfl (run_box (v := .agg #[.slice A V.length cA, .slice B E.length cB]) rfl rfl) ?_
    intro r3 y1 hQ
    replace hP : Hid (Sp w [] w [] [(r3, 28, #[.slice A V.length cA, .slice B E.length cB])] [] y1) := hide hQ
    clear hQ
    refine wpO_want rfl ?_
    go_simp
    refine wpO_done ?_
    try go_frame
    go_wp2_with fail
    have c0 := fun (W : World) (hW : Keep [] y1 W) => unhide hlo W (((unhide hP).extf.keep []).trans hW)
    have c1 := fun (W : World) (hW : Keep [] y1 W) => unhide hla W (((unhide hP).extf.keep []).trans hW)
    have hself := Keep.refl [] y1
    refine wp_regionK (P := Tryz.prog) [] [0,1,2,3,4,5,6,7,8,9,10] [] 0 #[true,true,true,true,true,true,true,true,true,true,true] (by kernel_rfl) (by kernel_rfl) rfl (by rfl) ?_
    iterate 11
      refine ql_want (v := ?_) rfl (by rfl) (fun W hW => ?_) ?_
      rotate_left
      · go_simp
        first | done | rfl
      go_frame
    refine wpQL_nil (fun y2 hxq => ?_)
    replace hP : Hid (Sp w [] w [] [(r3, 28, #[.slice A V.length cA, .slice B E.length cB])] [] y2) := hide ((unhide hP).ext hxq)
    clear hxq
    refine wpX_done (by kernel_rfl) ?_
    try go_frame
    clear c0 c1 hself hlo hla
    try dsimp only
    repeat ((fail_if_success (with_reducible refine wp_reg (id := 2) ?_)); (first | go_values | go_skip | go_step | go_guarded | go_upon | go_in | go_back | fail))
    with_reducible refine wp_reg (id := 2) ?_
    iterate 4
      refine wpO_want rfl ?_
      go_simp
    refine wpO_done ?_
    try go_frame
    try dsimp only
    repeat ((fail_if_success (with_reducible refine wp_reg (id := 3) ?_)); (first | go_values | go_skip | go_step | go_guarded | go_upon | go_in | go_back | fail))
    with_reducible refine wp_reg (id := 3) ?_
    have q0 := (unhide hP).cell 0 0 (v := .slice A V.length cA) rfl rfl
    have q1 := (unhide hP).cell 0 1 (v := .slice B E.length cB) rfl rfl
    have hself := Ext.refl y2
    iterate 3
      refine wpO_want rfl ?_
      go_simp
    clear q0 q1 hself
    refine wpO_want rfl ?_
    go_simp
    have hca := joinedR_any A B V E cA cB x0 x1 y2 ((unhide hE').ext (unhide hP).extf) hl4.2
    rw [← unhide hq'] at hca
    refine hca.mono ?_
    rintro _ y3 ⟨rfl, hxc⟩
    refine ⟨_, rfl, ?_⟩
    replace hP : Hid (Sp w [] w [] [(r3, 28, #[.slice A V.length cA, .slice B E.length cB])] [] y3) := hide ((unhide hP).ext hxc)
    clear hxc hca
    refine wpO_done ?_
    try go_frame
    cases q
    · skip
      go_wp2_with fail
      refine Sp.leaves0 ?_
      refine ⟨_, results_tmp rfl _ _ _, ?_⟩
      rw [unhide hres']
      first | rw [if_neg (by simp)] | skip
      exact HoPost.no (unhide hP).extf
    · skip
      go_wp2_with fail
      refine Sp.leaves0 ?_
      refine ⟨_, results_tmp rfl _ _ _, ?_⟩
      rw [unhide hres']
      first | rw [if_pos rfl] | rw [if_pos trivial]
      exact HoPost.yes (unhide hm') ((unhide hL').ext (unhide hP).extf) (unhide hP).extf
  | succ f ih =>
    intro C L cL w hV hE hL h0 hf
    have hV' := hide hV
    have hE' := hide hE
    have hL' := hide hL
    have hih := hide ih
    have hres : holeQ V E n (f + 1) L = (V.map (·.1)).findSome? (holG V E n f L) := rfl
    obtain ⟨b, off, rfl, hcc⟩ := atI hL (i := 0) h0
    obtain ⟨m, hm⟩ : ∃ m, m = L.length := ⟨_, rfl⟩
    obtain ⟨m1, hm1⟩ : ∃ m1, m1 + 1 = m := ⟨m - 1, by omega⟩
    obtain ⟨n1, hn1⟩ : ∃ n1, n1 + 1 = n := ⟨n - 1, by omega⟩
    have hmn : ¬ (m : Int) = (n : Int) := by omega
    have hwm : IntKind.i64.wrap ((m : Int) - 1) = (m1 : Int) := by rw [show (m : Int) - 1 = (m1 : Int) by omega]; exact IntWalk.i64_in _ (by omega)
    have hwn : IntKind.i64.wrap ((n : Int) - 1) = (n1 : Int) := by rw [show (n : Int) - 1 = (n1 : Int) by omega]; exact IntWalk.i64_in _ (by omega)
    have hlt0 : 0 < m := by omega
    have hlt1 : m1 < m := by omega
    have hlt2 : (m1 : Int) < (m : Int) := by omega
    obtain ⟨x0, hx0⟩ : ∃ x0, x0 = L[0]?.getD 0 := ⟨_, rfl⟩
    obtain ⟨x1, hx1⟩ : ∃ x1, x1 = L.getLastD 0 := ⟨_, rfl⟩
    have hG : ∀ v, holG V E n f L v = if v ≤ x0 ∨ ¬ hasE x1 v E = true then none else if fitsK E n L v m1 = true then holeQ V E n f (L ++ [v]) else none := fun v => by
      unfold holG
      rw [← hx0, ← hx1, fitsK_all, show L.length - 1 = m1 by omega]
    have hG' := hide hG
    have c0 := slK (S := []) (unhide hL') (by simp) h0
    have c1 := slK (S := []) (unhide hL') (by simp) (show L.length - 1 < L.length by omega)
    rw [← first_get h0, ← hx0] at c0
    rw [← last_get h0, ← hx1, show L.length - 1 = m1 by omega] at c1
    generalize holeQ V E n (f + 1) L = res at *
    obtain ⟨ids, hids⟩ : ∃ ids, ids = V.map (·.1) := ⟨_, rfl⟩
    have hidl := hide (show ids.length ≤ 4096 by rw [hids, List.length_map]; exact hl4.1)
    rw [← hids] at hres
    rw [← hm]
    have hres' := hide hres
    have hids' := hide hids
    have hm' := hide hm
    have hf' := hide (show m + (f + 1) = n by omega)
    have hm1' := hide hm1
    have hn1' := hide hn1
    clear hV hE hL h0 hcc hm hx0 hx1 hG hres hf hids ih hm1 hn1
    have hP := hide (Sp.new w)
    have hlo := hide (fun (W : World) (hW : Keep [] w W) => show W.cell? ⟨b, off, none⟩ = some (.int .i64 x0) from c0 W hW)
    have hla := hide (fun (W : World) (hW : Keep [] w W) => c1 W hW)
    clear c0 c1
    refine callsIn_wide.1 (callsIn_of_wp_marks (n := 0) Tryz.func55 rfl trivial (wpIn_wide.2 ?_))
    simp only [Tryz.ntmps55, List.size_toArray, List.length_cons, List.length_nil, Nat.reduceAdd, Nat.reduceSub, Array.replicate_succ, Array.replicate_zero, List.push_toArray, List.append_toArray, List.nil_append, List.cons_append]
    try dsimp only
    repeat ((fail_if_success (with_reducible refine wp_reg (id := 0) ?_)); (first | go_values | go_skip | go_step | go_guarded | go_upon | go_in | go_back | fail))
    with_reducible refine wp_reg (id := 0) ?_
    refine (unhide hP).allocO 28 #[.slice A V.length cA, .slice B E.length cB] rfl (run_box (v := .agg #[.slice A V.length cA, .slice B E.length cB]) rfl rfl) ?_
    intro r3 y1 hQ
    replace hP : Hid (Sp w [] w [] [(r3, 28, #[.slice A V.length cA, .slice B E.length cB])] [] y1) := hide hQ
    clear hQ
    refine wpO_want rfl ?_
    go_simp
    refine wpO_done ?_
    try go_frame
    go_wp2_with fail
    have c0 := fun (W : World) (hW : Keep [] y1 W) => unhide hlo W (((unhide hP).extf.keep []).trans hW)
    have c1 := fun (W : World) (hW : Keep [] y1 W) => unhide hla W (((unhide hP).extf.keep []).trans hW)
    have hself := Keep.refl [] y1
    refine wp_regionK (P := Tryz.prog) [] [0,1,2,3,4,5,6,7,8,9,10] [] 0 #[true,true,true,true,true,true,true,true,true,true,true] (by kernel_rfl) (by kernel_rfl) rfl (by rfl) ?_
    iterate 11
      refine ql_want (v := ?_) rfl (by rfl) (fun W hW => ?_) ?_
      rotate_left
      · go_simp
        first | done | rfl
      go_frame
    refine wpQL_nil (fun y2 hxq => ?_)
    replace hP : Hid (Sp w [] w [] [(r3, 28, #[.slice A V.length cA, .slice B E.length cB])] [] y2) := hide ((unhide hP).ext hxq)
    clear hxq
    refine wpX_done (by kernel_rfl) ?_
    try go_frame
    clear c0 c1 hself hlo hla
    try dsimp only
    repeat ((fail_if_success (with_reducible refine wp_reg (id := 2) ?_)); (first | go_values | go_skip | go_step | go_guarded | go_upon | go_in | go_back | fail))
    with_reducible refine wp_reg (id := 2) ?_
    iterate 4
      refine wpO_want rfl ?_
      go_simp
    refine wpO_done ?_
    try go_frame
    try dsimp only
    repeat ((fail_if_success (with_reducible refine wp_reg (id := 6) ?_)); (first | go_values | go_skip | go_step | go_guarded | go_upon | go_in | go_back | fail))
    with_reducible refine wp_reg (id := 6) ?_
    have q0 := (unhide hP).cell 0 0 (v := .slice A V.length cA) rfl rfl
    have q1 := (unhide hP).cell 0 1 (v := .slice B E.length cB) rfl rfl
    have hself := Ext.refl y2
    refine wpO_want rfl ?_
    go_simp
    clear q0 q1 hself
    refine wpO_want rfl ?_
    go_simp
    have hca := ids_any A B V E cA cB y2 ((unhide hV').ext (unhide hP).extf) hl4.1
    rw [← unhide hids'] at hca
    refine (hca).mono ?_
    rintro _ y3 ⟨A2, c2, rfl, ho, hxc⟩
    obtain ⟨p, hp⟩ : ∃ p, p = ids.length := ⟨_, rfl⟩
    rw [← hp] at ho ⊢
    have hp' := hide hp
    clear hca hp
    refine ⟨_, rfl, ?_⟩
    replace hP : Hid (Sp w [] w [] [(r3, 28, #[.slice A V.length cA, .slice B E.length cB])] [(3, 1, .slice A2 p c2, p, ids.flatMap encI)] y3) := hide ((unhide hP).addRow hxc ho)
    clear hxc ho
    refine wpO_want rfl ?_
    go_simp
    refine wpO_done ?_
    try go_frame
    try dsimp only
    repeat ((fail_if_success (with_reducible refine wp_reg (id := 7) ?_)); (first | go_values | go_skip | go_step | go_guarded | go_upon | go_in | go_back | fail))
    with_reducible refine wp_reg (id := 7) ?_
    refine wpO_want rfl ?_
    go_simp
    refine wpO_done ?_
    try go_frame
    go_wp2_with fail
    refine wp_loop_ix (fun fi a' wr => ∃ (k : Nat), a'.tmps.size = 103 ∧ a'.tmps.getD 1 undef = .slice (some ⟨b, off, none⟩) m cL ∧ a'.tmps.getD 2 undef = .int .i64 (n : Nat) ∧ a'.tmps.getD 3 undef = .pointer (some ⟨r3, 0, none⟩) ∧ a'.tmps.getD 7 undef = .int .i64 x0 ∧ a'.tmps.getD 8 undef = .int .i64 x1 ∧ a'.tmps.getD 9 undef = .slice A2 p c2 ∧ a'.tmps.getD 10 undef = .int .i64 (k : Nat) ∧ a'.defers = [] ∧ k ≤ p ∧ res = (ids.drop k).findSome? (holG V E n f L) ∧ Sp w [] w [] [(r3, 28, #[.slice A V.length cA, .slice B E.length cB])] [(3, 1, .slice A2 p c2, p, ids.flatMap encI)] wr ∧ fi = p - k) (p - 0) ?_ ?_
    · exact ⟨0, rfl, rfl, rfl, rfl, rfl, rfl, rfl, rfl, rfl, Nat.zero_le _, unhide hres', unhide hP, rfl⟩
    · rintro fi ⟨tm, dfs⟩ wr ⟨k, hsz, e1, e2, e3, e7, e8, e9, e10, hdf, hk, hrk, hPr, hfm⟩
      obtain ⟨us, rfl⟩ : ∃ us : Nat → Value, tm = #[us 0, us 1, us 2, us 3, us 4, us 5, us 6, us 7, us 8, us 9, us 10, us 11, us 12, us 13, us 14, us 15, us 16, us 17, us 18, us 19, us 20, us 21, us 22, us 23, us 24, us 25, us 26, us 27, us 28, us 29, us 30, us 31, us 32, us 33, us 34, us 35, us 36, us 37, us 38, us 39, us 40, us 41, us 42, us 43, us 44, us 45, us 46, us 47, us 48, us 49, us 50, us 51, us 52, us 53, us 54, us 55, us 56, us 57, us 58, us 59, us 60, us 61, us 62, us 63, us 64, us 65, us 66, us 67, us 68, us 69, us 70, us 71, us 72, us 73, us 74, us 75, us 76, us 77, us 78, us 79, us 80, us 81, us 82, us 83, us 84, us 85, us 86, us 87, us 88, us 89, us 90, us 91, us 92, us 93, us 94, us 95, us 96, us 97, us 98, us 99, us 100, us 101, us 102] := ⟨fun i => tm.getD i undef, arr_fn hsz⟩
      have h1 : us 1 = .slice (some ⟨b, off, none⟩) m cL := e1
      have h2 : us 2 = .int .i64 (n : Nat) := e2
      have h3 : us 3 = .pointer (some ⟨r3, 0, none⟩) := e3
      have h7 : us 7 = .int .i64 x0 := e7
      have h8 : us 8 = .int .i64 x1 := e8
      have h9 : us 9 = .slice A2 p c2 := e9
      have h10 : us 10 = .int .i64 (k : Nat) := e10
      have hdf2 : dfs = [] := hdf
      subst hdf2
      clear hdf hsz e1 e2 e3 e7 e8 e9 e10
      simp only [h1, h2, h3, h7, h8, h9, h10]
      clear h1 h2 h3 h7 h8 h9 h10
      clear hP hres'
      have hP := hide hPr
      have hrk' := hide hrk
      have hfm' := hide hfm
      clear hPr hrk hfm
      by_cases hlt : k < p
      · have hkI : k < ids.length := by have := unhide hp'; omega
        have hkp := hide hlt
        obtain ⟨v, hv⟩ : ∃ v, v = ids[k] := ⟨_, rfl⟩
        have hstep := hide (drop_find hkI (holG V E n f L))
        rw [← unhide hrk', ← hv] at hstep
        obtain ⟨bi, oi, rfl, cc⟩ := cellI (own_at (enc := encI) (by have h := (unhide hP).row 0 rfl; rw [unhide hp'] at h; exact h) (fun _ => rfl)) hkI
        rw [← hv] at cc
        have hkl : (k : Int) ≤ 4096 := by have := unhide hidl; have := unhide hp'; omega
        have hself := Ext.refl wr
        clear hrk' hv
        try dsimp only
        repeat ((fail_if_success (with_reducible refine wp_reg (id := 10) ?_)); (first | go_values | go_skip | go_step | go_guarded | go_upon | go_in | go_back | fail))
        with_reducible refine wp_reg (id := 10) ?_
        iterate 5
          refine wpO_want rfl ?_
          go_simp
        refine wpO_done ?_
        try go_frame
        clear cc hself
        obtain ⟨q, hq⟩ : ∃ q, q = hasE x1 v E := ⟨_, rfl⟩
        have hq' := hide hq
        clear hq
        by_cases hvx : v ≤ x0
        · skip
          try dsimp only
          repeat ((fail_if_success (with_reducible refine wp_reg (id := 11) ?_)); (first | go_values | go_skip | go_step | go_guarded | go_upon | go_in | go_back | fail))
          with_reducible refine wp_reg (id := 11) ?_
          iterate 4
            refine wpO_want rfl ?_
            go_simp
          iterate 5
            refine wpO_out (by rfl) ?_
            go_frame
          refine wpO_want rfl ?_
          go_simp
          refine wpO_done ?_
          try go_frame
          have hnew := hide (show res = (ids.drop (k + 1)).findSome? (holG V E n f L) by rw [unhide hstep, unhide hG', if_pos (.inl hvx)])
          go_wp2_with fail
          have h1 := unhide hkp
          first
          | exact ⟨p - (k + 1), ⟨k + 1, (by first | rfl | trivial), (by first | rfl | trivial), (by first | rfl | trivial), (by first | rfl | trivial), (by first | rfl | trivial), (by first | rfl | trivial), (by first | rfl | trivial), (by first | rfl | (show _ = Value.int _ _; go_num) | go_num), (by first | rfl | trivial), by omega, unhide hnew, unhide hP, rfl⟩, by have := unhide hfm'; omega⟩
          | exact ⟨p - (k + 1), ⟨k + 1, (by first | omega | go_num), by omega, unhide hnew, unhide hP, rfl⟩, by have := unhide hfm'; omega⟩
        · skip
          try dsimp only
          repeat ((fail_if_success (with_reducible refine wp_reg (id := 11) ?_)); (first | go_values | go_skip | go_step | go_guarded | go_upon | go_in | go_back | fail))
          with_reducible refine wp_reg (id := 11) ?_
          iterate 4
            refine wpO_want rfl ?_
            go_simp
          have q0 := (unhide hP).cell 0 0 (v := .slice A V.length cA) rfl rfl
          have q1 := (unhide hP).cell 0 1 (v := .slice B E.length cB) rfl rfl
          have hself := Ext.refl wr
          iterate 3
            refine wpO_want rfl ?_
            go_simp
          clear q0 q1 hself
          refine wpO_want rfl ?_
          go_simp
          have hca := joinedR_any A B V E cA cB x1 v wr ((unhide hE').ext (unhide hP).extf) hl4.2
          rw [← unhide hq'] at hca
          refine (hca).mono ?_
          rintro _ y4 ⟨rfl, hxc⟩
          clear hca
          refine ⟨_, rfl, ?_⟩
          replace hP : Hid (Sp w [] w [] [(r3, 28, #[.slice A V.length cA, .slice B E.length cB])] [(3, 1, .slice (some ⟨bi, oi, none⟩) p c2, p, ids.flatMap encI)] y4) := hide ((unhide hP).ext hxc)
          clear hxc
          iterate 2
            refine wpO_want rfl ?_
            go_simp
          refine wpO_done ?_
          try go_frame
          replace hvx := hide hvx
          cases q
          · skip
            have hnew := hide (show res = (ids.drop (k + 1)).findSome? (holG V E n f L) by rw [unhide hstep, unhide hG', if_pos (.inr (by rw [← unhide hq']; simp))])
            go_wp2_with fail
            have h1 := unhide hkp
            first
            | exact ⟨p - (k + 1), ⟨k + 1, (by first | rfl | trivial), (by first | rfl | trivial), (by first | rfl | trivial), (by first | rfl | trivial), (by first | rfl | trivial), (by first | rfl | trivial), (by first | rfl | trivial), (by first | rfl | (show _ = Value.int _ _; go_num) | go_num), (by first | rfl | trivial), by omega, unhide hnew, unhide hP, rfl⟩, by have := unhide hfm'; omega⟩
            | exact ⟨p - (k + 1), ⟨k + 1, (by first | omega | go_num), by omega, unhide hnew, unhide hP, rfl⟩, by have := unhide hfm'; omega⟩
          · skip
            have hG2 := hide (show holG V E n f L v = if fitsK E n L v m1 = true then holeQ V E n f (L ++ [v]) else none by rw [unhide hG', if_neg (fun h => h.elim (unhide hvx) (fun h => h (unhide hq').symm))])
            try dsimp only
            repeat ((fail_if_success (with_reducible refine wp_reg (id := 12) ?_)); (first | go_values | go_skip | go_step | go_guarded | go_upon | go_in | go_back | fail))
            with_reducible refine wp_reg (id := 12) ?_
            refine wpO_want rfl ?_
            go_simp
            refine wpO_done ?_
            try go_frame
            try dsimp only
            repeat ((fail_if_success (with_reducible refine wp_reg (id := 13) ?_)); (first | go_values | go_skip | go_step | go_guarded | go_upon | go_in | go_back | fail))
            with_reducible refine wp_reg (id := 13) ?_
            refine wpO_want rfl ?_
            go_simp
            refine wpO_done ?_
            try go_frame
            go_wp2_with fail
            refine wp_loop_ix (fun fi a' wr => ∃ (j : Nat), ∃ (fb : Bool), a'.tmps.size = 103 ∧ a'.tmps.getD 1 undef = .slice (some ⟨b, off, none⟩) m cL ∧ a'.tmps.getD 2 undef = .int .i64 (n : Nat) ∧ a'.tmps.getD 3 undef = .pointer (some ⟨r3, 0, none⟩) ∧ a'.tmps.getD 7 undef = .int .i64 x0 ∧ a'.tmps.getD 8 undef = .int .i64 x1 ∧ a'.tmps.getD 9 undef = .slice (some ⟨bi, oi, none⟩) p c2 ∧ a'.tmps.getD 10 undef = .int .i64 (k : Nat) ∧ a'.tmps.getD 11 undef = .int .i64 v ∧ a'.tmps.getD 12 undef = .bool fb ∧ a'.tmps.getD 13 undef = .int .i64 (j : Nat) ∧ a'.defers = [] ∧ j ≤ m1 ∧ fb = fitsK E n L v j ∧ Sp w [] w [] [(r3, 28, #[.slice A V.length cA, .slice B E.length cB])] [(3, 1, .slice (some ⟨bi, oi, none⟩) p c2, p, ids.flatMap encI)] wr ∧ fi = m1 - j) (m1 - 0) ?_ ?_
            · exact ⟨0, true, rfl, rfl, rfl, rfl, rfl, rfl, rfl, rfl, rfl, rfl, rfl, rfl, Nat.zero_le _, (fitsK_zero E n L v).symm, unhide hP, rfl⟩
            · rintro fi ⟨tm, dfs⟩ wr ⟨j, fb, hsz, e1, e2, e3, e7, e8, e9, e10, e11, e12, e13, hdf, hj, hfb, hPr, hfj⟩
              obtain ⟨us, rfl⟩ : ∃ us : Nat → Value, tm = #[us 0, us 1, us 2, us 3, us 4, us 5, us 6, us 7, us 8, us 9, us 10, us 11, us 12, us 13, us 14, us 15, us 16, us 17, us 18, us 19, us 20, us 21, us 22, us 23, us 24, us 25, us 26, us 27, us 28, us 29, us 30, us 31, us 32, us 33, us 34, us 35, us 36, us 37, us 38, us 39, us 40, us 41, us 42, us 43, us 44, us 45, us 46, us 47, us 48, us 49, us 50, us 51, us 52, us 53, us 54, us 55, us 56, us 57, us 58, us 59, us 60, us 61, us 62, us 63, us 64, us 65, us 66, us 67, us 68, us 69, us 70, us 71, us 72, us 73, us 74, us 75, us 76, us 77, us 78, us 79, us 80, us 81, us 82, us 83, us 84, us 85, us 86, us 87, us 88, us 89, us 90, us 91, us 92, us 93, us 94, us 95, us 96, us 97, us 98, us 99, us 100, us 101, us 102] := ⟨fun i => tm.getD i undef, arr_fn hsz⟩
              have h1 : us 1 = .slice (some ⟨b, off, none⟩) m cL := e1
              have h2 : us 2 = .int .i64 (n : Nat) := e2
              have h3 : us 3 = .pointer (some ⟨r3, 0, none⟩) := e3
              have h7 : us 7 = .int .i64 x0 := e7
              have h8 : us 8 = .int .i64 x1 := e8
              have h9 : us 9 = .slice (some ⟨bi, oi, none⟩) p c2 := e9
              have h10 : us 10 = .int .i64 (k : Nat) := e10
              have h11 : us 11 = .int .i64 v := e11
              have h12 : us 12 = .bool fb := e12
              have h13 : us 13 = .int .i64 (j : Nat) := e13
              have hdf2 : dfs = [] := hdf
              subst hdf2
              clear hdf hsz e1 e2 e3 e7 e8 e9 e10 e11 e12 e13
              simp only [h1, h2, h3, h7, h8, h9, h10, h11, h12, h13]
              clear h1 h2 h3 h7 h8 h9 h10 h11 h12 h13
              clear hP
              have hP := hide hPr
              have hfb' := hide hfb
              have hfj' := hide hfj
              clear hPr hfb hfj
              by_cases hjm : j < m1
              · have hjL : j < L.length := by have := unhide hm'; have := unhide hm1'; omega
                have hjm' := hide hjm
                have hjl : (j : Int) < (m1 : Int) := by omega
                obtain ⟨x, hx⟩ : ∃ x, x = L[j]?.getD 0 := ⟨_, rfl⟩
                have hnx := hide (fitsK_next E n L v j)
                rw [← hx, ← unhide hfb'] at hnx
                obtain ⟨qe, hqe⟩ : ∃ qe, qe = hasE x v E := ⟨_, rfl⟩
                rw [← hqe] at hnx
                have hqe' := hide hqe
                have hx' := hide (show L[j] = x by rw [hx, List.getElem?_eq_getElem hjL]; rfl)
                have hjb : (j : Int) ≤ 5000 := by have := unhide hm'; have := unhide hf'; have := unhide hm1'; omega
                have hjm2 : j < m := by have := unhide hm1'; omega
                clear hx hqe hfb'
                try dsimp only
                repeat ((fail_if_success (with_reducible refine wp_reg (id := 14) ?_)); (first | go_values | go_skip | go_step | go_guarded | go_upon | go_in | go_back | fail))
                with_reducible refine wp_reg (id := 14) ?_
                iterate 5
                  refine wpO_want rfl ?_
                  go_simp
                refine wpO_done ?_
                try go_frame
                go_wp2_with fail
                by_cases hxv : x = v
                · have hxb : (x == v) = true := by simp [hxv]
                  have c0 := slK (S := []) ((unhide hL').ext (unhide hP).extf) (by simp) hjL
                  rw [unhide hx'] at c0
                  have q0 := (unhide hP).cellK (S := []) 0 0 (v := .slice A V.length cA) rfl rfl (by simp)
                  have q1 := (unhide hP).cellK (S := []) 0 1 (v := .slice B E.length cB) rfl rfl (by simp)
                  have hself := Keep.refl [] wr
                  refine wp_regionK (P := Tryz.prog) [] [0,1,2,3,4,5,6,7,8,9,10,11,12,13,14,15,16,17,18,19,20,21,22,23,24,25,26] [] 0 #[true,true,true,true,true,true,true,true,true,true,true,true,true,true,true,true,true,true,true,true,true,true,true,true,true,true,true] (by kernel_rfl) (by kernel_rfl) rfl (by rfl) ?_
                  iterate 27
                    first
                    | (refine ql_skip rfl (by rfl) ?_)
                    | (refine ql_want (v := ?_) rfl (by rfl) (fun W hW => ?_) ?_; rotate_left; (go_simp; (first | done | rfl)))
                    try go_frame
                  refine wpQL_nil (fun y5 hxq => ?_)
                  replace hP : Hid (Sp w [] w [] [(r3, 28, #[.slice A V.length cA, .slice B E.length cB])] [(3, 1, .slice (some ⟨bi, oi, none⟩) p c2, p, ids.flatMap encI)] y5) := hide ((unhide hP).ext hxq)
                  clear hxq
                  refine wpX_done (by kernel_rfl) ?_
                  try go_frame
                  clear c0 q0 q1 hself
                  have hnxf := hide (show false = fitsK E n L v (j + 1) by rw [unhide hnx]; simp [hxv])
                  clear hnx
                  go_wp2_with fail
                  have h1 := unhide hjm'
                  first
                  | exact ⟨m1 - (j + 1), ⟨j + 1, false, (by first | rfl | trivial), (by first | rfl | trivial), (by first | rfl | trivial), (by first | rfl | trivial), (by first | rfl | trivial), (by first | rfl | trivial), (by first | rfl | trivial), (by first | rfl | (show _ = Value.int _ _; go_num) | go_num), (by first | rfl | trivial), (by first | rfl | trivial), (by first | rfl | (show _ = Value.int _ _; go_num) | go_num), (by first | rfl | trivial), by omega, unhide hnxf, unhide hP, rfl⟩, by have := unhide hfj'; omega⟩
                  | exact ⟨m1 - (j + 1), ⟨j + 1, false, (by first | omega | go_num), by omega, unhide hnxf, unhide hP, rfl⟩, by have := unhide hfj'; omega⟩
                · have hxb : (x == v) = false := by simp [hxv]
                  cases qe
                  · skip
                    have c0 := slK (S := []) ((unhide hL').ext (unhide hP).extf) (by simp) hjL
                    rw [unhide hx'] at c0
                    have q0 := (unhide hP).cellK (S := []) 0 0 (v := .slice A V.length cA) rfl rfl (by simp)
                    have q1 := (unhide hP).cellK (S := []) 0 1 (v := .slice B E.length cB) rfl rfl (by simp)
                    have hself := Keep.refl [] wr
                    refine wp_regionK (P := Tryz.prog) [] [0,1,2,3,4,5,6,7,8,9,10,11,12,13,14,15,16,17,18,19,20,21,22,23,24,25,26] [] 0 #[true,true,true,true,true,true,true,true,true,true,true,true,true,true,true,true,true,true,true,true,true,true,true,true,true,true,true] (by kernel_rfl) (by kernel_rfl) rfl (by rfl) ?_
                    iterate 13
                      first
                      | (refine ql_skip rfl (by rfl) ?_)
                      | (refine ql_want (v := ?_) rfl (by rfl) (fun W hW => ?_) ?_; rotate_left; (go_simp; (first | done | rfl)))
                      try go_frame
                    refine ql_want (v := .bool false) rfl (by rfl) (fun W hW => ?_) ?_
                    · go_simp
                      refine (joinedR_any A B V E cA cB x v W ((unhide hE').ext ((unhide hP).extf.trans ((Ext.refl _).of_new hW (by simp)))) hl4.2).mono ?_
                      rw [← unhide hqe']
                      rintro _ _ ⟨h1, h2⟩
                      exact ⟨_, h1, rfl, h2⟩
                    go_frame
                    skip
                    iterate 13
                      first
                      | (refine ql_skip rfl (by rfl) ?_)
                      | (refine ql_want (v := ?_) rfl (by rfl) (fun W hW => ?_) ?_; rotate_left; (go_simp; (first | done | rfl)))
                      try go_frame
                    refine wpQL_nil (fun y5 hxq => ?_)
                    replace hP : Hid (Sp w [] w [] [(r3, 28, #[.slice A V.length cA, .slice B E.length cB])] [(3, 1, .slice (some ⟨bi, oi, none⟩) p c2, p, ids.flatMap encI)] y5) := hide ((unhide hP).ext hxq)
                    clear hxq
                    refine wpX_done (by kernel_rfl) ?_
                    try go_frame
                    clear c0 q0 q1 hself
                    have hnxf := hide (show fb = fitsK E n L v (j + 1) by rw [unhide hnx]; simp [hxv])
                    clear hnx
                    go_wp2_with fail
                    have h1 := unhide hjm'
                    first
                    | exact ⟨m1 - (j + 1), ⟨j + 1, fb, (by first | rfl | trivial), (by first | rfl | trivial), (by first | rfl | trivial), (by first | rfl | trivial), (by first | rfl | trivial), (by first | rfl | trivial), (by first | rfl | trivial), (by first | rfl | (show _ = Value.int _ _; go_num) | go_num), (by first | rfl | trivial), (by first | rfl | trivial), (by first | rfl | (show _ = Value.int _ _; go_num) | go_num), (by first | rfl | trivial), by omega, unhide hnxf, unhide hP, rfl⟩, by have := unhide hfj'; omega⟩
                    | exact ⟨m1 - (j + 1), ⟨j + 1, fb, (by first | omega | go_num), by omega, unhide hnxf, unhide hP, rfl⟩, by have := unhide hfj'; omega⟩
                  · by_cases hj0 : j = 0
                    · have hjb : ((j : Int) == 0) = true := by simp [hj0]
                      replace hj0 := hide hj0
                      by_cases hmn1 : m = n1
                      · have hmb : ((m : Int) == (n1 : Int)) = true := by simp [hmn1]
                        replace hmn1 := hide hmn1
                        have c0 := slK (S := []) ((unhide hL').ext (unhide hP).extf) (by simp) hjL
                        rw [unhide hx'] at c0
                        have q0 := (unhide hP).cellK (S := []) 0 0 (v := .slice A V.length cA) rfl rfl (by simp)
                        have q1 := (unhide hP).cellK (S := []) 0 1 (v := .slice B E.length cB) rfl rfl (by simp)
                        have hself := Keep.refl [] wr
                        refine wp_regionK (P := Tryz.prog) [] [0,1,2,3,4,5,6,7,8,9,10,11,12,13,14,15,16,17,18,19,20,21,22,23,24,25,26] [] 0 #[true,true,true,true,true,true,true,true,true,true,true,true,true,true,true,true,true,true,true,true,true,true,true,true,true,true,true] (by kernel_rfl) (by kernel_rfl) rfl (by rfl) ?_
                        iterate 13
                          first
                          | (refine ql_skip rfl (by rfl) ?_)
                          | (refine ql_want (v := ?_) rfl (by rfl) (fun W hW => ?_) ?_; rotate_left; (go_simp; (first | done | rfl)))
                          try go_frame
                        refine ql_want (v := .bool true) rfl (by rfl) (fun W hW => ?_) ?_
                        · go_simp
                          refine (joinedR_any A B V E cA cB x v W ((unhide hE').ext ((unhide hP).extf.trans ((Ext.refl _).of_new hW (by simp)))) hl4.2).mono ?_
                          rw [← unhide hqe']
                          rintro _ _ ⟨h1, h2⟩
                          exact ⟨_, h1, rfl, h2⟩
                        go_frame
                        skip
                        iterate 13
                          first
                          | (refine ql_skip rfl (by rfl) ?_)
                          | (refine ql_want (v := ?_) rfl (by rfl) (fun W hW => ?_) ?_; rotate_left; (go_simp; (first | done | rfl)))
                          try go_frame
                        refine wpQL_nil (fun y5 hxq => ?_)
                        replace hP : Hid (Sp w [] w [] [(r3, 28, #[.slice A V.length cA, .slice B E.length cB])] [(3, 1, .slice (some ⟨bi, oi, none⟩) p c2, p, ids.flatMap encI)] y5) := hide ((unhide hP).ext hxq)
                        clear hxq
                        refine wpX_done (by kernel_rfl) ?_
                        try go_frame
                        clear c0 q0 q1 hself
                        have hnxf := hide (show fb = fitsK E n L v (j + 1) by rw [unhide hnx]; simp [hxv, unhide hj0, show L.length + 1 = n by have := unhide hm'; have := unhide hn1'; have := unhide hmn1; omega])
                        clear hnx
                        go_wp2_with fail
                        have h1 := unhide hjm'
                        first
                        | exact ⟨m1 - (j + 1), ⟨j + 1, fb, (by first | rfl | trivial), (by first | rfl | trivial), (by first | rfl | trivial), (by first | rfl | trivial), (by first | rfl | trivial), (by first | rfl | trivial), (by first | rfl | trivial), (by first | rfl | (show _ = Value.int _ _; go_num) | go_num), (by first | rfl | trivial), (by first | rfl | trivial), (by first | rfl | (show _ = Value.int _ _; go_num) | go_num), (by first | rfl | trivial), by omega, unhide hnxf, unhide hP, rfl⟩, by have := unhide hfj'; omega⟩
                        | exact ⟨m1 - (j + 1), ⟨j + 1, fb, (by first | omega | go_num), by omega, unhide hnxf, unhide hP, rfl⟩, by have := unhide hfj'; omega⟩
                      · have hmb : ((m : Int) == (n1 : Int)) = false := by simp; omega
                        replace hmn1 := hide hmn1
                        have c0 := slK (S := []) ((unhide hL').ext (unhide hP).extf) (by simp) hjL
                        rw [unhide hx'] at c0
                        have q0 := (unhide hP).cellK (S := []) 0 0 (v := .slice A V.length cA) rfl rfl (by simp)
                        have q1 := (unhide hP).cellK (S := []) 0 1 (v := .slice B E.length cB) rfl rfl (by simp)
                        have hself := Keep.refl [] wr
                        refine wp_regionK (P := Tryz.prog) [] [0,1,2,3,4,5,6,7,8,9,10,11,12,13,14,15,16,17,18,19,20,21,22,23,24,25,26] [] 0 #[true,true,true,true,true,true,true,true,true,true,true,true,true,true,true,true,true,true,true,true,true,true,true,true,true,true,true] (by kernel_rfl) (by kernel_rfl) rfl (by rfl) ?_
                        iterate 13
                          first
                          | (refine ql_skip rfl (by rfl) ?_)
                          | (refine ql_want (v := ?_) rfl (by rfl) (fun W hW => ?_) ?_; rotate_left; (go_simp; (first | done | rfl)))
                          try go_frame
                        refine ql_want (v := .bool true) rfl (by rfl) (fun W hW => ?_) ?_
                        · go_simp
                          refine (joinedR_any A B V E cA cB x v W ((unhide hE').ext ((unhide hP).extf.trans ((Ext.refl _).of_new hW (by simp)))) hl4.2).mono ?_
                          rw [← unhide hqe']
                          rintro _ _ ⟨h1, h2⟩
                          exact ⟨_, h1, rfl, h2⟩
                        go_frame
                        skip
                        iterate 13
                          first
                          | (refine ql_skip rfl (by rfl) ?_)
                          | (refine ql_want (v := ?_) rfl (by rfl) (fun W hW => ?_) ?_; rotate_left; (go_simp; (first | done | rfl)))
                          try go_frame
                        refine wpQL_nil (fun y5 hxq => ?_)
                        replace hP : Hid (Sp w [] w [] [(r3, 28, #[.slice A V.length cA, .slice B E.length cB])] [(3, 1, .slice (some ⟨bi, oi, none⟩) p c2, p, ids.flatMap encI)] y5) := hide ((unhide hP).ext hxq)
                        clear hxq
                        refine wpX_done (by kernel_rfl) ?_
                        try go_frame
                        clear c0 q0 q1 hself
                        have hnxf := hide (show false = fitsK E n L v (j + 1) by rw [unhide hnx]; simp [hxv, unhide hj0, show ¬ L.length + 1 = n by have := unhide hm'; have := unhide hn1'; have := unhide hmn1; omega])
                        clear hnx
                        go_wp2_with fail
                        have h1 := unhide hjm'
                        first
                        | exact ⟨m1 - (j + 1), ⟨j + 1, false, (by first | rfl | trivial), (by first | rfl | trivial), (by first | rfl | trivial), (by first | rfl | trivial), (by first | rfl | trivial), (by first | rfl | trivial), (by first | rfl | trivial), (by first | rfl | (show _ = Value.int _ _; go_num) | go_num), (by first | rfl | trivial), (by first | rfl | trivial), (by first | rfl | (show _ = Value.int _ _; go_num) | go_num), (by first | rfl | trivial), by omega, unhide hnxf, unhide hP, rfl⟩, by have := unhide hfj'; omega⟩
                        | exact ⟨m1 - (j + 1), ⟨j + 1, false, (by first | omega | go_num), by omega, unhide hnxf, unhide hP, rfl⟩, by have := unhide hfj'; omega⟩
                    · have hjb : ((j : Int) == 0) = false := by simp; omega
                      have c0 := slK (S := []) ((unhide hL').ext (unhide hP).extf) (by simp) hjL
                      rw [unhide hx'] at c0
                      have q0 := (unhide hP).cellK (S := []) 0 0 (v := .slice A V.length cA) rfl rfl (by simp)
                      have q1 := (unhide hP).cellK (S := []) 0 1 (v := .slice B E.length cB) rfl rfl (by simp)
                      have hself := Keep.refl [] wr
                      refine wp_regionK (P := Tryz.prog) [] [0,1,2,3,4,5,6,7,8,9,10,11,12,13,14,15,16,17,18,19,20,21,22,23,24,25,26] [] 0 #[true,true,true,true,true,true,true,true,true,true,true,true,true,true,true,true,true,true,true,true,true,true,true,true,true,true,true] (by kernel_rfl) (by kernel_rfl) rfl (by rfl) ?_
                      iterate 13
                        first
                        | (refine ql_skip rfl (by rfl) ?_)
                        | (refine ql_want (v := ?_) rfl (by rfl) (fun W hW => ?_) ?_; rotate_left; (go_simp; (first | done | rfl)))
                        try go_frame
                      refine ql_want (v := .bool true) rfl (by rfl) (fun W hW => ?_) ?_
                      · go_simp
                        refine (joinedR_any A B V E cA cB x v W ((unhide hE').ext ((unhide hP).extf.trans ((Ext.refl _).of_new hW (by simp)))) hl4.2).mono ?_
                        rw [← unhide hqe']
                        rintro _ _ ⟨h1, h2⟩
                        exact ⟨_, h1, rfl, h2⟩
                      go_frame
                      skip
                      iterate 13
                        first
                        | (refine ql_skip rfl (by rfl) ?_)
                        | (refine ql_want (v := ?_) rfl (by rfl) (fun W hW => ?_) ?_; rotate_left; (go_simp; (first | done | rfl)))
                        try go_frame
                      refine wpQL_nil (fun y5 hxq => ?_)
                      replace hP : Hid (Sp w [] w [] [(r3, 28, #[.slice A V.length cA, .slice B E.length cB])] [(3, 1, .slice (some ⟨bi, oi, none⟩) p c2, p, ids.flatMap encI)] y5) := hide ((unhide hP).ext hxq)
                      clear hxq
                      refine wpX_done (by kernel_rfl) ?_
                      try go_frame
                      clear c0 q0 q1 hself
                      have hnxf := hide (show false = fitsK E n L v (j + 1) by rw [unhide hnx]; simp [hxv, hj0])
                      clear hnx
                      go_wp2_with fail
                      have h1 := unhide hjm'
                      first
                      | exact ⟨m1 - (j + 1), ⟨j + 1, false, (by first | rfl | trivial), (by first | rfl | trivial), (by first | rfl | trivial), (by first | rfl | trivial), (by first | rfl | trivial), (by first | rfl | trivial), (by first | rfl | trivial), (by first | rfl | (show _ = Value.int _ _; go_num) | go_num), (by first | rfl | trivial), (by first | rfl | trivial), (by first | rfl | (show _ = Value.int _ _; go_num) | go_num), (by first | rfl | trivial), by omega, unhide hnxf, unhide hP, rfl⟩, by have := unhide hfj'; omega⟩
                      | exact ⟨m1 - (j + 1), ⟨j + 1, false, (by first | omega | go_num), by omega, unhide hnxf, unhide hP, rfl⟩, by have := unhide hfj'; omega⟩
              · have hje : j = m1 := by omega
                have hfr := hide (show fb = fitsK E n L v m1 by rw [unhide hfb', hje])
                have hjl : ¬ (j : Int) < (m1 : Int) := by omega
                clear hfb' hje hj
                try dsimp only
                repeat ((fail_if_success (with_reducible refine wp_reg (id := 14) ?_)); (first | go_values | go_skip | go_step | go_guarded | go_upon | go_in | go_back | fail))
                with_reducible refine wp_reg (id := 14) ?_
                iterate 5
                  refine wpO_want rfl ?_
                  go_simp
                refine wpO_done ?_
                try go_frame
                clear hjl
                cases fb
                · skip
                  have hnew := hide (show res = (ids.drop (k + 1)).findSome? (holG V E n f L) by rw [unhide hstep, unhide hG2, if_neg (by rw [← unhide hfr]; simp)])
                  go_wp2_with fail
                  have h1 := unhide hkp
                  first
                  | exact ⟨p - (k + 1), ⟨k + 1, (by first | rfl | trivial), (by first | rfl | trivial), (by first | rfl | trivial), (by first | rfl | trivial), (by first | rfl | trivial), (by first | rfl | trivial), (by first | rfl | trivial), (by first | rfl | (show _ = Value.int _ _; go_num) | go_num), (by first | rfl | trivial), by omega, unhide hnew, unhide hP, rfl⟩, by have := unhide hfm'; omega⟩
                  | exact ⟨p - (k + 1), ⟨k + 1, (by first | omega | go_num), by omega, unhide hnew, unhide hP, rfl⟩, by have := unhide hfm'; omega⟩
                · skip
                  have hG3 := hide (show holG V E n f L v = holeQ V E n f (L ++ [v]) by rw [unhide hG2, if_pos (unhide hfr).symm])
                  clear hG2 hfr
                  try dsimp only
                  repeat ((fail_if_success (with_reducible refine wp_reg (id := 18) ?_)); (first | go_values | go_skip | go_step | go_guarded | go_upon | go_in | go_back | fail))
                  with_reducible refine wp_reg (id := 18) ?_
                  iterate 2
                    refine wpO_want rfl ?_
                    go_simp
                  refine wpO_done ?_
                  try go_frame
                  go_wp2_with fail
                  have q0 := (unhide hP).cellK (S := []) 0 0 (v := .slice A V.length cA) rfl rfl (by simp)
                  have q1 := (unhide hP).cellK (S := []) 0 1 (v := .slice B E.length cB) rfl rfl (by simp)
                  have hself := Keep.refl [] wr
                  refine wp_regionK (P := Tryz.prog) [] [0,2,4,7] [] 6 #[true,false,true,false,true,false,false,true,false,false] (by kernel_rfl) (by kernel_rfl) rfl (by rfl) ?_
                  iterate 4
                    refine ql_want (v := ?_) rfl (by rfl) (fun W hW => ?_) ?_
                    rotate_left
                    · go_simp
                      first | done | rfl
                    go_frame
                  refine wpQL_nil (fun y5 hxq => ?_)
                  have hK := hide (hxq.keep [])
                  replace hP : Hid (Sp w [] w [] [(r3, 28, #[.slice A V.length cA, .slice B E.length cB])] [(3, 1, .slice (some ⟨bi, oi, none⟩) p c2, p, ids.flatMap encI)] y5) := hide ((unhide hP).ext hxq)
                  clear hxq
                  clear q0 q1 hself
                  refine lx_two (i := 1) (k := 5) (by kernel_rfl) rfl (by rfl) #[true,true,true,false,true,false,false,true,false,false] (by rfl) rfl (by rfl) #[true,false,true,false,true,true,false,true,false,false] (by rfl) ?_ ?_
                  · skip
                    refine (unhide hP).allocL (unhide hK) (v := fun b => .slice (some ⟨b, 0, none⟩) 0 0) 3 #[] ?_ ?_
                    · go_simp
                    intro be y6 hQ hK2 hg2
                    replace hP : Hid (Sp w [] w [] [(r3, 28, #[.slice A V.length cA, .slice B E.length cB]), (be, 3, #[])] [(3, 1, .slice (some ⟨bi, oi, none⟩) p c2, p, ids.flatMap encI)] y6) := hide hQ
                    replace hK := hide hK2
                    have hge_be := hide hg2
                    clear hQ hK2 hg2
                    try go_frame
                    replace hP : Hid (Sp w [] w [] [(r3, 28, #[.slice A V.length cA, .slice B E.length cB])] [(3, 1, .slice (some ⟨bi, oi, none⟩) p c2, p, ids.flatMap encI), (3, 1, .slice (some ⟨be, 0, none⟩) 0 0, 0, [])] y6) := hide (Sp.toRow (L := [(r3, 28, #[.slice A V.length cA, .slice B E.length cB])]) (b := be) (t := 3) (n := 0) (cs := #[]) (unhide hP) rfl (by decide))
                    refine lx_two (i := 3) (k := 5) (by kernel_rfl) rfl (by rfl) #[true,true,true,true,true,false,false,true,false,false] (by rfl) rfl (by rfl) #[true,true,true,false,true,true,false,true,false,false] (by rfl) ?_ ?_
                    · skip
                      refine (unhide hP).apAL (unhide hK) (enc := encI) (T := 3) (ST := 31) 1 (v := .slice (some ⟨be, 0, none⟩) 0 0) (m := 0) (xs := ([] : List Int)) rfl (fun z hz => .inr (by simp [Value.ownBlock] at hz; subst hz; exact unhide hge_be)) infoI Tryz.underlying31 one_encI (fun _ => rfl) (by decide) (by decide) rfl L rfl rfl ((unhide hm').symm) ((unhide hL').ext (unhide hP).extf) (by have := unhide hf'; omega) ?_
                      intro A5 cA5 y7 hQ hK2 hg2
                      replace hP : Hid (Sp w [] w [] [(r3, 28, #[.slice A V.length cA, .slice B E.length cB])] [(3, 1, .slice (some ⟨bi, oi, none⟩) p c2, p, ids.flatMap encI), (3, 1, .slice A5 (0 + m) cA5, 0 + m, (([] : List Int) ++ L).flatMap encI)] y7) := hide hQ
                      replace hK := hide hK2
                      have hge_A5 := hide hg2
                      clear hQ hK2 hg2
                      try go_frame
                      refine lx_one (i := 5) (by kernel_rfl) rfl (by rfl) #[true,true,true,true,true,true,false,true,false,false] (by rfl) ?_
                      refine (unhide hP).allocL (unhide hK) (v := fun b => .slice (some ⟨b, 0, none⟩) 1 1) 3 #[.int .i64 v] ?_ ?_
                      · exact run_build1 rfl rfl
                      intro bv y8 hQ hK2 hg2
                      replace hP : Hid (Sp w [] w [] [(r3, 28, #[.slice A V.length cA, .slice B E.length cB]), (bv, 3, #[.int .i64 v])] [(3, 1, .slice (some ⟨bi, oi, none⟩) p c2, p, ids.flatMap encI), (3, 1, .slice A5 (0 + m) cA5, 0 + m, (([] : List Int) ++ L).flatMap encI)] y8) := hide hQ
                      replace hK := hide hK2
                      have hge_bv := hide hg2
                      clear hQ hK2 hg2
                      try go_frame
                      refine lx_one (i := 6) (by kernel_rfl) rfl (by rfl) #[true,true,true,true,true,true,true,true,false,false] (by rfl) ?_
                      refine (unhide hP).ap1L (unhide hK) (enc := encI) (T := 3) (ST := 31) 1 (v := .slice A5 (0 + m) cA5) (m := 0 + m) (xs := [] ++ L) rfl (unhide hge_A5) infoI Tryz.underlying31 one_encI (fun _ => rfl) (by decide) (by decide) rfl v rfl rfl ((unhide hP).get 1 rfl) (by have := unhide hf'; omega) ?_
                      intro A6 cA6 y9 hQ hK2 hg2
                      replace hP : Hid (Sp w [] w [] [(r3, 28, #[.slice A V.length cA, .slice B E.length cB]), (bv, 3, #[.int .i64 v])] [(3, 1, .slice (some ⟨bi, oi, none⟩) p c2, p, ids.flatMap encI), (3, 1, .slice A6 (0 + m + 1) cA6, 0 + m + 1, ([] ++ L ++ [v]).flatMap encI)] y9) := hide hQ
                      replace hK := hide hK2
                      have hge_A6 := hide hg2
                      clear hQ hK2 hg2
                      try go_frame
                      obtain ⟨n6, hn6⟩ : ∃ n6, n6 = 0 + m + 1 := ⟨_, rfl⟩
                      rw [← hn6] at hP ⊢
                      have hlen : (L ++ [v]).length = n6 := by rw [List.length_append, List.length_singleton, ← unhide hm', hn6]; omega
                      have hca := unhide hih A6 (L ++ [v]) cA6 y9 ((unhide hV').ext (unhide hP).extf) ((unhide hE').ext (unhide hP).extf) (own_at (xs := L ++ [v]) (by have h := (unhide hP).row 1 rfl; rw [← hlen] at h; exact h) (fun _ => rfl)) (by rw [hlen, hn6]; omega) (by rw [hlen, hn6]; have := unhide hf'; omega)
                      rw [hlen] at hca
                      obtain ⟨oo, hoo⟩ : ∃ oo, oo = holeQ V E n f (L ++ [v]) := ⟨_, rfl⟩
                      rw [← hoo] at hca
                      have hG4 := hide (show holG V E n f L v = oo by rw [unhide hG3, hoo])
                      clear hoo hlen hn6
                      cases oo with
                      | none =>
                        refine lx_one (i := 8) (by kernel_rfl) rfl (by rfl) #[true,true,true,true,true,true,true,true,true,false] (by rfl) ?_
                        go_simp
                        refine (hca).mono ?_
                        rintro _ zy10 ⟨rfl, hxc⟩
                        clear hca
                        refine ⟨_, rfl, (unhide hK).trans (hxc.keep _), fun y10 hxd => ?_⟩
                        replace hP : Hid (Sp w [] w [] [(r3, 28, #[.slice A V.length cA, .slice B E.length cB]), (bv, 3, #[.int .i64 v])] [(3, 1, .slice (some ⟨bi, oi, none⟩) p c2, p, ids.flatMap encI), (3, 1, .slice A6 n6 cA6, n6, ([] ++ L ++ [v]).flatMap encI)] y10) := hide ((unhide hP).ext (hxc.trans hxd))
                        replace hK := hide ((unhide hK).trans ((hxc.trans hxd).keep _))
                        clear hxc hxd
                        try go_frame
                        refine lx_one (i := 9) (by kernel_rfl) rfl (by rfl) #[true,true,true,true,true,true,true,true,true,true] (by rfl) ?_
                        refine (unhide hP).valL (unhide hK) (v := .slice none 0 0) ?_ ?_
                        · go_simp
                        intro y11 hQ hK2
                        replace hP : Hid (Sp w [] w [] [(r3, 28, #[.slice A V.length cA, .slice B E.length cB]), (bv, 3, #[.int .i64 v])] [(3, 1, .slice (some ⟨bi, oi, none⟩) p c2, p, ids.flatMap encI), (3, 1, .slice A6 n6 cA6, n6, ([] ++ L ++ [v]).flatMap encI)] y11) := hide hQ
                        replace hK := hide hK2
                        clear hQ hK2
                        try go_frame
                        refine wpX_done (by kernel_rfl) ?_
                        try go_frame
                        clear hK
                        try dsimp only
                        repeat ((fail_if_success (with_reducible refine wp_reg (id := 20) ?_)); (first | go_values | go_skip | go_step | go_guarded | go_upon | go_in | go_back | fail))
                        with_reducible refine wp_reg (id := 20) ?_
                        iterate 2
                          refine wpO_want rfl ?_
                          go_simp
                        refine wpO_done ?_
                        try go_frame
                        have hnew := hide (show res = (ids.drop (k + 1)).findSome? (holG V E n f L) by rw [unhide hstep, unhide hG4])
                        replace hP : Hid (Sp w [] w [] [(r3, 28, #[.slice A V.length cA, .slice B E.length cB])] [(3, 1, .slice (some ⟨bi, oi, none⟩) p c2, p, ids.flatMap encI)] y11) := hide ((unhide hP).sub (List.sublist_append_left [(r3, 28, #[.slice A V.length cA, .slice B E.length cB])] ([(bv, 3, #[.int .i64 v])] : List Cl)) (List.sublist_append_left [(3, 1, .slice (some ⟨bi, oi, none⟩) p c2, p, ids.flatMap encI)] ([(3, 1, .slice A6 n6 cA6, n6, ([] ++ L ++ [v]).flatMap encI)] : List Rw)))
                        go_wp2_with fail
                        have h1 := unhide hkp
                        first
                        | exact ⟨p - (k + 1), ⟨k + 1, (by first | rfl | trivial), (by first | rfl | trivial), (by first | rfl | trivial), (by first | rfl | trivial), (by first | rfl | trivial), (by first | rfl | trivial), (by first | rfl | trivial), (by first | rfl | (show _ = Value.int _ _; go_num) | go_num), (by first | rfl | trivial), by omega, unhide hnew, unhide hP, rfl⟩, by have := unhide hfm'; omega⟩
                        | exact ⟨p - (k + 1), ⟨k + 1, (by first | omega | go_num), by omega, unhide hnew, unhide hP, rfl⟩, by have := unhide hfm'; omega⟩
                      | some l =>
                        refine lx_one (i := 8) (by kernel_rfl) rfl (by rfl) #[true,true,true,true,true,true,true,true,true,false] (by rfl) ?_
                        go_simp
                        refine (hca).mono ?_
                        rintro _ zy10 ⟨bl, ol, cl, rfl, hsl, hxc⟩
                        clear hca
                        obtain ⟨nl, hnl⟩ : ∃ nl, nl = l.length := ⟨_, rfl⟩
                        rw [← hnl]
                        have hnl' := hide hnl
                        clear hnl
                        refine ⟨_, rfl, (unhide hK).trans (hxc.keep _), fun y10 hxd => ?_⟩
                        replace hP : Hid (Sp w [] w [] [(r3, 28, #[.slice A V.length cA, .slice B E.length cB]), (bv, 3, #[.int .i64 v])] [(3, 1, .slice (some ⟨bi, oi, none⟩) p c2, p, ids.flatMap encI), (3, 1, .slice A6 n6 cA6, n6, ([] ++ L ++ [v]).flatMap encI)] y10) := hide ((unhide hP).ext (hxc.trans hxd))
                        replace hK := hide ((unhide hK).trans ((hxc.trans hxd).keep _))
                        have hsl' := hide (hsl.ext hxd)
                        clear hsl
                        clear hxc hxd
                        try go_frame
                        refine lx_rekeep (unhide hK) [9] [] 0 1 #[true,true,true,true,true,true,true,true,true,false] #[true,true,true,true,true,true,true,true,true,true] (by kernel_rfl) rfl (by rfl) ?_
                        clear hK
                        iterate 1
                          refine ql_want (v := ?_) rfl (by rfl) (fun W hW => ?_) ?_
                          rotate_left
                          · go_simp
                            first | done | rfl
                          go_frame
                        refine wpQL_nil (fun y11 hxq => ?_)
                        have hK := hide (hxq.keep [])
                        replace hP : Hid (Sp w [] w [] [(r3, 28, #[.slice A V.length cA, .slice B E.length cB]), (bv, 3, #[.int .i64 v])] [(3, 1, .slice (some ⟨bi, oi, none⟩) p c2, p, ids.flatMap encI), (3, 1, .slice A6 n6 cA6, n6, ([] ++ L ++ [v]).flatMap encI)] y11) := hide ((unhide hP).ext hxq)
                        replace hsl' := hide ((unhide hsl').ext hxq)
                        clear hxq
                        refine wpX_done (by kernel_rfl) ?_
                        try go_frame
                        clear hK
                        try dsimp only
                        repeat ((fail_if_success (with_reducible refine wp_reg (id := 20) ?_)); (first | go_values | go_skip | go_step | go_guarded | go_upon | go_in | go_back | fail))
                        with_reducible refine wp_reg (id := 20) ?_
                        iterate 2
                          refine wpO_want rfl ?_
                          go_simp
                        refine wpO_done ?_
                        try go_frame
                        go_wp2_with fail
                        refine Sp.leaves0 ?_
                        refine ⟨_, results_tmp rfl _ _ _, ?_⟩
                        rw [show res = some l by rw [unhide hstep, unhide hG4]]
                        exact HoPost.yes (unhide hnl') (unhide hsl') (unhide hP).extf
                    · skip
                      refine (unhide hP).allocL (unhide hK) (v := fun b => .slice (some ⟨b, 0, none⟩) 1 1) 3 #[.int .i64 v] ?_ ?_
                      · exact run_build1 rfl rfl
                      intro bv y7 hQ hK2 hg2
                      replace hP : Hid (Sp w [] w [] [(r3, 28, #[.slice A V.length cA, .slice B E.length cB]), (bv, 3, #[.int .i64 v])] [(3, 1, .slice (some ⟨bi, oi, none⟩) p c2, p, ids.flatMap encI), (3, 1, .slice (some ⟨be, 0, none⟩) 0 0, 0, [])] y7) := hide hQ
                      replace hK := hide hK2
                      have hge_bv := hide hg2
                      clear hQ hK2 hg2
                      try go_frame
                      refine lx_one (i := 3) (by kernel_rfl) rfl (by rfl) #[true,true,true,true,true,true,false,true,false,false] (by rfl) ?_
                      refine (unhide hP).apAL (unhide hK) (enc := encI) (T := 3) (ST := 31) 1 (v := .slice (some ⟨be, 0, none⟩) 0 0) (m := 0) (xs := ([] : List Int)) rfl (fun z hz => .inr (by simp [Value.ownBlock] at hz; subst hz; exact unhide hge_be)) infoI Tryz.underlying31 one_encI (fun _ => rfl) (by decide) (by decide) rfl L rfl rfl ((unhide hm').symm) ((unhide hL').ext (unhide hP).extf) (by have := unhide hf'; omega) ?_
                      intro A5 cA5 y8 hQ hK2 hg2
                      replace hP : Hid (Sp w [] w [] [(r3, 28, #[.slice A V.length cA, .slice B E.length cB]), (bv, 3, #[.int .i64 v])] [(3, 1, .slice (some ⟨bi, oi, none⟩) p c2, p, ids.flatMap encI), (3, 1, .slice A5 (0 + m) cA5, 0 + m, (([] : List Int) ++ L).flatMap encI)] y8) := hide hQ
                      replace hK := hide hK2
                      have hge_A5 := hide hg2
                      clear hQ hK2 hg2
                      try go_frame
                      refine lx_one (i := 6) (by kernel_rfl) rfl (by rfl) #[true,true,true,true,true,true,true,true,false,false] (by rfl) ?_
                      refine (unhide hP).ap1L (unhide hK) (enc := encI) (T := 3) (ST := 31) 1 (v := .slice A5 (0 + m) cA5) (m := 0 + m) (xs := [] ++ L) rfl (unhide hge_A5) infoI Tryz.underlying31 one_encI (fun _ => rfl) (by decide) (by decide) rfl v rfl rfl ((unhide hP).get 1 rfl) (by have := unhide hf'; omega) ?_
                      intro A6 cA6 y9 hQ hK2 hg2
                      replace hP : Hid (Sp w [] w [] [(r3, 28, #[.slice A V.length cA, .slice B E.length cB]), (bv, 3, #[.int .i64 v])] [(3, 1, .slice (some ⟨bi, oi, none⟩) p c2, p, ids.flatMap encI), (3, 1, .slice A6 (0 + m + 1) cA6, 0 + m + 1, ([] ++ L ++ [v]).flatMap encI)] y9) := hide hQ
                      replace hK := hide hK2
                      have hge_A6 := hide hg2
                      clear hQ hK2 hg2
                      try go_frame
                      obtain ⟨n6, hn6⟩ : ∃ n6, n6 = 0 + m + 1 := ⟨_, rfl⟩
                      rw [← hn6] at hP ⊢
                      have hlen : (L ++ [v]).length = n6 := by rw [List.length_append, List.length_singleton, ← unhide hm', hn6]; omega
                      have hca := unhide hih A6 (L ++ [v]) cA6 y9 ((unhide hV').ext (unhide hP).extf) ((unhide hE').ext (unhide hP).extf) (own_at (xs := L ++ [v]) (by have h := (unhide hP).row 1 rfl; rw [← hlen] at h; exact h) (fun _ => rfl)) (by rw [hlen, hn6]; omega) (by rw [hlen, hn6]; have := unhide hf'; omega)
                      rw [hlen] at hca
                      obtain ⟨oo, hoo⟩ : ∃ oo, oo = holeQ V E n f (L ++ [v]) := ⟨_, rfl⟩
                      rw [← hoo] at hca
                      have hG4 := hide (show holG V E n f L v = oo by rw [unhide hG3, hoo])
                      clear hoo hlen hn6
                      cases oo with
                      | none =>
                        refine lx_one (i := 8) (by kernel_rfl) rfl (by rfl) #[true,true,true,true,true,true,true,true,true,false] (by rfl) ?_
                        go_simp
                        refine (hca).mono ?_
                        rintro _ zy10 ⟨rfl, hxc⟩
                        clear hca
                        refine ⟨_, rfl, (unhide hK).trans (hxc.keep _), fun y10 hxd => ?_⟩
                        replace hP : Hid (Sp w [] w [] [(r3, 28, #[.slice A V.length cA, .slice B E.length cB]), (bv, 3, #[.int .i64 v])] [(3, 1, .slice (some ⟨bi, oi, none⟩) p c2, p, ids.flatMap encI), (3, 1, .slice A6 n6 cA6, n6, ([] ++ L ++ [v]).flatMap encI)] y10) := hide ((unhide hP).ext (hxc.trans hxd))
                        replace hK := hide ((unhide hK).trans ((hxc.trans hxd).keep _))
                        clear hxc hxd
                        try go_frame
                        refine lx_one (i := 9) (by kernel_rfl) rfl (by rfl) #[true,true,true,true,true,true,true,true,true,true] (by rfl) ?_
                        refine (unhide hP).valL (unhide hK) (v := .slice none 0 0) ?_ ?_
                        · go_simp
                        intro y11 hQ hK2
                        replace hP : Hid (Sp w [] w [] [(r3, 28, #[.slice A V.length cA, .slice B E.length cB]), (bv, 3, #[.int .i64 v])] [(3, 1, .slice (some ⟨bi, oi, none⟩) p c2, p, ids.flatMap encI), (3, 1, .slice A6 n6 cA6, n6, ([] ++ L ++ [v]).flatMap encI)] y11) := hide hQ
                        replace hK := hide hK2
                        clear hQ hK2
                        try go_frame
                        refine wpX_done (by kernel_rfl) ?_
                        try go_frame
                        clear hK
                        try dsimp only
                        repeat ((fail_if_success (with_reducible refine wp_reg (id := 20) ?_)); (first | go_values | go_skip | go_step | go_guarded | go_upon | go_in | go_back | fail))
                        with_reducible refine wp_reg (id := 20) ?_
                        iterate 2
                          refine wpO_want rfl ?_
                          go_simp
                        refine wpO_done ?_
                        try go_frame
                        have hnew := hide (show res = (ids.drop (k + 1)).findSome? (holG V E n f L) by rw [unhide hstep, unhide hG4])
                        replace hP : Hid (Sp w [] w [] [(r3, 28, #[.slice A V.length cA, .slice B E.length cB])] [(3, 1, .slice (some ⟨bi, oi, none⟩) p c2, p, ids.flatMap encI)] y11) := hide ((unhide hP).sub (List.sublist_append_left [(r3, 28, #[.slice A V.length cA, .slice B E.length cB])] ([(bv, 3, #[.int .i64 v])] : List Cl)) (List.sublist_append_left [(3, 1, .slice (some ⟨bi, oi, none⟩) p c2, p, ids.flatMap encI)] ([(3, 1, .slice A6 n6 cA6, n6, ([] ++ L ++ [v]).flatMap encI)] : List Rw)))
                        go_wp2_with fail
                        have h1 := unhide hkp
                        first
                        | exact ⟨p - (k + 1), ⟨k + 1, (by first | rfl | trivial), (by first | rfl | trivial), (by first | rfl | trivial), (by first | rfl | trivial), (by first | rfl | trivial), (by first | rfl | trivial), (by first | rfl | trivial), (by first | rfl | (show _ = Value.int _ _; go_num) | go_num), (by first | rfl | trivial), by omega, unhide hnew, unhide hP, rfl⟩, by have := unhide hfm'; omega⟩
                        | exact ⟨p - (k + 1), ⟨k + 1, (by first | omega | go_num), by omega, unhide hnew, unhide hP, rfl⟩, by have := unhide hfm'; omega⟩
                      | some l =>
                        refine lx_one (i := 8) (by kernel_rfl) rfl (by rfl) #[true,true,true,true,true,true,true,true,true,false] (by rfl) ?_
                        go_simp
                        refine (hca).mono ?_
                        rintro _ zy10 ⟨bl, ol, cl, rfl, hsl, hxc⟩
                        clear hca
                        obtain ⟨nl, hnl⟩ : ∃ nl, nl = l.length := ⟨_, rfl⟩
                        rw [← hnl]
                        have hnl' := hide hnl
                        clear hnl
                        refine ⟨_, rfl, (unhide hK).trans (hxc.keep _), fun y10 hxd => ?_⟩
                        replace hP : Hid (Sp w [] w [] [(r3, 28, #[.slice A V.length cA, .slice B E.length cB]), (bv, 3, #[.int .i64 v])] [(3, 1, .slice (some ⟨bi, oi, none⟩) p c2, p, ids.flatMap encI), (3, 1, .slice A6 n6 cA6, n6, ([] ++ L ++ [v]).flatMap encI)] y10) := hide ((unhide hP).ext (hxc.trans hxd))
                        replace hK := hide ((unhide hK).trans ((hxc.trans hxd).keep _))
                        have hsl' := hide (hsl.ext hxd)
                        clear hsl
                        clear hxc hxd
                        try go_frame
                        refine lx_rekeep (unhide hK) [9] [] 0 1 #[true,true,true,true,true,true,true,true,true,false] #[true,true,true,true,true,true,true,true,true,true] (by kernel_rfl) rfl (by rfl) ?_
                        clear hK
                        iterate 1
                          refine ql_want (v := ?_) rfl (by rfl) (fun W hW => ?_) ?_
                          rotate_left
                          · go_simp
                            first | done | rfl
                          go_frame
                        refine wpQL_nil (fun y11 hxq => ?_)
                        have hK := hide (hxq.keep [])
                        replace hP : Hid (Sp w [] w [] [(r3, 28, #[.slice A V.length cA, .slice B E.length cB]), (bv, 3, #[.int .i64 v])] [(3, 1, .slice (some ⟨bi, oi, none⟩) p c2, p, ids.flatMap encI), (3, 1, .slice A6 n6 cA6, n6, ([] ++ L ++ [v]).flatMap encI)] y11) := hide ((unhide hP).ext hxq)
                        replace hsl' := hide ((unhide hsl').ext hxq)
                        clear hxq
                        refine wpX_done (by kernel_rfl) ?_
                        try go_frame
                        clear hK
                        try dsimp only
                        repeat ((fail_if_success (with_reducible refine wp_reg (id := 20) ?_)); (first | go_values | go_skip | go_step | go_guarded | go_upon | go_in | go_back | fail))
                        with_reducible refine wp_reg (id := 20) ?_
                        iterate 2
                          refine wpO_want rfl ?_
                          go_simp
                        refine wpO_done ?_
                        try go_frame
                        go_wp2_with fail
                        refine Sp.leaves0 ?_
                        refine ⟨_, results_tmp rfl _ _ _, ?_⟩
                        rw [show res = some l by rw [unhide hstep, unhide hG4]]
                        exact HoPost.yes (unhide hnl') (unhide hsl') (unhide hP).extf
                  · skip
                    refine (unhide hP).allocL (unhide hK) (v := fun b => .slice (some ⟨b, 0, none⟩) 1 1) 3 #[.int .i64 v] ?_ ?_
                    · exact run_build1 rfl rfl
                    intro bv y6 hQ hK2 hg2
                    replace hP : Hid (Sp w [] w [] [(r3, 28, #[.slice A V.length cA, .slice B E.length cB]), (bv, 3, #[.int .i64 v])] [(3, 1, .slice (some ⟨bi, oi, none⟩) p c2, p, ids.flatMap encI)] y6) := hide hQ
                    replace hK := hide hK2
                    have hge_bv := hide hg2
                    clear hQ hK2 hg2
                    try go_frame
                    refine lx_one (i := 1) (by kernel_rfl) rfl (by rfl) #[true,true,true,false,true,true,false,true,false,false] (by rfl) ?_
                    refine (unhide hP).allocL (unhide hK) (v := fun b => .slice (some ⟨b, 0, none⟩) 0 0) 3 #[] ?_ ?_
                    · go_simp
                    intro be y7 hQ hK2 hg2
                    replace hP : Hid (Sp w [] w [] [(r3, 28, #[.slice A V.length cA, .slice B E.length cB]), (bv, 3, #[.int .i64 v]), (be, 3, #[])] [(3, 1, .slice (some ⟨bi, oi, none⟩) p c2, p, ids.flatMap encI)] y7) := hide hQ
                    replace hK := hide hK2
                    have hge_be := hide hg2
                    clear hQ hK2 hg2
                    try go_frame
                    replace hP : Hid (Sp w [] w [] [(r3, 28, #[.slice A V.length cA, .slice B E.length cB]), (bv, 3, #[.int .i64 v])] [(3, 1, .slice (some ⟨bi, oi, none⟩) p c2, p, ids.flatMap encI), (3, 1, .slice (some ⟨be, 0, none⟩) 0 0, 0, [])] y7) := hide (Sp.toRow (L := [(r3, 28, #[.slice A V.length cA, .slice B E.length cB]), (bv, 3, #[.int .i64 v])]) (b := be) (t := 3) (n := 0) (cs := #[]) (unhide hP) rfl (by decide))
                    refine lx_one (i := 3) (by kernel_rfl) rfl (by rfl) #[true,true,true,true,true,true,false,true,false,false] (by rfl) ?_
                    refine (unhide hP).apAL (unhide hK) (enc := encI) (T := 3) (ST := 31) 1 (v := .slice (some ⟨be, 0, none⟩) 0 0) (m := 0) (xs := ([] : List Int)) rfl (fun z hz => .inr (by simp [Value.ownBlock] at hz; subst hz; exact unhide hge_be)) infoI Tryz.underlying31 one_encI (fun _ => rfl) (by decide) (by decide) rfl L rfl rfl ((unhide hm').symm) ((unhide hL').ext (unhide hP).extf) (by have := unhide hf'; omega) ?_
                    intro A5 cA5 y8 hQ hK2 hg2
                    replace hP : Hid (Sp w [] w [] [(r3, 28, #[.slice A V.length cA, .slice B E.length cB]), (bv, 3, #[.int .i64 v])] [(3, 1, .slice (some ⟨bi, oi, none⟩) p c2, p, ids.flatMap encI), (3, 1, .slice A5 (0 + m) cA5, 0 + m, (([] : List Int) ++ L).flatMap encI)] y8) := hide hQ
                    replace hK := hide hK2
                    have hge_A5 := hide hg2
                    clear hQ hK2 hg2
                    try go_frame
                    refine lx_one (i := 6) (by kernel_rfl) rfl (by rfl) #[true,true,true,true,true,true,true,true,false,false] (by rfl) ?_
                    refine (unhide hP).ap1L (unhide hK) (enc := encI) (T := 3) (ST := 31) 1 (v := .slice A5 (0 + m) cA5) (m := 0 + m) (xs := [] ++ L) rfl (unhide hge_A5) infoI Tryz.underlying31 one_encI (fun _ => rfl) (by decide) (by decide) rfl v rfl rfl ((unhide hP).get 1 rfl) (by have := unhide hf'; omega) ?_
                    intro A6 cA6 y9 hQ hK2 hg2
                    replace hP : Hid (Sp w [] w [] [(r3, 28, #[.slice A V.length cA, .slice B E.length cB]), (bv, 3, #[.int .i64 v])] [(3, 1, .slice (some ⟨bi, oi, none⟩) p c2, p, ids.flatMap encI), (3, 1, .slice A6 (0 + m + 1) cA6, 0 + m + 1, ([] ++ L ++ [v]).flatMap encI)] y9) := hide hQ
                    replace hK := hide hK2
                    have hge_A6 := hide hg2
                    clear hQ hK2 hg2
                    try go_frame
                    obtain ⟨n6, hn6⟩ : ∃ n6, n6 = 0 + m + 1 := ⟨_, rfl⟩
                    rw [← hn6] at hP ⊢
                    have hlen : (L ++ [v]).length = n6 := by rw [List.length_append, List.length_singleton, ← unhide hm', hn6]; omega
                    have hca := unhide hih A6 (L ++ [v]) cA6 y9 ((unhide hV').ext (unhide hP).extf) ((unhide hE').ext (unhide hP).extf) (own_at (xs := L ++ [v]) (by have h := (unhide hP).row 1 rfl; rw [← hlen] at h; exact h) (fun _ => rfl)) (by rw [hlen, hn6]; omega) (by rw [hlen, hn6]; have := unhide hf'; omega)
                    rw [hlen] at hca
                    obtain ⟨oo, hoo⟩ : ∃ oo, oo = holeQ V E n f (L ++ [v]) := ⟨_, rfl⟩
                    rw [← hoo] at hca
                    have hG4 := hide (show holG V E n f L v = oo by rw [unhide hG3, hoo])
                    clear hoo hlen hn6
                    cases oo with
                    | none =>
                      refine lx_one (i := 8) (by kernel_rfl) rfl (by rfl) #[true,true,true,true,true,true,true,true,true,false] (by rfl) ?_
                      go_simp
                      refine (hca).mono ?_
                      rintro _ zy10 ⟨rfl, hxc⟩
                      clear hca
                      refine ⟨_, rfl, (unhide hK).trans (hxc.keep _), fun y10 hxd => ?_⟩
                      replace hP : Hid (Sp w [] w [] [(r3, 28, #[.slice A V.length cA, .slice B E.length cB]), (bv, 3, #[.int .i64 v])] [(3, 1, .slice (some ⟨bi, oi, none⟩) p c2, p, ids.flatMap encI), (3, 1, .slice A6 n6 cA6, n6, ([] ++ L ++ [v]).flatMap encI)] y10) := hide ((unhide hP).ext (hxc.trans hxd))
                      replace hK := hide ((unhide hK).trans ((hxc.trans hxd).keep _))
                      clear hxc hxd
                      try go_frame
                      refine lx_one (i := 9) (by kernel_rfl) rfl (by rfl) #[true,true,true,true,true,true,true,true,true,true] (by rfl) ?_
                      refine (unhide hP).valL (unhide hK) (v := .slice none 0 0) ?_ ?_
                      · go_simp
                      intro y11 hQ hK2
                      replace hP : Hid (Sp w [] w [] [(r3, 28, #[.slice A V.length cA, .slice B E.length cB]), (bv, 3, #[.int .i64 v])] [(3, 1, .slice (some ⟨bi, oi, none⟩) p c2, p, ids.flatMap encI), (3, 1, .slice A6 n6 cA6, n6, ([] ++ L ++ [v]).flatMap encI)] y11) := hide hQ
                      replace hK := hide hK2
                      clear hQ hK2
                      try go_frame
                      refine wpX_done (by kernel_rfl) ?_
                      try go_frame
                      clear hK
                      try dsimp only
                      repeat ((fail_if_success (with_reducible refine wp_reg (id := 20) ?_)); (first | go_values | go_skip | go_step | go_guarded | go_upon | go_in | go_back | fail))
                      with_reducible refine wp_reg (id := 20) ?_
                      iterate 2
                        refine wpO_want rfl ?_
                        go_simp
                      refine wpO_done ?_
                      try go_frame
                      have hnew := hide (show res = (ids.drop (k + 1)).findSome? (holG V E n f L) by rw [unhide hstep, unhide hG4])
                      replace hP : Hid (Sp w [] w [] [(r3, 28, #[.slice A V.length cA, .slice B E.length cB])] [(3, 1, .slice (some ⟨bi, oi, none⟩) p c2, p, ids.flatMap encI)] y11) := hide ((unhide hP).sub (List.sublist_append_left [(r3, 28, #[.slice A V.length cA, .slice B E.length cB])] ([(bv, 3, #[.int .i64 v])] : List Cl)) (List.sublist_append_left [(3, 1, .slice (some ⟨bi, oi, none⟩) p c2, p, ids.flatMap encI)] ([(3, 1, .slice A6 n6 cA6, n6, ([] ++ L ++ [v]).flatMap encI)] : List Rw)))
                      go_wp2_with fail
                      have h1 := unhide hkp
                      first
                      | exact ⟨p - (k + 1), ⟨k + 1, (by first | rfl | trivial), (by first | rfl | trivial), (by first | rfl | trivial), (by first | rfl | trivial), (by first | rfl | trivial), (by first | rfl | trivial), (by first | rfl | trivial), (by first | rfl | (show _ = Value.int _ _; go_num) | go_num), (by first | rfl | trivial), by omega, unhide hnew, unhide hP, rfl⟩, by have := unhide hfm'; omega⟩
                      | exact ⟨p - (k + 1), ⟨k + 1, (by first | omega | go_num), by omega, unhide hnew, unhide hP, rfl⟩, by have := unhide hfm'; omega⟩
                    | some l =>
                      refine lx_one (i := 8) (by kernel_rfl) rfl (by rfl) #[true,true,true,true,true,true,true,true,true,false] (by rfl) ?_
                      go_simp
                      refine (hca).mono ?_
                      rintro _ zy10 ⟨bl, ol, cl, rfl, hsl, hxc⟩
                      clear hca
                      obtain ⟨nl, hnl⟩ : ∃ nl, nl = l.length := ⟨_, rfl⟩
                      rw [← hnl]
                      have hnl' := hide hnl
                      clear hnl
                      refine ⟨_, rfl, (unhide hK).trans (hxc.keep _), fun y10 hxd => ?_⟩
                      replace hP : Hid (Sp w [] w [] [(r3, 28, #[.slice A V.length cA, .slice B E.length cB]), (bv, 3, #[.int .i64 v])] [(3, 1, .slice (some ⟨bi, oi, none⟩) p c2, p, ids.flatMap encI), (3, 1, .slice A6 n6 cA6, n6, ([] ++ L ++ [v]).flatMap encI)] y10) := hide ((unhide hP).ext (hxc.trans hxd))
                      replace hK := hide ((unhide hK).trans ((hxc.trans hxd).keep _))
                      have hsl' := hide (hsl.ext hxd)
                      clear hsl
                      clear hxc hxd
                      try go_frame
                      refine lx_rekeep (unhide hK) [9] [] 0 1 #[true,true,true,true,true,true,true,true,true,false] #[true,true,true,true,true,true,true,true,true,true] (by kernel_rfl) rfl (by rfl) ?_
                      clear hK
                      iterate 1
                        refine ql_want (v := ?_) rfl (by rfl) (fun W hW => ?_) ?_
                        rotate_left
                        · go_simp
                          first | done | rfl
                        go_frame
                      refine wpQL_nil (fun y11 hxq => ?_)
                      have hK := hide (hxq.keep [])
                      replace hP : Hid (Sp w [] w [] [(r3, 28, #[.slice A V.length cA, .slice B E.length cB]), (bv, 3, #[.int .i64 v])] [(3, 1, .slice (some ⟨bi, oi, none⟩) p c2, p, ids.flatMap encI), (3, 1, .slice A6 n6 cA6, n6, ([] ++ L ++ [v]).flatMap encI)] y11) := hide ((unhide hP).ext hxq)
                      replace hsl' := hide ((unhide hsl').ext hxq)
                      clear hxq
                      refine wpX_done (by kernel_rfl) ?_
                      try go_frame
                      clear hK
                      try dsimp only
                      repeat ((fail_if_success (with_reducible refine wp_reg (id := 20) ?_)); (first | go_values | go_skip | go_step | go_guarded | go_upon | go_in | go_back | fail))
                      with_reducible refine wp_reg (id := 20) ?_
                      iterate 2
                        refine wpO_want rfl ?_
                        go_simp
                      refine wpO_done ?_
                      try go_frame
                      go_wp2_with fail
                      refine Sp.leaves0 ?_
                      refine ⟨_, results_tmp rfl _ _ _, ?_⟩
                      rw [show res = some l by rw [unhide hstep, unhide hG4]]
                      exact HoPost.yes (unhide hnl') (unhide hsl') (unhide hP).extf
      · have hke : k = p := by omega
        have hres : res = none := by rw [unhide hrk', List.drop_eq_nil_of_le (by have := unhide hp'; omega)]; rfl
        have hres' := hide hres
        clear hres hrk'
        subst hke
        go_wp2_with fail
        refine Sp.leaves0 ?_
        refine ⟨_, results_tmp rfl _ _ _, ?_⟩
        rw [unhide hres']
        exact HoPost.no (unhide hP).extf

theorem holeTop_len {V : List (Int × Thing)} {E : List ((Int × Int) × Thing)} (hi : GInv V E) {l : List Int} (h : holeTop V E = some l) : 0 < l.length := by
  have := holeTop_ok (V := V) (E := E) hi
  rw [h] at this
  obtain ⟨n, hg, _⟩ := this
  have := hg.2.1.1
  omega
set_option maxRecDepth 100000 in
set_option maxHeartbeats 16000000 in
theorem HoleR_any (A B : Option Addr) (V : List (Int × Thing)) (E : List ((Int × Int) × Thing)) (cA cB : Nat) (w : World) (hV : SlAt encV 3 w A V) (hnV : V.length ≤ 4096) (hE : SlAt encE 4 w B E) (hnE : E.length ≤ 4096) :
    Calls Tryz.prog 18 #[.agg #[.slice A V.length cA, .slice B E.length cB]] w (HoPost w (holeTop V E)) := by
  have hV' := hide hV
  have hE' := hide hE
  have hl4 : V.length ≤ 4096 ∧ E.length ≤ 4096 := ⟨hnV, hnE⟩
  have hl4' := hide hl4
  obtain ⟨ids, hids⟩ : ∃ ids, ids = V.map (·.1) := ⟨_, rfl⟩
  have hidl := hide (show ids.length ≤ 4096 by rw [hids, List.length_map]; exact hl4.1)
  have hres : holeTop V E = (List.range (ids.length - 3)).findSome? fun i => ids.findSome? fun s => holeQ V E (i + 4) (i + 3) [s] := by rw [hids, List.length_map]; rfl
  generalize holeTop V E = res at *
  have hres' := hide hres
  have hids' := hide hids
  clear hV hE hnV hnE hl4 hids hres
  have hP := hide (Sp.new w)
  refine callsIn_wide.1 (callsIn_of_wp_marks (n := 0) Tryz.func18 rfl trivial (wpIn_wide.2 ?_))
  simp only [Tryz.ntmps18, List.size_toArray, List.length_cons, List.length_nil, Nat.reduceAdd, Nat.reduceSub, Array.replicate_succ, Array.replicate_zero, List.push_toArray, List.append_toArray, List.nil_append, List.cons_append]
  try dsimp only
  repeat ((fail_if_success (with_reducible refine wp_reg (id := 0) ?_)); (first | go_values | go_skip | go_step | go_guarded | go_upon | go_in | go_back | fail))
  with_reducible refine wp_reg (id := 0) ?_
  refine (unhide hP).allocO 28 #[.slice A V.length cA, .slice B E.length cB] rfl (run_box (v := .agg #[.slice A V.length cA, .slice B E.length cB]) rfl rfl) ?_
  intro r1 y1 hQ
  replace hP : Hid (Sp w [] w [] [(r1, 28, #[.slice A V.length cA, .slice B E.length cB])] [] y1) := hide hQ
  clear hQ
  refine wpO_want rfl ?_
  go_simp
  refine wpO_done ?_
  try go_frame
  try dsimp only
  repeat ((fail_if_success (with_reducible refine wp_reg (id := 1) ?_)); (first | go_values | go_skip | go_step | go_guarded | go_upon | go_in | go_back | fail))
  with_reducible refine wp_reg (id := 1) ?_
  have q0 := (unhide hP).cell 0 0 (v := .slice A V.length cA) rfl rfl
  have q1 := (unhide hP).cell 0 1 (v := .slice B E.length cB) rfl rfl
  have hself := Ext.refl y1
  refine wpO_want rfl ?_
  go_simp
  clear q0 q1 hself
  refine wpO_want rfl ?_
  go_simp
  have hca := ids_any A B V E cA cB y1 ((unhide hV').ext (unhide hP).extf) (unhide hl4').1
  rw [← unhide hids'] at hca
  refine (hca).mono ?_
  rintro _ y2 ⟨A2, c2, rfl, ho, hxc⟩
  obtain ⟨p, hp⟩ : ∃ p, p = ids.length := ⟨_, rfl⟩
  rw [← hp] at ho ⊢
  have hp' := hide hp
  clear hca hp
  refine ⟨_, rfl, ?_⟩
  replace hP : Hid (Sp w [] w [] [(r1, 28, #[.slice A V.length cA, .slice B E.length cB])] [(3, 1, .slice A2 p c2, p, ids.flatMap encI)] y2) := hide ((unhide hP).addRow hxc ho)
  clear hxc ho
  refine wpO_want rfl ?_
  go_simp
  refine wpO_done ?_
  try go_frame
  have hr0 := hide (unhide hres')
  rw [← unhide hp'] at hr0
  have hpl := hide (show p ≤ 4096 by rw [unhide hp']; exact unhide hidl)
  clear hres'
  try dsimp only
  repeat ((fail_if_success (with_reducible refine wp_reg (id := 2) ?_)); (first | go_values | go_skip | go_step | go_guarded | go_upon | go_in | go_back | fail))
  with_reducible refine wp_reg (id := 2) ?_
  refine wpO_want rfl ?_
  go_simp
  refine wpO_done ?_
  try go_frame
  go_wp2_with fail
  refine wp_loop_ix (fun fi a' wr => ∃ (i : Nat), a'.tmps.size = 32 ∧ a'.tmps.getD 1 undef = .pointer (some ⟨r1, 0, none⟩) ∧ a'.tmps.getD 3 undef = .slice A2 p c2 ∧ a'.tmps.getD 4 undef = .int .i64 ((i + 4 : Nat) : Int) ∧ a'.defers = [] ∧ i ≤ p - 3 ∧ (res = ((List.range (p - 3)).drop i).findSome? (fun i => ids.findSome? fun s => holeQ V E (i + 4) (i + 3) [s])) ∧ Sp w [] w [] [(r1, 28, #[.slice A V.length cA, .slice B E.length cB])] [(3, 1, .slice A2 p c2, p, ids.flatMap encI)] wr ∧ fi = p - 3 - i) (p - 3 - 0) ?_ ?_
  · exact ⟨0, rfl, rfl, rfl, rfl, rfl, Nat.zero_le _, by rw [List.drop_zero]; exact unhide hr0, unhide hP, rfl⟩
  · rintro fi ⟨tm, dfs⟩ wr ⟨i, hsz, e1, e3, e4, hdf, hii, hri, hPr, hfm⟩
    obtain ⟨us, rfl⟩ : ∃ us : Nat → Value, tm = #[us 0, us 1, us 2, us 3, us 4, us 5, us 6, us 7, us 8, us 9, us 10, us 11, us 12, us 13, us 14, us 15, us 16, us 17, us 18, us 19, us 20, us 21, us 22, us 23, us 24, us 25, us 26, us 27, us 28, us 29, us 30, us 31] := ⟨fun i => tm.getD i undef, arr_fn hsz⟩
    have h1 : us 1 = .pointer (some ⟨r1, 0, none⟩) := e1
    have h3 : us 3 = .slice A2 p c2 := e3
    have h4 : us 4 = .int .i64 ((i + 4 : Nat) : Int) := e4
    have hdf2 : dfs = [] := hdf
    subst hdf2
    clear hdf hsz e1 e3 e4
    simp only [h1, h3, h4]
    clear h1 h3 h4
    clear hP hr0
    have hP := hide hPr
    have hri' := hide hri
    have hfm' := hide hfm
    have hib : ((i + 4 : Nat) : Int) ≤ 5000 := by have := unhide hpl; omega
    clear hPr hri hfm
    by_cases hlt : ((i + 4 : Nat) : Int) ≤ (p : Int)
    · have hiR : i < (List.range (p - 3)).length := by rw [List.length_range]; omega
      have hstep := drop_find hiR (fun i => ids.findSome? fun s => holeQ V E (i + 4) (i + 3) [s])
      rw [← unhide hri', List.getElem_range] at hstep
      obtain ⟨ri, hriq⟩ : ∃ ri, ri = ids.findSome? fun s => holeQ V E (i + 4) (i + 3) [s] := ⟨_, rfl⟩
      rw [← hriq] at hstep
      have hst2 := hide hstep
      have hriq' := hide (show ri = (ids.drop 0).findSome? fun s => holeQ V E (i + 4) (i + 3) [s] by rw [List.drop_zero]; exact hriq)
      have hip := hide (show i < p - 3 by omega)
      clear hstep hri' hriq
      try dsimp only
      repeat ((fail_if_success (with_reducible refine wp_reg (id := 3) ?_)); (first | go_values | go_skip | go_step | go_guarded | go_upon | go_in | go_back | fail))
      with_reducible refine wp_reg (id := 3) ?_
      iterate 4
        refine wpO_want rfl ?_
        go_simp
      refine wpO_done ?_
      try go_frame
      try dsimp only
      repeat ((fail_if_success (with_reducible refine wp_reg (id := 5) ?_)); (first | go_values | go_skip | go_step | go_guarded | go_upon | go_in | go_back | fail))
      with_reducible refine wp_reg (id := 5) ?_
      refine wpO_want rfl ?_
      go_simp
      refine wpO_done ?_
      try go_frame
      go_wp2_with fail
      refine wp_loop_ix (fun fi a' wr => ∃ (k : Nat), a'.tmps.size = 32 ∧ a'.tmps.getD 1 undef = .pointer (some ⟨r1, 0, none⟩) ∧ a'.tmps.getD 3 undef = .slice A2 p c2 ∧ a'.tmps.getD 4 undef = .int .i64 ((i + 4 : Nat) : Int) ∧ a'.tmps.getD 5 undef = .int .i64 (k : Nat) ∧ a'.defers = [] ∧ k ≤ p ∧ (ri = (ids.drop k).findSome? fun s => holeQ V E (i + 4) (i + 3) [s]) ∧ Sp w [] w [] [(r1, 28, #[.slice A V.length cA, .slice B E.length cB])] [(3, 1, .slice A2 p c2, p, ids.flatMap encI)] wr ∧ fi = p - k) (p - 0) ?_ ?_
      · exact ⟨0, rfl, rfl, rfl, rfl, rfl, rfl, Nat.zero_le _, unhide hriq', unhide hP, rfl⟩
      · rintro fi ⟨tm, dfs⟩ wr ⟨k, hsz, e1, e3, e4, e5, hdf, hk, hrk, hPr, hfj⟩
        obtain ⟨us, rfl⟩ : ∃ us : Nat → Value, tm = #[us 0, us 1, us 2, us 3, us 4, us 5, us 6, us 7, us 8, us 9, us 10, us 11, us 12, us 13, us 14, us 15, us 16, us 17, us 18, us 19, us 20, us 21, us 22, us 23, us 24, us 25, us 26, us 27, us 28, us 29, us 30, us 31] := ⟨fun i => tm.getD i undef, arr_fn hsz⟩
        have h1 : us 1 = .pointer (some ⟨r1, 0, none⟩) := e1
        have h3 : us 3 = .slice A2 p c2 := e3
        have h4 : us 4 = .int .i64 ((i + 4 : Nat) : Int) := e4
        have h5 : us 5 = .int .i64 (k : Nat) := e5
        have hdf2 : dfs = [] := hdf
        subst hdf2
        clear hdf hsz e1 e3 e4 e5
        simp only [h1, h3, h4, h5]
        clear h1 h3 h4 h5
        clear hP hriq'
        have hP := hide hPr
        have hrk' := hide hrk
        have hfj' := hide hfj
        clear hPr hrk hfj
        by_cases hkp : k < p
        · have hkI : k < ids.length := by have := unhide hp'; omega
          have hkp' := hide hkp
          have hkl : (k : Int) < (p : Int) := by omega
          have hkb : (k : Int) ≤ 4096 := by have := unhide hpl; omega
          obtain ⟨v, hv⟩ : ∃ v, v = ids[k] := ⟨_, rfl⟩
          have hstep := hide (drop_find hkI fun s => holeQ V E (i + 4) (i + 3) [s])
          rw [← unhide hrk', ← hv] at hstep
          have hv' := hide hv
          clear hrk' hv
          try dsimp only
          repeat ((fail_if_success (with_reducible refine wp_reg (id := 6) ?_)); (first | go_values | go_skip | go_step | go_guarded | go_upon | go_in | go_back | fail))
          with_reducible refine wp_reg (id := 6) ?_
          iterate 4
            refine wpO_want rfl ?_
            go_simp
          refine wpO_done ?_
          try go_frame
          go_wp2_with fail
          obtain ⟨bi, oi, rfl, _⟩ := cellI (own_at (enc := encI) (by have h := (unhide hP).row 0 rfl; rw [unhide hp'] at h; exact h) (fun _ => rfl)) hkI
          have c0 := slK (S := []) (own_at (enc := encI) (by have h := (unhide hP).row 0 rfl; rw [unhide hp'] at h; exact h) (fun _ => rfl)) (by simp) hkI
          rw [← unhide hv'] at c0
          have q0 := (unhide hP).cellK (S := []) 0 0 (v := .slice A V.length cA) rfl rfl (by simp)
          have q1 := (unhide hP).cellK (S := []) 0 1 (v := .slice B E.length cB) rfl rfl (by simp)
          have hself := Keep.refl [] wr
          refine wp_regionK (P := Tryz.prog) [] [0,1,2,3,4,6] [] 3 #[true,true,true,true,true,false,true,false,false] (by kernel_rfl) (by kernel_rfl) rfl (by rfl) ?_
          iterate 6
            refine ql_want (v := ?_) rfl (by rfl) (fun W hW => ?_) ?_
            rotate_left
            · go_simp
              first | done | rfl
            go_frame
          refine wpQL_nil (fun y3 hxq => ?_)
          have hK := hide (hxq.keep [])
          replace hP : Hid (Sp w [] w [] [(r1, 28, #[.slice A V.length cA, .slice B E.length cB])] [(3, 1, .slice (some ⟨bi, oi, none⟩) p c2, p, ids.flatMap encI)] y3) := hide ((unhide hP).ext hxq)
          clear hxq
          clear c0 q0 q1 hself
          refine lx_one (i := 5) (by kernel_rfl) rfl (by rfl) #[true,true,true,true,true,true,true,false,false] (by rfl) ?_
          refine (unhide hP).allocL (unhide hK) (v := fun b => .slice (some ⟨b, 0, none⟩) 1 1) 3 #[.int .i64 v] ?_ ?_
          · exact run_build1 rfl rfl
          intro bv y4 hQ hK2 hg2
          replace hP : Hid (Sp w [] w [] [(r1, 28, #[.slice A V.length cA, .slice B E.length cB]), (bv, 3, #[.int .i64 v])] [(3, 1, .slice (some ⟨bi, oi, none⟩) p c2, p, ids.flatMap encI)] y4) := hide hQ
          replace hK := hide hK2
          have hge_bv := hide hg2
          clear hQ hK2 hg2
          try go_frame
          have hca := holeR_any A B V E cA cB (unhide hl4') (i + 4) (by omega) (i + 3) (some ⟨bv, 0, none⟩) [v] 1 y4 ((unhide hV').ext (unhide hP).extf) ((unhide hE').ext (unhide hP).extf) (slat_one ((unhide hP).get 1 rfl)) (by simp) (by simp; omega)
          simp only [List.length_cons, List.length_nil, Nat.zero_add] at hca
          obtain ⟨oo, hoo⟩ : ∃ oo, oo = holeQ V E (i + 4) (i + 3) [v] := ⟨_, rfl⟩
          rw [← hoo] at hca hstep
          clear hoo
          cases oo with
          | none =>
            refine lx_one (i := 7) (by kernel_rfl) rfl (by rfl) #[true,true,true,true,true,true,true,true,false] (by rfl) ?_
            go_simp
            refine (hca).mono ?_
            rintro _ zy5 ⟨rfl, hxc⟩
            clear hca
            refine ⟨_, rfl, (unhide hK).trans (hxc.keep _), fun y5 hxd => ?_⟩
            replace hP : Hid (Sp w [] w [] [(r1, 28, #[.slice A V.length cA, .slice B E.length cB]), (bv, 3, #[.int .i64 v])] [(3, 1, .slice (some ⟨bi, oi, none⟩) p c2, p, ids.flatMap encI)] y5) := hide ((unhide hP).ext (hxc.trans hxd))
            replace hK := hide ((unhide hK).trans ((hxc.trans hxd).keep _))
            clear hxc hxd
            try go_frame
            refine lx_one (i := 8) (by kernel_rfl) rfl (by rfl) #[true,true,true,true,true,true,true,true,true] (by rfl) ?_
            refine (unhide hP).valL (unhide hK) (v := .slice none 0 0) ?_ ?_
            · go_simp
            intro y6 hQ hK2
            replace hP : Hid (Sp w [] w [] [(r1, 28, #[.slice A V.length cA, .slice B E.length cB]), (bv, 3, #[.int .i64 v])] [(3, 1, .slice (some ⟨bi, oi, none⟩) p c2, p, ids.flatMap encI)] y6) := hide hQ
            replace hK := hide hK2
            clear hQ hK2
            try go_frame
            refine wpX_done (by kernel_rfl) ?_
            try go_frame
            clear hK
            try dsimp only
            repeat ((fail_if_success (with_reducible refine wp_reg (id := 9) ?_)); (first | go_values | go_skip | go_step | go_guarded | go_upon | go_in | go_back | fail))
            with_reducible refine wp_reg (id := 9) ?_
            iterate 2
              refine wpO_want rfl ?_
              go_simp
            refine wpO_done ?_
            try go_frame
            have hnew := hide (show ri = (ids.drop (k + 1)).findSome? (fun s => holeQ V E (i + 4) (i + 3) [s]) from unhide hstep)
            replace hP : Hid (Sp w [] w [] [(r1, 28, #[.slice A V.length cA, .slice B E.length cB])] [(3, 1, .slice (some ⟨bi, oi, none⟩) p c2, p, ids.flatMap encI)] y6) := hide ((unhide hP).sub (List.sublist_append_left _ ([(bv, 3, #[.int .i64 v])] : List Cl)) (List.Sublist.refl _))
            go_wp2_with fail
            have h1 := unhide hkp'
            first
            | exact ⟨p - (k + 1), ⟨k + 1, (by first | rfl | trivial), (by first | rfl | trivial), (by first | rfl | trivial), (by first | rfl | (show _ = Value.int _ _; go_num) | go_num), (by first | rfl | (show _ = Value.int _ _; go_num) | go_num), (by first | rfl | trivial), by omega, unhide hnew, unhide hP, rfl⟩, by have := unhide hfj'; omega⟩
            | exact ⟨p - (k + 1), ⟨k + 1, (by first | omega | go_num), by omega, unhide hnew, unhide hP, rfl⟩, by have := unhide hfj'; omega⟩
          | some l =>
            refine lx_one (i := 7) (by kernel_rfl) rfl (by rfl) #[true,true,true,true,true,true,true,true,false] (by rfl) ?_
            go_simp
            refine (hca).mono ?_
            rintro _ zy5 ⟨bl, ol, cl, rfl, hsl, hxc⟩
            clear hca
            obtain ⟨nl, hnl⟩ : ∃ nl, nl = l.length := ⟨_, rfl⟩
            rw [← hnl]
            have hnl' := hide hnl
            clear hnl
            refine ⟨_, rfl, (unhide hK).trans (hxc.keep _), fun y5 hxd => ?_⟩
            replace hP : Hid (Sp w [] w [] [(r1, 28, #[.slice A V.length cA, .slice B E.length cB]), (bv, 3, #[.int .i64 v])] [(3, 1, .slice (some ⟨bi, oi, none⟩) p c2, p, ids.flatMap encI)] y5) := hide ((unhide hP).ext (hxc.trans hxd))
            replace hK := hide ((unhide hK).trans ((hxc.trans hxd).keep _))
            have hsl' := hide (hsl.ext hxd)
            clear hsl
            clear hxc hxd
            try go_frame
            refine lx_rekeep (unhide hK) [8] [] 0 1 #[true,true,true,true,true,true,true,true,false] #[true,true,true,true,true,true,true,true,true] (by kernel_rfl) rfl (by rfl) ?_
            clear hK
            iterate 1
              refine ql_want (v := ?_) rfl (by rfl) (fun W hW => ?_) ?_
              rotate_left
              · go_simp
                first | done | rfl
              go_frame
            refine wpQL_nil (fun y6 hxq => ?_)
            have hK := hide (hxq.keep [])
            replace hP : Hid (Sp w [] w [] [(r1, 28, #[.slice A V.length cA, .slice B E.length cB]), (bv, 3, #[.int .i64 v])] [(3, 1, .slice (some ⟨bi, oi, none⟩) p c2, p, ids.flatMap encI)] y6) := hide ((unhide hP).ext hxq)
            replace hsl' := hide ((unhide hsl').ext hxq)
            clear hxq
            refine wpX_done (by kernel_rfl) ?_
            try go_frame
            clear hK
            try dsimp only
            repeat ((fail_if_success (with_reducible refine wp_reg (id := 9) ?_)); (first | go_values | go_skip | go_step | go_guarded | go_upon | go_in | go_back | fail))
            with_reducible refine wp_reg (id := 9) ?_
            iterate 2
              refine wpO_want rfl ?_
              go_simp
            refine wpO_done ?_
            try go_frame
            go_wp2_with fail
            refine Sp.leaves0 ?_
            refine ⟨_, results_tmp rfl _ _ _, ?_⟩
            rw [show res = some l by rw [unhide hst2, unhide hstep]]
            exact HoPost.yes (unhide hnl') (unhide hsl') (unhide hP).extf
        · have hke : k = p := by omega
          have hrn : ri = none := by rw [unhide hrk', List.drop_eq_nil_of_le (by have := unhide hp'; omega)]; rfl
          have hnew := hide (show res = ((List.range (p - 3)).drop (i + 1)).findSome? (fun i => ids.findSome? fun s => holeQ V E (i + 4) (i + 3) [s]) by rw [unhide hst2, hrn])
          have hkl : ¬ (k : Int) < (p : Int) := by omega
          clear hrn hrk'
          try dsimp only
          repeat ((fail_if_success (with_reducible refine wp_reg (id := 6) ?_)); (first | go_values | go_skip | go_step | go_guarded | go_upon | go_in | go_back | fail))
          with_reducible refine wp_reg (id := 6) ?_
          iterate 4
            refine wpO_want rfl ?_
            go_simp
          refine wpO_done ?_
          try go_frame
          clear hkl
          have hw4 : IntKind.i64.wrap ((i : Int) + 4 + 1) = (i : Int) + 4 + 1 := IntWalk.i64_in _ (by omega)
          try dsimp only
          repeat ((fail_if_success (with_reducible refine wp_reg (id := 4) ?_)); (first | go_values | go_skip | go_step | go_guarded | go_upon | go_in | go_back | fail))
          with_reducible refine wp_reg (id := 4) ?_
          iterate 3
            refine wpO_want rfl ?_
            go_simp
          refine wpO_done ?_
          try go_frame
          go_wp2_with fail
          have h1 := unhide hip
          first
          | exact ⟨p - 3 - (i + 1), ⟨i + 1, (by first | rfl | trivial), (by first | rfl | trivial), (by first | rfl | trivial), (by first | rfl | (show _ = Value.int _ _; go_num) | go_num), (by first | rfl | trivial), by omega, unhide hnew, unhide hP, rfl⟩, by have := unhide hfm'; omega⟩
          | exact ⟨p - 3 - (i + 1), ⟨i + 1, (by first | omega | go_num), by omega, unhide hnew, unhide hP, rfl⟩, by have := unhide hfm'; omega⟩
    · skip
      have hres : res = none := by rw [unhide hri', List.drop_eq_nil_of_le (by rw [List.length_range]; omega)]; rfl
      have hres' := hide hres
      clear hres hri'
      go_wp2_with fail
      refine Sp.leaves0 ?_
      refine ⟨_, results_tmp rfl _ _ _, ?_⟩
      rw [unhide hres']
      exact HoPost.no (unhide hP).extf
end Go.Proofs.YtmfkkkhddigkfaaGreatDoor
/- palmettelaw24.ChordalHole answers true. Conditions: see each theorem. -/
namespace Go.Proofs.YtmfkkkhddigkfaaGreatDoor
open Go Go.RowKit Go.Shelf
attribute [local go_sem] qUpon lUpon
attribute [local irreducible] wpO wpX wpQL

set_option maxRecDepth 100000 in
set_option maxHeartbeats 16000000 in
theorem chordalHole_walk (A : Option Addr) (L : List Ed) (cL : Nat) (w : World) (hL : SlAt encD 5 w A L) (hT : Tab w) :
    Calls Tryz.prog 4 #[.slice A L.length cL] w fun e w' => e = .returned (.bool true) ∧ Ext w w' := by
  have hL' := hide hL
  have hT' := hide hT
  clear hL hT
  have hP := hide (Sp.new w)
  refine callsIn_wide.1 (callsIn_of_wp_marks (n := 0) Tryz.func4 rfl trivial (wpIn_wide.2 ?_))
  simp only [Tryz.ntmps4, List.size_toArray, List.length_cons, List.length_nil, Nat.reduceAdd, Nat.reduceSub, Array.replicate_succ, Array.replicate_zero, List.push_toArray, List.append_toArray, List.nil_append, List.cons_append]
  try dsimp only
  repeat ((fail_if_success (with_reducible refine wp_reg (id := 1) ?_)); (first | go_values | go_skip | go_step | go_guarded | go_upon | go_in | go_back | fail))
  with_reducible refine wp_reg (id := 1) ?_
  refine wpO_want rfl ?_
  go_simp
  refine (known24_any _ ((unhide hT').ext (unhide hP).extf)).mono ?_
  rintro _ y1 ⟨rfl, hxc⟩
  refine ⟨_, rfl, ?_⟩
  replace hP : Hid (Sp w [] w [] [] [] y1) := hide ((unhide hP).ext hxc)
  clear hxc
  refine wpO_want rfl ?_
  go_simp
  refine wpO_done ?_
  try go_frame
  try dsimp only
  repeat ((fail_if_success (with_reducible refine wp_reg (id := 3) ?_)); (first | go_values | go_skip | go_step | go_guarded | go_upon | go_in | go_back | fail))
  with_reducible refine wp_reg (id := 3) ?_
  refine wpO_val rfl (run_move rfl rfl) ?_
  go_frame
  refine wpO_want rfl ?_
  go_simp
  have hca := take_any A L cL 8 y1 ((unhide hL').ext (unhide hP).extf)
  have hi := hide (mdS_inv L)
  refine hca.mono ?_
  clear hca
  generalize mdS L = S at *
  obtain ⟨V, E⟩ := S
  try dsimp only at hi ⊢
  rintro _ y2 ⟨g, bv, be, A1, B1, cA, cB, rfl, hg0, hs0, he0, hxc⟩
  refine ⟨_, rfl, ?_⟩
  replace hP : Hid (Sp w [] w [] [] [] y2) := hide ((unhide hP).ext hxc)
  have hg := hide hg0
  have hsV := hide hs0
  have hsE := hide he0
  obtain ⟨q, hq⟩ : ∃ q, q = decide ((V.length : Int) ≤ 8) := ⟨_, rfl⟩
  rw [← hq]
  have hq' := hide hq
  have hnV := hide hg0.nV
  have hnE := hide hg0.nE
  clear hxc hg0 hs0 he0 hq
  generalize htu0 : Value.tuple _ = tu
  have htu := hide htu0
  clear htu0
  refine wpO_val rfl (run_move rfl rfl) ?_
  go_frame
  refine wpO_val rfl (run_extract (i := 0) (v := .pointer (some ⟨g, 0, none⟩)) rfl (unhide htu).symm rfl) ?_
  go_frame
  refine wpO_val rfl (run_extract (i := 1) (v := .agg #[.slice A1 V.length cA, .slice B1 E.length cB]) rfl (unhide htu).symm rfl) ?_
  go_frame
  refine wpO_val rfl (run_extract (i := 2) (v := .bool q) rfl (unhide htu).symm rfl) ?_
  go_frame
  refine (unhide hP).allocT 28 #[.slice none 0 0, .slice none 0 0] rfl (by go_simp) ?_
  intro r4 y3 hQ hxa hga
  replace hP : Hid (Sp w [] w [] [(r4, 28, #[.slice none 0 0, .slice none 0 0])] [] y3) := hide hQ
  clear hQ
  try go_frame
  refine wpO_want rfl ?_
  go_simp
  refine (unhide hP).setT 0 #[.slice A1 V.length cA, .slice B1 E.length cB] rfl rfl (fun hb => run_store_row (v := .agg #[.slice A1 V.length cA, .slice B1 E.length cB]) rfl (by rfl) (by rfl) (by simp [go_sem]) hb rfl (fun u hu => by simp [Value.cells] at hu; rcases hu with rfl | rfl <;> rfl)) ?_
  intro y4 hQ hkq
  replace hP : Hid (Sp w [] w [] [(r4, 28, #[.slice A1 V.length cA, .slice B1 E.length cB])] [] y4) := hide hQ
  have hxs := hxa.of_new hkq (fun x hx => by rw [List.mem_singleton] at hx; rw [hx]; exact hga)
  clear hQ hkq hxa hga
  try go_frame
  replace hg := hide ((unhide hg).ext (hxs))
  replace hsV := hide ((unhide hsV).ext (hxs))
  replace hsE := hide ((unhide hsE).ext (hxs))
  clear hxs
  refine wpO_want rfl ?_
  go_simp
  refine wpO_done ?_
  try go_frame
  clear htu
  cases q
  · skip
    go_wp2_with fail
    refine Sp.leaves0 ?_
    exact ⟨_, results_tmp rfl _ _ _, rfl, (unhide hP).extf⟩
  · skip
    have href := hole_refQ (unhide hi) (by have := (unhide hi).nv; omega)
    have hpos := hide (fun l (h : holeTop V E = some l) => holeTop_len (unhide hi) h)
    have hht := hide (fun (W : World) (hW : IsG W g bv be V E) (hT : Tab W) => hole_any (some ⟨g, 0, none⟩) V E W (GL.of hW) hT)
    rw [href] at hht
    have hrr := hide (fun (W : World) (h1 : SlAt encV 3 W A1 V) (h2 : SlAt encE 4 W B1 E) => HoleR_any A1 B1 V E cA cB W h1 (unhide hnV) h2 (unhide hnE))
    have hlen := hide (show ∀ l, holeTop V E = some l → l.length ≤ 4096 from fun l h => by
      have h1 := holeTop_ok (V := V) (E := E) (unhide hi)
      rw [h] at h1
      obtain ⟨n, hg, _⟩ := h1
      have h2 := good_len (unhide hi) hg
      have := (unhide hi).nv
      rw [hg.1]; omega)
    generalize holeTop V E = ht at *
    clear href
    try dsimp only
    repeat ((fail_if_success (with_reducible refine wp_reg (id := 6) ?_)); (first | go_values | go_skip | go_step | go_guarded | go_upon | go_in | go_back | fail))
    with_reducible refine wp_reg (id := 6) ?_
    refine wpO_val rfl (run_move rfl rfl) ?_
    go_frame
    refine wpO_want rfl ?_
    go_simp
    have hca := unhide hht y4 (unhide hg) ((unhide hT').ext (unhide hP).extf)
    cases ht with
    | none =>
      simp only [Option.getD_none, Option.isSome_none] at hca
      refine (hca).mono ?_
      rintro _ y5 ⟨Ah, ch, rfl, hs0, hxc⟩
      clear hca
      simp only [List.length_nil] at hs0 ⊢
      refine ⟨_, rfl, ?_⟩
      replace hP : Hid (Sp w [] w [] [(r4, 28, #[.slice A1 V.length cA, .slice B1 E.length cB])] [] y5) := hide ((unhide hP).ext hxc)
      replace hg := hide ((unhide hg).ext (hxc))
      replace hsV := hide ((unhide hsV).ext (hxc))
      replace hsE := hide ((unhide hsE).ext (hxc))
      clear hxc
      have hsh := hide hs0
      clear hs0
      generalize htu0 : Value.tuple _ = tu
      have htu := hide htu0
      clear htu0
      refine wpO_val rfl (run_move rfl rfl) ?_
      go_frame
      refine wpO_val rfl (run_extract (i := 0) (v := .slice Ah 0 ch) rfl (unhide htu).symm rfl) ?_
      go_frame
      refine wpO_val rfl (run_extract (i := 1) (v := .bool false) rfl (unhide htu).symm rfl) ?_
      go_frame
      iterate 2
        refine wpO_want rfl ?_
        go_simp
      refine wpO_done ?_
      try go_frame
      clear htu
      try dsimp only
      repeat ((fail_if_success (with_reducible refine wp_reg (id := 7) ?_)); (first | go_values | go_skip | go_step | go_guarded | go_upon | go_in | go_back | fail))
      with_reducible refine wp_reg (id := 7) ?_
      have q0 := (unhide hP).cell 0 0 (v := .slice A1 V.length cA) rfl rfl
      have q1 := (unhide hP).cell 0 1 (v := .slice B1 E.length cB) rfl rfl
      have hself := Ext.refl y5
      refine wpO_want rfl ?_
      go_simp
      clear q0 q1 hself
      refine wpO_want rfl ?_
      go_simp
      have hca := unhide hrr y5 (unhide hsV) (unhide hsE)
      refine (hca).mono ?_
      rintro _ y6 ⟨rfl, hxc⟩
      clear hca
      refine ⟨_, rfl, ?_⟩
      replace hP : Hid (Sp w [] w [] [(r4, 28, #[.slice A1 V.length cA, .slice B1 E.length cB])] [] y6) := hide ((unhide hP).ext hxc)
      replace hg := hide ((unhide hg).ext (hxc))
      replace hsV := hide ((unhide hsV).ext (hxc))
      replace hsE := hide ((unhide hsE).ext (hxc))
      replace hsh := hide ((unhide hsh).ext (hxc))
      clear hxc
      refine wpO_want rfl ?_
      go_simp
      refine wpO_done ?_
      try go_frame
      try dsimp only
      repeat ((fail_if_success (with_reducible refine wp_reg (id := 8) ?_)); (first | go_values | go_skip | go_step | go_guarded | go_upon | go_in | go_back | fail))
      with_reducible refine wp_reg (id := 8) ?_
      iterate 9
        refine wpO_want rfl ?_
        go_simp
      have hca := same_ints Ah none [] [] 0 0 ch 0 y6 (unhide hsh) (fun h => absurd rfl h) rfl rfl (by omega) (by omega)
      rw [decide_eq_true rfl] at hca
      refine (hca).mono ?_
      rintro _ y7 ⟨rfl, hxc⟩
      clear hca
      refine ⟨_, rfl, ?_⟩
      replace hP : Hid (Sp w [] w [] [(r4, 28, #[.slice A1 V.length cA, .slice B1 E.length cB])] [] y7) := hide ((unhide hP).ext hxc)
      replace hg := hide ((unhide hg).ext (hxc))
      replace hsV := hide ((unhide hsV).ext (hxc))
      replace hsE := hide ((unhide hsE).ext (hxc))
      replace hsh := hide ((unhide hsh).ext (hxc))
      clear hxc
      iterate 2
        refine wpO_want rfl ?_
        go_simp
      refine wpO_done ?_
      try go_frame
      go_wp2_with fail
      refine Sp.leaves0 ?_
      exact ⟨_, results_tmp rfl _ _ _, rfl, (unhide hP).extf⟩
    | some l =>
      simp only [Option.getD_some, Option.isSome_some] at hca
      obtain ⟨n, hn⟩ : ∃ n, n = l.length := ⟨_, rfl⟩
      have hn0 : 0 < n := by rw [hn]; exact unhide hpos l rfl
      have hnI : (0 : Int) < (n : Int) := by omega
      have hnl : n ≤ 4096 := by rw [hn]; exact unhide hlen l rfl
      have hn' := hide hn
      refine (hca).mono ?_
      rintro _ y5 ⟨Ah, ch, rfl, hs0, hxc⟩
      clear hca
      rw [← hn]
      clear hn
      refine ⟨_, rfl, ?_⟩
      replace hP : Hid (Sp w [] w [] [(r4, 28, #[.slice A1 V.length cA, .slice B1 E.length cB])] [] y5) := hide ((unhide hP).ext hxc)
      replace hg := hide ((unhide hg).ext (hxc))
      replace hsV := hide ((unhide hsV).ext (hxc))
      replace hsE := hide ((unhide hsE).ext (hxc))
      clear hxc
      have hsh := hide hs0
      clear hs0
      generalize htu0 : Value.tuple _ = tu
      have htu := hide htu0
      clear htu0
      refine wpO_val rfl (run_move rfl rfl) ?_
      go_frame
      refine wpO_val rfl (run_extract (i := 0) (v := .slice Ah n ch) rfl (unhide htu).symm rfl) ?_
      go_frame
      refine wpO_val rfl (run_extract (i := 1) (v := .bool true) rfl (unhide htu).symm rfl) ?_
      go_frame
      iterate 2
        refine wpO_want rfl ?_
        go_simp
      refine wpO_done ?_
      try go_frame
      clear htu
      try dsimp only
      repeat ((fail_if_success (with_reducible refine wp_reg (id := 7) ?_)); (first | go_values | go_skip | go_step | go_guarded | go_upon | go_in | go_back | fail))
      with_reducible refine wp_reg (id := 7) ?_
      have q0 := (unhide hP).cell 0 0 (v := .slice A1 V.length cA) rfl rfl
      have q1 := (unhide hP).cell 0 1 (v := .slice B1 E.length cB) rfl rfl
      have hself := Ext.refl y5
      refine wpO_want rfl ?_
      go_simp
      clear q0 q1 hself
      refine wpO_want rfl ?_
      go_simp
      have hca := unhide hrr y5 (unhide hsV) (unhide hsE)
      refine (hca).mono ?_
      rintro _ y6 ⟨bl, ol, cl, rfl, hs0, hxc⟩
      clear hca
      rw [← unhide hn']
      refine ⟨_, rfl, ?_⟩
      replace hP : Hid (Sp w [] w [] [(r4, 28, #[.slice A1 V.length cA, .slice B1 E.length cB])] [] y6) := hide ((unhide hP).ext hxc)
      replace hg := hide ((unhide hg).ext (hxc))
      replace hsV := hide ((unhide hsV).ext (hxc))
      replace hsE := hide ((unhide hsE).ext (hxc))
      replace hsh := hide ((unhide hsh).ext (hxc))
      clear hxc
      have hsl := hide hs0
      clear hs0
      refine wpO_want rfl ?_
      go_simp
      refine wpO_done ?_
      try go_frame
      try dsimp only
      repeat ((fail_if_success (with_reducible refine wp_reg (id := 8) ?_)); (first | go_values | go_skip | go_step | go_guarded | go_upon | go_in | go_back | fail))
      with_reducible refine wp_reg (id := 8) ?_
      iterate 9
        refine wpO_want rfl ?_
        go_simp
      have hca := same_ints Ah (some ⟨bl, ol, none⟩) l l n n ch cl y6 (unhide hsh) (unhide hsl) (unhide hn') (unhide hn') (by omega) (by omega)
      rw [decide_eq_true rfl] at hca
      refine (hca).mono ?_
      rintro _ y7 ⟨rfl, hxc⟩
      clear hca
      refine ⟨_, rfl, ?_⟩
      replace hP : Hid (Sp w [] w [] [(r4, 28, #[.slice A1 V.length cA, .slice B1 E.length cB])] [] y7) := hide ((unhide hP).ext hxc)
      replace hg := hide ((unhide hg).ext (hxc))
      replace hsV := hide ((unhide hsV).ext (hxc))
      replace hsE := hide ((unhide hsE).ext (hxc))
      replace hsh := hide ((unhide hsh).ext (hxc))
      replace hsl := hide ((unhide hsl).ext (hxc))
      clear hxc
      iterate 2
        refine wpO_want rfl ?_
        go_simp
      refine wpO_done ?_
      try go_frame
      go_wp2_with fail
      refine Sp.leaves0 ?_
      exact ⟨_, results_tmp rfl _ _ _, rfl, (unhide hP).extf⟩
end Go.Proofs.YtmfkkkhddigkfaaGreatDoor
/- Every input makes the law ChordalHole answer true, and each argument reads behind the call as it read before: the given card, tied to the program's text. No condition. -/
namespace Go.Proofs.YtmfkkkhddigkfaaGreatDoor.chordalHoleRow
open Go.ChangeShapes Go.WideShapes Go.ChangeAt Go.RowKit
set_option linter.unusedVariables false

theorem own : ownKnob Tryz.prog.godebug = none := by kernel_rfl
theorem laidOut : laidOutB Tryz.prog = true := by kernel_rfl
theorem door_met (os : Os) (args : Array Value) : laidMetH Tryz.prog laidL ((World.doorLaid Tryz.prog 400 os).forCall (fun _ _ => 0) ⟨#[], args, []⟩).memory :=
  laidMetH_of_parts3 (fuel := 8) (laidMet_of_run' 8 (by kernel_rfl) (by kernel_rfl)) (by kernel_rfl) (by kernel_rfl)

set_option maxRecDepth 100000 in
theorem lifted (os : Os) (started : os.Started) (H : Type) (enc : TypeId × Value → H) :
    ReturnsInHanded {} Tryz.checked os 4 .any (fun w args => (Rows.chordalHoleSpec.pre enc Tryz.prog Tryz.f4 [] false w args ∧ laidMetH Tryz.prog laidL w) ∧ sizedMet enc Tryz.prog Tryz.f4 (OpenSpec.ofChange Rows.chordalHoleSpec) false w args)
      (Rows.chordalHoleSpec.post enc Tryz.prog Tryz.f4 false true false false) := by
  refine returnsInHanded_of_change_and (C := Tryz.checked) (X := fun w _ => laidMetH Tryz.prog laidL w) (fun _ _ _ hh h => h.of_heap hh) own started (by kernel_rfl) Tryz.func4
    (ChangeSpec.witness_shaped (enc := enc) (C := Tryz.checked) (os := os) (X := fun w _ => laidMetH Tryz.prog laidL w) false (World.doorLaid Tryz.prog 400 os) #[.slice none 0 0] 8 rfl (World.shaped_of_RefB (by kernel_rfl) (by kernel_rfl)) (by kernel_rfl) (by kernel_rfl) (by kernel_rfl) (door_met os _)) ?_
  intro W base args ds gs before hval0 hW _ _ hL _
  have hval : ∀ (j : Nat) t v, Tryz.f4.params[j]? = some t → args[j]? = some v → Value.okWide Tryz.prog W .any base t v := hval0
  have hW' := hW
  obtain ⟨p, q, hA0, hV, rfl, hfz, hnd⟩ := hW
  have hA : DataW.TrodAll enc Tryz.prog W 0 (fun _ => true) true Tryz.f4.params.toList args.toList ds p := hA0
  rw [Tryz.params4] at hA hval
  obtain ⟨v0, vs0, d0, ds0, p0, q0, hargs, rfl, rfl, h0, r0⟩ := trodAll_cons hA
  obtain ⟨rfl, rfl, rfl⟩ := trodAll_nil r0
  obtain rfl : args = #[v0] := by cases args; simp_all
  obtain ⟨rfl, rfl⟩ := trodVars_none hV
  obtain ⟨a0, len0, cap0, rfl⟩ := okWide_slice Tryz.underlying22 (hval 0 22 v0 rfl rfl)
  have k0 := h0
  have lt0 : ∀ x ∈ p0, x.block < W.heap.size := by obtain ⟨m, hm⟩ := k0; exact DataW.trod_lt m _ _ _ hm
  obtain ⟨fu0, hf0⟩ := h0
  obtain ⟨L0, hn0, hs0, ho0, hm0, hz0⟩ := open_edits (by simpa [Value.cells] using hf0)
  subst hn0
  clear hA0 hval0
  refine (chordalHole_walk a0 L0 cap0 W hs0 (tab_of_laid hL)).mono fun e W' ⟨he, bel⟩ => ?_
  subst he
  exact ⟨_, rfl, _, _, _, [], _, [], hW', trodAll_mk1 (shut_bool Tryz.underlying4 _), (trodAll_cons_mk (Below.trod laidOut (by kernel_rfl) (of_decide_eq_true (by kernel_rfl)) k0 bel lt0) trodAll_mk0), rfl, bel.frame _, fun h => by cases h⟩

theorem over : Rows.chordalHoleRow.holds Tryz.pinned (OpenSpec.ofChange Rows.chordalHoleSpec) :=
  OpenClaim.holds_of_wide 4 Tryz.f4 rfl rfl rfl rfl rfl rfl rfl ⟨rfl, rfl, rfl, rfl, rfl⟩ rfl rfl rfl rfl rfl (by kernel_rfl) Tryz.func4 (by kernel_rfl)
    (of_decide_eq_true (by kernel_rfl)) (by unfold Func.isWrapper; first | (rw [if_pos (by decide +kernel)]; kernel_rfl) | (rw [if_neg (by decide +kernel)]; exact ⟨rfl, rfl⟩))
    (fun os started H enc _ => lifted os started H enc)
end Go.Proofs.YtmfkkkhddigkfaaGreatDoor.chordalHoleRow
namespace Go.Proofs.YtmfkkkhddigkfaaGreatDoor
open Go
/-- the given statement -/
theorem chordalHole_holds : Rows.ChordalHoleCardSaid :=
  Claim7.holds_tied_plain_at .later [] [.data] true (true, "1596dd598ae18966c135c2eb214a5a15edddb6ae32de2291f299e988f1ed0cb5") false
    chordalHoleRow.over (fun _ h => by cases h) (by kernel_rfl) (fun _ h => by cases h) chordalHole_row_tie rfl ⟨rfl, rfl⟩ (by kernel_rfl) rfl
    (fun f fn hf hfn => by
      obtain rfl : f = 4 := Option.some.inj ((show Tryz.prog.funcNamed "palmette/palmettelaw24.ChordalHole" = some 4 by kernel_rfl).symm.trans hf) |>.symm
      obtain rfl : fn = Tryz.f4 := (Option.some.inj (Tryz.func4.symm.trans hfn)).symm
      exact ⟨by kernel_rfl, fun j t ht => by
        rw [Tryz.params4] at ht
        have h3 : t = 22 := by
          rcases j with _ | j
          · simp at ht; simp [ht]
          · simp at ht
        rcases h3 with rfl
        · exact (show Tryz.prog.wantsStandIn 22 = false by kernel_rfl)⟩)
    (by kernel_rfl)
#print axioms chordalHole_holds
end Go.Proofs.YtmfkkkhddigkfaaGreatDoor
