/- Parts of a proof, laid together. Each part says its own conditions. -/
import Derived.Test.YtbpeemhfjgcnaaaGreatC39
import Derived.Test.YtbpeemhfjgcnaaaGreatC40
namespace Go.Proofs.YtbpeemhfjgcnaaaGreat
open Go Go.RowKit Go.Shelf
attribute [local go_sem] qUpon lUpon
attribute [local irreducible] wpO wpX wpQL
def NumsIs (n : Nat) (to : List Int) : Prop := to.length = n ∧ to.Nodup ∧ ∀ x ∈ to,0 ≤ x ∧ x < 40
theorem NumsIs.ok {V : List (Int × Thing)} {to : List Int} (h : NumsIs V.length to) : OkTo V to := ⟨h.1,h.2.1,fun x hx => by have := h.2.2 x hx; omega⟩
theorem NumsIs.snoc {n : Nat} {to : List Int} {v : Int} (h : NumsIs n to) (hv : 0 ≤ v ∧ v < 40) (hm : v ∉ to) : NumsIs (n + 1) (to ++ [v]) := ⟨by rw [List.length_append,h.1]; rfl,List.nodup_append.2 ⟨h.2.1,by simp,fun a ha b hb e => by simp at hb; subst hb; subst e; exact hm ha⟩,fun x hx => by
 rcases List.mem_append.1 hx with hx | hx
 ·exact h.2.2 x hx
 ·simp at hx; subst hx; exact hv⟩
set_option maxRecDepth 100000 in
set_option maxHeartbeats 16000000 in
theorem wrong08_any (A1 B1 : Option Addr) (V : List (Int × Thing)) (nV cA nE cE : Nat) (A : Option Addr) (to : List Int) (n cB : Nat) (w : World) (hV : nV = V.length) (hA : SlAt encI 1 w A to) (hn : n = to.length) (hvl : nV ≤ 4096) :
  Calls Tryz.prog 21 #[.agg #[.slice A1 nV cA, .slice B1 nE cE], .slice A n cB] w fun e w' => e = .returned (.int .i64 (wrT V to)) ∧ Ext w w' := by
 have hV' := hide hV
 have hA' := hide hA
 have hn' := hide hn
 have hvl' := hide hvl
 clear hV hA hn hvl
 have hP := hide (Sp.new w)
 refine callsIn_wide.1 (callsIn_of_wp_marks (n := 0) Tryz.func21 rfl trivial (wpIn_wide.2 ?_))
 simp only [Tryz.ntmps21,List.size_toArray,List.length_cons,List.length_nil,Nat.reduceAdd,Nat.reduceSub,Array.replicate_succ,Array.replicate_zero,List.push_toArray,List.append_toArray,List.nil_append,List.cons_append]
 try dsimp only
 repeat ((fail_if_success (with_reducible refine wp_reg (id := 0) ?_)); (first | go_values | go_skip | go_step | go_guarded | go_upon | go_in | go_back | fail))
 with_reducible refine wp_reg (id := 0) ?_
 refine (unhide hP).allocO 28 #[.slice A1 nV cA, .slice B1 nE cE] rfl (run_box (v := .agg #[.slice A1 nV cA, .slice B1 nE cE]) rfl rfl) ?_
 intro r2 y1 hQ
 replace hP : Hid (Sp w [] w [] [(r2,28, #[.slice A1 nV cA, .slice B1 nE cE])] [] y1) := hide hQ
 clear hQ
 refine wpO_want rfl ?_
 go_simp
 refine wpO_done ?_
 try go_frame
 have q0 := (unhide hP).cell 0 0 (v := .slice A1 nV cA) rfl rfl
 have hself := Ext.refl y1
 by_cases hlen : n = nV
 ·skip
  subst hlen
  have hq : ((n : Int) != (n : Int)) = false := by simp
  have hwT := hide (show wrT V to = wrS [] to by unfold wrT; rw [if_pos (by rw [← unhide hn', ← unhide hV'])])
  try dsimp only
  repeat ((fail_if_success (with_reducible refine wp_reg (id := 1) ?_)); (first | go_values | go_skip | go_step | go_guarded | go_upon | go_in | go_back | fail))
  with_reducible refine wp_reg (id := 1) ?_
  iterate 6
   refine wpO_want rfl ?_
   go_simp
  refine wpO_done ?_
  try go_frame
  clear hq q0 hself
  go_wp2_with fail
  obtain ⟨I1_4,hI1_40⟩ : ∃ I : Nat → Act → World → Prop,I = fun fi a' wr => ∃ (i : Nat),a'.tmps.size = 45 ∧ a'.tmps.getD 1 undef = .slice A n cB ∧ a'.tmps.getD 5 undef = .int .i64 (i : Nat) ∧ a'.defers = [] ∧ i ≤ n ∧ wrS (to.take i) (to.drop i) = wrS [] to ∧ Sp w [] w [] [(r2,28, #[.slice A1 n cA, .slice B1 nE cE])] [] wr ∧ fi = n - i := ⟨_,rfl⟩
  have hI1_4 := hide hI1_40
  clear hI1_40
  refine wp_loop_ix I1_4 (n - 0) ?_ ?_
  ·rw [unhide hI1_4]; exact ⟨0,rfl,rfl,rfl,rfl,Nat.zero_le _,rfl,unhide hP,rfl⟩
  ·rintro fi ⟨tm,dfs⟩ wr hrel
   rw [unhide hI1_4] at hrel
   obtain ⟨i,hsz,e1,e5,hdf,hin,hws,hPr,hfm⟩ := hrel
   obtain ⟨us,rfl⟩ : ∃ us : Nat → Value,tm = #[us 0,us 1,us 2,us 3,us 4,us 5,us 6,us 7,us 8,us 9,us 10,us 11,us 12,us 13,us 14,us 15,us 16,us 17,us 18,us 19,us 20,us 21,us 22,us 23,us 24,us 25,us 26,us 27,us 28,us 29,us 30,us 31,us 32,us 33,us 34,us 35,us 36,us 37,us 38,us 39,us 40,us 41,us 42,us 43,us 44] := ⟨fun i => tm.getD i undef,arr_fn hsz⟩
   have h1 : us 1 = .slice A n cB := e1
   have h5 : us 5 = .int .i64 (i : Nat) := e5
   have hdf2 : dfs = [] := hdf
   subst hdf2
   clear hdf hsz e1 e5
   simp only [h1,h5]
   clear h1 h5
   clear hP
   have hP := hide hPr
   have hfm' := hide hfm
   have hws' := hide hws
   clear hPr hfm hws
   by_cases hlt : i < n
   ·skip
    have hil : (i : Int) < (n : Int) := by omega
    have hlt' := hide hlt
    have hiT : i < to.length := by have := unhide hn'; omega
    have hib : (i : Int) ≤ 4096 := by have := unhide hvl'; omega
    have hdr := hide (List.drop_eq_getElem_cons hiT)
    have htk := hide (List.take_succ_eq_append_getElem hiT)
    obtain ⟨b,off,rfl,t0⟩ := atI ((unhide hA').ext (unhide hP).extf) hiT
    obtain ⟨x,hx0⟩ : ∃ x,x = to[i] := ⟨_,rfl⟩
    rw [← hx0] at hdr htk t0
    have hxi := hide hx0
    have hself := Ext.refl wr
    clear hx0 hlt
    try dsimp only
    repeat ((fail_if_success (with_reducible refine wp_reg (id := 4) ?_)); (first | go_values | go_skip | go_step | go_guarded | go_upon | go_in | go_back | fail))
    with_reducible refine wp_reg (id := 4) ?_
    iterate 4
     refine wpO_want rfl ?_
     go_simp
    refine wpO_done ?_
    try go_frame
    by_cases hr1 : x < 0
    ·skip
     have hr1' := hide hr1
     try dsimp only
     repeat ((fail_if_success (with_reducible refine wp_reg (id := 6) ?_)); (first | go_values | go_skip | go_step | go_guarded | go_upon | go_in | go_back | fail))
     with_reducible refine wp_reg (id := 6) ?_
     iterate 6
      refine wpO_want rfl ?_
      go_simp
     refine wpO_out (by rfl) ?_
     go_frame
     refine wpO_out (by rfl) ?_
     go_frame
     refine wpO_out (by rfl) ?_
     go_frame
     refine wpO_out (by rfl) ?_
     go_frame
     refine wpO_out (by rfl) ?_
     go_frame
     refine wpO_want rfl ?_
     go_simp
     refine wpO_done ?_
     try go_frame
     clear hr1 t0 hself
     try dsimp only
     repeat ((fail_if_success (with_reducible refine wp_reg (id := 7) ?_)); (first | go_values | go_skip | go_step | go_guarded | go_upon | go_in | go_back | fail))
     with_reducible refine wp_reg (id := 7) ?_
     refine wpO_want rfl ?_
     go_simp
     refine wpO_done ?_
     try go_frame
     go_wp2_with fail
     have hwe : wrT V to = 2 := by
      rw [unhide hwT, ← unhide hws',unhide hdr,wrS_cons]
      exact if_pos (.inl (unhide hr1'))
     refine Sp.leaves0 ?_
     exact ⟨_,results_tmp (t := 4) rfl _ _ _,by rw [hwe]; rfl,(unhide hP).extf⟩
    ·skip
     have hr1' := hide hr1
     by_cases hr2 : (1023:Int) < x
     ·skip
      have hr2' := hide hr2
      try dsimp only
      repeat ((fail_if_success (with_reducible refine wp_reg (id := 6) ?_)); (first | go_values | go_skip | go_step | go_guarded | go_upon | go_in | go_back | fail))
      with_reducible refine wp_reg (id := 6) ?_
      iterate 12
       refine wpO_want rfl ?_
       go_simp
      refine wpO_done ?_
      try go_frame
      clear hr1 hr2 t0 hself
      try dsimp only
      repeat ((fail_if_success (with_reducible refine wp_reg (id := 7) ?_)); (first | go_values | go_skip | go_step | go_guarded | go_upon | go_in | go_back | fail))
      with_reducible refine wp_reg (id := 7) ?_
      refine wpO_want rfl ?_
      go_simp
      refine wpO_done ?_
      try go_frame
      go_wp2_with fail
      have hwe : wrT V to = 2 := by
       rw [unhide hwT, ← unhide hws',unhide hdr,wrS_cons]
       exact if_pos (.inr (unhide hr2'))
      refine Sp.leaves0 ?_
      exact ⟨_,results_tmp (t := 4) rfl _ _ _,by rw [hwe]; rfl,(unhide hP).extf⟩
     ·skip
      have hr2' := hide hr2
      try dsimp only
      repeat ((fail_if_success (with_reducible refine wp_reg (id := 6) ?_)); (first | go_values | go_skip | go_step | go_guarded | go_upon | go_in | go_back | fail))
      with_reducible refine wp_reg (id := 6) ?_
      iterate 12
       refine wpO_want rfl ?_
       go_simp
      refine wpO_done ?_
      try go_frame
      clear hr1 hr2 t0 hself hil
      go_wp2_with fail
      obtain ⟨wo,hwo⟩ : ∃ wo,wo = wr := ⟨_,rfl⟩
      subst hwo
      obtain ⟨I1_12,hI1_120⟩ : ∃ I : Nat → Act → World → Prop,I = fun fk a' wr => ∃ (k : Nat),a'.tmps.size = 45 ∧ a'.tmps.getD 1 undef = .slice (some ⟨b,off,none⟩) n cB ∧ a'.tmps.getD 5 undef = .int .i64 (i : Nat) ∧ a'.tmps.getD 6 undef = .int .i64 (k : Nat) ∧ a'.defers = [] ∧ k ≤ i ∧ (∀ j (hj : j < to.length),j < k → to[j] ≠ x) ∧ Sp w [] w [] [(r2,28, #[.slice A1 n cA, .slice B1 nE cE])] [] wr ∧ fk = i - k := ⟨_,rfl⟩
      have hI1_12 := hide hI1_120
      clear hI1_120
      refine wp_loop_ix I1_12 (i - 0) ?_ ?_
      ·rw [unhide hI1_12]; exact ⟨0,rfl,rfl,rfl,rfl,rfl,Nat.zero_le _,(fun j _ h => by omega),unhide hP,rfl⟩
      ·rintro fk ⟨tm,dfs⟩ wr hrel
       rw [unhide hI1_12] at hrel
       obtain ⟨k,hsz,e1,e5,e6,hdf,hki,hno0,hPs,hgm⟩ := hrel
       obtain ⟨us,rfl⟩ : ∃ us : Nat → Value,tm = #[us 0,us 1,us 2,us 3,us 4,us 5,us 6,us 7,us 8,us 9,us 10,us 11,us 12,us 13,us 14,us 15,us 16,us 17,us 18,us 19,us 20,us 21,us 22,us 23,us 24,us 25,us 26,us 27,us 28,us 29,us 30,us 31,us 32,us 33,us 34,us 35,us 36,us 37,us 38,us 39,us 40,us 41,us 42,us 43,us 44] := ⟨fun i => tm.getD i undef,arr_fn hsz⟩
       have h1 : us 1 = .slice (some ⟨b,off,none⟩) n cB := e1
       have h5 : us 5 = .int .i64 (i : Nat) := e5
       have h6 : us 6 = .int .i64 (k : Nat) := e6
       have hdf2 : dfs = [] := hdf
       subst hdf2
       clear hdf hsz e1 e5 e6
       simp only [h1,h5,h6]
       clear h1 h5 h6
       clear hP
       have hP := hide hPs
       have hgm' := hide hgm
       have hno := hide hno0
       clear hPs hgm hno0
       by_cases hkt : k < i
       ·skip
        have hil : (k : Int) < (i : Int) := by omega
        have hkt' := hide hkt
        have hkT : k < to.length := by have := unhide hn'; have := unhide hlt'; omega
        have hkb : (k : Int) ≤ 4096 := by omega
        have hkn : (k : Int) < (n : Int) := by have := unhide hlt'; omega
        have hin2 : (i : Int) < (n : Int) := by have := unhide hlt'; omega
        obtain ⟨b2,off2,hb2,t1⟩ := atI ((unhide hA').ext (unhide hP).extf) hkT
        cases hb2
        obtain ⟨b2,off2,hb2,t0⟩ := atI ((unhide hA').ext (unhide hP).extf) hiT
        cases hb2
        rw [← unhide hxi] at t0
        obtain ⟨y,hy0⟩ : ∃ y,y = to[k] := ⟨_,rfl⟩
        rw [← hy0] at t1
        have hyk := hide hy0
        have hself := Ext.refl wr
        obtain ⟨q,hq0⟩ : ∃ q,q = ((y : Int) == x) := ⟨_,rfl⟩
        have hqq : ((y : Int) == x) = q := hq0.symm
        have hq' := hide hq0
        clear hy0 hkt hki hq0
        try dsimp only
        repeat ((fail_if_success (with_reducible refine wp_reg (id := 9) ?_)); (first | go_values | go_skip | go_step | go_guarded | go_upon | go_in | go_back | fail))
        with_reducible refine wp_reg (id := 9) ?_
        iterate 3
         refine wpO_want rfl ?_
         go_simp
        refine wpO_done ?_
        try go_frame
        go_wp2_with fail
        refine wp_region_ext (P := Tryz.prog) [0,1,2,3,4,5,6,7,8] [] 0 #[true,true,true,true,true,true,true,true,true] (by kernel_rfl) (by kernel_rfl) rfl (by rfl) ?_
        iterate 9
         first
         | (refine ql_skip rfl (by rfl) ?_)
         | (refine ql_want (v := ?_) rfl (by rfl) (fun W hW => ?_) ?_; rotate_left; (go_simp; (first | done | rfl)))
         try go_frame
        refine wpQL_nil (fun y2 hxq => ?_)
        replace hP : Hid (Sp w [] w [] [(r2,28, #[.slice A1 n cA, .slice B1 nE cE])] [] y2) := hide ((unhide hP).ext hxq)
        clear t0 t1 hself hqq hxq
        refine wpX_done (by kernel_rfl) ?_
        try go_frame
        cases q
        ·skip
         clear hil hkn hin2
         go_wp2_with fail
         refine ⟨i - (k + 1), ?_,by have := unhide hgm'; have := unhide hkt'; omega⟩
         rw [unhide hI1_12]
         exact ⟨k + 1,(by first | rfl | trivial),(by first | rfl | trivial),(by first | rfl | trivial),(by first | rfl | (show _ = Value.int _ _; go_num) | go_num),(by first | rfl | trivial),by have := unhide hkt'; omega,(fun j hj h => by
          by_cases h2 : j < k
          ·exact unhide hno j hj h2
          ·obtain rfl : j = k := by omega
           intro h3
           have h4 := unhide hq'
           rw [unhide hyk,h3] at h4
           simp at h4),unhide hP,rfl⟩
        ·skip
         clear hil hkn hin2
         try dsimp only
         repeat ((fail_if_success (with_reducible refine wp_reg (id := 12) ?_)); (first | go_values | go_skip | go_step | go_guarded | go_upon | go_in | go_back | fail))
         with_reducible refine wp_reg (id := 12) ?_
         refine wpO_want rfl ?_
         go_simp
         refine wpO_done ?_
         try go_frame
         go_wp2_with fail
         have hwe : wrT V to = 7 := by
          rw [unhide hwT, ← unhide hws',unhide hdr,wrS_cons]
          rw [if_neg (by have := unhide hr1'; have := unhide hr2'; omega)]
          refine if_pos ?_
          have h4 : y = x := by have h := unhide hq'; simpa using h.symm
          rw [← h4,unhide hyk]
          exact List.mem_take_iff_getElem.2 ⟨k,by have := unhide hkt'; omega,rfl⟩
         refine Sp.leaves0 ?_
         exact ⟨_,results_tmp (t := 4) rfl _ _ _,by rw [hwe]; rfl,(unhide hP).extf⟩
       ·skip
        have hil : ¬ (k : Int) < (i : Int) := by omega
        have hnx := hide (show x ∉ to.take i from fun hm => by
         obtain ⟨j,hj,e⟩ := List.mem_take_iff_getElem.1 hm
         exact unhide hno j (by omega) (by omega) e)
        clear hkt hki
        try dsimp only
        repeat ((fail_if_success (with_reducible refine wp_reg (id := 9) ?_)); (first | go_values | go_skip | go_step | go_guarded | go_upon | go_in | go_back | fail))
        with_reducible refine wp_reg (id := 9) ?_
        iterate 3
         refine wpO_want rfl ?_
         go_simp
        refine wpO_done ?_
        try go_frame
        clear hil
        go_wp2_with fail
        have hws9 := unhide hws'
        rw [unhide hdr,wrS_cons,if_neg (by have := unhide hr1'; have := unhide hr2'; omega),if_neg (unhide hnx), ← unhide htk] at hws9
        refine ⟨n - (i + 1), ?_,by have := unhide hfm'; have := unhide hlt'; omega⟩
        rw [unhide hI1_4]
        exact ⟨i + 1,(by first | rfl | trivial),(by first | rfl | trivial),(by first | rfl | (show _ = Value.int _ _; go_num) | go_num),(by first | rfl | trivial),by have := unhide hlt'; omega,hws9,unhide hP,rfl⟩
   ·skip
    have hil : ¬ (i : Int) < (n : Int) := by omega
    obtain rfl : n = i := by omega
    have hw0 := hide (show wrT V to = 0 by
     rw [unhide hwT, ← unhide hws',List.drop_eq_nil_of_le (by rw [← unhide hn']; exact Nat.le_refl _)]
     rfl)
    clear hlt hin
    try dsimp only
    repeat ((fail_if_success (with_reducible refine wp_reg (id := 4) ?_)); (first | go_values | go_skip | go_step | go_guarded | go_upon | go_in | go_back | fail))
    with_reducible refine wp_reg (id := 4) ?_
    iterate 4
     refine wpO_want rfl ?_
     go_simp
    refine wpO_done ?_
    try go_frame
    clear hil
    try dsimp only
    repeat ((fail_if_success (with_reducible refine wp_reg (id := 13) ?_)); (first | go_values | go_skip | go_step | go_guarded | go_upon | go_in | go_back | fail))
    with_reducible refine wp_reg (id := 13) ?_
    refine wpO_want rfl ?_
    go_simp
    refine wpO_done ?_
    try go_frame
    go_wp2_with fail
    refine Sp.leaves0 ?_
    exact ⟨_,results_tmp (t := 4) rfl _ _ _,by rw [unhide hw0]; rfl,(unhide hP).extf⟩
 ·skip
  have hq : ((n : Int) != (nV : Int)) = true := by simp; omega
  have hw3 := hide (show wrT V to = 3 by unfold wrT; rw [if_neg (by rw [← unhide hn', ← unhide hV']; exact hlen)])
  clear hlen
  try dsimp only
  repeat ((fail_if_success (with_reducible refine wp_reg (id := 1) ?_)); (first | go_values | go_skip | go_step | go_guarded | go_upon | go_in | go_back | fail))
  with_reducible refine wp_reg (id := 1) ?_
  iterate 6
   refine wpO_want rfl ?_
   go_simp
  refine wpO_done ?_
  try go_frame
  clear hq q0 hself
  try dsimp only
  repeat ((fail_if_success (with_reducible refine wp_reg (id := 2) ?_)); (first | go_values | go_skip | go_step | go_guarded | go_upon | go_in | go_back | fail))
  with_reducible refine wp_reg (id := 2) ?_
  refine wpO_want rfl ?_
  go_simp
  refine wpO_done ?_
  try go_frame
  go_wp2_with fail
  refine Sp.leaves0 ?_
  exact ⟨_,results_tmp (t := 4) rfl _ _ _,by rw [unhide hw3]; rfl,(unhide hP).extf⟩
def NumsPost (w : World) (n : Nat) (e : Ending) (w' : World) : Prop := ∃ to,NumsIs n to ∧ OwJ w to e w'
set_option maxRecDepth 100000 in
set_option maxHeartbeats 16000000 in
theorem numbers_any (n : Nat) (t0 : Int) (w : World) (hn : n ≤ 30) (ht : 0 ≤ t0 ∧ t0 ≤ 18446744073709551615) :
  Calls Tryz.prog 23 #[.int .i64 n, .int .u64 t0] w (NumsPost w n) := by
 have hn' := hide hn
 have ht' := hide ht
 clear hn ht
 have hP := hide (Sp.new w)
 refine callsIn_wide.1 (callsIn_of_wp_marks (n := 0) Tryz.func23 rfl trivial (wpIn_wide.2 ?_))
 simp only [Tryz.ntmps23,List.size_toArray,List.length_cons,List.length_nil,Nat.reduceAdd,Nat.reduceSub,Array.replicate_succ,Array.replicate_zero,List.push_toArray,List.append_toArray,List.nil_append,List.cons_append]
 replace hP : Hid (Sp w [] w [] [] [(3,1, .slice none 0 0,0,([] : List Int).flatMap encI)] w) := hide ((unhide hP).nil 3 1)
 go_wp2_with fail
 obtain ⟨I0_2,hI0_20⟩ : ∃ I : Nat → Act → World → Prop,I = fun fi a' wr => ∃ (i : Nat), ∃ (t : Int), ∃ (Ax : Option Addr), ∃ (cx : Nat), ∃ (xs : List Int),a'.tmps.size = 41 ∧ a'.tmps.getD 0 undef = .int .i64 (n : Nat) ∧ a'.tmps.getD 1 undef = .int .u64 t ∧ a'.tmps.getD 5 undef = .slice Ax i cx ∧ a'.tmps.getD 6 undef = .int .i64 (i : Nat) ∧ a'.defers = [] ∧ i ≤ n ∧ (0 ≤ t ∧ t ≤ 18446744073709551615) ∧ NumsIs i xs ∧ Sp w [] w [] [] [(3,1, .slice Ax i cx,i,xs.flatMap encI)] wr ∧ fi = n - i := ⟨_,rfl⟩
 have hI0_2 := hide hI0_20
 clear hI0_20
 refine wp_loop_ix I0_2 (n - 0) ?_ ?_
 ·rw [unhide hI0_2]; exact ⟨0,t0,none,0,[],rfl,rfl,rfl,rfl,rfl,rfl,Nat.zero_le _,unhide ht',⟨rfl,List.nodup_nil,by simp⟩,unhide hP,rfl⟩
 ·rintro fi ⟨tm,dfs⟩ wr hrel
  rw [unhide hI0_2] at hrel
  obtain ⟨i,t,Ax,cx,xs,hsz,e0,e1,e5,e6,hdf,hin,htr,hxs,hPr,hfm⟩ := hrel
  obtain ⟨us,rfl⟩ : ∃ us : Nat → Value,tm = #[us 0,us 1,us 2,us 3,us 4,us 5,us 6,us 7,us 8,us 9,us 10,us 11,us 12,us 13,us 14,us 15,us 16,us 17,us 18,us 19,us 20,us 21,us 22,us 23,us 24,us 25,us 26,us 27,us 28,us 29,us 30,us 31,us 32,us 33,us 34,us 35,us 36,us 37,us 38,us 39,us 40] := ⟨fun i => tm.getD i undef,arr_fn hsz⟩
  have h0 : us 0 = .int .i64 (n : Nat) := e0
  have h1 : us 1 = .int .u64 t := e1
  have h5 : us 5 = .slice Ax i cx := e5
  have h6 : us 6 = .int .i64 (i : Nat) := e6
  have hdf2 : dfs = [] := hdf
  subst hdf2
  clear hdf hsz e0 e1 e5 e6
  simp only [h0,h1,h5,h6]
  clear h0 h1 h5 h6
  clear hP
  have hP := hide hPr
  have hfm' := hide hfm
  have htr' := hide htr
  have hxs' := hide hxs
  clear hPr hfm htr hxs
  by_cases hlt : i < n
  ·skip
   have hil : (i : Int) < (n : Int) := by omega
   have hlt' := hide hlt
   have hib : (i : Int) ≤ 30 := by have := unhide hn'; omega
   obtain ⟨tn,htn⟩ : ∃ tn : Nat,(tn : Int) = t := ⟨t.toNat,by have := (unhide htr').1; omega⟩
   subst htn
   obtain ⟨v0,hv0⟩ : ∃ v : Nat,v = tn % 40 := ⟨_,rfl⟩
   obtain ⟨t3,ht3⟩ : ∃ v : Nat,v = tn / 3 := ⟨_,rfl⟩
   have htb := (unhide htr').2
   have hrem : (tn : Int).tmod 40 = (v0 : Int) := by rw [Int.tmod_eq_emod_of_nonneg (by omega),hv0]; rfl
   have hdiv : (tn : Int).tdiv 3 = (t3 : Int) := by rw [Int.tdiv_eq_ediv_of_nonneg (by omega),ht3]; rfl
   have hdiv2 : (tn : Int) / 3 = (t3 : Int) := by rw [ht3]; rfl
   have hwr1 : IntKind.u64.wrap (v0 : Int) = (v0 : Int) := by rw [IntKind.wrap_u64]; omega
   have hwr2 : IntKind.u64.wrap (t3 : Int) = (t3 : Int) := by rw [IntKind.wrap_u64]; omega
   have hwr3 : IntKind.i64.wrap (v0 : Int) = (v0 : Int) := by rw [IntKind.wrap_i64]; omega
   have hvr := hide (show 0 ≤ (v0 : Int) ∧ (v0 : Int) < 40 by omega)
   have ht3r := hide (show 0 ≤ (t3 : Int) ∧ (t3 : Int) ≤ 18446744073709551615 by omega)
   have hxl := hide (show xs.length = i from (unhide hxs').1)
   have hx40 := hide (show xs.length < 40 by have := unhide hxl; have := unhide hn'; omega)
   obtain ⟨vz,hvz⟩ : ∃ v : Int,v = (v0 : Int) := ⟨_,rfl⟩
   clear hlt hv0 ht3
   try dsimp only
   repeat ((fail_if_success (with_reducible refine wp_reg (id := 3) ?_)); (first | go_values | go_skip | go_step | go_guarded | go_upon | go_in | go_back | fail))
   with_reducible refine wp_reg (id := 3) ?_
   iterate 3
    refine wpO_want rfl ?_
    go_simp
   refine wpO_done ?_
   try go_frame
   try dsimp only
   repeat ((fail_if_success (with_reducible refine wp_reg (id := 5) ?_)); (first | go_values | go_skip | go_step | go_guarded | go_upon | go_in | go_back | fail))
   with_reducible refine wp_reg (id := 5) ?_
   iterate 4
    refine wpO_want rfl ?_
    go_simp
   refine wpO_done ?_
   try go_frame
   try dsimp only
   repeat ((fail_if_success (with_reducible refine wp_reg (id := 6) ?_)); (first | go_values | go_skip | go_step | go_guarded | go_upon | go_in | go_back | fail))
   with_reducible refine wp_reg (id := 6) ?_
   iterate 3
    refine wpO_want rfl ?_
    go_simp
   refine wpO_done ?_
   try go_frame
   clear hrem hdiv hdiv2 hwr1 hwr2 hwr3 htb
   try rw [← hvz]
   rw [← hvz] at hvr
   clear hvz
   go_wp2_with fail
   obtain ⟨wo,hwo⟩ : ∃ wo,wo = wr := ⟨_,rfl⟩
   subst hwo
   obtain ⟨I0_6,hI0_60⟩ : ∃ I : Nat → Act → World → Prop,I = fun fv a' wr => ∃ (v : Int), ∃ (again : Bool),a'.tmps.size = 41 ∧ a'.tmps.getD 0 undef = .int .i64 (n : Nat) ∧ a'.tmps.getD 1 undef = .int .u64 (t3 : Nat) ∧ a'.tmps.getD 5 undef = .slice Ax i cx ∧ a'.tmps.getD 6 undef = .int .i64 (i : Nat) ∧ a'.tmps.getD 7 undef = .int .i64 v ∧ a'.tmps.getD 8 undef = .bool again ∧ a'.defers = [] ∧ (0 ≤ v ∧ v < 40) ∧ (again = false → v ∉ xs) ∧ Sp w [] w [] [] [(3,1, .slice Ax i cx,i,xs.flatMap encI)] wr ∧ fv = 2 * farF xs 40 v + again.toNat := ⟨_,rfl⟩
   have hI0_6 := hide hI0_60
   clear hI0_60
   refine wp_loop_ix I0_6 (2 * farF xs 40 vz + 1) ?_ ?_
   ·rw [unhide hI0_6]; exact ⟨vz,true,rfl,rfl,rfl,rfl,rfl,rfl,rfl,rfl,unhide hvr,(fun h => by cases h),unhide hP,rfl⟩
   ·rintro fv ⟨tm,dfs⟩ wr hrel
    rw [unhide hI0_6] at hrel
    obtain ⟨v,again,hsz,e0,e1,e5,e6,e7,e8,hdf,hvv,hag,hPs,hgm⟩ := hrel
    obtain ⟨us,rfl⟩ : ∃ us : Nat → Value,tm = #[us 0,us 1,us 2,us 3,us 4,us 5,us 6,us 7,us 8,us 9,us 10,us 11,us 12,us 13,us 14,us 15,us 16,us 17,us 18,us 19,us 20,us 21,us 22,us 23,us 24,us 25,us 26,us 27,us 28,us 29,us 30,us 31,us 32,us 33,us 34,us 35,us 36,us 37,us 38,us 39,us 40] := ⟨fun i => tm.getD i undef,arr_fn hsz⟩
    have h0 : us 0 = .int .i64 (n : Nat) := e0
    have h1 : us 1 = .int .u64 (t3 : Nat) := e1
    have h5 : us 5 = .slice Ax i cx := e5
    have h6 : us 6 = .int .i64 (i : Nat) := e6
    have h7 : us 7 = .int .i64 v := e7
    have h8 : us 8 = .bool again := e8
    have hdf2 : dfs = [] := hdf
    subst hdf2
    clear hdf hsz e0 e1 e5 e6 e7 e8
    simp only [h0,h1,h5,h6,h7,h8]
    clear h0 h1 h5 h6 h7 h8
    clear hP
    have hP := hide hPs
    have hgm' := hide hgm
    have hvv' := hide hvv
    have hag' := hide hag
    clear hPs hgm hvv hag
    cases again
    ·skip
     have hvx := hide (unhide hag' rfl)
     clear hil
     try dsimp only
     repeat ((fail_if_success (with_reducible refine wp_reg (id := 8) ?_)); (first | go_values | go_skip | go_step | go_guarded | go_upon | go_in | go_back | fail))
     with_reducible refine wp_reg (id := 8) ?_
     refine wpO_want rfl ?_
     go_simp
     refine wpO_done ?_
     try go_frame
     try dsimp only
     repeat ((fail_if_success (with_reducible refine wp_reg (id := 16) ?_)); (first | go_values | go_skip | go_step | go_guarded | go_upon | go_in | go_back | fail))
     with_reducible refine wp_reg (id := 16) ?_
     iterate 2
      refine wpO_want rfl ?_
      go_simp
     refine (unhide hP).buildO 1 3 #[.int .i64 v] rfl (by go_simp) ?_
     intro bs y1 hQ
     replace hP : Hid (Sp w [] w [] [(bs,3, #[.int .i64 v])] [(3,1, .slice Ax i cx,i,xs.flatMap encI)] y1) := hide hQ
     clear hQ
     try go_frame
     refine (unhide hP).ap1O (enc := encI) (T := 3) (ST := 31) 0 (v := .slice Ax i cx) (m := i) (xs := xs) rfl rfl infoI Tryz.underlying31 one_encI (fun _ => rfl) (by decide) (by decide) rfl v rfl rfl ((unhide hP).get 0 rfl) (by omega) ?_
     intro Az cAz y2 hQ
     replace hP : Hid (Sp w [] w [] [(bs,3, #[.int .i64 v])] [(3,1, .slice Az (i + 1) cAz,i + 1,(xs ++ [v]).flatMap encI)] y2) := hide hQ
     clear hQ
     try go_frame
     refine wpO_want rfl ?_
     go_simp
     refine wpO_done ?_
     try go_frame
     replace hP : Hid (Sp w [] w [] [] [(3,1, .slice Az (i + 1) cAz,i + 1,(xs ++ [v]).flatMap encI)] y2) := hide ((unhide hP).sub (List.sublist_append_left _ ([(bs,3, #[.int .i64 v])] : List Cl)) (List.Sublist.refl _))
     go_wp2_with fail
     refine ⟨n - (i + 1), ?_,by have := unhide hfm'; have := unhide hlt'; omega⟩
     rw [unhide hI0_2]
     exact ⟨i + 1,(t3 : Int),Az,cAz,xs ++ [v],(by first | rfl | trivial),(by first | rfl | trivial),(by first | rfl | trivial),(by first | rfl | trivial),(by first | rfl | (show _ = Value.int _ _; go_num) | go_num),(by first | rfl | trivial),by have := unhide hlt'; omega,unhide ht3r,(unhide hxs').snoc (unhide hvv') (unhide hvx),unhide hP,rfl⟩
    ·skip
     clear hil
     try dsimp only
     repeat ((fail_if_success (with_reducible refine wp_reg (id := 8) ?_)); (first | go_values | go_skip | go_step | go_guarded | go_upon | go_in | go_back | fail))
     with_reducible refine wp_reg (id := 8) ?_
     refine wpO_want rfl ?_
     go_simp
     refine wpO_done ?_
     try go_frame
     go_wp2_with fail
     obtain ⟨wo2,hwo⟩ : ∃ wo,wo = wr := ⟨_,rfl⟩
     subst hwo
     obtain ⟨I0_10,hI0_100⟩ : ∃ I : Nat → Act → World → Prop,I = fun fk a' wr => ∃ (k : Nat), ∃ (u : Int), ∃ (ag : Bool),a'.tmps.size = 41 ∧ a'.tmps.getD 0 undef = .int .i64 (n : Nat) ∧ a'.tmps.getD 1 undef = .int .u64 (t3 : Nat) ∧ a'.tmps.getD 5 undef = .slice Ax i cx ∧ a'.tmps.getD 6 undef = .int .i64 (i : Nat) ∧ a'.tmps.getD 7 undef = .int .i64 u ∧ a'.tmps.getD 8 undef = .bool ag ∧ a'.tmps.getD 9 undef = .int .i64 (k : Nat) ∧ a'.defers = [] ∧ k ≤ i ∧ (0 ≤ u ∧ u < 40) ∧ (ag = false → u = v ∧ ∀ j (hj : j < xs.length),j < k → xs[j] ≠ v) ∧ (ag = true → farF xs 40 u < farF xs 40 v) ∧ Sp w [] w [] [] [(3,1, .slice Ax i cx,i,xs.flatMap encI)] wr ∧ fk = i - k := ⟨_,rfl⟩
     have hI0_10 := hide hI0_100
     clear hI0_100
     refine wp_loop_ix I0_10 (i - 0) ?_ ?_
     ·rw [unhide hI0_10]; exact ⟨0,v,false,rfl,rfl,rfl,rfl,rfl,rfl,rfl,rfl,rfl,Nat.zero_le _,unhide hvv',(fun _ => ⟨rfl,fun j _ h => by omega⟩),(fun h => by cases h),unhide hP,rfl⟩
     ·rintro fk ⟨tm,dfs⟩ wr hrel
      rw [unhide hI0_10] at hrel
      obtain ⟨k,u,ag,hsz,e0,e1,e5,e6,e7,e8,e9,hdf,hki,huu,hno0,hfa0,hPt,hhm⟩ := hrel
      obtain ⟨us,rfl⟩ : ∃ us : Nat → Value,tm = #[us 0,us 1,us 2,us 3,us 4,us 5,us 6,us 7,us 8,us 9,us 10,us 11,us 12,us 13,us 14,us 15,us 16,us 17,us 18,us 19,us 20,us 21,us 22,us 23,us 24,us 25,us 26,us 27,us 28,us 29,us 30,us 31,us 32,us 33,us 34,us 35,us 36,us 37,us 38,us 39,us 40] := ⟨fun i => tm.getD i undef,arr_fn hsz⟩
      have h0 : us 0 = .int .i64 (n : Nat) := e0
      have h1 : us 1 = .int .u64 (t3 : Nat) := e1
      have h5 : us 5 = .slice Ax i cx := e5
      have h6 : us 6 = .int .i64 (i : Nat) := e6
      have h7 : us 7 = .int .i64 u := e7
      have h8 : us 8 = .bool ag := e8
      have h9 : us 9 = .int .i64 (k : Nat) := e9
      have hdf2 : dfs = [] := hdf
      subst hdf2
      clear hdf hsz e0 e1 e5 e6 e7 e8 e9
      simp only [h0,h1,h5,h6,h7,h8,h9]
      clear h0 h1 h5 h6 h7 h8 h9
      clear hP
      have hP := hide hPt
      have hhm' := hide hhm
      have huu' := hide huu
      have hno := hide hno0
      have hfa := hide hfa0
      clear hPt hhm huu hno0 hfa0
      by_cases hkt : k < i
      ·skip
       have hil : (k : Int) < (i : Int) := by omega
       have hkt' := hide hkt
       have hkX : k < xs.length := by have := unhide hxl; omega
       have hkb : (k : Int) ≤ 30 := by omega
       obtain ⟨b2,off2,rfl,t1⟩ := atI (own_at (enc := encI) (by have h := (unhide hP).row 0 rfl; rw [← unhide hxl] at h; exact h) (fun _ => rfl)) hkX
       obtain ⟨yv,hy0⟩ : ∃ y,y = xs[k] := ⟨_,rfl⟩
       rw [← hy0] at t1
       have hyk := hide hy0
       have hself := Ext.refl wr
       clear hy0 hkt hki
       by_cases hyu : yv = u
       ·skip
        have hqq : ((yv : Int) == u) = true := by simp [hyu]
        have hum := hide (show u ∈ xs by rw [← hyu,unhide hyk]; exact List.getElem_mem _)
        obtain ⟨un,hun⟩ : ∃ un : Nat,(un : Int) = u := ⟨u.toNat,by have := (unhide huu').1; omega⟩
        subst hun
        obtain ⟨u2,hu2⟩ : ∃ v : Nat,v = (un + 1) % 40 := ⟨_,rfl⟩
        have hub := (unhide huu').2
        have hrem : ((un : Int) + 1).tmod 40 = (u2 : Int) := by rw [Int.tmod_eq_emod_of_nonneg (by omega),hu2]; rfl
        have hwu : IntKind.i64.wrap ((un : Int) + 1) = (un : Int) + 1 := by rw [IntKind.wrap_i64]; omega
        have hwu2 : IntKind.i64.wrap (u2 : Int) = (u2 : Int) := by rw [IntKind.wrap_i64]; omega
        have hstep := hide (show farF xs 40 (u2 : Int) < farF xs 40 (un : Int) by
         have h := farF_step (unhide hx40) (unhide huu') (unhide hum)
         rw [show ((un : Int) + 1) % 40 = (u2 : Int) by rw [hu2]; rfl] at h
         exact h)
        have hle := hide (show farF xs 40 (un : Int) ≤ farF xs 40 v by
         cases ag with
         | false => rw [(unhide hno rfl).1]; exact Nat.le_refl _
         | true => exact Nat.le_of_lt (unhide hfa rfl))
        have hu2r := hide (show 0 ≤ (u2 : Int) ∧ (u2 : Int) < 40 by omega)
        clear hyu hu2
        try dsimp only
        repeat ((fail_if_success (with_reducible refine wp_reg (id := 11) ?_)); (first | go_values | go_skip | go_step | go_guarded | go_upon | go_in | go_back | fail))
        with_reducible refine wp_reg (id := 11) ?_
        iterate 4
         refine wpO_want rfl ?_
         go_simp
        refine wpO_done ?_
        try go_frame
        try dsimp only
        repeat ((fail_if_success (with_reducible refine wp_reg (id := 13) ?_)); (first | go_values | go_skip | go_step | go_guarded | go_upon | go_in | go_back | fail))
        with_reducible refine wp_reg (id := 13) ?_
        iterate 6
         refine wpO_want rfl ?_
         go_simp
        refine wpO_done ?_
        try go_frame
        clear t1 hself hqq
        try dsimp only
        repeat ((fail_if_success (with_reducible refine wp_reg (id := 14) ?_)); (first | go_values | go_skip | go_step | go_guarded | go_upon | go_in | go_back | fail))
        with_reducible refine wp_reg (id := 14) ?_
        iterate 4
         refine wpO_want rfl ?_
         go_simp
        refine wpO_done ?_
        try go_frame
        clear hrem hwu hwu2 hub hil
        try dsimp only
        repeat ((fail_if_success (with_reducible refine wp_reg (id := 15) ?_)); (first | go_values | go_skip | go_step | go_guarded | go_upon | go_in | go_back | fail))
        with_reducible refine wp_reg (id := 15) ?_
        refine wpO_want rfl ?_
        go_simp
        refine wpO_done ?_
        try go_frame
        go_wp2_with fail
        refine ⟨i - (k + 1), ?_,by have := unhide hhm'; have := unhide hkt'; omega⟩
        rw [unhide hI0_10]
        exact ⟨k + 1,(u2 : Int),true,(by first | rfl | trivial),(by first | rfl | trivial),(by first | rfl | trivial),(by first | rfl | trivial),(by first | rfl | trivial),(by first | rfl | trivial),(by first | rfl | trivial),(by first | rfl | (show _ = Value.int _ _; go_num) | go_num),(by first | rfl | trivial),by have := unhide hkt'; omega,unhide hu2r,(fun h => by cases h),(fun _ => Nat.lt_of_lt_of_le (unhide hstep) (unhide hle)),unhide hP,rfl⟩
       ·skip
        have hqq : ((yv : Int) == u) = false := by simp [hyu]
        have hyu' := hide hyu
        clear hyu
        try dsimp only
        repeat ((fail_if_success (with_reducible refine wp_reg (id := 11) ?_)); (first | go_values | go_skip | go_step | go_guarded | go_upon | go_in | go_back | fail))
        with_reducible refine wp_reg (id := 11) ?_
        iterate 4
         refine wpO_want rfl ?_
         go_simp
        refine wpO_done ?_
        try go_frame
        try dsimp only
        repeat ((fail_if_success (with_reducible refine wp_reg (id := 13) ?_)); (first | go_values | go_skip | go_step | go_guarded | go_upon | go_in | go_back | fail))
        with_reducible refine wp_reg (id := 13) ?_
        iterate 6
         refine wpO_want rfl ?_
         go_simp
        refine wpO_done ?_
        try go_frame
        clear t1 hself hqq hil
        go_wp2_with fail
        refine ⟨i - (k + 1), ?_,by have := unhide hhm'; have := unhide hkt'; omega⟩
        rw [unhide hI0_10]
        exact ⟨k + 1,u,ag,(by first | rfl | trivial),(by first | rfl | trivial),(by first | rfl | trivial),(by first | rfl | trivial),(by first | rfl | trivial),(by first | rfl | trivial),(by first | rfl | trivial),(by first | rfl | (show _ = Value.int _ _; go_num) | go_num),(by first | rfl | trivial),by have := unhide hkt'; omega,unhide huu',(fun h => ⟨(unhide hno h).1,fun j hj hjk => by
         by_cases h2 : j < k
         ·exact (unhide hno h).2 j hj h2
         ·obtain rfl : j = k := by omega
          intro h3
          refine unhide hyu' ?_
          rw [unhide hyk,h3,(unhide hno h).1]⟩),unhide hfa,unhide hP,rfl⟩
      ·skip
       have hil : ¬ (k : Int) < (i : Int) := by omega
       obtain rfl : i = k := by omega
       clear hkt hki
       try dsimp only
       repeat ((fail_if_success (with_reducible refine wp_reg (id := 11) ?_)); (first | go_values | go_skip | go_step | go_guarded | go_upon | go_in | go_back | fail))
       with_reducible refine wp_reg (id := 11) ?_
       iterate 4
        refine wpO_want rfl ?_
        go_simp
       refine wpO_done ?_
       try go_frame
       clear hil
       go_wp2_with fail
       refine ⟨2 * farF xs 40 u + ag.toNat, ?_,by
        have h1 := unhide hgm'
        cases ag with
        | false => rw [(unhide hno rfl).1]; simp at h1 ⊢; omega
        | true => have h2 := unhide hfa rfl; simp at h1 ⊢; omega⟩
       rw [unhide hI0_6]
       exact ⟨u,ag,(by first | rfl | trivial),(by first | rfl | trivial),(by first | rfl | trivial),(by first | rfl | trivial),(by first | rfl | trivial),(by first | rfl | trivial),(by first | rfl | trivial),(by first | rfl | trivial),unhide huu',(fun h => by
        obtain ⟨h1,h2⟩ := unhide hno h
        rw [h1]
        intro hm9
        obtain ⟨j,hj,e9⟩ := List.mem_iff_getElem.1 hm9
        exact h2 j hj (by have := unhide hxl; omega) e9),unhide hP,rfl⟩
  ·skip
   have hil : ¬ (i : Int) < (n : Int) := by omega
   obtain rfl : n = i := by omega
   clear hlt hin
   try dsimp only
   repeat ((fail_if_success (with_reducible refine wp_reg (id := 3) ?_)); (first | go_values | go_skip | go_step | go_guarded | go_upon | go_in | go_back | fail))
   with_reducible refine wp_reg (id := 3) ?_
   iterate 3
    refine wpO_want rfl ?_
    go_simp
   refine wpO_done ?_
   try go_frame
   clear hil
   try dsimp only
   repeat ((fail_if_success (with_reducible refine wp_reg (id := 17) ?_)); (first | go_values | go_skip | go_step | go_guarded | go_upon | go_in | go_back | fail))
   with_reducible refine wp_reg (id := 17) ?_
   iterate 2
    refine wpO_want rfl ?_
    go_simp
   refine wpO_done ?_
   try go_frame
   go_wp2_with fail
   refine Sp.leaves0 ?_
   exact ⟨_,results_tmp (t := 4) rfl _ _ _,xs,unhide hxs',OwJ.mk (unhide hxs').1.symm ((unhide hP).row 0 rfl) (unhide hP).extf⟩
end Go.Proofs.YtbpeemhfjgcnaaaGreat
