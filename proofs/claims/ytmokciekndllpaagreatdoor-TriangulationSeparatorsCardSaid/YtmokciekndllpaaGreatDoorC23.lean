/- Parts of a proof, laid together. Each part says its own conditions. -/
import Derived.Test.YtmokciekndllpaaGreatDoorC22
namespace Go.Proofs.YtmokciekndllpaaGreatDoor
open Go Go.RowKit Go.Shelf
attribute [local go_sem] qUpon lUpon
attribute [local irreducible] wpO wpX wpQL
set_option maxRecDepth 100000 in
set_option maxHeartbeats 16000000 in
theorem hdown_any (bw : Nat) (hs : List (Int × Int)) (m : Nat) (T : List Nat) (w : World) (A : Option Addr) (n c : Nat) (hn : n = hs.length) (hst : St 0 (hpL bw A n c) (hpR A n c hs) w) (hT : T = stT (hpL bw A n c) (hpR A n c hs)) (hb : n ≤ 2000000) (hm : m < n) (hu : DownN hs m 0) :
  Calls Tryz.prog 196 #[.iface 209 (.pointer (some ⟨bw,0,none⟩)), .int .i64 0, .int .i64 (m : Nat)] w fun e w' => (∃ q,e = .returned (.bool q)) ∧ ∃ hs',hs'.Perm hs ∧ HeapN hs' m ∧ (∀ k,m ≤ k → hs'.getD k (0,0) = hs.getD k (0,0)) ∧ St 0 (hpL bw A n c) (hpR A n c hs') w' ∧ Keep T w w' := by
 have hP0 := Sp.bare hst
 rw [← hT] at hP0
 have hP := hide hP0
 unfold hpL hpR at hP
 have hn0 := hide hn
 have hnb' := hide hb
 have hmn' := hide hm
 have hu' := hide hu
 obtain ⟨wf,hwf⟩ : ∃ wf,wf = bare w := ⟨_,rfl⟩
 rw [← hwf] at hP
 clear hn hst hT hP0 hb hwf hm hu
 refine callsIn_wide.1 (callsIn_of_wp_marks (n := 0) Tryz.func196 rfl trivial (wpIn_wide.2 ?_))
 simp only [Tryz.ntmps196,List.size_toArray,List.length_cons,List.length_nil,Nat.reduceAdd,Nat.reduceSub,Array.replicate_succ,Array.replicate_zero,List.push_toArray,List.append_toArray,List.nil_append,List.cons_append]
 try dsimp only
 repeat ((fail_if_success (with_reducible refine wp_reg (id := 0) ?_)); (first | go_values | go_skip | go_step | go_guarded | go_upon | go_in | go_back | fail))
 with_reducible refine wp_reg (id := 0) ?_
 refine wpO_want rfl ?_
 go_simp
 refine wpO_done ?_
 try go_frame
 try dsimp only
 repeat ((fail_if_success (with_reducible refine wp_reg (id := 1) ?_)); (first | go_values | go_skip | go_step | go_guarded | go_upon | go_in | go_back | fail))
 with_reducible refine wp_reg (id := 1) ?_
 iterate 2
  refine wpO_want rfl ?_
  go_simp
 refine wpO_done ?_
 try go_frame
 go_wp2_with fail
 obtain ⟨I0_2,hI0_20⟩ : ∃ I : Nat → Act → World → Prop,I = fun fi a' wr => ∃ (i : Nat), ∃ (xs : List (Int × Int)),a'.tmps.size = 48 ∧ a'.tmps.getD 0 undef = .iface 209 (.pointer (some ⟨bw,0,none⟩)) ∧ a'.tmps.getD 1 undef = .int .i64 0 ∧ a'.tmps.getD 2 undef = .int .i64 (m : Nat) ∧ a'.tmps.getD 7 undef = .int .i64 (i : Nat) ∧ a'.defers = [] ∧ i < n ∧ xs.Perm hs ∧ DownN xs m i ∧ (∀ k,m ≤ k → xs.getD k (0,0) = hs.getD k (0,0)) ∧ Sp wf T w [] [(bw,211, #[.slice A n c])] [(214,2, .slice A n c,n,xs.flatMap encP2)] wr ∧ fi = n - i := ⟨_,rfl⟩
 have hI0_2 := hide hI0_20
 clear hI0_20
 refine wp_loop_ix I0_2 (n - 0) ?_ ?_
 ·rw [unhide hI0_2]; exact ⟨0,hs,rfl,rfl,rfl,rfl,rfl,rfl,by have := unhide hmn'; omega,List.Perm.refl _,unhide hu',(fun _ _ => rfl),unhide hP,rfl⟩
 ·rintro fi ⟨tm,dfs⟩ wr hrel
  rw [unhide hI0_2] at hrel
  obtain ⟨i,xs,hsz,e0,e1,e2,e7,hdf,hin,hpm,hup,htl,hPr,hfm⟩ := hrel
  obtain ⟨us,rfl⟩ : ∃ us : Nat → Value,tm = #[us 0,us 1,us 2,us 3,us 4,us 5,us 6,us 7,us 8,us 9,us 10,us 11,us 12,us 13,us 14,us 15,us 16,us 17,us 18,us 19,us 20,us 21,us 22,us 23,us 24,us 25,us 26,us 27,us 28,us 29,us 30,us 31,us 32,us 33,us 34,us 35,us 36,us 37,us 38,us 39,us 40,us 41,us 42,us 43,us 44,us 45,us 46,us 47] := ⟨fun i => tm.getD i undef,arr_fn hsz⟩
  have h0 : us 0 = .iface 209 (.pointer (some ⟨bw,0,none⟩)) := e0
  have h1 : us 1 = .int .i64 0 := e1
  have h2 : us 2 = .int .i64 (m : Nat) := e2
  have h7 : us 7 = .int .i64 (i : Nat) := e7
  have hdf2 : dfs = [] := hdf
  subst hdf2
  clear hdf hsz e0 e1 e2 e7
  simp only [h0,h1,h2,h7]
  clear h0 h1 h2 h7
  clear hP
  have hP := hide hPr
  have hfm' := hide hfm
  have hpm' := hide hpm
  have hup' := hide hup
  have htl' := hide htl
  have hn' := hide (show n = xs.length by rw [hpm.length_eq]; exact unhide hn0)
  have hin' := hide hin
  have hiB : (i : Int) ≤ 2000000 := by have := unhide hnb'; omega
  obtain ⟨a,ha0⟩ : ∃ a,a = 2 * i + 1 := ⟨_,rfl⟩
  have ha := hide ha0
  have hw1 : IntKind.i64.wrap (2 * (i : Int)) = 2 * (i : Int) := IntWalk.i64_in _ (by omega)
  have hw2 : IntKind.i64.wrap (2 * (i : Int) + 1) = (a : Int) := by rw [IntWalk.i64_in _ (by omega)]; omega
  clear hPr hfm hpm hup htl ha0
  by_cases h1 : a < m
  ·skip
   have hlt : (a : Int) < (m : Int) := by omega
   have hge : ¬ (m : Int) ≤ (a : Int) := by omega
   have hna : ¬ (a : Int) < 0 := by omega
   have h1' := hide h1
   have haB : (a : Int) ≤ 2000000 := by have := unhide hnb'; have := unhide hmn'; omega
   clear h1
   try dsimp only
   repeat ((fail_if_success (with_reducible refine wp_reg (id := 2) ?_)); (first | go_values | go_skip | go_step | go_guarded | go_upon | go_in | go_back | fail))
   with_reducible refine wp_reg (id := 2) ?_
   iterate 4
    refine wpO_want rfl ?_
    go_simp
   refine wpO_done ?_
   try go_frame
   clear hw1 hw2
   try dsimp only
   repeat ((fail_if_success (with_reducible refine wp_reg (id := 3) ?_)); (first | go_values | go_skip | go_step | go_guarded | go_upon | go_in | go_back | fail))
   with_reducible refine wp_reg (id := 3) ?_
   iterate 7
    refine wpO_want rfl ?_
    go_simp
   refine wpO_done ?_
   try go_frame
   clear hge hna
   try dsimp only
   repeat ((fail_if_success (with_reducible refine wp_reg (id := 4) ?_)); (first | go_values | go_skip | go_step | go_guarded | go_upon | go_in | go_back | fail))
   with_reducible refine wp_reg (id := 4) ?_
   iterate 2
    refine wpO_want rfl ?_
    go_simp
   refine wpO_done ?_
   try go_frame
   have hw3 : IntKind.i64.wrap ((a : Int) + 1) = ((a + 1 : Nat) : Int) := by rw [IntWalk.i64_in _ (by omega)]; omega
   try dsimp only
   repeat ((fail_if_success (with_reducible refine wp_reg (id := 5) ?_)); (first | go_values | go_skip | go_step | go_guarded | go_upon | go_in | go_back | fail))
   with_reducible refine wp_reg (id := 5) ?_
   iterate 3
    refine wpO_want rfl ?_
    go_simp
   refine wpO_done ?_
   try go_frame
   clear hw3 hlt
   by_cases h2 : a + 1 < m
   ·skip
    have hlt : ((a : Int) + 1) < (m : Int) := by omega
    have hlt2 : (((a + 1 : Nat) : Int)) < (m : Int) := by omega
    have h2' := hide h2
    have han1 : a < n := by have := unhide hmn'; omega
    have han2 : a + 1 < n := by have := unhide hmn'; omega
    clear h2
    obtain ⟨q1,hq10⟩ : ∃ q,decide (hc xs (a + 1) < hc xs a) = q := ⟨_,rfl⟩
    have hq1 := hide hq10
    try dsimp only
    repeat ((fail_if_success (with_reducible refine wp_reg (id := 6) ?_)); (first | go_values | go_skip | go_step | go_guarded | go_upon | go_in | go_back | fail))
    with_reducible refine wp_reg (id := 6) ?_
    iterate 7
     refine wpO_want rfl ?_
     go_simp
    refine wpO_want rfl ?_
    go_simp
    rw [meth_way (name := "Less") (f := 233) (by kernel_rfl) (((unhide hP).get 0 rfl).cells 0 (v := .slice A n c) rfl _ (Ext.refl _))]
    go_simp
    have hca := wless_any A xs n c (a + 1) a wr (own_at (enc := encP2) (by have h := (unhide hP).row 0 rfl; rw [unhide hn'] at h; exact h) (fun _ => rfl)) (unhide hn') (by omega) (by omega) (by have := unhide hnb'; omega)
    refine hca.mono ?_
    clear hca
    rintro _ y1 ⟨rfl,hxc⟩
    refine ⟨_,rfl, ?_⟩
    replace hP : Hid (Sp wf T w [] [(bw,211, #[.slice A n c])] [(214,2, .slice A n c,n,xs.flatMap encP2)] y1) := hide ((unhide hP).ext hxc)
    clear hxc
    rw [hq10]
    clear hq10
    refine wpO_want rfl ?_
    go_simp
    refine wpO_done ?_
    try go_frame
    clear hlt hlt2 han1 han2
    cases q1
    ·skip
     have hmin0 : ∀ k,0 < k → k < m → (k - 1) / 2 = i → hc xs a ≤ hc xs k := by
      intro k h3 h4 h5
      have := unhide ha
      have h6 := of_decide_eq_false (unhide hq1)
      have e : k = a ∨ k = a + 1 := by omega
      rcases e with e | e
      ·rw [e]; exact Int.le_refl _
      ·rw [e]; omega
     have hmin := hide hmin0
     clear hmin0
     have hjm := hide (show a < m by first | exact unhide h1' | exact unhide h2')
     have hji := hide (show (a - 1) / 2 = i by have := unhide ha; omega)
     have hia := hide (show i < a by have := unhide ha; omega)
     have hjn1 : a < n := by have := unhide hmn'; have := unhide hjm; omega
     have hin1 : i < n := unhide hin'
     obtain ⟨q,hq0⟩ : ∃ q,decide (hc xs a < hc xs i) = q := ⟨_,rfl⟩
     have hq := hide hq0
     try dsimp only
     repeat ((fail_if_success (with_reducible refine wp_reg (id := 8) ?_)); (first | go_values | go_skip | go_step | go_guarded | go_upon | go_in | go_back | fail))
     with_reducible refine wp_reg (id := 8) ?_
     iterate 3
      refine wpO_want rfl ?_
      go_simp
     refine wpO_want rfl ?_
     go_simp
     rw [meth_way (name := "Less") (f := 233) (by kernel_rfl) (((unhide hP).get 0 rfl).cells 0 (v := .slice A n c) rfl _ (Ext.refl _))]
     go_simp
     have hca := wless_any A xs n c a i y1 (own_at (enc := encP2) (by have h := (unhide hP).row 0 rfl; rw [unhide hn'] at h; exact h) (fun _ => rfl)) (unhide hn') (by omega) (by omega) (by have := unhide hnb'; omega)
     refine hca.mono ?_
     clear hca
     rintro _ y2 ⟨rfl,hxc⟩
     refine ⟨_,rfl, ?_⟩
     replace hP : Hid (Sp wf T w [] [(bw,211, #[.slice A n c])] [(214,2, .slice A n c,n,xs.flatMap encP2)] y2) := hide ((unhide hP).ext hxc)
     clear hxc
     rw [hq0]
     clear hq0
     refine wpO_want rfl ?_
     go_simp
     refine wpO_done ?_
     try go_frame
     cases q
     ·skip
      try dsimp only
      repeat ((fail_if_success (with_reducible refine wp_reg (id := 11) ?_)); (first | go_values | go_skip | go_step | go_guarded | go_upon | go_in | go_back | fail))
      with_reducible refine wp_reg (id := 11) ?_
      iterate 4
       refine wpO_want rfl ?_
       go_simp
      refine wpO_done ?_
      try go_frame
      go_wp2_with fail
      have hfin := DownN.done (unhide hup') (fun k h2 h3 h4 => by have h5 := unhide hmin k h2 h3 h4; have h6 := of_decide_eq_false (unhide hq); omega)
      refine Sp.leaves0 ?_
      exact ⟨_,results_tmp (t := 6) rfl _ _ _,⟨_,rfl⟩,xs,unhide hpm',hfin,unhide htl',(unhide hP).st.down,(unhide hP).keep⟩
     ·skip
      try dsimp only
      repeat ((fail_if_success (with_reducible refine wp_reg (id := 9) ?_)); (first | go_values | go_skip | go_step | go_guarded | go_upon | go_in | go_back | fail))
      with_reducible refine wp_reg (id := 9) ?_
      iterate 3
       refine wpO_want rfl ?_
       go_simp
      refine wpO_want rfl ?_
      go_simp
      rw [meth_way (name := "Swap") (f := 236) (by kernel_rfl) (((unhide hP).get 0 rfl).cells 0 (v := .slice A n c) rfl _ (Ext.refl _))]
      go_simp
      have hca := wswap_any wf.heap.size A xs n c i a y2 ((unhide hP).row 0 rfl) (unhide hn') (by omega) (by omega) (by have := unhide hnb'; omega)
      refine hca.mono ?_
      clear hca
      rintro _ y3 ⟨rfl,hown,hgr⟩
      replace hP : Hid (Sp wf T w [] [(bw,211, #[.slice A n c])] [(214,2, .slice A n c,n,(swpL xs i a).flatMap encP2)] y3) := hide ((unhide hP).push 0 (by decide) rfl (Ext.refl _) hown hgr (.inl rfl))
      clear hown hgr
      refine ⟨_,rfl, ?_⟩
      try go_frame
      refine wpO_done ?_
      try go_frame
      try dsimp only
      repeat ((fail_if_success (with_reducible refine wp_reg (id := 10) ?_)); (first | go_values | go_skip | go_step | go_guarded | go_upon | go_in | go_back | fail))
      with_reducible refine wp_reg (id := 10) ?_
      iterate 2
       refine wpO_want rfl ?_
       go_simp
      refine wpO_done ?_
      try go_frame
      go_wp2_with fail
      have hst := DownN.step (by rw [← unhide hn']; exact Nat.le_of_lt (unhide hmn')) (unhide hjm) (unhide hji) (by have := unhide hia; omega) (unhide hup') (of_decide_eq_true (unhide hq)) (unhide hmin)
      have hpm9 := (swp_perm (l := xs) (i := i) (j := a) (by rw [← unhide hn']; exact unhide hin') (by rw [← unhide hn']; exact hjn1)).trans (unhide hpm')
      have htl9 : ∀ k,m ≤ k → (swpL xs i a).getD k (0,0) = hs.getD k (0,0) := fun k hk => by
       rw [swp_get (by rw [← unhide hn']; exact unhide hin') (by rw [← unhide hn']; exact hjn1),if_neg (by have := unhide hjm; omega),if_neg (by have := unhide hjm; have := unhide hia; omega)]
       exact unhide htl' k hk
      refine ⟨n - a, ?_,by have := unhide hfm'; have := unhide hia; omega⟩
      rw [unhide hI0_2]
      exact ⟨a,swpL xs i a,(by first | rfl | trivial),(by first | rfl | trivial),(by first | rfl | trivial),(by first | rfl | trivial),(by first | rfl | (show _ = Value.int _ _; go_num) | go_num),(by first | rfl | trivial),hjn1,hpm9,hst,htl9,unhide hP,rfl⟩
    ·skip
     try dsimp only
     repeat ((fail_if_success (with_reducible refine wp_reg (id := 7) ?_)); (first | go_values | go_skip | go_step | go_guarded | go_upon | go_in | go_back | fail))
     with_reducible refine wp_reg (id := 7) ?_
     iterate 2
      refine wpO_want rfl ?_
      go_simp
     refine wpO_done ?_
     try go_frame
     have hmin0 : ∀ k,0 < k → k < m → (k - 1) / 2 = i → hc xs (a + 1) ≤ hc xs k := by
      intro k h3 h4 h5
      have := unhide ha
      have h6 := of_decide_eq_true (unhide hq1)
      have e : k = a ∨ k = a + 1 := by omega
      rcases e with e | e
      ·rw [e]; omega
      ·rw [e]; exact Int.le_refl _
     have hmin := hide hmin0
     clear hmin0
     have hjm := hide (show a + 1 < m by first | exact unhide h1' | exact unhide h2')
     have hji := hide (show (a + 1 - 1) / 2 = i by have := unhide ha; omega)
     have hia := hide (show i < a + 1 by have := unhide ha; omega)
     have hjn1 : a + 1 < n := by have := unhide hmn'; have := unhide hjm; omega
     have hin1 : i < n := unhide hin'
     obtain ⟨q,hq0⟩ : ∃ q,decide (hc xs (a + 1) < hc xs i) = q := ⟨_,rfl⟩
     have hq := hide hq0
     try dsimp only
     repeat ((fail_if_success (with_reducible refine wp_reg (id := 8) ?_)); (first | go_values | go_skip | go_step | go_guarded | go_upon | go_in | go_back | fail))
     with_reducible refine wp_reg (id := 8) ?_
     iterate 3
      refine wpO_want rfl ?_
      go_simp
     refine wpO_want rfl ?_
     go_simp
     rw [meth_way (name := "Less") (f := 233) (by kernel_rfl) (((unhide hP).get 0 rfl).cells 0 (v := .slice A n c) rfl _ (Ext.refl _))]
     go_simp
     have hca := wless_any A xs n c (a + 1) i y1 (own_at (enc := encP2) (by have h := (unhide hP).row 0 rfl; rw [unhide hn'] at h; exact h) (fun _ => rfl)) (unhide hn') (by omega) (by omega) (by have := unhide hnb'; omega)
     refine hca.mono ?_
     clear hca
     rintro _ y2 ⟨rfl,hxc⟩
     refine ⟨_,rfl, ?_⟩
     replace hP : Hid (Sp wf T w [] [(bw,211, #[.slice A n c])] [(214,2, .slice A n c,n,xs.flatMap encP2)] y2) := hide ((unhide hP).ext hxc)
     clear hxc
     rw [hq0]
     clear hq0
     refine wpO_want rfl ?_
     go_simp
     refine wpO_done ?_
     try go_frame
     cases q
     ·skip
      try dsimp only
      repeat ((fail_if_success (with_reducible refine wp_reg (id := 11) ?_)); (first | go_values | go_skip | go_step | go_guarded | go_upon | go_in | go_back | fail))
      with_reducible refine wp_reg (id := 11) ?_
      iterate 4
       refine wpO_want rfl ?_
       go_simp
      refine wpO_done ?_
      try go_frame
      go_wp2_with fail
      have hfin := DownN.done (unhide hup') (fun k h2 h3 h4 => by have h5 := unhide hmin k h2 h3 h4; have h6 := of_decide_eq_false (unhide hq); omega)
      refine Sp.leaves0 ?_
      exact ⟨_,results_tmp (t := 6) rfl _ _ _,⟨_,rfl⟩,xs,unhide hpm',hfin,unhide htl',(unhide hP).st.down,(unhide hP).keep⟩
     ·skip
      try dsimp only
      repeat ((fail_if_success (with_reducible refine wp_reg (id := 9) ?_)); (first | go_values | go_skip | go_step | go_guarded | go_upon | go_in | go_back | fail))
      with_reducible refine wp_reg (id := 9) ?_
      iterate 3
       refine wpO_want rfl ?_
       go_simp
      refine wpO_want rfl ?_
      go_simp
      rw [meth_way (name := "Swap") (f := 236) (by kernel_rfl) (((unhide hP).get 0 rfl).cells 0 (v := .slice A n c) rfl _ (Ext.refl _))]
      go_simp
      have hca := wswap_any wf.heap.size A xs n c i (a + 1) y2 ((unhide hP).row 0 rfl) (unhide hn') (by omega) (by omega) (by have := unhide hnb'; omega)
      refine hca.mono ?_
      clear hca
      rintro _ y3 ⟨rfl,hown,hgr⟩
      replace hP : Hid (Sp wf T w [] [(bw,211, #[.slice A n c])] [(214,2, .slice A n c,n,(swpL xs i (a + 1)).flatMap encP2)] y3) := hide ((unhide hP).push 0 (by decide) rfl (Ext.refl _) hown hgr (.inl rfl))
      clear hown hgr
      refine ⟨_,rfl, ?_⟩
      try go_frame
      refine wpO_done ?_
      try go_frame
      try dsimp only
      repeat ((fail_if_success (with_reducible refine wp_reg (id := 10) ?_)); (first | go_values | go_skip | go_step | go_guarded | go_upon | go_in | go_back | fail))
      with_reducible refine wp_reg (id := 10) ?_
      iterate 2
       refine wpO_want rfl ?_
       go_simp
      refine wpO_done ?_
      try go_frame
      go_wp2_with fail
      have hst := DownN.step (by rw [← unhide hn']; exact Nat.le_of_lt (unhide hmn')) (unhide hjm) (unhide hji) (by have := unhide hia; omega) (unhide hup') (of_decide_eq_true (unhide hq)) (unhide hmin)
      have hpm9 := (swp_perm (l := xs) (i := i) (j := a + 1) (by rw [← unhide hn']; exact unhide hin') (by rw [← unhide hn']; exact hjn1)).trans (unhide hpm')
      have htl9 : ∀ k,m ≤ k → (swpL xs i (a + 1)).getD k (0,0) = hs.getD k (0,0) := fun k hk => by
       rw [swp_get (by rw [← unhide hn']; exact unhide hin') (by rw [← unhide hn']; exact hjn1),if_neg (by have := unhide hjm; omega),if_neg (by have := unhide hjm; have := unhide hia; omega)]
       exact unhide htl' k hk
      refine ⟨n - (a + 1), ?_,by have := unhide hfm'; have := unhide hia; omega⟩
      rw [unhide hI0_2]
      exact ⟨a + 1,swpL xs i (a + 1),(by first | rfl | trivial),(by first | rfl | trivial),(by first | rfl | trivial),(by first | rfl | trivial),(by first | rfl | (show _ = Value.int _ _; go_num) | go_num),(by first | rfl | trivial),hjn1,hpm9,hst,htl9,unhide hP,rfl⟩
   ·skip
    have hge : ¬ ((a : Int) + 1) < (m : Int) := by omega
    have hge2 : ¬ (((a + 1 : Nat) : Int)) < (m : Int) := by omega
    have h2' := hide h2
    clear h2
    try dsimp only
    repeat ((fail_if_success (with_reducible refine wp_reg (id := 6) ?_)); (first | go_values | go_skip | go_step | go_guarded | go_upon | go_in | go_back | fail))
    with_reducible refine wp_reg (id := 6) ?_
    iterate 4
     refine wpO_want rfl ?_
     go_simp
    refine wpO_out (by rfl) ?_
    go_frame
    refine wpO_out (by rfl) ?_
    go_frame
    refine wpO_out (by rfl) ?_
    go_frame
    refine wpO_out (by rfl) ?_
    go_frame
    refine wpO_want rfl ?_
    go_simp
    refine wpO_done ?_
    try go_frame
    clear hge hge2
    have hmin0 : ∀ k,0 < k → k < m → (k - 1) / 2 = i → hc xs a ≤ hc xs k := by
     intro k h3 h4 h5
     have := unhide ha
     have := unhide h2'
     have e : k = a := by omega
     rw [e]
     exact Int.le_refl _
    have hmin := hide hmin0
    clear hmin0
    have hjm := hide (show a < m by first | exact unhide h1' | exact unhide h2')
    have hji := hide (show (a - 1) / 2 = i by have := unhide ha; omega)
    have hia := hide (show i < a by have := unhide ha; omega)
    have hjn1 : a < n := by have := unhide hmn'; have := unhide hjm; omega
    have hin1 : i < n := unhide hin'
    obtain ⟨q,hq0⟩ : ∃ q,decide (hc xs a < hc xs i) = q := ⟨_,rfl⟩
    have hq := hide hq0
    try dsimp only
    repeat ((fail_if_success (with_reducible refine wp_reg (id := 8) ?_)); (first | go_values | go_skip | go_step | go_guarded | go_upon | go_in | go_back | fail))
    with_reducible refine wp_reg (id := 8) ?_
    iterate 3
     refine wpO_want rfl ?_
     go_simp
    refine wpO_want rfl ?_
    go_simp
    rw [meth_way (name := "Less") (f := 233) (by kernel_rfl) (((unhide hP).get 0 rfl).cells 0 (v := .slice A n c) rfl _ (Ext.refl _))]
    go_simp
    have hca := wless_any A xs n c a i wr (own_at (enc := encP2) (by have h := (unhide hP).row 0 rfl; rw [unhide hn'] at h; exact h) (fun _ => rfl)) (unhide hn') (by omega) (by omega) (by have := unhide hnb'; omega)
    refine hca.mono ?_
    clear hca
    rintro _ y1 ⟨rfl,hxc⟩
    refine ⟨_,rfl, ?_⟩
    replace hP : Hid (Sp wf T w [] [(bw,211, #[.slice A n c])] [(214,2, .slice A n c,n,xs.flatMap encP2)] y1) := hide ((unhide hP).ext hxc)
    clear hxc
    rw [hq0]
    clear hq0
    refine wpO_want rfl ?_
    go_simp
    refine wpO_done ?_
    try go_frame
    cases q
    ·skip
     try dsimp only
     repeat ((fail_if_success (with_reducible refine wp_reg (id := 11) ?_)); (first | go_values | go_skip | go_step | go_guarded | go_upon | go_in | go_back | fail))
     with_reducible refine wp_reg (id := 11) ?_
     iterate 4
      refine wpO_want rfl ?_
      go_simp
     refine wpO_done ?_
     try go_frame
     go_wp2_with fail
     have hfin := DownN.done (unhide hup') (fun k h2 h3 h4 => by have h5 := unhide hmin k h2 h3 h4; have h6 := of_decide_eq_false (unhide hq); omega)
     refine Sp.leaves0 ?_
     exact ⟨_,results_tmp (t := 6) rfl _ _ _,⟨_,rfl⟩,xs,unhide hpm',hfin,unhide htl',(unhide hP).st.down,(unhide hP).keep⟩
    ·skip
     try dsimp only
     repeat ((fail_if_success (with_reducible refine wp_reg (id := 9) ?_)); (first | go_values | go_skip | go_step | go_guarded | go_upon | go_in | go_back | fail))
     with_reducible refine wp_reg (id := 9) ?_
     iterate 3
      refine wpO_want rfl ?_
      go_simp
     refine wpO_want rfl ?_
     go_simp
     rw [meth_way (name := "Swap") (f := 236) (by kernel_rfl) (((unhide hP).get 0 rfl).cells 0 (v := .slice A n c) rfl _ (Ext.refl _))]
     go_simp
     have hca := wswap_any wf.heap.size A xs n c i a y1 ((unhide hP).row 0 rfl) (unhide hn') (by omega) (by omega) (by have := unhide hnb'; omega)
     refine hca.mono ?_
     clear hca
     rintro _ y2 ⟨rfl,hown,hgr⟩
     replace hP : Hid (Sp wf T w [] [(bw,211, #[.slice A n c])] [(214,2, .slice A n c,n,(swpL xs i a).flatMap encP2)] y2) := hide ((unhide hP).push 0 (by decide) rfl (Ext.refl _) hown hgr (.inl rfl))
     clear hown hgr
     refine ⟨_,rfl, ?_⟩
     try go_frame
     refine wpO_done ?_
     try go_frame
     try dsimp only
     repeat ((fail_if_success (with_reducible refine wp_reg (id := 10) ?_)); (first | go_values | go_skip | go_step | go_guarded | go_upon | go_in | go_back | fail))
     with_reducible refine wp_reg (id := 10) ?_
     iterate 2
      refine wpO_want rfl ?_
      go_simp
     refine wpO_done ?_
     try go_frame
     go_wp2_with fail
     have hst := DownN.step (by rw [← unhide hn']; exact Nat.le_of_lt (unhide hmn')) (unhide hjm) (unhide hji) (by have := unhide hia; omega) (unhide hup') (of_decide_eq_true (unhide hq)) (unhide hmin)
     have hpm9 := (swp_perm (l := xs) (i := i) (j := a) (by rw [← unhide hn']; exact unhide hin') (by rw [← unhide hn']; exact hjn1)).trans (unhide hpm')
     have htl9 : ∀ k,m ≤ k → (swpL xs i a).getD k (0,0) = hs.getD k (0,0) := fun k hk => by
      rw [swp_get (by rw [← unhide hn']; exact unhide hin') (by rw [← unhide hn']; exact hjn1),if_neg (by have := unhide hjm; omega),if_neg (by have := unhide hjm; have := unhide hia; omega)]
      exact unhide htl' k hk
     refine ⟨n - a, ?_,by have := unhide hfm'; have := unhide hia; omega⟩
     rw [unhide hI0_2]
     exact ⟨a,swpL xs i a,(by first | rfl | trivial),(by first | rfl | trivial),(by first | rfl | trivial),(by first | rfl | trivial),(by first | rfl | (show _ = Value.int _ _; go_num) | go_num),(by first | rfl | trivial),hjn1,hpm9,hst,htl9,unhide hP,rfl⟩
  ·skip
   have hge : (m : Int) ≤ (a : Int) := by omega
   have h1' := hide h1
   clear h1
   try dsimp only
   repeat ((fail_if_success (with_reducible refine wp_reg (id := 2) ?_)); (first | go_values | go_skip | go_step | go_guarded | go_upon | go_in | go_back | fail))
   with_reducible refine wp_reg (id := 2) ?_
   iterate 4
    refine wpO_want rfl ?_
    go_simp
   refine wpO_done ?_
   try go_frame
   clear hw1 hw2
   try dsimp only
   repeat ((fail_if_success (with_reducible refine wp_reg (id := 3) ?_)); (first | go_values | go_skip | go_step | go_guarded | go_upon | go_in | go_back | fail))
   with_reducible refine wp_reg (id := 3) ?_
   iterate 4
    refine wpO_want rfl ?_
    go_simp
   refine wpO_out (by rfl) ?_
   go_frame
   refine wpO_out (by rfl) ?_
   go_frame
   refine wpO_want rfl ?_
   go_simp
   refine wpO_done ?_
   try go_frame
   clear hge
   try dsimp only
   repeat ((fail_if_success (with_reducible refine wp_reg (id := 11) ?_)); (first | go_values | go_skip | go_step | go_guarded | go_upon | go_in | go_back | fail))
   with_reducible refine wp_reg (id := 11) ?_
   iterate 4
    refine wpO_want rfl ?_
    go_simp
   refine wpO_done ?_
   try go_frame
   go_wp2_with fail
   have hfin := DownN.done (unhide hup') (fun k h2 h3 h4 => by have := unhide h1'; have := unhide ha; omega)
   refine Sp.leaves0 ?_
   exact ⟨_,results_tmp (t := 6) rfl _ _ _,⟨_,rfl⟩,xs,unhide hpm',hfin,unhide htl',(unhide hP).st.down,(unhide hP).keep⟩
end Go.Proofs.YtmokciekndllpaaGreatDoor
