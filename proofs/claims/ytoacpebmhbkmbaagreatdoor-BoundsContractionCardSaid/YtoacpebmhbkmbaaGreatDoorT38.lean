/- Parts of a proof, laid together. Each part says its own conditions. -/
import Derived.Test.YtoacpebmhbkmbaaGreatDoorT37
import Derived.Test.YtoacpebmhbkmbaaGreatDoorT15
import Derived.Test.YtoacpebmhbkmbaaGreatDoorT19
import Derived.Test.YtoacpebmhbkmbaaGreatDoorT17
import Derived.Test.YtoacpebmhbkmbaaGreatDoorT25
import Derived.Test.YtoacpebmhbkmbaaGreatDoorT16
namespace Go.Proofs.YtoacpebmhbkmbaaGreatDoor
open Go Go.RowKit Go.Shelf
attribute [local go_sem] qUpon lUpon
attribute [local irreducible] wpO wpX wpQL
theorem Sp.fresh {w W : World} (hx : Ext w W) : Sp w [] w [] [] [] W := (Sp.new w).ext hx
theorem ext_turn {w W W' : World} {bv be : Nat} (hx : Ext w W) (hk : Keep [bv,be] W W') (hb : w.heap.size ≤ bv ∧ w.heap.size ≤ be) : Ext w W' := hx.of_new hk fun x hx => by
 rcases List.mem_cons.1 hx with rfl | hx
 ·exact hb.1
 ·rw [List.mem_singleton] at hx
  subst hx
  exact hb.2
def RgPost (w : World) (S : GS) (e : Ending) (w' : World) : Prop := ∃ g bv be,e = .returned (.pointer (some ⟨g,0,none⟩)) ∧ IsG w' g bv be S.1 S.2 ∧ Ext w w'
theorem RgPost.mk {w w' : World} {S : GS} {g bv be : Nat} (h : IsG w' g bv be S.1 S.2) (hx : Ext w w') : RgPost w S (.returned (.pointer (some ⟨g,0,none⟩))) w' := ⟨g,bv,be,rfl,h,hx⟩
def rgA (i : Nat) : GS := ((List.range i).map rg1).foldl stD ([],[])
def rgB (n i : Nat) : GS := ((List.range i).map (rg2 n)).foldl stD (rgA n)
theorem rgA_next (i : Nat) : rgA (i + 1) = stD (rgA i) (rg1 i) := by unfold rgA; rw [List.range_succ,List.map_append,List.foldl_append]; rfl
theorem rgB_next (n i : Nat) : rgB n (i + 1) = stD (rgB n i) (rg2 n i) := by unfold rgB; rw [List.range_succ,List.map_append,List.foldl_append]; rfl
theorem rgB_end (n : Nat) : rgB n n = ringG n := by unfold rgB rgA ringG ringE; rw [List.foldl_append]
set_option maxRecDepth 100000 in
set_option maxHeartbeats 16000000 in
theorem ring_any (n : Nat) (w : World) (h1 : 1 ≤ n) (h2 : n ≤ 1000) :
  Calls Tryz.prog 17 #[.int .i64 n] w (RgPost w (ringG n)) := by
 have hb := hide (And.intro h1 h2)
 clear h1 h2
 have hP := hide (Sp.new w)
 refine callsIn_wide.1 (callsIn_of_wp_marks (n := 0) Tryz.func17 rfl trivial (wpIn_wide.2 ?_))
 simp only [Tryz.ntmps17,List.size_toArray,List.length_cons,List.length_nil,Nat.reduceAdd,Nat.reduceSub,Array.replicate_succ,Array.replicate_zero,List.push_toArray,List.append_toArray,List.nil_append,List.cons_append]
 try dsimp only
 repeat ((fail_if_success (with_reducible refine wp_reg (id := 1) ?_)); (first | go_values | go_skip | go_step | go_guarded | go_upon | go_in | go_back | fail))
 with_reducible refine wp_reg (id := 1) ?_
 refine wpO_want rfl ?_
 go_simp
 refine (new_rel w).mono ?_
 rintro _ y1 ⟨g,bv,be,rfl,hg0,hxc,_,hb1,hb2⟩
 refine ⟨_,rfl, ?_⟩
 replace hP : Hid (Sp w [] w [] [] [] y1) := hide ((unhide hP).ext hxc)
 have hbb := hide (And.intro hb1 hb2)
 have hg := hide hg0
 clear hxc hg0 hb1 hb2
 refine wpO_want rfl ?_
 go_simp
 refine wpO_done ?_
 try go_frame
 go_wp2_with fail
 obtain ⟨I1_2,hI1_20⟩ : ∃ I : Nat → Act → World → Prop,I = fun fi a' wr => ∃ (i : Nat),a'.tmps.size = 30 ∧ a'.tmps.getD 0 undef = .int .i64 (n : Nat) ∧ a'.tmps.getD 3 undef = .pointer (some ⟨g,0,none⟩) ∧ a'.tmps.getD 4 undef = .int .i64 (i : Nat) ∧ a'.defers = [] ∧ i ≤ n ∧ IsG wr g bv be (rgA i).1 (rgA i).2 ∧ Sp w [] w [] [] [] wr ∧ fi = n - i := ⟨_,rfl⟩
 have hI1_2 := hide hI1_20
 clear hI1_20
 refine wp_loop_ix I1_2 (n - 0) ?_ ?_
 ·rw [unhide hI1_2]; exact ⟨0,rfl,rfl,rfl,rfl,rfl,Nat.zero_le _,unhide hg,unhide hP,rfl⟩
 ·rintro fi ⟨tm,dfs⟩ wr hrel
  rw [unhide hI1_2] at hrel
  obtain ⟨i,hsz,e0,e3,e4,hdf,hin,hgr,hPr,hfm⟩ := hrel
  obtain ⟨us,rfl⟩ : ∃ us : Nat → Value,tm = #[us 0,us 1,us 2,us 3,us 4,us 5,us 6,us 7,us 8,us 9,us 10,us 11,us 12,us 13,us 14,us 15,us 16,us 17,us 18,us 19,us 20,us 21,us 22,us 23,us 24,us 25,us 26,us 27,us 28,us 29] := ⟨fun i => tm.getD i undef,arr_fn hsz⟩
  have h0 : us 0 = .int .i64 (n : Nat) := e0
  have h3 : us 3 = .pointer (some ⟨g,0,none⟩) := e3
  have h4 : us 4 = .int .i64 (i : Nat) := e4
  have hdf2 : dfs = [] := hdf
  subst hdf2
  clear hdf hsz e0 e3 e4
  simp only [h0,h3,h4]
  clear h0 h3 h4
  clear hP hg
  have hP := hide hPr
  have hg := hide hgr
  have hfm' := hide hfm
  clear hPr hgr hfm
  by_cases hlt : i < n
  ·have hil : (i : Int) < (n : Int) := by omega
   have hk2 := hide hlt
   have hkb : (i : Int) ≤ 1000 := by have := unhide hb; omega
   clear hlt hin
   try dsimp only
   repeat ((fail_if_success (with_reducible refine wp_reg (id := 3) ?_)); (first | go_values | go_skip | go_step | go_guarded | go_upon | go_in | go_back | fail))
   with_reducible refine wp_reg (id := 3) ?_
   iterate 3
    refine wpO_want rfl ?_
    go_simp
   refine wpO_done ?_
   try go_frame
   try dsimp only
   repeat ((fail_if_success (with_reducible refine wp_reg (id := 5) ?_)); (first | go_values | go_skip | go_step | go_guarded | go_upon | go_in | go_back | fail))
   with_reducible refine wp_reg (id := 5) ?_
   iterate 3
    refine wpO_want rfl ?_
    go_simp
   refine wpO_want rfl ?_
   go_simp
   obtain ⟨SS,hSS⟩ : ∃ SS,SS = rgA i := ⟨_,rfl⟩
   have hnx := hide (show rgA (i + 1) = stD SS (rg1 i) by rw [hSS]; exact rgA_next i)
   rw [← hSS] at hg
   obtain ⟨V,E⟩ := SS
   have hca := apply_any g bv be V E (0) ((i : Int)) (0) (0) (0) wr (unhide hg) (by unfold i64ok; omega) (by unfold i64ok; omega)
   refine hca.mono ?_
   clear hca hSS
   rintro _ y2 ⟨rfl,hg2,hk⟩
   refine ⟨_,rfl, ?_⟩
   replace hP : Hid (Sp w [] w [] [] [] y2) := hide (Sp.fresh (ext_turn (unhide hP).extf hk (unhide hbb)))
   replace hg := hide hg2
   clear hg2 hk
   refine wpO_done ?_
   try go_frame
   have hw1 : IntKind.i64.wrap ((i : Int) + 1) = (i : Int) + 1 := IntWalk.i64_in _ (by omega)
   go_wp2_with fail
   have h3 := unhide hk2
   refine ⟨n - (i + 1), ?_,by have := unhide hfm'; omega⟩
   rw [unhide hI1_2]
   exact ⟨i + 1,(by first | rfl | trivial),(by first | rfl | trivial),(by first | rfl | trivial),(by first | rfl | (show _ = Value.int _ _; go_num) | go_num),(by first | rfl | trivial),by omega,by rw [unhide hnx]; exact unhide hg,unhide hP,rfl⟩
  ·have hil : ¬ (i : Int) < (n : Int) := by omega
   obtain rfl : i = n := by omega
   clear hlt hin hfm'
   try dsimp only
   repeat ((fail_if_success (with_reducible refine wp_reg (id := 3) ?_)); (first | go_values | go_skip | go_step | go_guarded | go_upon | go_in | go_back | fail))
   with_reducible refine wp_reg (id := 3) ?_
   iterate 3
    refine wpO_want rfl ?_
    go_simp
   refine wpO_done ?_
   try go_frame
   try dsimp only
   repeat ((fail_if_success (with_reducible refine wp_reg (id := 6) ?_)); (first | go_values | go_skip | go_step | go_guarded | go_upon | go_in | go_back | fail))
   with_reducible refine wp_reg (id := 6) ?_
   refine wpO_want rfl ?_
   go_simp
   refine wpO_done ?_
   try go_frame
   go_wp2_with fail
   obtain ⟨I1_6,hI1_60⟩ : ∃ I : Nat → Act → World → Prop,I = fun fi a' wr => ∃ (j : Nat),a'.tmps.size = 30 ∧ a'.tmps.getD 0 undef = .int .i64 (i : Nat) ∧ a'.tmps.getD 3 undef = .pointer (some ⟨g,0,none⟩) ∧ a'.tmps.getD 5 undef = .int .i64 (j : Nat) ∧ a'.defers = [] ∧ j ≤ i ∧ IsG wr g bv be (rgB i j).1 (rgB i j).2 ∧ Sp w [] w [] [] [] wr ∧ fi = i - j := ⟨_,rfl⟩
   have hI1_6 := hide hI1_60
   clear hI1_60
   refine wp_loop_ix I1_6 (i - 0) ?_ ?_
   ·rw [unhide hI1_6]; exact ⟨0,rfl,rfl,rfl,rfl,rfl,Nat.zero_le _,unhide hg,unhide hP,rfl⟩
   ·rintro fi ⟨tm,dfs⟩ wr hrel
    rw [unhide hI1_6] at hrel
    obtain ⟨j,hsz,e0,e3,e5,hdf,hjn,hgr,hPr,hfm⟩ := hrel
    obtain ⟨us,rfl⟩ : ∃ us : Nat → Value,tm = #[us 0,us 1,us 2,us 3,us 4,us 5,us 6,us 7,us 8,us 9,us 10,us 11,us 12,us 13,us 14,us 15,us 16,us 17,us 18,us 19,us 20,us 21,us 22,us 23,us 24,us 25,us 26,us 27,us 28,us 29] := ⟨fun i => tm.getD i undef,arr_fn hsz⟩
    have h0 : us 0 = .int .i64 (i : Nat) := e0
    have h3 : us 3 = .pointer (some ⟨g,0,none⟩) := e3
    have h5 : us 5 = .int .i64 (j : Nat) := e5
    have hdf2 : dfs = [] := hdf
    subst hdf2
    clear hdf hsz e0 e3 e5
    simp only [h0,h3,h5]
    clear h0 h3 h5
    clear hP hg
    have hP := hide hPr
    have hg := hide hgr
    have hfm' := hide hfm
    clear hPr hgr hfm
    by_cases hlt : j < i
    ·have hil2 : (j : Int) < (i : Int) := by omega
     have hk2 := hide hlt
     have hkb : (i : Int) ≤ 1000 := by have := unhide hb; omega
     have hn0 : ¬ (i : Int) = 0 := by omega
     have hn1 : ¬ i = 0 := by omega
     have hw1 : IntKind.i64.wrap ((j : Int) + 1) = (j : Int) + 1 := IntWalk.i64_in _ (by omega)
     have htm : ((j : Int) + 1).tmod (i : Int) = ((j : Int) + 1) % (i : Int) := by rw [Int.tmod_eq_emod_of_nonneg (by omega)]
     have hmb : 0 ≤ ((j : Int) + 1) % (i : Int) ∧ ((j : Int) + 1) % (i : Int) < (i : Int) := ⟨Int.emod_nonneg _ (by omega),Int.emod_lt_of_pos _ (by omega)⟩
     have hmb' := hide hmb
     have hw2 : IntKind.i64.wrap (((j : Int) + 1) % (i : Int)) = ((j : Int) + 1) % (i : Int) := IntWalk.i64_in _ (by omega)
     replace hmb := 0
     clear hmb
     have hn0' := hide hn0
     clear hlt hjn
     try dsimp only
     repeat ((fail_if_success (with_reducible refine wp_reg (id := 7) ?_)); (first | go_values | go_skip | go_step | go_guarded | go_upon | go_in | go_back | fail))
     with_reducible refine wp_reg (id := 7) ?_
     iterate 3
      refine wpO_want rfl ?_
      go_simp
     refine wpO_done ?_
     try go_frame
     try dsimp only
     repeat ((fail_if_success (with_reducible refine wp_reg (id := 9) ?_)); (first | go_values | go_skip | go_step | go_guarded | go_upon | go_in | go_back | fail))
     with_reducible refine wp_reg (id := 9) ?_
     iterate 7
      refine wpO_want rfl ?_
      go_simp
     refine wpO_want rfl ?_
     go_simp
     obtain ⟨SS,hSS⟩ : ∃ SS,SS = rgB i j := ⟨_,rfl⟩
     have hnx := hide (show rgB i (j + 1) = stD SS (rg2 i j) by rw [hSS]; exact rgB_next i j)
     rw [← hSS] at hg
     obtain ⟨V,E⟩ := SS
     have hca := apply_any g bv be V E (2) ((j : Int)) (((j : Int) + 1) % (i : Int)) (0) (0) wr (unhide hg) (by unfold i64ok; have := unhide hk2; omega) (by unfold i64ok; have := unhide hmb'; omega)
     refine hca.mono ?_
     clear hca hSS
     rintro _ y2 ⟨rfl,hg2,hk⟩
     refine ⟨_,rfl, ?_⟩
     replace hP : Hid (Sp w [] w [] [] [] y2) := hide (Sp.fresh (ext_turn (unhide hP).extf hk (unhide hbb)))
     replace hg := hide hg2
     clear hg2 hk
     refine wpO_done ?_
     try go_frame
     go_wp2_with fail
     have h3 := unhide hk2
     refine ⟨i - (j + 1), ?_,by have := unhide hfm'; omega⟩
     rw [unhide hI1_6]
     exact ⟨j + 1,(by first | rfl | trivial),(by first | rfl | trivial),(by first | rfl | trivial),(by first | rfl | (show _ = Value.int _ _; go_num) | go_num),(by first | rfl | trivial),by omega,by rw [unhide hnx]; exact unhide hg,unhide hP,rfl⟩
    ·have hil2 : ¬ (j : Int) < (i : Int) := by omega
     obtain rfl : j = i := by omega
     rw [rgB_end] at hg
     clear hlt hjn hfm'
     try dsimp only
     repeat ((fail_if_success (with_reducible refine wp_reg (id := 7) ?_)); (first | go_values | go_skip | go_step | go_guarded | go_upon | go_in | go_back | fail))
     with_reducible refine wp_reg (id := 7) ?_
     iterate 3
      refine wpO_want rfl ?_
      go_simp
     refine wpO_done ?_
     try go_frame
     try dsimp only
     repeat ((fail_if_success (with_reducible refine wp_reg (id := 10) ?_)); (first | go_values | go_skip | go_step | go_guarded | go_upon | go_in | go_back | fail))
     with_reducible refine wp_reg (id := 10) ?_
     iterate 2
      refine wpO_want rfl ?_
      go_simp
     refine wpO_done ?_
     try go_frame
     go_wp2_with fail
     refine Sp.leaves0 ?_
     exact ⟨_,results_tmp (t := 2) rfl _ _ _,RgPost.mk (unhide hg) (unhide hP).extf⟩
set_option maxRecDepth 100000 in
set_option maxHeartbeats 16000000 in
theorem known22_any (w : World) (hT : Tab w) :
  Calls Tryz.prog 12 #[] w fun e w' => e = .returned (.bool true) ∧ Ext w w' := by
 have hT' := hide hT
 have hi5 := hide (show GInv r5V r5E by
  have h := fold_inv (ringE 5) ([],[]) GInv.nil
  have e : (ringE 5).foldl stD ([],[]) = (r5V,r5E) := ring5
  rw [e] at h
  exact h)
 clear hT
 have hP := hide (Sp.new w)
 refine callsIn_wide.1 (callsIn_of_wp_marks (n := 0) Tryz.func12 rfl trivial (wpIn_wide.2 ?_))
 simp only [Tryz.ntmps12,List.size_toArray,List.length_nil,Nat.reduceSub,Array.replicate_succ,Array.replicate_zero,List.push_toArray,List.append_toArray,List.nil_append,List.cons_append]
 try dsimp only
 repeat ((fail_if_success (with_reducible refine wp_reg (id := 1) ?_)); (first | go_values | go_skip | go_step | go_guarded | go_upon | go_in | go_back | fail))
 with_reducible refine wp_reg (id := 1) ?_
 refine wpO_want rfl ?_
 go_simp
 have hca := ring_any 5 w (by decide) (by decide)
 rw [ring5] at hca
 refine hca.mono ?_
 clear hca
 rintro _ y1 ⟨g,bv,be,rfl,hg0,hxc⟩
 try dsimp only at hg0
 refine ⟨_,rfl, ?_⟩
 replace hP : Hid (Sp w [] w [] [] [] y1) := hide ((unhide hP).ext hxc)
 have hg := hide (GL.of hg0)
 clear hxc hg0
 refine wpO_want rfl ?_
 go_simp
 refine wpO_done ?_
 try go_frame
 try dsimp only
 repeat ((fail_if_success (with_reducible refine wp_reg (id := 2) ?_)); (first | go_values | go_skip | go_step | go_guarded | go_upon | go_in | go_back | fail))
 with_reducible refine wp_reg (id := 2) ?_
 refine wpO_want rfl ?_
 go_simp
 refine wpO_want rfl ?_
 go_simp
 have hca := degeneracy_any (some ⟨g,0,none⟩) r5V r5E y1 (unhide hg) (unhide hi5) ((unhide hT').ext (unhide hP).extf)
 rw [r5_dgn] at hca
 refine hca.mono ?_
 clear hca
 rintro _ y2 ⟨Ad,cd,rfl,ho,hxc⟩
 refine ⟨_,rfl, ?_⟩
 replace hP : Hid (Sp w [] w [] [] [] y2) := hide ((unhide hP).ext hxc)
 obtain ⟨nd,hnd⟩ : ∃ n,n = ((degS (nr0 r5E) (toL (vS r5V)).length (toL (vS r5V))).map (·.1)).length := ⟨_,rfl⟩
 rw [← hnd]
 clear hnd
 replace hg := hide ((unhide hg).ext hxc)
 clear hxc ho
 generalize htu0 : Value.tuple _ = tu
 have htu := hide htu0
 clear htu0
 refine wpO_val rfl (run_move rfl rfl) ?_
 go_frame
 refine wpO_val rfl (run_extract (i := 0) (v := .int .i64 2) rfl (unhide htu).symm rfl) ?_
 go_frame
 refine wpO_val rfl (run_extract (i := 1) (v := .slice Ad nd cd) rfl (unhide htu).symm rfl) ?_
 go_frame
 iterate 2
  refine wpO_want rfl ?_
  go_simp
 refine wpO_done ?_
 try go_frame
 clear htu
 try dsimp only
 repeat ((fail_if_success (with_reducible refine wp_reg (id := 3) ?_)); (first | go_values | go_skip | go_step | go_guarded | go_upon | go_in | go_back | fail))
 with_reducible refine wp_reg (id := 3) ?_
 refine wpO_want rfl ?_
 go_simp
 refine wpO_want rfl ?_
 go_simp
 have hca := contraction_any (some ⟨g,0,none⟩) r5V r5E y2 (unhide hg) (unhide hi5) ((unhide hT').ext (unhide hP).extf)
 rw [r5_con] at hca
 refine hca.mono ?_
 clear hca
 rintro _ y3 ⟨Ac,cc,rfl,ho,hxc⟩
 refine ⟨_,rfl, ?_⟩
 replace hP : Hid (Sp w [] w [] [] [] y3) := hide ((unhide hP).ext hxc)
 obtain ⟨nc,hnc⟩ : ∃ n,n = (outC2 (conS (toL (vS r5V)).length (nr0 r5E) (toL (vS r5V)))).length := ⟨_,rfl⟩
 rw [← hnc]
 clear hnc
 replace hg := hide ((unhide hg).ext hxc)
 clear hxc ho
 generalize htu0 : Value.tuple _ = tu
 have htu := hide htu0
 clear htu0
 refine wpO_val rfl (run_move rfl rfl) ?_
 go_frame
 refine wpO_val rfl (run_extract (i := 0) (v := .int .i64 2) rfl (unhide htu).symm rfl) ?_
 go_frame
 refine wpO_val rfl (run_extract (i := 1) (v := .slice Ac nc cc) rfl (unhide htu).symm rfl) ?_
 go_frame
 iterate 2
  refine wpO_want rfl ?_
  go_simp
 refine wpO_done ?_
 try go_frame
 clear htu
 try dsimp only
 repeat ((fail_if_success (with_reducible refine wp_reg (id := 4) ?_)); (first | go_values | go_skip | go_step | go_guarded | go_upon | go_in | go_back | fail))
 with_reducible refine wp_reg (id := 4) ?_
 refine wpO_want rfl ?_
 go_simp
 refine wpO_want rfl ?_
 go_simp
 have hca := upper_any (some ⟨g,0,none⟩) r5V r5E y3 (unhide hg) (unhide hi5) ((unhide hT').ext (unhide hP).extf)
 rw [r5_ub1,r5_ub2] at hca
 refine hca.mono ?_
 clear hca
 rintro _ y4 ⟨Au,cu,rfl,ho,hxc⟩
 refine ⟨_,rfl, ?_⟩
 try simp only [List.length_cons,List.length_nil,Nat.zero_add,Nat.reduceAdd] at ho ⊢
 replace hP : Hid (Sp w [] w [] [] [(3,1, .slice Au 5 cu,5,[0,1,2,3,4].flatMap encI)] y4) := hide ((unhide hP).addRow hxc ho)
 replace hg := hide ((unhide hg).ext hxc)
 clear hxc ho
 generalize htu0 : Value.tuple _ = tu
 have htu := hide htu0
 clear htu0
 refine wpO_val rfl (run_move rfl rfl) ?_
 go_frame
 refine wpO_val rfl (run_extract (i := 0) (v := .int .i64 2) rfl (unhide htu).symm rfl) ?_
 go_frame
 refine wpO_val rfl (run_extract (i := 1) (v := .slice Au 5 cu) rfl (unhide htu).symm rfl) ?_
 go_frame
 iterate 2
  refine wpO_want rfl ?_
  go_simp
 refine wpO_done ?_
 try go_frame
 clear htu
 try dsimp only
 repeat ((fail_if_success (with_reducible refine wp_reg (id := 5) ?_)); (first | go_values | go_skip | go_step | go_guarded | go_upon | go_in | go_back | fail))
 with_reducible refine wp_reg (id := 5) ?_
 iterate 8
  refine wpO_want rfl ?_
  go_simp
 refine wpO_want rfl ?_
 go_simp
 have hca := greedy_any (some ⟨g,0,none⟩) r5V r5E y4 (unhide hg) (unhide hi5) ((unhide hT').ext (unhide hP).extf)
 refine hca.mono ?_
 clear hca
 rintro _ y5 ⟨Ag,cg,rfl,ho,hxc⟩
 rw [r5_grc]
 refine ⟨_,rfl, ?_⟩
 replace hP : Hid (Sp w [] w [] [] [(3,1, .slice Au 5 cu,5,[0,1,2,3,4].flatMap encI)] y5) := hide ((unhide hP).ext hxc)
 replace hg := hide ((unhide hg).ext hxc)
 clear hxc ho
 iterate 5
  refine wpO_want rfl ?_
  go_simp
 refine wpO_want rfl ?_
 go_simp
 have hca := lower_any (some ⟨g,0,none⟩) r5V r5E y5 (unhide hg) (unhide hi5) ((unhide hT').ext (unhide hP).extf)
 rw [r5_lb] at hca
 refine (hca).mono ?_
 rintro _ y6 ⟨rfl,hxc⟩
 clear hca
 refine ⟨_,rfl, ?_⟩
 replace hP : Hid (Sp w [] w [] [] [(3,1, .slice Au 5 cu,5,[0,1,2,3,4].flatMap encI)] y6) := hide ((unhide hP).ext hxc)
 clear hxc
 iterate 8
  refine wpO_want rfl ?_
  go_simp
 refine wpO_val (v := .slice (some ⟨y6.heap.size,0,none⟩) 5 5) rfl (w' := y6.alloc (.cells #[.int .i64 0, .int .i64 1, .int .i64 2, .int .i64 3, .int .i64 4] 3)) (by go_simp) ?_
 have hQ := (unhide hP).alloc 3 #[.int .i64 0, .int .i64 1, .int .i64 2, .int .i64 3, .int .i64 4]
 generalize y6.alloc (.cells #[.int .i64 0, .int .i64 1, .int .i64 2, .int .i64 3, .int .i64 4] 3) = zy6 at *
 generalize y6.heap.size = bb at *
 replace hP : Hid (Sp w [] w [] [(bb,3, #[.int .i64 0, .int .i64 1, .int .i64 2, .int .i64 3, .int .i64 4])] [(3,1, .slice Au 5 cu,5,[0,1,2,3,4].flatMap encI)] zy6) := hide hQ
 clear hQ
 go_frame
 refine wpO_want rfl ?_
 go_simp
 have hQv := slat_blk (enc := encI) (k := 1) [0,1,2,3,4] ((unhide hP).get 0 rfl) rfl (fun _ => rfl) (by decide)
 have hca := same_ints Au (some ⟨bb,0,none⟩) [0,1,2,3,4] [0,1,2,3,4] 5 5 cu 5 zy6 (own_at (enc := encI) ((unhide hP).row 0 rfl) (fun _ => rfl)) hQv rfl rfl (by decide) (by decide)
 rw [decide_eq_true rfl] at hca
 refine (hca).mono ?_
 rintro _ y7 ⟨rfl,hxc⟩
 clear hca hQv
 refine ⟨_,rfl, ?_⟩
 replace hP : Hid (Sp w [] w [] [(bb,3, #[.int .i64 0, .int .i64 1, .int .i64 2, .int .i64 3, .int .i64 4])] [(3,1, .slice Au 5 cu,5,[0,1,2,3,4].flatMap encI)] y7) := hide ((unhide hP).ext hxc)
 clear hxc
 iterate 2
  refine wpO_want rfl ?_
  go_simp
 refine wpO_done ?_
 try go_frame
 go_wp2_with fail
 refine Sp.leaves0 ?_
 exact ⟨_,results_tmp (t := 0) rfl _ _ _,rfl,(unhide hP).extf⟩
end Go.Proofs.YtoacpebmhbkmbaaGreatDoor
namespace Go.Proofs.YtoacpebmhbkmbaaGreatDoor
open Go Go.RowKit
section
variable {P : Program} {ρ : Operand → Value} {o : Oper} {T : TypeId} {p q : Operand} {w : World} {A : Option Addr} {n c k s : Nat}
theorem run_sl_to (ho : o.op = .slice T p none (some q) none) (hp : ρ p = .slice A n c) (hq : ρ q = .int .i64 (k : Int)) (ht : P.underlying T = some (.slice (P.elem T))) (hs : (sizeOf (P.elem T)).run P w = .ok s w) (hk : k ≤ c) : (execOp ρ o).run P w = .ok (.value (.slice A k c)) w := by
 have h := run_slice_h (w := w) T A n c ht .i64 (k : Int) (by omega) (by omega)
 rw [hs] at h
 simp only [Result.andThen_ok,sliced,Int.toNat_natCast,Nat.sub_zero] at h
 unfold execOp
 simp only [ho,hp,hq,Option.map]
 rw [Sem.run_bind,run_sliceAt_slice _ _ _ _ _ _ ht,h]
 simp only [Result.andThen_ok,Sem.run_pure]
 have hA : (if c = 0 then A else A.map fun x => x.add (0 * s)) = A := by
  split
  ·rfl
  ·cases A
   ·rfl
   ·simp [Addr.add]
 rw [hA]
end
theorem SlAt.upto {α : Type} {enc : α → List Value} {kk : Nat} {w : World} {A : Option Addr} {xs : List α} (h : SlAt enc kk w A xs) (n : Nat) : SlAt enc kk w A (xs.take n) := fun hne => by
 obtain ⟨b,off,hA,hlt,hc⟩ := h (by rintro rfl; simp at hne)
 refine ⟨b,off,hA,hlt,fun i x hx j u hu => hc i x ?_ j u hu⟩
 rw [List.getElem?_take] at hx
 split at hx
 ·exact hx
 ·cases hx
end Go.Proofs.YtoacpebmhbkmbaaGreatDoor
namespace Go.Proofs.YtoacpebmhbkmbaaGreatDoor
open Go Go.RowKit Go.Shelf
attribute [local go_sem] qUpon lUpon
attribute [local irreducible] wpO wpX wpQL
def Bg2 (w : World) (V : List (Int × Thing)) (E : List ((Int × Int) × Thing)) (q : Bool) (e : Ending) (w' : World) : Prop :=
 ∃ g bv be A B cA cB,e = .returned (.tuple #[.pointer (some ⟨g,0,none⟩), .agg #[.slice A V.length cA, .slice B E.length cB], .bool q]) ∧ IsG w' g bv be V E ∧ SlAt encV 3 w' A V ∧ SlAt encE 4 w' B E ∧ Ext w w'
def bgS (L : List Ed) : GS := mdS (L.take 40)
set_option maxRecDepth 100000 in
set_option maxHeartbeats 16000000 in
theorem begun22_any (A : Option Addr) (L : List Ed) (cL : Nat) (w : World) (hL : SlAt encD 5 w A L) (hl : L.length ≤ 9223372036854775807) (hc : L.length ≤ cL) :
  Calls Tryz.prog 18 #[.slice A L.length cL] w (Bg2 w (bgS L).1 (bgS L).2 (decide ((L.length : Int) ≤ 40))) := by
 obtain ⟨k,hk⟩ : ∃ k,k = (L.take 40).length := ⟨_,rfl⟩
 have hkm : (k : Int) = min (L.length : Int) 40 := by rw [hk,List.length_take]; omega
 have hkc := hide (show k ≤ cL by rw [hk,List.length_take]; omega)
 have hinv := hide (mdS_inv (L.take 40))
 have hmd := hide (fun (W : World) (hW : Ext w W) => by
  have h := made_any A (L.take 40) cL W ((SlAt.upto hL 40).ext hW)
  rw [← hk] at h
  exact h)
 unfold bgS
 generalize mdS (L.take 40) = S at *
 obtain ⟨V,E⟩ := S
 obtain ⟨n,hn⟩ : ∃ n,n = L.length := ⟨_,rfl⟩
 rw [← hn] at hkm ⊢
 obtain ⟨q,hq⟩ : ∃ q,q = decide ((n : Int) ≤ 40) := ⟨_,rfl⟩
 rw [← hq]
 have hq' := hq.symm
 clear hL hl hc hk hn hq
 try dsimp only at hinv hmd ⊢
 have hkm' := hide hkm
 have hP := hide (Sp.new w)
 refine callsIn_wide.1 (callsIn_of_wp_marks (n := 0) Tryz.func18 rfl trivial (wpIn_wide.2 ?_))
 simp only [Tryz.ntmps18,List.size_toArray,List.length_cons,List.length_nil,Nat.reduceAdd,Nat.reduceSub,Array.replicate_succ,Array.replicate_zero,List.push_toArray,List.append_toArray,List.nil_append,List.cons_append]
 try dsimp only
 repeat ((fail_if_success (with_reducible refine wp_reg (id := 0) ?_)); (first | go_values | go_skip | go_step | go_guarded | go_upon | go_in | go_back | fail))
 with_reducible refine wp_reg (id := 0) ?_
 refine wpO_want rfl ?_
 go_simp
 refine (unhide hP).allocO 41 #[.slice none 0 0, .slice none 0 0] rfl (by go_simp) ?_
 intro r3 y1 hQ
 replace hP : Hid (Sp w [] w [] [(r3,41, #[.slice none 0 0, .slice none 0 0])] [] y1) := hide hQ
 clear hQ
 refine wpO_want rfl ?_
 go_simp
 refine wpO_done ?_
 try go_frame
 try dsimp only
 repeat ((fail_if_success (with_reducible refine wp_reg (id := 1) ?_)); (first | go_values | go_skip | go_step | go_guarded | go_upon | go_in | go_back | fail))
 with_reducible refine wp_reg (id := 1) ?_
 iterate 3
  refine wpO_want rfl ?_
  go_simp
 refine wpO_val (v := .int .i64 (k : Nat)) (w' := y1) rfl (by go_simp; first | done | (split <;> first | omega | rfl | (congr 1; omega)) | (all_goals omega) | trace_state) ?_
 go_frame
 clear hkm
 refine wpO_val rfl (run_sl_to (k := k) rfl rfl (by rfl) Tryz.underlying37 (Tryz.sizeOf29 _) (unhide hkc)) ?_
 go_frame
 refine wpO_want rfl ?_
 go_simp
 refine (unhide hmd _ (unhide hP).extf).mono ?_
 rintro _ y2 ⟨A1,cA,B1,cB,rfl,hs1,he1,hxc⟩
 try dsimp only at hs1 he1 ⊢
 refine ⟨_,rfl, ?_⟩
 replace hP : Hid (Sp w [] w [] [(r3,41, #[.slice none 0 0, .slice none 0 0])] [] y2) := hide ((unhide hP).ext hxc)
 clear hxc
 refine (unhide hP).allocT 41 #[.slice none 0 0, .slice none 0 0] rfl (by go_simp) ?_
 intro r5 y3 hQ hxa hga
 replace hP : Hid (Sp w [] w [] [(r3,41, #[.slice none 0 0, .slice none 0 0]),(r5,41, #[.slice none 0 0, .slice none 0 0])] [] y3) := hide hQ
 clear hQ
 try go_frame
 refine (unhide hP).setT 1 #[.slice A1 V.length cA, .slice B1 E.length cB] rfl rfl (fun hb => run_store_row (v := .agg #[.slice A1 V.length cA, .slice B1 E.length cB]) rfl (by rfl) (by rfl) (by simp [go_sem]) hb rfl (fun u hu => by simp [Value.cells] at hu; rcases hu with rfl | rfl <;> rfl)) ?_
 intro y4 hQ hkq
 replace hP : Hid (Sp w [] w [] [(r3,41, #[.slice none 0 0, .slice none 0 0]),(r5,41, #[.slice A1 V.length cA, .slice B1 E.length cB])] [] y4) := hide hQ
 have hxs := hxa.of_new hkq (fun x hx => by rw [List.mem_singleton] at hx; rw [hx]; exact hga)
 clear hQ hkq hxa hga
 try go_frame
 refine wpO_done ?_
 try go_frame
 replace hs1 := hide (hs1.ext hxs)
 replace he1 := hide (he1.ext hxs)
 clear hxs
 have q0 := (unhide hP).cell 1 0 (v := .slice A1 V.length cA) rfl rfl
 have q1 := (unhide hP).cell 1 1 (v := .slice B1 E.length cB) rfl rfl
 have hself := Ext.refl y4
 try dsimp only
 repeat ((fail_if_success (with_reducible refine wp_reg (id := 2) ?_)); (first | go_values | go_skip | go_step | go_guarded | go_upon | go_in | go_back | fail))
 with_reducible refine wp_reg (id := 2) ?_
 refine wpO_want rfl ?_
 go_simp
 clear q0 q1 hself
 refine wpO_want rfl ?_
 go_simp
 refine (from_any A1 B1 V E cA cB y4 (unhide hs1) (unhide he1) (unhide hinv)).mono ?_
 rintro _ y5 ⟨g,bv,be,rfl,hg0,hxc,n1,n2,n3⟩
 refine ⟨_,rfl, ?_⟩
 have hr3 := hide (show r3 < y4.heap.size from (unhide hP).lt r3 ((unhide hP).st.mem 0 rfl))
 have hng := hide (show r3 ≠ g ∧ r3 ≠ bv ∧ r3 ≠ be by have := unhide hr3; omega)
 replace hP : Hid (Sp w [] w [] [(r3,41, #[.slice none 0 0, .slice none 0 0]),(r5,41, #[.slice A1 V.length cA, .slice B1 E.length cB])] [] y5) := hide ((unhide hP).ext hxc)
 replace hs1 := hide ((unhide hs1).ext hxc)
 replace he1 := hide ((unhide he1).ext hxc)
 have hg := hide hg0
 clear hxc hg0 n1 n2 n3 hr3
 refine wpO_want rfl ?_
 go_simp
 refine wpO_done ?_
 try go_frame
 go_wp2_with fail
 have hb3 := hide ((unhide hP).get 0 rfl)
 have hsk := hide (fun (W : World) (hW : Keep [r3] y5 W) => SlAt.keep_G (unhide hs1) (unhide hb3) ⟨_,_,_,rfl⟩ ⟨_,_,_,rfl⟩ encV_ns (fun x => ⟨_,rfl⟩) hW)
 have hek := hide (fun (W : World) (hW : Keep [r3] y5 W) => SlAt.keep_G (unhide he1) (unhide hb3) ⟨_,_,_,rfl⟩ ⟨_,_,_,rfl⟩ encE_ns (fun x => ⟨_,rfl⟩) hW)
 have hgk := hide (fun (W : World) (hW : Keep [r3] y5 W) => (unhide hg).keep hW (by have := unhide hng; simp; omega) (by have := unhide hng; simp; omega) (by have := unhide hng; simp; omega))
 clear hs1 he1 hg hb3 hinv
 have q0 := (unhide hP).cellK (S := [r3]) 1 0 (v := .slice A1 V.length cA) rfl rfl (by rw [List.mem_singleton]; exact (unhide hP).ne 1 0 (by decide) rfl rfl)
 have q1 := (unhide hP).cellK (S := [r3]) 1 1 (v := .slice B1 E.length cB) rfl rfl (by rw [List.mem_singleton]; exact (unhide hP).ne 1 0 (by decide) rfl rfl)
 have hself := Keep.refl [r3] y5
 refine wp_regionK (P := Tryz.prog) [r3] [0,1,2,3,4,5,6,7,8,9] [] 2 #[true,true,true,true,true,true,true,true,true,true,false,false] (by kernel_rfl) (by kernel_rfl) rfl (by rfl) ?_
 iterate 7
  refine ql_want (v := ?_) rfl (by rfl) (fun W hW => ?_) ?_
  rotate_left
  ·go_simp
   first | done | rfl
  go_frame
 refine ql_want (v := .bool q) rfl (by rfl) (fun W hW => ?_) ?_
 ·go_simp
  first | done | rfl | (rw [hq']) | simp [hq']
 go_frame
 iterate 2
  refine ql_want (v := ?_) rfl (by rfl) (fun W hW => ?_) ?_
  rotate_left
  ·go_simp
   first | done | rfl
  go_frame
 refine wpQL_nil (fun y6 hxq => ?_)
 have hK := hide (hxq.keep [r3])
 replace hP : Hid (Sp w [] w [] [(r3,41, #[.slice none 0 0, .slice none 0 0]),(r5,41, #[.slice A1 V.length cA, .slice B1 E.length cB])] [] y6) := hide ((unhide hP).ext hxq)
 clear hxq
 clear q0 q1 hself hq'
 have hKa := hK
 refine lx_one (i := 10) (by kernel_rfl) rfl (by rfl) #[true,true,true,true,true,true,true,true,true,true,true,false] (by rfl) ?_
 refine (unhide hP).setL (unhide hK) 0 #[.slice A1 V.length cA, .slice B1 E.length cB] rfl (by simp) (fun hb => run_store_row (v := .agg #[.slice A1 V.length cA, .slice B1 E.length cB]) rfl (by rfl) (by rfl) (by simp [go_sem]) hb rfl (fun u hu => by simp [Value.cells] at hu; rcases hu with rfl | rfl <;> rfl)) ?_
 intro y7 hQ hK2
 replace hP : Hid (Sp w [] w [] [(r3,41, #[.slice A1 V.length cA, .slice B1 E.length cB]),(r5,41, #[.slice A1 V.length cA, .slice B1 E.length cB])] [] y7) := hide hQ
 replace hK := hide hK2
 clear hQ hK2
 try go_frame
 have hKb := hK
 refine lx_rekeep (unhide hK) [11] [] 0 1 #[true,true,true,true,true,true,true,true,true,true,true,false] #[true,true,true,true,true,true,true,true,true,true,true,true] (by kernel_rfl) rfl (by rfl) ?_
 clear hK
 iterate 1
  refine ql_want (v := ?_) rfl (by rfl) (fun W hW => ?_) ?_
  rotate_left
  ·go_simp
   first | done | rfl
  go_frame
 refine wpQL_nil (fun y8 hxq => ?_)
 have hK := hide (hxq.keep [r3])
 replace hP : Hid (Sp w [] w [] [(r3,41, #[.slice A1 V.length cA, .slice B1 E.length cB]),(r5,41, #[.slice A1 V.length cA, .slice B1 E.length cB])] [] y8) := hide ((unhide hP).ext hxq)
 clear hxq
 refine wpX_done (by kernel_rfl) ?_
 try go_frame
 go_wp2_with fail
 have hKe := hide ((unhide hKb).trans (unhide hK))
 refine Sp.leaves0 ?_
 have h5 := (unhide hP).get 0 rfl
 refine ⟨_,ret_tct24 rfl rfl (load_G _ r3 _ _ (h5.cell 0) (h5.cell 1)), ?_⟩
 exact ⟨g,bv,be,A1,B1,cA,cB,rfl,unhide hgk _ (unhide hKe),unhide hsk _ (unhide hKe),unhide hek _ (unhide hKe),(unhide hP).extf⟩
end Go.Proofs.YtoacpebmhbkmbaaGreatDoor
namespace Go.Proofs.YtoacpebmhbkmbaaGreatDoor
open Go
variable {V : List (Int × Thing)} {E : List ((Int × Int) × Thing)}
theorem hasE_ex (hlo : ∀ e ∈ E,e.1.1 < e.1.2) (u v : Int) : hasE u v E = true ↔ ∃ e ∈ E,e.1 = (min u v,max u v) := by
 unfold hasE
 rw [decide_eq_true_eq,posI_nonneg]
 constructor
 ·rintro ⟨e,he,h⟩; exact ⟨e,he,(isE_iff (hlo e he)).1 h⟩
 ·rintro ⟨e,he,h⟩; exact ⟨e,he,(isE_iff (hlo e he)).2 h⟩
theorem nr0_adj (hi : GInv V E) (u v : Int) : nr0 E u v = true ↔ Adj0 E u v := hasE_ex hi.lo u v
end Go.Proofs.YtoacpebmhbkmbaaGreatDoor
