/- Parts of a proof, laid together. Each part says its own conditions. -/
import Derived.Test.YtbpeemhfjgcnaaaGreatC25
import Derived.Test.YtbpeemhfjgcnaaaGreatC8
namespace Go.Proofs.YtbpeemhfjgcnaaaGreat
open Go Go.RowKit Go.Shelf
attribute [local go_sem] qUpon lUpon
attribute [local irreducible] wpO wpX wpQL
def OwJ (w : World) (xs : List Int) (e : Ending) (w' : World) : Prop := ∃ A n c,e = .returned (.slice A n c) ∧ n = xs.length ∧ w'.ownsRow w.heap.size 3 1 (.slice A n c) n (xs.flatMap encI) ∧ Ext w w'
theorem OwJ.mk {w w' : World} {xs : List Int} {A : Option Addr} {n c : Nat} (hn : n = xs.length) (h1 : w'.ownsRow w.heap.size 3 1 (.slice A n c) n (xs.flatMap encI)) (h2 : Ext w w') : OwJ w xs (.returned (.slice A n c)) w' := ⟨A,n,c,rfl,hn,h1,h2⟩
theorem wrap_nat {i : Nat} (h : i ≤ 1000000) : IntKind.i64.wrap ((i : Int) + 1) = ((i + 1 : Nat) : Int) := by
 rw [IntKind.wrap_i64]
 omega
theorem pairO_le (o : Option Thing) : (pairO o).length ≤ 3 := by
 cases o <;> simp [pairO]
theorem pair_le (f : Int → Option Thing) : ∀ r : List Int,(r.flatMap fun v => pairO (f v)).length ≤ 3 * r.length
 | [] => by simp
 | v :: r => by
  rw [List.flatMap_cons,List.length_append,List.length_cons]
  have h1 := pairO_le (f v)
  have h2 := pair_le f r
  omega
theorem codeP_le (E : List ((Int × Int) × Thing)) (N : Nat) : ∀ l : List Int,l.length ≤ N → (codeP E l).length ≤ 3 * N * l.length
 | [],_ => by simp [codeP]
 | u :: r,h => by
  rw [List.length_cons] at h
  have h1 := pair_le (betE E u) r
  have h2 := codeP_le E N r (by omega)
  unfold codeP
  rw [List.length_append,List.length_cons,Nat.mul_add]
  omega
theorem codeP_step (E : List ((Int × Int) × Thing)) (L : List Int) {i : Nat} (hi : i < L.length) : codeP E (L.drop i) = (L.drop (i + 1)).flatMap (fun v => pairO (betE E L[i] v)) ++ codeP E (L.drop (i + 1)) := by
 rw [List.drop_eq_getElem_cons hi]
 rfl
theorem flat_step (f : Int → List Int) (L : List Int) {i : Nat} (hi : i < L.length) : (L.drop i).flatMap f = f L[i] ++ (L.drop (i + 1)).flatMap f := by
 rw [List.drop_eq_getElem_cons hi]
 rfl
set_option maxRecDepth 100000 in
set_option maxHeartbeats 16000000 in
theorem code_any (g bv be : Nat) (V : List (Int × Thing)) (E : List ((Int × Int) × Thing)) (A : Option Addr) (L : List Int) (n cA : Nat) (w : World) (hg : IsG w g bv be V E) (hb : LabB V E) (hA : SlAt encI 1 w A L) (hn : n = L.length) (hl : n ≤ 8) (hcap : n ≤ cA) :
  Calls Tryz.prog 43 #[.pointer (some ⟨g,0,none⟩), .slice A n cA] w (OwJ w (codeP E L)) := by
 have hg' := hide hg
 have hb' := hide hb
 have hA' := hide hA
 have hn' := hide hn
 have hl' := hide hl
 have hcap' := hide hcap
 have hcl := hide (show (codeP E L).length ≤ 3 * 8 * 8 by
  have h1 := codeP_le E 8 L (by omega)
  have h2 : 3 * 8 * L.length ≤ 3 * 8 * 8 := Nat.mul_le_mul_left _ (by omega)
  omega)
 clear hg hb hA hn hl hcap
 have hP := hide (Sp.new w)
 refine callsIn_wide.1 (callsIn_of_wp_marks (n := 0) Tryz.func43 rfl trivial (wpIn_wide.2 ?_))
 simp only [Tryz.ntmps43,List.size_toArray,List.length_cons,List.length_nil,Nat.reduceAdd,Nat.reduceSub,Array.replicate_succ,Array.replicate_zero,List.push_toArray,List.append_toArray,List.nil_append,List.cons_append]
 try dsimp only
 repeat ((fail_if_success (with_reducible refine wp_reg (id := 0) ?_)); (first | go_values | go_skip | go_step | go_guarded | go_upon | go_in | go_back | fail))
 with_reducible refine wp_reg (id := 0) ?_
 refine wpO_want rfl ?_
 go_simp
 refine wpO_done ?_
 try go_frame
 try dsimp only
 repeat ((fail_if_success (with_reducible refine wp_reg (id := 1) ?_)); (first | go_values | go_skip | go_step | go_guarded | go_upon | go_in | go_back | fail))
 with_reducible refine wp_reg (id := 1) ?_
 refine wpO_want rfl ?_
 go_simp
 refine wpO_done ?_
 try go_frame
 replace hP : Hid (Sp w [] w [] [] [(3,1, .slice none 0 0,0,([] : List Int).flatMap encI)] w) := hide ((unhide hP).nil 3 1)
 try dsimp only
 repeat ((fail_if_success (with_reducible refine wp_reg (id := 2) ?_)); (first | go_values | go_skip | go_step | go_guarded | go_upon | go_in | go_back | fail))
 with_reducible refine wp_reg (id := 2) ?_
 iterate 3
  refine wpO_want rfl ?_
  go_simp
 refine wpO_done ?_
 try go_frame
 go_wp2_with fail
 obtain ⟨I0_2,hI0_20⟩ : ∃ I : Nat → Act → World → Prop,I = fun fi a' wr => ∃ (i : Nat), ∃ (Ax : Option Addr), ∃ (nx : Nat), ∃ (cx : Nat), ∃ (xs : List Int),a'.tmps.size = 36 ∧ a'.tmps.getD 0 undef = .pointer (some ⟨g,0,none⟩) ∧ a'.tmps.getD 1 undef = .slice A n cA ∧ a'.tmps.getD 5 undef = .slice Ax nx cx ∧ a'.tmps.getD 10 undef = .int .i64 (n : Nat) ∧ a'.tmps.getD 11 undef = .int .i64 (i : Nat) ∧ a'.defers = [] ∧ i ≤ n ∧ xs ++ codeP E (L.drop i) = codeP E L ∧ nx = xs.length ∧ Sp w [] w [] [] [(3,1, .slice Ax nx cx,nx,xs.flatMap encI)] wr ∧ fi = n - i := ⟨_,rfl⟩
 have hI0_2 := hide hI0_20
 clear hI0_20
 refine wp_loop_ix I0_2 (n - 0) ?_ ?_
 ·rw [unhide hI0_2]; exact ⟨0,none,0,0,[],rfl,rfl,rfl,rfl,rfl,rfl,rfl,Nat.zero_le _,rfl,rfl,unhide hP,rfl⟩
 ·rintro fi ⟨tm,dfs⟩ wr hrel
  rw [unhide hI0_2] at hrel
  obtain ⟨i,Ax,nx,cx,xs,hsz,e0,e1,e5,e10,e11,hdf,hin,hxs0,hnx0,hPr,hfm⟩ := hrel
  obtain ⟨us,rfl⟩ : ∃ us : Nat → Value,tm = #[us 0,us 1,us 2,us 3,us 4,us 5,us 6,us 7,us 8,us 9,us 10,us 11,us 12,us 13,us 14,us 15,us 16,us 17,us 18,us 19,us 20,us 21,us 22,us 23,us 24,us 25,us 26,us 27,us 28,us 29,us 30,us 31,us 32,us 33,us 34,us 35] := ⟨fun i => tm.getD i undef,arr_fn hsz⟩
  have h0 : us 0 = .pointer (some ⟨g,0,none⟩) := e0
  have h1 : us 1 = .slice A n cA := e1
  have h5 : us 5 = .slice Ax nx cx := e5
  have h10 : us 10 = .int .i64 (n : Nat) := e10
  have h11 : us 11 = .int .i64 (i : Nat) := e11
  have hdf2 : dfs = [] := hdf
  subst hdf2
  clear hdf hsz e0 e1 e5 e10 e11
  simp only [h0,h1,h5,h10,h11]
  clear h0 h1 h5 h10 h11
  clear hP
  have hP := hide hPr
  have hfm' := hide hfm
  have hxs := hide hxs0
  have hnx := hide hnx0
  clear hPr hfm hxs0 hnx0
  by_cases hlt : i < n
  ·skip
   have hil : (i : Int) < (n : Int) := by omega
   have hiL : i < L.length := by have := unhide hn'; omega
   have hib : (i : Int) ≤ 8 := by have := unhide hl'; omega
   obtain ⟨ni,hni⟩ : ∃ ni,ni = n - (i + 1) := ⟨_,rfl⟩
   have hni' := hide hni
   have hstp := hide (codeP_step E L hiL)
   have hM := hide ((unhide hA').rest (i + 1) cA (by have := unhide hn'; have := unhide hcap'; omega))
   obtain ⟨M,hM0⟩ : ∃ M,M = L.drop (i + 1) := ⟨_,rfl⟩
   rw [← hM0] at hM hstp
   have hMe := hide hM0
   have hMl := hide (show ni = M.length by rw [hni,hM0,List.length_drop,unhide hn'])
   obtain ⟨x,hx0⟩ : ∃ x,x = L[i] := ⟨_,rfl⟩
   rw [← hx0] at hstp
   have hxe := hide hx0
   obtain ⟨AM,hAM⟩ : ∃ AM,AM = restA A (i + 1) cA 1 := ⟨_,rfl⟩
   rw [← hAM] at hM
   obtain ⟨cM,hcM⟩ : ∃ cM,cM = cA - (i + 1) := ⟨_,rfl⟩
   have hlt' := hide hlt
   clear hni hM0 hx0 hlt hin
   try dsimp only
   repeat ((fail_if_success (with_reducible refine wp_reg (id := 3) ?_)); (first | go_values | go_skip | go_step | go_guarded | go_upon | go_in | go_back | fail))
   with_reducible refine wp_reg (id := 3) ?_
   refine wpO_want rfl ?_
   go_simp
   refine wpO_done ?_
   try go_frame
   try dsimp only
   repeat ((fail_if_success (with_reducible refine wp_reg (id := 4) ?_)); (first | go_values | go_skip | go_step | go_guarded | go_upon | go_in | go_back | fail))
   with_reducible refine wp_reg (id := 4) ?_
   iterate 2
    refine wpO_want rfl ?_
    go_simp
   refine wpO_done ?_
   try go_frame
   try dsimp only
   repeat ((fail_if_success (with_reducible refine wp_reg (id := 5) ?_)); (first | go_values | go_skip | go_step | go_guarded | go_upon | go_in | go_back | fail))
   with_reducible refine wp_reg (id := 5) ?_
   iterate 3
    refine wpO_want rfl ?_
    go_simp
   rw [wrap_nat (show i ≤ 1000000 by omega)]
   refine wpO_val (v := .slice AM ni cM) rfl (by rw [run_sl_from (k := i + 1) rfl rfl (by rfl) Tryz.underlying31 (Tryz.sizeOf3 _) (by have := unhide hlt'; omega),hAM,hcM,unhide hni']) ?_
   go_frame
   clear hAM hcM
   iterate 2
    refine wpO_want rfl ?_
    go_simp
   refine wpO_done ?_
   try go_frame
   go_wp2_with fail
   obtain ⟨I0_6,hI0_60⟩ : ∃ I : Nat → Act → World → Prop,I = fun fj a' wr => ∃ (j : Nat), ∃ (Ay : Option Addr), ∃ (ny : Nat), ∃ (cy : Nat), ∃ (ys : List Int),a'.tmps.size = 36 ∧ a'.tmps.getD 0 undef = .pointer (some ⟨g,0,none⟩) ∧ a'.tmps.getD 1 undef = .slice A n cA ∧ a'.tmps.getD 5 undef = .slice Ay ny cy ∧ a'.tmps.getD 6 undef = .int .i64 (i : Nat) ∧ a'.tmps.getD 10 undef = .int .i64 (n : Nat) ∧ a'.tmps.getD 11 undef = .int .i64 (i : Nat) ∧ a'.tmps.getD 17 undef = .slice AM ni cM ∧ a'.tmps.getD 18 undef = .int .i64 (ni : Nat) ∧ a'.tmps.getD 19 undef = .int .i64 (j : Nat) ∧ a'.defers = [] ∧ j ≤ ni ∧ (ys ++ ((M.drop j).flatMap (fun v => pairO (betE E x v)) ++ codeP E M) = codeP E L) ∧ ny = ys.length ∧ Sp w [] w [] [] [(3,1, .slice Ay ny cy,ny,ys.flatMap encI)] wr ∧ fj = ni - j := ⟨_,rfl⟩
   have hI0_6 := hide hI0_60
   clear hI0_60
   refine wp_loop_ix I0_6 (ni - 0) ?_ ?_
   ·rw [unhide hI0_6]; exact ⟨0,Ax,nx,cx,xs,rfl,rfl,rfl,rfl,rfl,rfl,rfl,rfl,rfl,rfl,rfl,Nat.zero_le _,by rw [List.drop_zero, ← unhide hstp]; exact unhide hxs,unhide hnx,unhide hP,rfl⟩
   ·rintro fj ⟨tm,dfs⟩ wr hrel
    rw [unhide hI0_6] at hrel
    obtain ⟨j,Ay,ny,cy,ys,hsz,e0,e1,e5,e6,e10,e11,e17,e18,e19,hdf,hjn,hys0,hny0,hPs,hgm⟩ := hrel
    obtain ⟨us,rfl⟩ : ∃ us : Nat → Value,tm = #[us 0,us 1,us 2,us 3,us 4,us 5,us 6,us 7,us 8,us 9,us 10,us 11,us 12,us 13,us 14,us 15,us 16,us 17,us 18,us 19,us 20,us 21,us 22,us 23,us 24,us 25,us 26,us 27,us 28,us 29,us 30,us 31,us 32,us 33,us 34,us 35] := ⟨fun i => tm.getD i undef,arr_fn hsz⟩
    have h0 : us 0 = .pointer (some ⟨g,0,none⟩) := e0
    have h1 : us 1 = .slice A n cA := e1
    have h5 : us 5 = .slice Ay ny cy := e5
    have h6 : us 6 = .int .i64 (i : Nat) := e6
    have h10 : us 10 = .int .i64 (n : Nat) := e10
    have h11 : us 11 = .int .i64 (i : Nat) := e11
    have h17 : us 17 = .slice AM ni cM := e17
    have h18 : us 18 = .int .i64 (ni : Nat) := e18
    have h19 : us 19 = .int .i64 (j : Nat) := e19
    have hdf2 : dfs = [] := hdf
    subst hdf2
    clear hdf hsz e0 e1 e5 e6 e10 e11 e17 e18 e19
    simp only [h0,h1,h5,h6,h10,h11,h17,h18,h19]
    clear h0 h1 h5 h6 h10 h11 h17 h18 h19
    clear hP hxs hnx
    have hP := hide hPs
    have hgm' := hide hgm
    have hys := hide hys0
    have hny := hide hny0
    clear hPs hgm hys0 hny0
    by_cases hjt : j < ni
    ·skip
     have hil2 : (j : Int) < (ni : Int) := by omega
     have hjM : j < M.length := by have := unhide hMl; omega
     have hjb : (j : Int) ≤ 8 := by have := unhide hl'; have := unhide hni'; omega
     have hjt' := hide hjt
     have hst2 := hide (flat_step (fun v => pairO (betE E x v)) M hjM)
     obtain ⟨b2,off2,rfl,d0⟩ := atI ((unhide hM).ext (unhide hP).extf) hjM
     have hself := Ext.refl wr
     generalize M[j] = y at *
     clear hjt hjn
     try dsimp only
     repeat ((fail_if_success (with_reducible refine wp_reg (id := 6) ?_)); (first | go_values | go_skip | go_step | go_guarded | go_upon | go_in | go_back | fail))
     with_reducible refine wp_reg (id := 6) ?_
     refine wpO_want rfl ?_
     go_simp
     refine wpO_done ?_
     try go_frame
     try dsimp only
     repeat ((fail_if_success (with_reducible refine wp_reg (id := 7) ?_)); (first | go_values | go_skip | go_step | go_guarded | go_upon | go_in | go_back | fail))
     with_reducible refine wp_reg (id := 7) ?_
     iterate 3
      refine wpO_want rfl ?_
      go_simp
     refine wpO_done ?_
     try go_frame
     clear d0 hself
     obtain ⟨b3,off3,rfl,d1⟩ := atI ((unhide hA').ext (unhide hP).extf) hiL
     have hself := Ext.refl wr
     rw [← unhide hxe] at d1
     try dsimp only
     repeat ((fail_if_success (with_reducible refine wp_reg (id := 8) ?_)); (first | go_values | go_skip | go_step | go_guarded | go_upon | go_in | go_back | fail))
     with_reducible refine wp_reg (id := 8) ?_
     iterate 8
      refine wpO_want rfl ?_
      go_simp
     clear d1 hself
     refine (side_any g bv be V E x y wr ((unhide hg').ext (unhide hP).extf) (unhide hb')).mono ?_
     rintro _ y1 ⟨rfl,hxc⟩
     refine ⟨_,rfl, ?_⟩
     replace hP : Hid (Sp w [] w [] [] [(3,1, .slice Ay ny cy,ny,ys.flatMap encI)] y1) := hide ((unhide hP).ext hxc)
     clear hxc
     obtain ⟨oy,hoy⟩ : ∃ oy,oy = betE E x y := ⟨_,rfl⟩
     rw [← hoy]
     have hoy' := hide hoy
     clear hoy
     refine wpO_want rfl ?_
     go_simp
     refine (list_any oy y1).mono ?_
     rintro _ y2 ⟨Al,cl,rfl,hls0,hxc⟩
     refine ⟨_,rfl, ?_⟩
     replace hP : Hid (Sp w [] w [] [] [(3,1, .slice Ay ny cy,ny,ys.flatMap encI)] y2) := hide ((unhide hP).ext hxc)
     have hls := hide hls0
     obtain ⟨nl,hnl⟩ : ∃ nl,nl = (pairO oy).length := ⟨_,rfl⟩
     rw [← hnl]
     have hnl' := hide hnl
     have hnl3 := hide (show nl ≤ 3 by rw [hnl]; exact pairO_le oy)
     clear hnl hxc hls0
     try go_frame
     have hsum := unhide hys
     rw [unhide hst2] at hsum
     have hsum' := hide hsum
     have hlen := congrArg List.length hsum
     rw [List.length_append] at hlen
     have hny9 := hide (show ny + nl ≤ 100000 by have := unhide hcl; have := unhide hny; have := unhide hnl3; omega)
     clear hsum hlen
     refine (unhide hP).apAO (enc := encI) (T := 3) (ST := 31) 0 (v := .slice Ay ny cy) (m := ny) (xs := ys) rfl rfl infoI Tryz.underlying31 one_encI (fun _ => rfl) (by decide) (by decide) rfl (pairO oy) rfl rfl ((unhide hnl').symm) (unhide hls) (by have := unhide hny9; omega) ?_
     intro Az cAz y3 hQ
     replace hP : Hid (Sp w [] w [] [] [(3,1, .slice Az (ny + nl) cAz,ny + nl,(ys ++ (pairO oy)).flatMap encI)] y3) := hide hQ
     clear hQ
     try go_frame
     refine wpO_want rfl ?_
     go_simp
     refine wpO_done ?_
     try go_frame
     go_wp2_with fail
     have hs := unhide hsum'
     rw [← unhide hoy',List.append_assoc, ← List.append_assoc] at hs
     refine ⟨ni - (j + 1), ?_,by have := unhide hgm'; have := unhide hjt'; omega⟩
     rw [unhide hI0_6]
     exact ⟨j + 1,Az,ny + nl,cAz,ys ++ pairO oy,(by first | rfl | trivial),(by first | rfl | trivial),(by first | rfl | trivial),(by first | rfl | trivial),(by first | rfl | trivial),(by first | rfl | trivial),(by first | rfl | trivial),(by first | rfl | trivial),(by first | rfl | trivial),(by first | rfl | (show _ = Value.int _ _; go_num) | go_num),(by first | rfl | trivial),by have := unhide hjt'; omega,hs,by rw [List.length_append, ← unhide hnl', ← unhide hny],unhide hP,rfl⟩
    ·skip
     have hil2 : ¬ (j : Int) < (ni : Int) := by omega
     obtain rfl : ni = j := by omega
     clear hjt hjn
     try dsimp only
     repeat ((fail_if_success (with_reducible refine wp_reg (id := 6) ?_)); (first | go_values | go_skip | go_step | go_guarded | go_upon | go_in | go_back | fail))
     with_reducible refine wp_reg (id := 6) ?_
     refine wpO_want rfl ?_
     go_simp
     refine wpO_done ?_
     try go_frame
     clear hil2
     go_wp2_with fail
     have hs := unhide hys
     rw [List.drop_eq_nil_of_le (by have := unhide hMl; omega),List.flatMap_nil,List.nil_append,unhide hMe] at hs
     refine ⟨n - (i + 1), ?_,by have := unhide hfm'; have := unhide hlt'; omega⟩
     rw [unhide hI0_2]
     exact ⟨i + 1,Ay,ny,cy,ys,(by first | rfl | trivial),(by first | rfl | trivial),(by first | rfl | trivial),(by first | rfl | trivial),(by first | rfl | trivial),(by first | rfl | (show _ = Value.int _ _; go_num) | go_num),(by first | rfl | trivial),by have := unhide hlt'; omega,hs,unhide hny,unhide hP,rfl⟩
  ·skip
   have hil : ¬ (i : Int) < (n : Int) := by omega
   obtain rfl : n = i := by omega
   have hxe := hide (show xs = codeP E L by
    have h := unhide hxs
    rw [List.drop_eq_nil_of_le (by have := unhide hn'; omega)] at h
    rw [← h]
    exact (List.append_nil _).symm)
   clear hlt hin
   try dsimp only
   repeat ((fail_if_success (with_reducible refine wp_reg (id := 3) ?_)); (first | go_values | go_skip | go_step | go_guarded | go_upon | go_in | go_back | fail))
   with_reducible refine wp_reg (id := 3) ?_
   refine wpO_want rfl ?_
   go_simp
   refine wpO_done ?_
   try go_frame
   try dsimp only
   repeat ((fail_if_success (with_reducible refine wp_reg (id := 11) ?_)); (first | go_values | go_skip | go_step | go_guarded | go_upon | go_in | go_back | fail))
   with_reducible refine wp_reg (id := 11) ?_
   iterate 2
    refine wpO_want rfl ?_
    go_simp
   refine wpO_done ?_
   try go_frame
   go_wp2_with fail
   refine Sp.leaves0 ?_
   refine ⟨_,results_tmp rfl _ _ _, ?_⟩
   have ho := (unhide hP).row 0 rfl
   rw [unhide hxe] at ho hnx
   exact OwJ.mk (unhide hnx) ho (unhide hP).extf
end Go.Proofs.YtbpeemhfjgcnaaaGreat
namespace Go.Proofs.YtbpeemhfjgcnaaaGreat
open Go Go.RowKit Go.Shelf Go.Sort Go.Proofs
attribute [local go_sem] qUpon lUpon
theorem nan8_any (a : Int) (w : World) : Calls Tryz.prog 107 #[.int .u8 a] w fun e w' => e = .returned (.bool false) ∧ w' = w := by
 go_enter Tryz.func107,Tryz.ntmps107
 go_wp2
 go_ret
 exact ⟨rfl,rfl⟩
theorem cmp8_any (a b : Int) (w : World) : Calls Tryz.prog 72 #[.int .u8 a, .int .u8 b] w fun e w' => e = .returned (.int .i64 (cmpI a b)) ∧ w' = w := by
 go_enter Tryz.func72,Tryz.ntmps72
 go_wp2_with (go_at_call 107; refine (nan8_any _ _).mono ?_; rintro e w' ⟨rfl,rfl⟩)
 all_goals (go_ret; exact ⟨ret_int (by unfold cmpI; first | (rw [if_pos (by omega)]) | (rw [if_neg (by omega),if_pos (by omega)]) | (rw [if_neg (by omega),if_neg (by omega)])),rfl⟩)
def cmpT (x y : Thing) : Int := orI (cmpI x.1 y.1) (cmpI x.2 y.2)
set_option maxHeartbeats 1000000 in
theorem kind_any (a la wa b lb wb : Int) (w : World) :
  Calls Tryz.prog 71 #[.agg #[.int .i64 a, .int .u8 la, .int .i64 wa], .agg #[.int .i64 b, .int .u8 lb, .int .i64 wb]] w fun e w' => e = .returned (.int .i64 (cmpT (la,wa) (lb,wb))) ∧ Gr w w' := by
 go_enter Tryz.func71,Tryz.ntmps71
 go_wp2
 refine wp_abs (fun W => Gr w W ∧ Blk W w.heap.size 81 #[.int .i64 a, .int .u8 la, .int .i64 wa] ∧ Blk W (w.heap.size + 1) 81 #[.int .i64 b, .int .u8 lb, .int .i64 wb]) ⟨((Gr.refl w).alloc _).alloc _,(Blk.new w _ _).ext (ext_self1 _ _),by have := Blk.new (w.alloc (.cells #[.int .i64 a, .int .u8 la, .int .i64 wa] 81)) 81 #[.int .i64 b, .int .u8 lb, .int .i64 wb]; simpa using this⟩ ?_
 rintro w1 ⟨hx1,hb0,hb1⟩
 have c0 : ∀ W,Gr w1 W → W.cell? ⟨w.heap.size,1,none⟩ = some (.int .u8 la) := fun W h => hb0.cells 1 rfl W h.ext
 have c1 : ∀ W,Gr w1 W → W.cell? ⟨w.heap.size,2,none⟩ = some (.int .i64 wa) := fun W h => hb0.cells 2 rfl W h.ext
 have c2 : ∀ W,Gr w1 W → W.cell? ⟨w.heap.size + 1,1,none⟩ = some (.int .u8 lb) := fun W h => hb1.cells 1 rfl W h.ext
 have c3 : ∀ W,Gr w1 W → W.cell? ⟨w.heap.size + 1,2,none⟩ = some (.int .i64 wb) := fun W h => hb1.cells 2 rfl W h.ext
 clear hb0 hb1
 refine wp_region_ql (P := Tryz.prog) (fun a b => b = a) (Gr w1) [0,1,2,3,4,5,6,7,8,9] [] 3 #[true,true,true,true,true,true,true,true,true,true,false,false,false] (by kernel_rfl) (by kernel_rfl) rfl (by rfl) (fun _ => rfl) (fun _ _ _ h1 h2 => h2.trans h1) (fun _ _ h e => by rw [e]; exact h) (Gr.refl w1).drew ?_
 iterate 10
  refine ql_want (v := ?_) rfl (by rfl) (fun W hW => ?_) ?_
  rotate_left
  ·go_simp
   first | done | rfl | (go_at_call 72; refine (cmp8_any _ _ _).mono ?_; rintro _ _ ⟨h1,h2⟩; refine ⟨_,h1, ?_,h2⟩; rfl) | (go_at_call 73; refine (cmp_any _ _ _).mono ?_; rintro _ _ ⟨h1,h2⟩; refine ⟨_,h1, ?_,h2⟩; rfl)
  go_frame
 refine wpQL_nil (fun w2 hx2 => ?_)
 refine lx_one (i := 10) (by kernel_rfl) rfl (by rfl) #[true,true,true,true,true,true,true,true,true,true,true,false,false] (by rfl) ?_
 go_simp
 refine ⟨hx2.alloc _, ?_⟩
 try go_frame
 refine lx_one (i := 11) (by kernel_rfl) rfl (by rfl) #[true,true,true,true,true,true,true,true,true,true,true,true,false] (by rfl) ?_
 go_simp
 refine (or_any (cmpI la lb) (cmpI wa wb) w2.heap.size 2 _ (by go_simp) (by go_simp)).mono ?_
 rintro e w3 ⟨rfl,rfl⟩
 refine ⟨_,rfl,hx2.alloc _, ?_⟩
 try go_frame
 refine lx_one (i := 12) (by kernel_rfl) rfl (by rfl) #[true,true,true,true,true,true,true,true,true,true,true,true,true] (by rfl) ?_
 go_simp
 refine ⟨hx2.alloc _, ?_⟩
 refine wpX_done (by kernel_rfl) ?_
 try go_frame
 go_wp2
 go_ret
 exact ⟨rfl,hx1.trans (hx2.alloc _)⟩
theorem ltOf_T (x y : Int × Thing) : ltOf (fun x y : Int × Thing => cmpT x.2 y.2) x y = true ↔ tlt x.2 y.2 = true := by
 rw [tlt_iff]
 unfold ltOf cmpT orI cmpI
 simp only [decide_eq_true_eq]
 repeat' split
 all_goals (simp; try omega)
theorem cmpT_zero {x y : Thing} : cmpT x y = 0 ↔ x = y := by
 unfold cmpT orI cmpI
 constructor
 ·intro h
  refine Prod.ext ?_ ?_ <;> (repeat' split at h) <;> omega
 ·intro h
  subst h
  simp
theorem swoT : SWO (ltOf fun x y : Int × Thing => cmpT x.2 y.2) where
 irrefl x := by
  rw [Bool.eq_false_iff]
  intro h
  have := tlt_iff.1 ((ltOf_T x x).1 h)
  omega
 trans x y z h1 h2 := by
  rw [ltOf_T,tlt_iff] at *
  omega
 ntrans x y z h1 h2 := by
  rw [Bool.eq_false_iff] at *
  simp only [ne_eq,ltOf_T,tlt_iff] at *
  omega
def SortedV (base : Nat) (v : Value) (xs : List (Int × Thing)) (n : Nat) (w w' : World) : Prop := ∃ ys : List (Int × Thing),ys.Perm xs ∧ ys.Pairwise (fun a b : Int × Thing => tlt b.2 a.2 = false) ∧ w'.ownsRow base 81 3 v n (ys.flatMap encV) ∧ w.grownBy w' v.ownBlock
theorem insV_any (base : Nat) (v : Value) (xs : List (Int × Thing)) (n : Nat) (w : World) (hown : w.ownsRow base 81 3 v n (xs.flatMap encV)) (hn : n = xs.length) (hsz : n ≤ 4096) :
  Calls Tryz.prog 125 #[v, .int .i64 0, .int .i64 n, .func (.func 71) #[] #[]] w fun e w' => e = .returned (.tuple #[]) ∧ SortedV base v xs n w w' := by
 subst hn
 rcases hown.2 with ⟨rfl,h0⟩ | ⟨b,cap,cur,rfl,hb,hg,hn,hcap,hcur,htake⟩
 ·have hx : xs = [] := List.eq_nil_of_length_eq_zero h0
  subst hx
  refine (AnyF.insertionSortCmpFunc_none (P := Tryz.prog) (ρ := Tryz.sortV_ren) { Tryz.sortV with } none 0 _ w).mono fun e w' h => ?_
  obtain ⟨he,hw⟩ := h
  subst hw
  exact ⟨he,[],List.Perm.refl _,List.Pairwise.nil,hown,World.grownBy.refl _ _⟩
 ·have hk : ∀ x,(encV x).length = 3 := fun _ => rfl
  have hflat : (flatK encV 3 xs.toArray).toList = cur.toList.take (xs.length * 3) := by rw [htake]; exact flatK_list hk (by omega) xs
  have hH : HoldsK encV 3 w b 0 xs.toArray := by
   intro j hj
   have hj' : j < xs.length * 3 := by simpa using hj
   refine ⟨?_,by simp [World.frozen?,hg]⟩
   have h2 : (cur.toList.take (xs.length * 3))[j]? = (flatK encV 3 xs.toArray).toList[j]? := by rw [hflat]
   rw [List.getElem?_take_of_lt hj',Array.getElem?_toList,Array.getElem?_toList,Array.getElem?_eq_getElem hj] at h2
   simp only [World.cell?,hg,Nat.zero_add,Option.isSome_none,Bool.false_eq_true,if_false]
   rw [h2,getElem!_pos _ j hj]
   rfl
  have hlays : CmpLays Tryz.prog 71 #[] encV 3 (fun x y : Int × Thing => cmpT x.2 y.2) b 0 xs.toArray.size w := fun m os dk _ x y => (kind_any x.1 x.2.1 x.2.2 y.1 y.2.1 y.2.2 _).mono fun _ _ h => h
  have hsize : xs.toArray.size = xs.length := by simp
  have hcon := AnyQ.insertionSortCmpFunc (P := Tryz.prog) (ρ := Tryz.sortV_ren) { Tryz.sortV with } 3 Tryz.isAgg81 Tryz.sizeOf81 encV hk one_encV (fun x y : Int × Thing => cmpT x.2 y.2) 71 #[] b 0 cap 0 xs.length xs.toArray w (Go.Proofs.enters_of Tryz.func71 (by kernel_rfl) rfl) hlays hH (Array.getElem?_eq_some_iff.1 hg).1 (Nat.zero_le _) (by rw [hsize]; exact Nat.le_refl _) (by rw [hsize]; omega)
  rw [hsize] at hcon
  refine Calls.mono hcon fun e w' h => ?_
  obtain ⟨he,n,os,hw⟩ := h
  obtain ⟨hperm,hsort⟩ := insertionSort_holds (lt := ltOf fun x y : Int × Thing => cmpT x.2 y.2) swoT xs.toArray 0 xs.length (Nat.zero_le _) (by rw [hsize]; exact Nat.le_refl _)
  generalize Sort.insertionSort (ltOf fun x y : Int × Thing => cmpT x.2 y.2) xs.toArray 0 xs.length = d' at *
  obtain ⟨hs,_,hpl⟩ := hperm
  have hds : d'.size = xs.length := by simpa using hs
  have hpp : d'.toList.Perm xs := by
   have e1 : (d'.extract 0 xs.length).toList = d'.toList := by rw [← hds]; simp
   have e2 : (xs.toArray.extract 0 xs.length).toList = xs := by simp
   rw [e1,e2] at hpl
   exact hpl
  have hF : (flatK encV 3 d').toList = d'.toList.flatMap encV := by
   have := flatK_list hk (by omega) d'.toList
   rw [← this]
  have hbl : b < w.heap.size := (Array.getElem?_eq_some_iff.1 hg).1
  have hheap : w'.heap[b]? = some (.cells (putCells id 0 (flatK encV 3 d') cur) 81 (0,0)) := by
   rw [hw]
   unfold sortWorldK putRowK
   rw [heap_grow_old _ _ (by simpa [Sort.ahead] using hbl)]
   simp [putRow,mapBlock,Sort.ahead,Array.getElem?_modify,hg,onCells]
  have hfs : (flatK encV 3 d').size = xs.length * 3 := by rw [size_flatK,hds]
  refine ⟨he,d'.toList,hpp,(sortedIn_pairwise (by rw [hds]; exact hsort)).imp fun {x y} h => ?_,⟨by rw [flat_length hk,hpp.length_eq], .inr ⟨b,cap,_,rfl,hb,hheap,hn,hcap,by simp [putCells,hcur], ?_⟩⟩,⟨by rw [hw]; rfl,by rw [hw]; rfl,by rw [hw]; rfl,by rw [hw]; simp [sortWorldK,putRowK,Sort.ahead],fun i hi hne => ?_⟩⟩
  ·rw [Bool.eq_false_iff] at h ⊢
   intro h2
   exact h ((ltOf_T _ _).2 h2)
  ·rw [← hF]
   have hle : xs.length * 3 ≤ cur.size := by rw [hcur]; exact Nat.mul_le_mul_right 3 hn
   apply List.ext_getElem?
   intro j
   by_cases hj : j < xs.length * 3
   ·have hjf : j < (flatK encV 3 d').size := by omega
    rw [List.getElem?_take_of_lt hj,Array.getElem?_toList,Array.getElem?_toList,Array.getElem?_eq_getElem hjf]
    simp [putCells,hfs,hj,show j < cur.size by omega]
   ·rw [List.getElem?_take_eq_none (by omega),List.getElem?_eq_none (by simp [hds]; omega)]
  ·have hib : i ≠ b := by simpa [Value.ownBlock] using hne
   rw [hw]
   unfold sortWorldK putRowK
   rw [heap_grow_old _ _ (by simpa [Sort.ahead] using hi)]
   simp [putRow,mapBlock,Sort.ahead,Array.getElem?_modify,Ne.symm hib]
theorem stableV_any (base : Nat) (A : Option Addr) (xs : List (Int × Thing)) (n c : Nat) (w : World) (hown : w.ownsRow base 81 3 (.slice A n c) n (xs.flatMap encV)) (hn : n = xs.length) (hsz : n ≤ 8) :
  Calls Tryz.prog 109 #[.slice A n c, .int .i64 n, .func (.func 71) #[] #[]] w fun e w' => e = .returned (.tuple #[]) ∧ SortedV base (.slice A n c) xs n w w' := by
 have hins := hide (insV_any base (.slice A n c) xs n w hown hn (by omega))
 clear hown hn
 have hle : ¬ (20 : Int) ≤ (n : Int) := by omega
 have hlt : ¬ (20 : Int) < (n : Int) := by omega
 go_enter Tryz.func109,Tryz.ntmps109
 go_wp2_with fail
 refine wp_loop_rounds 1 ?_
 rw [rounds_succ]
 go_wp2_with fail
 refine (unhide hins).mono ?_
 rintro e w' ⟨rfl,hs⟩
 have hs' := hide hs
 clear hs hins
 go_wp2_with fail
 refine wp_loop_rounds 1 ?_
 rw [rounds_succ]
 go_wp2_with fail
 go_end0
 exact ⟨rfl,unhide hs'⟩
theorem stableF_any (base : Nat) (A : Option Addr) (xs : List (Int × Thing)) (n c : Nat) (w : World) (hown : w.ownsRow base 81 3 (.slice A n c) n (xs.flatMap encV)) (hn : n = xs.length) (hsz : n ≤ 8) :
  Calls Tryz.prog 74 #[.slice A n c, .func (.func 71) #[] #[]] w fun e w' => e = .returned (.tuple #[]) ∧ SortedV base (.slice A n c) xs n w w' := by
 have hins := hide (stableV_any base A xs n c w hown hn hsz)
 clear hown hn
 go_enter Tryz.func74,Tryz.ntmps74
 go_wp2_with fail
 refine (unhide hins).mono ?_
 rintro e w' ⟨rfl,hs⟩
 have hs' := hide hs
 clear hs hins
 go_wp2_with fail
 go_end0
 exact ⟨rfl,unhide hs'⟩
end Go.Proofs.YtbpeemhfjgcnaaaGreat
