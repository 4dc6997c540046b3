/- Parts of a proof, laid together. Each part says its own conditions. -/
import Derived.Test.YtbpeemhfjgcnaaaGreatC26
import Derived.Test.YtbpeemhfjgcnaaaGreatC24
import Derived.Test.YtbpeemhfjgcnaaaGreatC45
namespace Go.Proofs.YtbpeemhfjgcnaaaGreat
open Go Go.RowKit Go.Shelf
attribute [local go_sem] qUpon lUpon
attribute [local irreducible] wpO wpX wpQL
set_option maxRecDepth 100000 in
set_option maxHeartbeats 16000000 in
theorem ids08_any (A B : Option Addr) (V : List (Int × Thing)) (n m cA cB : Nat) (w : World) (hV : SlAt encV 3 w A V) (hn : n = V.length) (hl : n ≤ 100000) :
  Calls Tryz.prog 49 #[.agg #[.slice A n cA, .slice B m cB]] w (OwJ w (idsV V)) := by
 have hV' := hide hV
 have hn' := hide hn
 have hl' := hide hl
 have hil0 := hide (show n = (idsV V).length by rw [idsV_len,hn])
 clear hV hn hl
 have hP := hide (Sp.new w)
 refine callsIn_wide.1 (callsIn_of_wp_marks (n := 0) Tryz.func49 rfl trivial (wpIn_wide.2 ?_))
 simp only [Tryz.ntmps49,List.size_toArray,List.length_cons,List.length_nil,Nat.reduceAdd,Nat.reduceSub,Array.replicate_succ,Array.replicate_zero,List.push_toArray,List.append_toArray,List.nil_append,List.cons_append]
 try dsimp only
 repeat ((fail_if_success (with_reducible refine wp_reg (id := 0) ?_)); (first | go_values | go_skip | go_step | go_guarded | go_upon | go_in | go_back | fail))
 with_reducible refine wp_reg (id := 0) ?_
 refine (unhide hP).allocO 28 #[.slice A n cA, .slice B m cB] rfl (run_box (v := .agg #[.slice A n cA, .slice B m cB]) rfl rfl) ?_
 intro r1 y1 hQ
 replace hP : Hid (Sp w [] w [] [(r1,28, #[.slice A n cA, .slice B m cB])] [] y1) := hide hQ
 clear hQ
 refine wpO_want rfl ?_
 go_simp
 refine wpO_done ?_
 try go_frame
 replace hP : Hid (Sp w [] w [] [(r1,28, #[.slice A n cA, .slice B m cB])] [(3,1, .slice none 0 0,0,([] : List Int).flatMap encI)] y1) := hide ((unhide hP).nil 3 1)
 try dsimp only
 repeat ((fail_if_success (with_reducible refine wp_reg (id := 1) ?_)); (first | go_values | go_skip | go_step | go_guarded | go_upon | go_in | go_back | fail))
 with_reducible refine wp_reg (id := 1) ?_
 refine wpO_want rfl ?_
 go_simp
 refine wpO_done ?_
 try go_frame
 try dsimp only
 repeat ((fail_if_success (with_reducible refine wp_reg (id := 2) ?_)); (first | go_values | go_skip | go_step | go_guarded | go_upon | go_in | go_back | fail))
 with_reducible refine wp_reg (id := 2) ?_
 refine wpO_want rfl ?_
 go_simp
 refine wpO_done ?_
 try go_frame
 go_wp2_with fail
 obtain ⟨I1_2,hI1_20⟩ : ∃ I : Nat → Act → World → Prop,I = fun fi a' wr => ∃ (i : Nat), ∃ (Ax : Option Addr), ∃ (cx : Nat),a'.tmps.size = 22 ∧ a'.tmps.getD 1 undef = .pointer (some ⟨r1,0,none⟩) ∧ a'.tmps.getD 3 undef = .slice Ax i cx ∧ a'.tmps.getD 4 undef = .int .i64 (i : Nat) ∧ a'.defers = [] ∧ i ≤ n ∧ Sp w [] w [] [(r1,28, #[.slice A n cA, .slice B m cB])] [(3,1, .slice Ax i cx,i,((idsV V).take i).flatMap encI)] wr ∧ fi = n - i := ⟨_,rfl⟩
 have hI1_2 := hide hI1_20
 clear hI1_20
 refine wp_loop_ix I1_2 (n - 0) ?_ ?_
 ·rw [unhide hI1_2]; exact ⟨0,none,0,rfl,rfl,rfl,rfl,rfl,Nat.zero_le _,unhide hP,rfl⟩
 ·rintro fi ⟨tm,dfs⟩ wr hrel
  rw [unhide hI1_2] at hrel
  obtain ⟨i,Ax,cx,hsz,e1,e3,e4,hdf,hin,hPr,hfm⟩ := hrel
  obtain ⟨us,rfl⟩ : ∃ us : Nat → Value,tm = #[us 0,us 1,us 2,us 3,us 4,us 5,us 6,us 7,us 8,us 9,us 10,us 11,us 12,us 13,us 14,us 15,us 16,us 17,us 18,us 19,us 20,us 21] := ⟨fun i => tm.getD i undef,arr_fn hsz⟩
  have h1 : us 1 = .pointer (some ⟨r1,0,none⟩) := e1
  have h3 : us 3 = .slice Ax i cx := e3
  have h4 : us 4 = .int .i64 (i : Nat) := e4
  have hdf2 : dfs = [] := hdf
  subst hdf2
  clear hdf hsz e1 e3 e4
  simp only [h1,h3,h4]
  clear h1 h3 h4
  clear hP
  have hP := hide hPr
  have hfm' := hide hfm
  clear hPr hfm
  by_cases hlt : i < n
  ·skip
   have hil : (i : Int) < (n : Int) := by omega
   have hiV : i < V.length := by have := unhide hn'; omega
   have hii : i < (idsV V).length := by have := unhide hil0; omega
   have hib : (i : Int) ≤ 100000 := by have := unhide hl'; omega
   have htk := hide (List.take_succ_eq_append_getElem hii)
   obtain ⟨x,hx0⟩ : ∃ x,x = V[i].1 := ⟨_,rfl⟩
   rw [show (idsV V)[i] = x by rw [hx0]; simp [idsV]] at htk
   obtain ⟨b,off,rfl,g0,g1,g2⟩ := atV ((unhide hV').ext (unhide hP).extf) hiV
   rw [← hx0] at g0
   have hself := Ext.refl wr
   clear g1 g2 hx0
   have q0 := (unhide hP).cell 0 0 (v := .slice (some ⟨b,off,none⟩) n cA) rfl rfl
   try dsimp only
   repeat ((fail_if_success (with_reducible refine wp_reg (id := 3) ?_)); (first | go_values | go_skip | go_step | go_guarded | go_upon | go_in | go_back | fail))
   with_reducible refine wp_reg (id := 3) ?_
   iterate 5
    refine wpO_want rfl ?_
    go_simp
   refine wpO_done ?_
   try go_frame
   try dsimp only
   repeat ((fail_if_success (with_reducible refine wp_reg (id := 5) ?_)); (first | go_values | go_skip | go_step | go_guarded | go_upon | go_in | go_back | fail))
   with_reducible refine wp_reg (id := 5) ?_
   iterate 7
    refine wpO_want rfl ?_
    go_simp
   clear g0 q0 hself
   refine (unhide hP).buildO 1 3 #[.int .i64 x] rfl (by go_simp) ?_
   intro bt y2 hQ
   replace hP : Hid (Sp w [] w [] [(r1,28, #[.slice (some ⟨b,off,none⟩) n cA, .slice B m cB]),(bt,3, #[.int .i64 x])] [(3,1, .slice Ax i cx,i,((idsV V).take i).flatMap encI)] y2) := hide hQ
   clear hQ
   try go_frame
   refine (unhide hP).ap1O (enc := encI) (T := 3) (ST := 31) 0 (v := .slice Ax i cx) (m := i) (xs := (idsV V).take i) rfl rfl infoI Tryz.underlying31 one_encI (fun _ => rfl) (by decide) (by decide) rfl x rfl rfl ((unhide hP).get 1 rfl) (by omega) ?_
   intro Az cAz y3 hQ
   replace hP : Hid (Sp w [] w [] [(r1,28, #[.slice (some ⟨b,off,none⟩) n cA, .slice B m cB]),(bt,3, #[.int .i64 x])] [(3,1, .slice Az (i + 1) cAz,i + 1,((idsV V).take i ++ [x]).flatMap encI)] y3) := hide hQ
   clear hQ
   try go_frame
   refine wpO_want rfl ?_
   go_simp
   refine wpO_done ?_
   try go_frame
   replace hP : Hid (Sp w [] w [] [(r1,28, #[.slice (some ⟨b,off,none⟩) n cA, .slice B m cB])] [(3,1, .slice Az (i + 1) cAz,i + 1,((idsV V).take i ++ [x]).flatMap encI)] y3) := hide ((unhide hP).sub (List.sublist_append_left _ ([(bt,3, #[.int .i64 x])] : List Cl)) (List.Sublist.refl _))
   go_wp2_with fail
   have hp9 := unhide hP
   rw [← unhide htk] at hp9
   refine ⟨n - (i + 1), ?_,by have := unhide hfm'; omega⟩
   rw [unhide hI1_2]
   exact ⟨i + 1,Az,cAz,(by first | rfl | trivial),(by first | rfl | trivial),(by first | rfl | trivial),(by first | rfl | (show _ = Value.int _ _; go_num) | go_num),(by first | rfl | trivial),by omega,hp9,rfl⟩
  ·skip
   have hil : ¬ (i : Int) < (n : Int) := by omega
   obtain rfl : n = i := by omega
   clear hlt hin
   have q0 := (unhide hP).cell 0 0 (v := .slice A n cA) rfl rfl
   have hself := Ext.refl wr
   try dsimp only
   repeat ((fail_if_success (with_reducible refine wp_reg (id := 3) ?_)); (first | go_values | go_skip | go_step | go_guarded | go_upon | go_in | go_back | fail))
   with_reducible refine wp_reg (id := 3) ?_
   iterate 5
    refine wpO_want rfl ?_
    go_simp
   refine wpO_done ?_
   try go_frame
   clear q0 hself
   try dsimp only
   repeat ((fail_if_success (with_reducible refine wp_reg (id := 6) ?_)); (first | go_values | go_skip | go_step | go_guarded | go_upon | go_in | go_back | fail))
   with_reducible refine wp_reg (id := 6) ?_
   iterate 2
    refine wpO_want rfl ?_
    go_simp
   refine wpO_done ?_
   try go_frame
   go_wp2_with fail
   refine Sp.leaves0 ?_
   refine ⟨_,results_tmp rfl _ _ _, ?_⟩
   have ho := (unhide hP).row 0 rfl
   rw [List.take_of_length_le (by rw [← unhide hil0]; exact Nat.le_refl _)] at ho
   exact OwJ.mk (unhide hil0) ho (unhide hP).extf
end Go.Proofs.YtbpeemhfjgcnaaaGreat
namespace Go.Proofs.YtbpeemhfjgcnaaaGreat
open Go Go.RowKit Go.Shelf
attribute [local go_sem] qUpon lUpon
attribute [local irreducible] wpO wpX wpQL
theorem ss_get2 {w : World} {A a : Option Addr} {n c m c2 : Nat} {K : List Int} {J : List (Sl × List Int)} (h : St 0 [] (ssR A n c J) w) (hn : n = J.length) (hl : ∀ p ∈ J,p.1.2.1 = p.2.length) {k : Nat} (hk : J[k]? = some ((a,m,c2),K)) : ∃ b off,A = some ⟨b,off,none⟩ ∧ (∀ W,Ext w W → W.cell? ⟨b,off + k,none⟩ = some (.slice a m c2)) ∧ SlAt encI 1 w a K ∧ m = K.length := by
 obtain ⟨hlt,he⟩ := List.getElem?_eq_some_iff.1 hk
 obtain ⟨b,off,h1,_,h3,h4⟩ := ss_get h hn hl hlt
 have h5 := hl _ (List.getElem_mem hlt)
 rw [he] at h3 h4 h5
 exact ⟨b,off,h1,fun W hW => h3 [] W (hW.keep []) (by simp),h4,h5⟩
end Go.Proofs.YtbpeemhfjgcnaaaGreat
