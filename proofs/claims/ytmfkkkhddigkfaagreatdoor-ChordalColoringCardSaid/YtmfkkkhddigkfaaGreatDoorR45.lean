/- Parts of a proof, laid together. Each part says its own conditions. -/
import Derived.Test.YtmfkkkhddigkfaaGreatDoorR31
import Derived.Test.YtmfkkkhddigkfaaGreatDoorR44
import Derived.Test.YtmfkkkhddigkfaaGreatDoorR32
import Derived.Test.YtmfkkkhddigkfaaGreatDoorR39
import Derived.Test.YtmfkkkhddigkfaaGreatDoorR33
namespace Go.Proofs.YtmfkkkhddigkfaaGreatDoor
open Go Go.RowKit Go.Shelf
attribute [local go_sem] qUpon lUpon
attribute [local irreducible] wpO wpX wpQL
theorem mem_takenR {E : List ((Int × Int) × Thing)} {I C : List Int} {v c : Int} : c ∈ takenR E I C v ↔ ∃ (k : Nat) (hk : k < I.length),hasE I[k] v E = true ∧ C[k]? = some c := by
 unfold takenR
 rw [List.mem_filterMap]
 constructor
 ·rintro ⟨k,hk,h⟩
  have hk := List.mem_range.1 hk
  refine ⟨k,hk, ?_⟩
  rw [List.getElem?_eq_getElem hk,Option.getD_some] at h
  split at h
  ·exact ⟨by assumption,h⟩
  ·cases h
 ·rintro ⟨k,hk,h1,h2⟩
  refine ⟨k,List.mem_range.2 hk, ?_⟩
  rw [List.getElem?_eq_getElem hk,Option.getD_some,if_pos h1,h2]
theorem takenR_len (E : List ((Int × Int) × Thing)) (I C : List Int) (v : Int) : (takenR E I C v).length ≤ I.length := by
 have h := List.length_filterMap_le (fun k => if hasE (I[k]?.getD 0) v E = true then C[k]? else none) (List.range I.length)
 rw [List.length_range] at h
 exact h
theorem colR_len (V : List (Int × Thing)) (E : List ((Int × Int) × Thing)) : ∀ l : List Int,(colR V E l).1.length = V.length
 | [] => by unfold colR; simp
 | v :: l => by rw [colR_cons]; unfold colRStep; rw [List.length_set]; exact colR_len V E l
theorem colR_drop (V : List (Int × Thing)) (E : List ((Int × Int) × Thing)) {o : List Int} {i : Nat} (h : i < o.length) : colR V E (o.drop i) = colRStep V E (colR V E (o.drop (i + 1))) o[i] := by
 rw [List.drop_eq_getElem_cons h,colR_cons]
theorem colR_bound (V : List (Int × Thing)) (E : List ((Int × Int) × Thing)) : ∀ l : List Int,0 ≤ (colR V E l).2 ∧ (colR V E l).2 ≤ (V.length : Int) + 1
 | [] => by unfold colR; simp; omega
 | v :: l => by
  have ih := colR_bound V E l
  have h1 := mex_le (takenR E (V.map (·.1)) (colR V E l).1 v)
  have h2 := takenR_len E (V.map (·.1)) (colR V E l).1 v
  rw [List.length_map] at h2
  rw [colR_cons]
  unfold colRStep
  dsimp only
  omega
def CrPost (w : World) (C : List Int) (m : Int) (e : Ending) (w' : World) : Prop := ∃ A c,e = .returned (.tuple #[.int .i64 m, .slice A C.length c]) ∧ SlAt encI 1 w' A C ∧ Ext w w'
theorem CrPost.mk {w w' : World} {C : List Int} {m : Int} {A : Option Addr} {K c : Nat} (hK : K = C.length) (h : SlAt encI 1 w' A C) (hx : Ext w w') : CrPost w C m (.returned (.tuple #[.int .i64 m, .slice A K c])) w' := ⟨A,c,by rw [hK],h,hx⟩
set_option maxRecDepth 100000 in
set_option maxHeartbeats 16000000 in
theorem coloursR_any (A B : Option Addr) (V : List (Int × Thing)) (E : List ((Int × Int) × Thing)) (cA cB : Nat) (D : Option Addr) (o : List Int) (n cD : Nat) (w : World) (hV : SlAt encV 3 w A V) (hnV : V.length ≤ 4096) (hE : SlAt encE 4 w B E) (hnE : E.length ≤ 4096) (hD : SlAt encI 1 w D o) (hn : n = o.length) (hno : n ≤ 4096) (hm : ∀ x ∈ o,x ∈ V.map (·.1)) :
  Calls Tryz.prog 20 #[.agg #[.slice A V.length cA, .slice B E.length cB], .slice D n cD] w (CrPost w (colR V E o).1 (colR V E o).2) := by
 have hV' := hide hV
 have hE' := hide hE
 have hnV' := hide hnV
 have hnE' := hide hnE
 have hD' := hide hD
 have hn' := hide hn
 have hno' := hide hno
 have hmo := hide hm
 have hst := hide (fun (i : Nat) (h : i < o.length) => colR_drop V E h)
 have hlen := hide (fun (i : Nat) => colR_len V E (o.drop i))
 have hbd := hide (fun (i : Nat) => colR_bound V E (o.drop i))
 have hlast := hide (show colR V E (o.drop n) = (List.replicate V.length (-1),0) by rw [hn,List.drop_length]; rfl)
 have hfirst : colR V E o = colR V E (o.drop 0) := by rw [List.drop_zero]
 rw [hfirst]
 obtain ⟨cr,hcr⟩ : ∃ cr : Nat → List Int × Int,cr = fun i => colR V E (o.drop i) := ⟨_,rfl⟩
 have hcr' := hide hcr
 have h0 : colR V E (o.drop 0) = cr 0 := by rw [hcr]
 rw [h0]
 replace hst := hide (show ∀ (i : Nat) (h : i < o.length),cr i = colRStep V E (cr (i + 1)) o[i] by rw [hcr]; exact unhide hst)
 replace hlen := hide (show ∀ i,(cr i).1.length = V.length by rw [hcr]; exact unhide hlen)
 replace hbd := hide (show ∀ i,0 ≤ (cr i).2 ∧ (cr i).2 ≤ (V.length : Int) + 1 by rw [hcr]; exact unhide hbd)
 replace hlast := hide (show cr n = (List.replicate V.length (-1),0) by rw [hcr]; exact unhide hlast)
 clear hV hE hnV hnE hD hn hno hm hfirst h0 hcr hcr'
 have hP := hide (Sp.new w)
 refine callsIn_wide.1 (callsIn_of_wp_marks (n := 0) Tryz.func20 rfl trivial (wpIn_wide.2 ?_))
 simp only [Tryz.ntmps20,List.size_toArray,List.length_cons,List.length_nil,Nat.reduceAdd,Nat.reduceSub,Array.replicate_succ,Array.replicate_zero,List.push_toArray,List.append_toArray,List.nil_append,List.cons_append]
 try dsimp only
 repeat ((fail_if_success (with_reducible refine wp_reg (id := 0) ?_)); (first | go_values | go_skip | go_step | go_guarded | go_upon | go_in | go_back | fail))
 with_reducible refine wp_reg (id := 0) ?_
 refine (unhide hP).allocO 28 #[.slice A V.length cA, .slice B E.length cB] rfl (run_box (v := .agg #[.slice A V.length cA, .slice B E.length cB]) rfl rfl) ?_
 intro r2 y1 hQ
 replace hP : Hid (Sp w [] w [] [(r2,28, #[.slice A V.length cA, .slice B E.length cB])] [] y1) := hide hQ
 clear hQ
 iterate 2
  refine wpO_want rfl ?_
  go_simp
 refine wpO_done ?_
 try go_frame
 try dsimp only
 repeat ((fail_if_success (with_reducible refine wp_reg (id := 1) ?_)); (first | go_values | go_skip | go_step | go_guarded | go_upon | go_in | go_back | fail))
 with_reducible refine wp_reg (id := 1) ?_
 have q0 := (unhide hP).cell 0 0 (v := .slice A V.length cA) rfl rfl
 have q1 := (unhide hP).cell 0 1 (v := .slice B E.length cB) rfl rfl
 have hself := Ext.refl y1
 refine wpO_want rfl ?_
 go_simp
 clear q0 q1 hself
 refine wpO_want rfl ?_
 go_simp
 obtain ⟨ids,hids⟩ : ∃ ids,ids = V.map (·.1) := ⟨_,rfl⟩
 have hca := ids_any A B V E cA cB y1 ((unhide hV').ext (unhide hP).extf) (unhide hnV')
 rw [← hids] at hca
 have hids' := hide hids
 clear hids
 refine (hca).mono ?_
 rintro _ y2 ⟨A5,c5,rfl,ho,hxc⟩
 obtain ⟨K,hK⟩ : ∃ K,K = ids.length := ⟨_,rfl⟩
 rw [← hK] at ho ⊢
 have hKV := hide (show K = V.length by rw [hK,unhide hids',List.length_map])
 have hK4 := hide (show K ≤ 4096 by rw [unhide hKV]; exact unhide hnV')
 have hK' := hide hK
 clear hca hK
 refine ⟨_,rfl, ?_⟩
 replace hP : Hid (Sp w [] w [] [(r2,28, #[.slice A V.length cA, .slice B E.length cB])] [(3,1, .slice A5 K c5,K,ids.flatMap encI)] y2) := hide ((unhide hP).addRow hxc ho)
 clear hxc ho
 refine wpO_want rfl ?_
 go_simp
 refine wpO_done ?_
 try go_frame
 try dsimp only
 repeat ((fail_if_success (with_reducible refine wp_reg (id := 2) ?_)); (first | go_values | go_skip | go_step | go_guarded | go_upon | go_in | go_back | fail))
 with_reducible refine wp_reg (id := 2) ?_
 iterate 2
  refine wpO_want rfl ?_
  go_simp
 refine (unhide hP).allocVO (v := fun b => .slice (some ⟨b,0,none⟩) K K) 3 (vI (List.replicate K 0)) rfl (run_mkI rfl rfl rfl (by have := unhide hK4; omega) _) ?_
 intro bo y3 hQ
 replace hP : Hid (Sp w [] w [] [(r2,28, #[.slice A V.length cA, .slice B E.length cB]),(bo,3,vI (List.replicate K 0))] [(3,1, .slice A5 K c5,K,ids.flatMap encI)] y3) := hide hQ
 clear hQ
 go_frame
 refine wpO_want rfl ?_
 go_simp
 refine wpO_done ?_
 try go_frame
 go_wp2_with fail
 obtain ⟨I3_2,hI3_20⟩ : ∃ I : Nat → Act → World → Prop,I = fun fi a' wr => ∃ (i : Nat), ∃ (C : List Int),a'.tmps.size = 77 ∧ a'.tmps.getD 1 undef = .slice D n cD ∧ a'.tmps.getD 2 undef = .pointer (some ⟨r2,0,none⟩) ∧ a'.tmps.getD 6 undef = .slice A5 K c5 ∧ a'.tmps.getD 7 undef = .slice (some ⟨bo,0,none⟩) K K ∧ a'.tmps.getD 8 undef = .int .i64 (i : Nat) ∧ a'.defers = [] ∧ i ≤ K ∧ C.length = K ∧ (∀ k (h : k < C.length),k < i → C[k] = -1) ∧ Sp w [] w [] [(r2,28, #[.slice A V.length cA, .slice B E.length cB]),(bo,3,vI C)] [(3,1, .slice A5 K c5,K,ids.flatMap encI)] wr ∧ fi = K - i := ⟨_,rfl⟩
 have hI3_2 := hide hI3_20
 clear hI3_20
 refine wp_loop_ix I3_2 (K - 0) ?_ ?_
 ·rw [unhide hI3_2]; exact ⟨0,List.replicate K 0,rfl,rfl,rfl,rfl,rfl,rfl,rfl,Nat.zero_le _,List.length_replicate,fun k h h2 => absurd h2 (Nat.not_lt_zero _),unhide hP,rfl⟩
 ·rintro fi ⟨tm,dfs⟩ wr hrel
  rw [unhide hI3_2] at hrel
  obtain ⟨i,C,hsz,e1,e2,e6,e7,e8,hdf,hik,hCl,hCa,hPr,hfm⟩ := hrel
  obtain ⟨us,rfl⟩ : ∃ us : Nat → Value,tm = #[us 0,us 1,us 2,us 3,us 4,us 5,us 6,us 7,us 8,us 9,us 10,us 11,us 12,us 13,us 14,us 15,us 16,us 17,us 18,us 19,us 20,us 21,us 22,us 23,us 24,us 25,us 26,us 27,us 28,us 29,us 30,us 31,us 32,us 33,us 34,us 35,us 36,us 37,us 38,us 39,us 40,us 41,us 42,us 43,us 44,us 45,us 46,us 47,us 48,us 49,us 50,us 51,us 52,us 53,us 54,us 55,us 56,us 57,us 58,us 59,us 60,us 61,us 62,us 63,us 64,us 65,us 66,us 67,us 68,us 69,us 70,us 71,us 72,us 73,us 74,us 75,us 76] := ⟨fun i => tm.getD i undef,arr_fn hsz⟩
  have h1 : us 1 = .slice D n cD := e1
  have h2 : us 2 = .pointer (some ⟨r2,0,none⟩) := e2
  have h6 : us 6 = .slice A5 K c5 := e6
  have h7 : us 7 = .slice (some ⟨bo,0,none⟩) K K := e7
  have h8 : us 8 = .int .i64 (i : Nat) := e8
  have hdf2 : dfs = [] := hdf
  subst hdf2
  clear hdf hsz e1 e2 e6 e7 e8
  simp only [h1,h2,h6,h7,h8]
  clear h1 h2 h6 h7 h8
  clear hP
  have hP := hide hPr
  have hCl' := hide hCl
  have hCa' := hide hCa
  have hfm' := hide hfm
  clear hPr hCl hCa hfm
  by_cases hlt : i < K
  ·have hilt := hide hlt
   have hil : (i : Int) < (K : Int) := by omega
   have hib : (i : Int) ≤ 4096 := by have := unhide hK4; omega
   try dsimp only
   repeat ((fail_if_success (with_reducible refine wp_reg (id := 4) ?_)); (first | go_values | go_skip | go_step | go_guarded | go_upon | go_in | go_back | fail))
   with_reducible refine wp_reg (id := 4) ?_
   iterate 4
    refine wpO_want rfl ?_
    go_simp
   refine wpO_done ?_
   try go_frame
   try dsimp only
   repeat ((fail_if_success (with_reducible refine wp_reg (id := 6) ?_)); (first | go_values | go_skip | go_step | go_guarded | go_upon | go_in | go_back | fail))
   with_reducible refine wp_reg (id := 6) ?_
   iterate 3
    refine wpO_want rfl ?_
    go_simp
   refine (unhide hP).setO 1 (vI (C.set i (-1))) rfl rfl (fun hb => run_store_int (k := i) rfl (by first | rfl | (go_simp; done)) rfl (Tryz.sizeOf3 _) hb (by have := unhide hCl'; omega)) ?_
   intro y4 hQ
   replace hP : Hid (Sp w [] w [] [(r2,28, #[.slice A V.length cA, .slice B E.length cB]),(bo,3,vI (C.set i (-1)))] [(3,1, .slice A5 K c5,K,ids.flatMap encI)] y4) := hide hQ
   clear hQ
   try go_frame
   refine wpO_done ?_
   try go_frame
   have hC2 := hide (show (C.set i (-1)).length = K by rw [List.length_set]; exact unhide hCl')
   have hC3 := hide (show ∀ k (h : k < (C.set i (-1)).length),k < i + 1 → (C.set i (-1))[k] = -1 from fun k h h2 => by
    rw [List.getElem_set]
    split
    ·rfl
    ·exact unhide hCa' k (by rw [List.length_set] at h; exact h) (by omega))
   go_wp2_with fail
   have h1 := unhide hilt
   refine ⟨K - (i + 1), ?_,by have := unhide hfm'; omega⟩
   rw [unhide hI3_2]
   exact ⟨i + 1,C.set i (-1),(by first | rfl | trivial),(by first | rfl | trivial),(by first | rfl | trivial),(by first | rfl | trivial),(by first | rfl | trivial),(by first | rfl | (show _ = Value.int _ _; go_num) | go_num),(by first | rfl | trivial),by omega,unhide hC2,unhide hC3,unhide hP,rfl⟩
  ·have hil : ¬ (i : Int) < (K : Int) := by omega
   obtain rfl : C = List.replicate K (-1) := by
    refine List.ext_getElem (by rw [List.length_replicate]; exact unhide hCl') fun k h1 h2 => ?_
    rw [List.getElem_replicate]
    exact unhide hCa' k h1 (by have := unhide hCl'; omega)
   have hlast2 := hide (show cr n = (List.replicate K (-1),0) by rw [unhide hKV]; exact unhide hlast)
   have hwn : IntKind.i64.wrap ((n : Int) - 1) = (n : Int) - 1 := IntWalk.i64_in _ (by have := unhide hno'; omega)
   clear hlast hCa' hCl' hlt
   try dsimp only
   repeat ((fail_if_success (with_reducible refine wp_reg (id := 4) ?_)); (first | go_values | go_skip | go_step | go_guarded | go_upon | go_in | go_back | fail))
   with_reducible refine wp_reg (id := 4) ?_
   iterate 4
    refine wpO_want rfl ?_
    go_simp
   refine wpO_done ?_
   try go_frame
   clear hil
   try dsimp only
   repeat ((fail_if_success (with_reducible refine wp_reg (id := 7) ?_)); (first | go_values | go_skip | go_step | go_guarded | go_upon | go_in | go_back | fail))
   with_reducible refine wp_reg (id := 7) ?_
   refine wpO_want rfl ?_
   go_simp
   refine wpO_done ?_
   try go_frame
   try dsimp only
   repeat ((fail_if_success (with_reducible refine wp_reg (id := 8) ?_)); (first | go_values | go_skip | go_step | go_guarded | go_upon | go_in | go_back | fail))
   with_reducible refine wp_reg (id := 8) ?_
   iterate 4
    refine wpO_want rfl ?_
    go_simp
   refine wpO_done ?_
   try go_frame
   clear hwn
   go_wp2_with fail
   obtain ⟨I3_6,hI3_60⟩ : ∃ I : Nat → Act → World → Prop,I = fun fi a' wr => ∃ (j : Nat), ∃ (C : List Int), ∃ (m : Int), ∃ (z : Int),a'.tmps.size = 77 ∧ a'.tmps.getD 1 undef = .slice D n cD ∧ a'.tmps.getD 2 undef = .pointer (some ⟨r2,0,none⟩) ∧ a'.tmps.getD 6 undef = .slice A5 K c5 ∧ a'.tmps.getD 7 undef = .slice (some ⟨bo,0,none⟩) K K ∧ a'.tmps.getD 9 undef = .int .i64 m ∧ a'.tmps.getD 10 undef = .int .i64 z ∧ a'.defers = [] ∧ j ≤ n ∧ z = (j : Int) - 1 ∧ cr j = (C,m) ∧ Sp w [] w [] [(r2,28, #[.slice A V.length cA, .slice B E.length cB]),(bo,3,vI C)] [(3,1, .slice A5 K c5,K,ids.flatMap encI)] wr ∧ fi = j := ⟨_,rfl⟩
   have hI3_6 := hide hI3_60
   clear hI3_60
   refine wp_loop_ix I3_6 (n) ?_ ?_
   ·rw [unhide hI3_6]; exact ⟨n,List.replicate K (-1),0,(n : Int) - 1,rfl,rfl,rfl,rfl,rfl,rfl,rfl,rfl,Nat.le_refl _,rfl,unhide hlast2,unhide hP,rfl⟩
   ·rintro fi ⟨tm,dfs⟩ wr hrel
    rw [unhide hI3_6] at hrel
    obtain ⟨j,C,m,z,hsz,e1,e2,e6,e7,e9,e10,hdf,hjn,hz,hC,hPr,hfm⟩ := hrel
    obtain ⟨us,rfl⟩ : ∃ us : Nat → Value,tm = #[us 0,us 1,us 2,us 3,us 4,us 5,us 6,us 7,us 8,us 9,us 10,us 11,us 12,us 13,us 14,us 15,us 16,us 17,us 18,us 19,us 20,us 21,us 22,us 23,us 24,us 25,us 26,us 27,us 28,us 29,us 30,us 31,us 32,us 33,us 34,us 35,us 36,us 37,us 38,us 39,us 40,us 41,us 42,us 43,us 44,us 45,us 46,us 47,us 48,us 49,us 50,us 51,us 52,us 53,us 54,us 55,us 56,us 57,us 58,us 59,us 60,us 61,us 62,us 63,us 64,us 65,us 66,us 67,us 68,us 69,us 70,us 71,us 72,us 73,us 74,us 75,us 76] := ⟨fun i => tm.getD i undef,arr_fn hsz⟩
    have h1 : us 1 = .slice D n cD := e1
    have h2 : us 2 = .pointer (some ⟨r2,0,none⟩) := e2
    have h6 : us 6 = .slice A5 K c5 := e6
    have h7 : us 7 = .slice (some ⟨bo,0,none⟩) K K := e7
    have h9 : us 9 = .int .i64 m := e9
    have h10 : us 10 = .int .i64 z := e10
    have hdf2 : dfs = [] := hdf
    subst hdf2
    clear hdf hsz e1 e2 e6 e7 e9 e10
    simp only [h1,h2,h6,h7,h9,h10]
    clear h1 h2 h6 h7 h9 h10
    clear hP hlast2
    have hP := hide hPr
    have hC' := hide hC
    have hfm' := hide hfm
    have hCl := hide (show C.length = K by have h := unhide hlen j; rw [hC] at h; rw [unhide hKV]; exact h)
    clear hPr hC hfm
    by_cases hj0 : j = 0
    ·subst hj0
     obtain rfl : z = -1 := by rw [hz]; rfl
     clear hz
     try dsimp only
     repeat ((fail_if_success (with_reducible refine wp_reg (id := 9) ?_)); (first | go_values | go_skip | go_step | go_guarded | go_upon | go_in | go_back | fail))
     with_reducible refine wp_reg (id := 9) ?_
     iterate 2
      refine wpO_want rfl ?_
      go_simp
     refine wpO_done ?_
     try go_frame
     try dsimp only
     repeat ((fail_if_success (with_reducible refine wp_reg (id := 23) ?_)); (first | go_values | go_skip | go_step | go_guarded | go_upon | go_in | go_back | fail))
     with_reducible refine wp_reg (id := 23) ?_
     iterate 4
      refine wpO_want rfl ?_
      go_simp
     refine wpO_done ?_
     try go_frame
     go_wp2_with fail
     refine Sp.leaves0 ?_
     rw [unhide hC']
     exact ⟨_,results_tmp2 (t := 4) (u := 5) rfl _ _ _,CrPost.mk (c := K) (unhide hCl).symm (slat_blk C (by have h := (unhide hP).get 1 rfl; rw [show vI C = (C.flatMap encI).toArray by rw [← vI_list]] at h; exact h) (flat_length (enc := encI) (k := 1) (fun _ => rfl) C) (fun _ => rfl) (by have := unhide hCl; have := unhide hK4; omega)) (unhide hP).extf⟩
    ·obtain ⟨i,rfl⟩ : ∃ i,j = i + 1 := ⟨j - 1,by omega⟩
     obtain rfl : z = (i : Int) := by rw [hz]; omega
     have hin := hide (show i < n by omega)
     have hiL : i < o.length := by have := unhide hn'; omega
     have hib : (i : Int) ≤ 4096 := by have := unhide hno'; omega
     have hi0 : (0 : Int) ≤ (i : Int) := by omega
     obtain ⟨bd,od,rfl,hcz⟩ := cellI (unhide hD') hiL
     clear hcz hz hjn hj0
     obtain ⟨x,hx⟩ : ∃ x,x = o[i] := ⟨_,rfl⟩
     have hxV : x ∈ V.map (·.1) := by rw [hx]; exact unhide hmo _ (List.getElem_mem hiL)
     have hstep0 := unhide hst i hiL
     rw [← hx,unhide hC'] at hstep0
     have hx' := hide hx
     obtain ⟨T,hT⟩ : ∃ T,T = takenR E ids C x := ⟨_,rfl⟩
     have hTl := hide (show T.length ≤ K by rw [hT,unhide hK']; exact takenR_len E ids C x)
     unfold colRStep at hstep0
     dsimp only at hstep0
     rw [← unhide hids', ← hT] at hstep0
     have hstep := hide hstep0
     have hT' := hide hT
     have hxV' := hide hxV
     clear hx hxV hstep0 hT hC'
     try dsimp only
     repeat ((fail_if_success (with_reducible refine wp_reg (id := 9) ?_)); (first | go_values | go_skip | go_step | go_guarded | go_upon | go_in | go_back | fail))
     with_reducible refine wp_reg (id := 9) ?_
     iterate 2
      refine wpO_want rfl ?_
      go_simp
     refine wpO_done ?_
     try go_frame
     try dsimp only
     repeat ((fail_if_success (with_reducible refine wp_reg (id := 11) ?_)); (first | go_values | go_skip | go_step | go_guarded | go_upon | go_in | go_back | fail))
     with_reducible refine wp_reg (id := 11) ?_
     refine wpO_want rfl ?_
     go_simp
     refine wpO_done ?_
     try go_frame
     try dsimp only
     repeat ((fail_if_success (with_reducible refine wp_reg (id := 12) ?_)); (first | go_values | go_skip | go_step | go_guarded | go_upon | go_in | go_back | fail))
     with_reducible refine wp_reg (id := 12) ?_
     refine wpO_want rfl ?_
     go_simp
     refine wpO_done ?_
     try go_frame
     go_wp2_with fail
     obtain ⟨I3_10,hI3_100⟩ : ∃ I : Nat → Act → World → Prop,I = fun fj a' wr => ∃ (c : Nat), ∃ (ag : Bool),a'.tmps.size = 77 ∧ a'.tmps.getD 1 undef = .slice (some ⟨bd,od,none⟩) n cD ∧ a'.tmps.getD 2 undef = .pointer (some ⟨r2,0,none⟩) ∧ a'.tmps.getD 6 undef = .slice A5 K c5 ∧ a'.tmps.getD 7 undef = .slice (some ⟨bo,0,none⟩) K K ∧ a'.tmps.getD 9 undef = .int .i64 m ∧ a'.tmps.getD 10 undef = .int .i64 (i : Nat) ∧ a'.tmps.getD 11 undef = .int .i64 (c : Nat) ∧ a'.tmps.getD 12 undef = .bool ag ∧ a'.defers = [] ∧ (∀ d : Nat,d < c → (d : Int) ∈ T) ∧ (ag = false → ¬ (c : Int) ∈ T) ∧ Sp w [] w [] [(r2,28, #[.slice A V.length cA, .slice B E.length cB]),(bo,3,vI C)] [(3,1, .slice A5 K c5,K,ids.flatMap encI)] wr ∧ fj = K - c + ag.toNat := ⟨_,rfl⟩
     have hI3_10 := hide hI3_100
     clear hI3_100
     refine wp_loop_ix I3_10 (K - 0 + 1) ?_ ?_
     ·rw [unhide hI3_10]; exact ⟨0,true,rfl,rfl,rfl,rfl,rfl,rfl,rfl,rfl,rfl,rfl,fun d h => absurd h (Nat.not_lt_zero _),(fun h => by cases h),unhide hP,rfl⟩
     ·rintro fj ⟨tm,dfs⟩ wr hrel
      rw [unhide hI3_10] at hrel
      obtain ⟨c,ag,hsz,e1,e2,e6,e7,e9,e10,e11,e12,hdf,hcl,hag,hPr,hfj⟩ := hrel
      obtain ⟨us,rfl⟩ : ∃ us : Nat → Value,tm = #[us 0,us 1,us 2,us 3,us 4,us 5,us 6,us 7,us 8,us 9,us 10,us 11,us 12,us 13,us 14,us 15,us 16,us 17,us 18,us 19,us 20,us 21,us 22,us 23,us 24,us 25,us 26,us 27,us 28,us 29,us 30,us 31,us 32,us 33,us 34,us 35,us 36,us 37,us 38,us 39,us 40,us 41,us 42,us 43,us 44,us 45,us 46,us 47,us 48,us 49,us 50,us 51,us 52,us 53,us 54,us 55,us 56,us 57,us 58,us 59,us 60,us 61,us 62,us 63,us 64,us 65,us 66,us 67,us 68,us 69,us 70,us 71,us 72,us 73,us 74,us 75,us 76] := ⟨fun i => tm.getD i undef,arr_fn hsz⟩
      have h1 : us 1 = .slice (some ⟨bd,od,none⟩) n cD := e1
      have h2 : us 2 = .pointer (some ⟨r2,0,none⟩) := e2
      have h6 : us 6 = .slice A5 K c5 := e6
      have h7 : us 7 = .slice (some ⟨bo,0,none⟩) K K := e7
      have h9 : us 9 = .int .i64 m := e9
      have h10 : us 10 = .int .i64 (i : Nat) := e10
      have h11 : us 11 = .int .i64 (c : Nat) := e11
      have h12 : us 12 = .bool ag := e12
      have hdf2 : dfs = [] := hdf
      subst hdf2
      clear hdf hsz e1 e2 e6 e7 e9 e10 e11 e12
      simp only [h1,h2,h6,h7,h9,h10,h11,h12]
      clear h1 h2 h6 h7 h9 h10 h11 h12
      clear hP
      have hP := hide hPr
      have hcl' := hide hcl
      have hag' := hide hag
      have hfj' := hide hfj
      have hcK := hide (show c ≤ K from Nat.le_trans (run_len (l := T) (n := c) (fun d h1 h2 => by have h := hcl d.toNat (by omega); rw [Int.toNat_of_nonneg h1] at h; exact h)) (unhide hTl))
      clear hPr hcl hag hfj
      cases ag with
      | true =>
       have hcb : (c : Int) ≤ 4096 := by have := unhide hcK; have := unhide hK4; omega
       clear hag'
       try dsimp only
       repeat ((fail_if_success (with_reducible refine wp_reg (id := 13) ?_)); (first | go_values | go_skip | go_step | go_guarded | go_upon | go_in | go_back | fail))
       with_reducible refine wp_reg (id := 13) ?_
       refine wpO_want rfl ?_
       go_simp
       refine wpO_done ?_
       try go_frame
       try dsimp only
       repeat ((fail_if_success (with_reducible refine wp_reg (id := 14) ?_)); (first | go_values | go_skip | go_step | go_guarded | go_upon | go_in | go_back | fail))
       with_reducible refine wp_reg (id := 14) ?_
       refine wpO_want rfl ?_
       go_simp
       refine wpO_done ?_
       try go_frame
       try dsimp only
       repeat ((fail_if_success (with_reducible refine wp_reg (id := 15) ?_)); (first | go_values | go_skip | go_step | go_guarded | go_upon | go_in | go_back | fail))
       with_reducible refine wp_reg (id := 15) ?_
       refine wpO_want rfl ?_
       go_simp
       refine wpO_done ?_
       try go_frame
       go_wp2_with fail
       obtain ⟨I3_14,hI3_140⟩ : ∃ I : Nat → Act → World → Prop,I = fun fk a' wr => ∃ (k : Nat), ∃ (c2 : Nat), ∃ (ag : Bool),a'.tmps.size = 77 ∧ a'.tmps.getD 1 undef = .slice (some ⟨bd,od,none⟩) n cD ∧ a'.tmps.getD 2 undef = .pointer (some ⟨r2,0,none⟩) ∧ a'.tmps.getD 6 undef = .slice A5 K c5 ∧ a'.tmps.getD 7 undef = .slice (some ⟨bo,0,none⟩) K K ∧ a'.tmps.getD 9 undef = .int .i64 m ∧ a'.tmps.getD 10 undef = .int .i64 (i : Nat) ∧ a'.tmps.getD 11 undef = .int .i64 (c2 : Nat) ∧ a'.tmps.getD 12 undef = .bool ag ∧ a'.tmps.getD 13 undef = .int .i64 (k : Nat) ∧ a'.defers = [] ∧ k ≤ K ∧ (∀ d : Nat,d < c2 → (d : Int) ∈ T) ∧ (ag = true → c < c2) ∧ (ag = false → c2 = c ∧ ∀ k' (_ : k' < k) (hl : k' < ids.length),hasE ids[k'] x E = true → C[k']? ≠ some (c : Int)) ∧ Sp w [] w [] [(r2,28, #[.slice A V.length cA, .slice B E.length cB]),(bo,3,vI C)] [(3,1, .slice A5 K c5,K,ids.flatMap encI)] wr ∧ fk = K - k := ⟨_,rfl⟩
       have hI3_14 := hide hI3_140
       clear hI3_140
       refine wp_loop_ix I3_14 (K - 0) ?_ ?_
       ·rw [unhide hI3_14]; exact ⟨0,c,false,rfl,rfl,rfl,rfl,rfl,rfl,rfl,rfl,rfl,rfl,rfl,Nat.zero_le _,unhide hcl',(fun h => by cases h),fun _ => ⟨rfl,fun k' h => absurd h (Nat.not_lt_zero _)⟩,unhide hP,rfl⟩
       ·rintro fk ⟨tm,dfs⟩ wr hrel
        rw [unhide hI3_14] at hrel
        obtain ⟨k,c2,ag,hsz,e1,e2,e6,e7,e9,e10,e11,e12,e13,hdf,hkK,hcl2,hup,hsa,hPr,hfk⟩ := hrel
        obtain ⟨us,rfl⟩ : ∃ us : Nat → Value,tm = #[us 0,us 1,us 2,us 3,us 4,us 5,us 6,us 7,us 8,us 9,us 10,us 11,us 12,us 13,us 14,us 15,us 16,us 17,us 18,us 19,us 20,us 21,us 22,us 23,us 24,us 25,us 26,us 27,us 28,us 29,us 30,us 31,us 32,us 33,us 34,us 35,us 36,us 37,us 38,us 39,us 40,us 41,us 42,us 43,us 44,us 45,us 46,us 47,us 48,us 49,us 50,us 51,us 52,us 53,us 54,us 55,us 56,us 57,us 58,us 59,us 60,us 61,us 62,us 63,us 64,us 65,us 66,us 67,us 68,us 69,us 70,us 71,us 72,us 73,us 74,us 75,us 76] := ⟨fun i => tm.getD i undef,arr_fn hsz⟩
        have h1 : us 1 = .slice (some ⟨bd,od,none⟩) n cD := e1
        have h2 : us 2 = .pointer (some ⟨r2,0,none⟩) := e2
        have h6 : us 6 = .slice A5 K c5 := e6
        have h7 : us 7 = .slice (some ⟨bo,0,none⟩) K K := e7
        have h9 : us 9 = .int .i64 m := e9
        have h10 : us 10 = .int .i64 (i : Nat) := e10
        have h11 : us 11 = .int .i64 (c2 : Nat) := e11
        have h12 : us 12 = .bool ag := e12
        have h13 : us 13 = .int .i64 (k : Nat) := e13
        have hdf2 : dfs = [] := hdf
        subst hdf2
        clear hdf hsz e1 e2 e6 e7 e9 e10 e11 e12 e13
        simp only [h1,h2,h6,h7,h9,h10,h11,h12,h13]
        clear h1 h2 h6 h7 h9 h10 h11 h12 h13
        clear hP
        have hP := hide hPr
        have hcl2' := hide hcl2
        have hup' := hide hup
        have hsa' := hide hsa
        have hfk' := hide hfk
        have hcK2 := hide (show c2 ≤ K from Nat.le_trans (run_len (l := T) (n := c2) (fun d h1 h2 => by have h := hcl2 d.toNat (by omega); rw [Int.toNat_of_nonneg h1] at h; exact h)) (unhide hTl))
        clear hPr hcl2 hup hsa hfk
        by_cases hkl : k < K
        ·have hkl2 : (k : Int) < (K : Int) := by omega
         have hkI : k < ids.length := by have := unhide hK'; omega
         have hkC : k < C.length := by have := unhide hCl; omega
         have hkl' := hide hkl
         have hkb : (k : Int) ≤ 4096 := by have := unhide hK4; omega
         obtain ⟨u1,hu1⟩ : ∃ u,u = ids[k] := ⟨_,rfl⟩
         have hu1' := hide hu1
         obtain ⟨y,hy⟩ : ∃ y,y = C[k] := ⟨_,rfl⟩
         have hy' := hide hy
         obtain ⟨q,hq⟩ : ∃ q,q = hasE u1 x E := ⟨_,rfl⟩
         have hq' := hide hq
         have hc2b : (c2 : Int) ≤ 4096 := by have := unhide hcK2; have := unhide hK4; omega
         clear hu1 hy hq hkl hkK
         obtain ⟨b5,o5,rfl,hcz⟩ := cellI (own_at (enc := encI) (by have h := (unhide hP).row 0 rfl; rw [unhide hK'] at h; exact h) (fun _ => rfl)) hkI
         clear hcz
         try dsimp only
         repeat ((fail_if_success (with_reducible refine wp_reg (id := 16) ?_)); (first | go_values | go_skip | go_step | go_guarded | go_upon | go_in | go_back | fail))
         with_reducible refine wp_reg (id := 16) ?_
         iterate 4
          refine wpO_want rfl ?_
          go_simp
         refine wpO_done ?_
         try go_frame
         go_wp2_with fail
         have c0 := slK (S := []) (own_at (enc := encI) (by have h := (unhide hP).row 0 rfl; rw [unhide hK'] at h; exact h) (fun _ => rfl)) (by simp) hkI
         rw [← unhide hu1'] at c0
         have c1 := slK (S := []) ((unhide hD').ext (unhide hP).extf) (by simp) hiL
         rw [← unhide hx'] at c1
         have c2f : ∀ W',Keep [] wr W' → W'.cell? ⟨bo,k,none⟩ = some (.int .i64 y) := (unhide hP).cellK (S := []) 1 k rfl (by rw [vI_get hkC, ← unhide hy']) (by simp)
         have q0 := (unhide hP).cellK (S := []) 0 0 (v := .slice A V.length cA) rfl rfl (by simp)
         have q1 := (unhide hP).cellK (S := []) 0 1 (v := .slice B E.length cB) rfl rfl (by simp)
         have hself := Keep.refl [] wr
         have hii := unhide hin
         cases q with
         | false =>
          refine wp_regionK (P := Tryz.prog) [] [0,1,2,3,4,5,6,7,8,9,10,11,12,13,14,15,16,17] [] 0 #[true,true,true,true,true,true,true,true,true,true,true,true,true,true,true,true,true,true] (by kernel_rfl) (by kernel_rfl) rfl (by rfl) ?_
          iterate 9
           refine ql_want (v := ?_) rfl (by rfl) (fun W hW => ?_) ?_
           rotate_left
           ·go_simp
            first | done | rfl
           go_frame
          refine ql_want (v := .bool false) rfl (by rfl) (fun W hW => ?_) ?_
          ·go_simp
           refine (joinedR_any A B V E cA cB u1 x W ((unhide hE').ext ((unhide hP).extf.trans ((Ext.refl _).of_new hW (by simp)))) (unhide hnE')).mono ?_
           rw [← unhide hq']
           rintro _ _ ⟨h1,h2⟩
           exact ⟨_,h1,rfl,h2⟩
          go_frame
          iterate 8
           first
           | (refine ql_skip rfl (by rfl) ?_)
           | (refine ql_want (v := ?_) rfl (by rfl) (fun W hW => ?_) ?_; rotate_left; (go_simp; (first | done | rfl)))
           try go_frame
          refine wpQL_nil (fun y4 hxq => ?_)
          replace hP : Hid (Sp w [] w [] [(r2,28, #[.slice A V.length cA, .slice B E.length cB]),(bo,3,vI C)] [(3,1, .slice (some ⟨b5,o5,none⟩) K c5,K,ids.flatMap encI)] y4) := hide ((unhide hP).ext hxq)
          clear hxq
          clear q0 q1 hself c0 c1 c2f hii
          refine wpX_done (by kernel_rfl) ?_
          try go_frame
          have hsb := hide (show ag = false → c2 = c ∧ ∀ k' (_ : k' < k + 1) (hl : k' < ids.length),hasE ids[k'] x E = true → C[k']? ≠ some (c : Int) from fun ha => ⟨(unhide hsa' ha).1,fun k' h1 hl h2 => by
           rcases Nat.lt_or_ge k' k with h3 | h3
           ·exact (unhide hsa' ha).2 k' h3 hl h2
           ·obtain rfl : k' = k := by omega
            rw [← unhide hu1', ← unhide hq'] at h2
            cases h2⟩)
          go_wp2_with fail
          have hkn := unhide hkl'
          refine ⟨K - (k + 1), ?_,by have := unhide hfk'; omega⟩
          rw [unhide hI3_14]
          exact ⟨k + 1,c2,ag,(by first | rfl | trivial),(by first | rfl | trivial),(by first | rfl | trivial),(by first | rfl | trivial),(by first | rfl | trivial),(by first | rfl | trivial),(by first | rfl | trivial),(by first | rfl | (show _ = Value.int _ _; go_num) | go_num),(by first | rfl | trivial),(by first | rfl | (show _ = Value.int _ _; go_num) | go_num),(by first | rfl | trivial),by omega,unhide hcl2',unhide hup',unhide hsb,unhide hP,rfl⟩
         | true =>
          by_cases hyc : y = (c2 : Int)
          ·subst hyc
           refine wp_regionK (P := Tryz.prog) [] [0,1,2,3,4,5,6,7,8,9,10,11,12,13,14,15,16,17] [] 0 #[true,true,true,true,true,true,true,true,true,true,true,true,true,true,true,true,true,true] (by kernel_rfl) (by kernel_rfl) rfl (by rfl) ?_
           iterate 9
            refine ql_want (v := ?_) rfl (by rfl) (fun W hW => ?_) ?_
            rotate_left
            ·go_simp
             first | done | rfl
            go_frame
           refine ql_want (v := .bool true) rfl (by rfl) (fun W hW => ?_) ?_
           ·go_simp
            refine (joinedR_any A B V E cA cB u1 x W ((unhide hE').ext ((unhide hP).extf.trans ((Ext.refl _).of_new hW (by simp)))) (unhide hnE')).mono ?_
            rw [← unhide hq']
            rintro _ _ ⟨h1,h2⟩
            exact ⟨_,h1,rfl,h2⟩
           go_frame
           iterate 8
            refine ql_want (v := ?_) rfl (by rfl) (fun W hW => ?_) ?_
            rotate_left
            ·go_simp
             first | done | rfl
            go_frame
           refine wpQL_nil (fun y4 hxq => ?_)
           replace hP : Hid (Sp w [] w [] [(r2,28, #[.slice A V.length cA, .slice B E.length cB]),(bo,3,vI C)] [(3,1, .slice (some ⟨b5,o5,none⟩) K c5,K,ids.flatMap encI)] y4) := hide ((unhide hP).ext hxq)
           clear hxq
           clear q0 q1 hself c0 c1 c2f hii
           refine wpX_done (by kernel_rfl) ?_
           try go_frame
           have hmT : (c2 : Int) ∈ T := by
            rw [unhide hT',mem_takenR]
            exact ⟨k,hkI,by rw [← unhide hu1', ← unhide hq'],by rw [List.getElem?_eq_getElem hkC, ← unhide hy']⟩
           have hcl3 := hide (show ∀ d : Nat,d < c2 + 1 → (d : Int) ∈ T from fun d hd => by
            rcases Nat.lt_or_ge d c2 with h | h
            ·exact unhide hcl2' d h
            ·obtain rfl : d = c2 := by omega
             exact hmT)
           have hup3 := hide (show true = true → c < c2 + 1 from fun _ => by
            cases ag with
            | true => exact Nat.lt_succ_of_lt (unhide hup' rfl)
            | false => have := (unhide hsa' rfl).1; omega)
           clear hmT
           go_wp2_with fail
           have hkn := unhide hkl'
           refine ⟨K - (k + 1), ?_,by have := unhide hfk'; omega⟩
           rw [unhide hI3_14]
           exact ⟨k + 1,c2 + 1,true,(by first | rfl | trivial),(by first | rfl | trivial),(by first | rfl | trivial),(by first | rfl | trivial),(by first | rfl | trivial),(by first | rfl | trivial),(by first | rfl | trivial),(by first | rfl | (show _ = Value.int _ _; go_num) | go_num),(by first | rfl | trivial),(by first | rfl | (show _ = Value.int _ _; go_num) | go_num),(by first | rfl | trivial),by omega,unhide hcl3,(fun _ => unhide hup3 (by trivial)),(fun h => by cases h),unhide hP,rfl⟩
          ·have hyq : (y == (c2 : Int)) = false := by simp [hyc]
           replace hyc := hide hyc
           refine wp_regionK (P := Tryz.prog) [] [0,1,2,3,4,5,6,7,8,9,10,11,12,13,14,15,16,17] [] 0 #[true,true,true,true,true,true,true,true,true,true,true,true,true,true,true,true,true,true] (by kernel_rfl) (by kernel_rfl) rfl (by rfl) ?_
           iterate 9
            refine ql_want (v := ?_) rfl (by rfl) (fun W hW => ?_) ?_
            rotate_left
            ·go_simp
             first | done | rfl
            go_frame
           refine ql_want (v := .bool true) rfl (by rfl) (fun W hW => ?_) ?_
           ·go_simp
            refine (joinedR_any A B V E cA cB u1 x W ((unhide hE').ext ((unhide hP).extf.trans ((Ext.refl _).of_new hW (by simp)))) (unhide hnE')).mono ?_
            rw [← unhide hq']
            rintro _ _ ⟨h1,h2⟩
            exact ⟨_,h1,rfl,h2⟩
           go_frame
           iterate 8
            refine ql_want (v := ?_) rfl (by rfl) (fun W hW => ?_) ?_
            rotate_left
            ·go_simp
             first | done | rfl
            go_frame
           refine wpQL_nil (fun y4 hxq => ?_)
           replace hP : Hid (Sp w [] w [] [(r2,28, #[.slice A V.length cA, .slice B E.length cB]),(bo,3,vI C)] [(3,1, .slice (some ⟨b5,o5,none⟩) K c5,K,ids.flatMap encI)] y4) := hide ((unhide hP).ext hxq)
           clear hxq
           clear q0 q1 hself c0 c1 c2f hii hyq
           refine wpX_done (by kernel_rfl) ?_
           try go_frame
           have hsb := hide (show ag = false → c2 = c ∧ ∀ k' (_ : k' < k + 1) (hl : k' < ids.length),hasE ids[k'] x E = true → C[k']? ≠ some (c : Int) from fun ha => ⟨(unhide hsa' ha).1,fun k' h1 hl h2 => by
            rcases Nat.lt_or_ge k' k with h3 | h3
            ·exact (unhide hsa' ha).2 k' h3 hl h2
            ·obtain rfl : k' = k := by omega
             intro h4
             rw [List.getElem?_eq_getElem hkC, ← unhide hy', ← (unhide hsa' ha).1] at h4
             exact unhide hyc (Option.some.inj h4)⟩)
           go_wp2_with fail
           have hkn := unhide hkl'
           refine ⟨K - (k + 1), ?_,by have := unhide hfk'; omega⟩
           rw [unhide hI3_14]
           exact ⟨k + 1,c2,ag,(by first | rfl | trivial),(by first | rfl | trivial),(by first | rfl | trivial),(by first | rfl | trivial),(by first | rfl | trivial),(by first | rfl | trivial),(by first | rfl | trivial),(by first | rfl | (show _ = Value.int _ _; go_num) | go_num),(by first | rfl | trivial),(by first | rfl | (show _ = Value.int _ _; go_num) | go_num),(by first | rfl | trivial),by omega,unhide hcl2',unhide hup',unhide hsb,unhide hP,rfl⟩
        ·have hke : ¬ (k : Int) < (K : Int) := by omega
         have hno2 := hide (show ag = false → ¬ (c2 : Int) ∈ T from fun ha hm => by
          obtain ⟨h1,h2⟩ := unhide hsa' ha
          rw [unhide hT',mem_takenR,h1] at hm
          obtain ⟨k',hk',h3,h4⟩ := hm
          exact h2 k' (by have := unhide hK'; omega) hk' h3 h4)
         try dsimp only
         repeat ((fail_if_success (with_reducible refine wp_reg (id := 16) ?_)); (first | go_values | go_skip | go_step | go_guarded | go_upon | go_in | go_back | fail))
         with_reducible refine wp_reg (id := 16) ?_
         iterate 4
          refine wpO_want rfl ?_
          go_simp
         refine wpO_done ?_
         try go_frame
         clear hke
         go_wp2_with fail
         have h1 := unhide hfj'
         have h2 := unhide hup'
         have h3 := unhide hsa'
         have h4 := unhide hcK
         have h5 := unhide hcK2
         clear hkl hkK
         refine ⟨K - c2 + ag.toNat, ?_,by cases ag <;> simp at h1 h2 h3 ⊢ <;> omega⟩
         rw [unhide hI3_10]
         exact ⟨c2,ag,(by first | rfl | trivial),(by first | rfl | trivial),(by first | rfl | trivial),(by first | rfl | trivial),(by first | rfl | trivial),(by first | rfl | trivial),(by first | rfl | trivial),(by first | rfl | trivial),(by first | rfl | trivial),(by first | rfl | trivial),unhide hcl2',unhide hno2,unhide hP,rfl⟩
      | false =>
       have hmx : mexL T = (c : Int) := (mex_spec T).uniq ⟨by omega,unhide hag' rfl,fun d h1 h2 => by have h := unhide hcl' d.toNat (by omega); rw [Int.toNat_of_nonneg h1] at h; exact h⟩
       have hstep2 := unhide hstep
       rw [hmx] at hstep2
       have hcb : (c : Int) ≤ 4096 := by have := unhide hcK; have := unhide hK4; omega
       obtain ⟨pn,hpn⟩ : ∃ pn : Nat,posI (fun p => p.1 == x) V = (pn : Int) := ⟨(posI (fun p => p.1 == x) V).toNat,by have h := hasV_iff.2 (unhide hxV'); have h2 : hasV x V = decide (0 ≤ posI (fun p => p.1 == x) V) := rfl; rw [h2,decide_eq_true_eq] at h; omega⟩
       rw [hpn,Int.toNat_natCast] at hstep2
       have hpK : pn < K := by
        rcases posI_cases (fun p : Int × Thing => p.1 == x) V with ⟨h1,_⟩ | ⟨j,hj,h1,_⟩
        ·rw [h1] at hpn; omega
        ·rw [h1] at hpn; rw [unhide hKV]; omega
       have hpb : (pn : Int) < (K : Int) := by omega
       have hpn' := hide hpn
       have hstep3 := hide hstep2
       have hpC := hide (show pn < C.length by rw [unhide hCl]; exact hpK)
       clear hmx hstep2 hpn
       try dsimp only
       repeat ((fail_if_success (with_reducible refine wp_reg (id := 13) ?_)); (first | go_values | go_skip | go_step | go_guarded | go_upon | go_in | go_back | fail))
       with_reducible refine wp_reg (id := 13) ?_
       refine wpO_want rfl ?_
       go_simp
       refine wpO_done ?_
       try go_frame
       go_wp2_with fail
       have c1 := slK (S := []) ((unhide hD').ext (unhide hP).extf) (by simp) hiL
       rw [← unhide hx'] at c1
       have hii := unhide hin
       have q0 := (unhide hP).cellK (S := []) 0 0 (v := .slice A V.length cA) rfl rfl (by simp)
       have q1 := (unhide hP).cellK (S := []) 0 1 (v := .slice B E.length cB) rfl rfl (by simp)
       have hself := Keep.refl [] wr
       refine wp_regionK (P := Tryz.prog) [] [0,1,2,3,4,5,6,7,8] [9] 1 #[true,true,true,true,true,true,true,true,true,false] (by kernel_rfl) (by kernel_rfl) rfl (by rfl) ?_
       iterate 6
        refine ql_want (v := ?_) rfl (by rfl) (fun W hW => ?_) ?_
        rotate_left
        ·go_simp
         first | done | rfl
        go_frame
       refine ql_want (v := .int .i64 (pn : Nat)) rfl (by rfl) (fun W hW => ?_) ?_
       ·go_simp
        refine (find_any A B V cA E.length cB x W ((unhide hV').ext ((unhide hP).extf.trans ((Ext.refl _).of_new hW (by simp)))) (unhide hnV')).mono ?_
        rw [unhide hpn']
        rintro _ _ ⟨h1,h2⟩
        exact ⟨_,h1,rfl,h2⟩
       go_frame
       iterate 2
        refine ql_want (v := ?_) rfl (by rfl) (fun W hW => ?_) ?_
        rotate_left
        ·go_simp
         first | done | rfl
        go_frame
       refine wpQL_nil (fun y4 hxq => ?_)
       replace hP : Hid (Sp w [] w [] [(r2,28, #[.slice A V.length cA, .slice B E.length cB]),(bo,3,vI C)] [(3,1, .slice A5 K c5,K,ids.flatMap encI)] y4) := hide ((unhide hP).ext hxq)
       clear hxq
       clear q0 q1 hself c1 hii
       refine (unhide hP).setX 1 (vI (C.set pn c)) rfl (j := 9) (by kernel_rfl) rfl (by rfl) #[true,true,true,true,true,true,true,true,true,true] (by rfl) rfl (fun hb => run_store_int (k := pn) rfl (by first | rfl | (go_simp; done)) rfl (Tryz.sizeOf3 _) hb (unhide hpC)) ?_
       intro y5 hQ
       replace hP : Hid (Sp w [] w [] [(r2,28, #[.slice A V.length cA, .slice B E.length cB]),(bo,3,vI (C.set pn c))] [(3,1, .slice A5 K c5,K,ids.flatMap encI)] y5) := hide hQ
       clear hQ
       try go_frame
       refine wpX_done (by kernel_rfl) ?_
       try go_frame
       have hwc : IntKind.i64.wrap ((c : Int) + 1) = (c : Int) + 1 := IntWalk.i64_in _ (by omega)
       have hwi : IntKind.i64.wrap ((i : Int) - 1) = (i : Int) - 1 := IntWalk.i64_in _ (by omega)
       try dsimp only
       repeat ((fail_if_success (with_reducible refine wp_reg (id := 22) ?_)); (first | go_values | go_skip | go_step | go_guarded | go_upon | go_in | go_back | fail))
       with_reducible refine wp_reg (id := 22) ?_
       iterate 5
        refine wpO_want rfl ?_
        go_simp
       refine wpO_done ?_
       try go_frame
       try dsimp only
       repeat ((fail_if_success (with_reducible refine wp_reg (id := 10) ?_)); (first | go_values | go_skip | go_step | go_guarded | go_upon | go_in | go_back | fail))
       with_reducible refine wp_reg (id := 10) ?_
       iterate 3
        refine wpO_want rfl ?_
        go_simp
       refine wpO_done ?_
       try go_frame
       go_wp2_with fail
       have h1 := unhide hin
       have h2 := unhide hfm'
       refine ⟨i, ?_,by omega⟩
       rw [unhide hI3_6]
       exact ⟨i,C.set pn c,max m ((c : Int) + 1),(i : Int) - 1,(by first | rfl | trivial),(by first | rfl | trivial),(by first | rfl | trivial),(by first | rfl | trivial),(by first | rfl | trivial),(by first | rfl | trivial),(by first | rfl | trivial),(by first | rfl | trivial),by omega,rfl,unhide hstep3,unhide hP,rfl⟩
end Go.Proofs.YtmfkkkhddigkfaaGreatDoor
