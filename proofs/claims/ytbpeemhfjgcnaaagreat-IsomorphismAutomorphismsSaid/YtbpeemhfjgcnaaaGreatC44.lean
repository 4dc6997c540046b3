/- Parts of a proof, laid together. Each part says its own conditions. -/
import Derived.Test.YtbpeemhfjgcnaaaGreatC43
namespace Go.Proofs.YtbpeemhfjgcnaaaGreat
open Go Go.RowKit Go.Shelf
attribute [local go_sem] qUpon lUpon
attribute [local irreducible] wpO wpX wpQL
theorem posE_find {u v : Int} {E : List ((Int × Int) × Thing)} : (posI (isE u v) E = -1 ∧ betE E u v = none) ∨ ∃ k, ∃ h : k < E.length,posI (isE u v) E = (k : Int) ∧ betE E u v = some E[k].2 := by
 unfold posI betE
 cases hf : E.findIdx? (isE u v) with
 | none =>
  refine .inl ⟨rfl, ?_⟩
  rw [List.findIdx?_eq_none_iff] at hf
  rw [List.find?_eq_none.2 fun x hx => by rw [hf x hx]; simp]
  rfl
 | some k =>
  rw [List.findIdx?_eq_some_iff_getElem] at hf
  obtain ⟨h1,h2,h3⟩ := hf
  refine .inr ⟨k,h1,rfl, ?_⟩
  rw [List.find?_eq_some_iff_getElem.2 ⟨h2,k,h1,rfl,fun j hj => by simpa using h3 j hj⟩]
  rfl
theorem code_le {V : List (Int × Thing)} {E : List ((Int × Int) × Thing)} {L : List Int} (h : L.length ≤ 8) : (codeR V E L).length ≤ 300 := by
 unfold codeR
 rw [List.length_append,codeT_len,List.length_map]
 have h1 := codeP_le E 8 L h
 have h2 : 3 * 8 * L.length ≤ 3 * 8 * 8 := Nat.mul_le_mul_left _ h
 omega
theorem codeT_step {V : List (Int × Thing)} {L : List Int} {i : Nat} (h : i < L.length) : codeT ((L.take (i + 1)).map (thV V)) = codeT ((L.take i).map (thV V)) ++ [(thV V L[i]).1,(thV V L[i]).2] := by
 rw [List.take_succ_eq_append_getElem h,List.map_append]
 have key : ∀ (a : List Thing) (t : Thing),codeT (a ++ [t]) = codeT a ++ [t.1,t.2] := by
  intro a t
  induction a with
  | nil => rfl
  | cons x r ih => rw [List.cons_append]; show x.1 :: x.2 :: codeT (r ++ [t]) = x.1 :: x.2 :: (codeT r) ++ [t.1,t.2]; rw [ih]; rfl
 exact key _ _
theorem drop_flat {L : List Int} (f : Int → List Int) {k : Nat} (h : k < L.length) : (L.drop k).flatMap f = f L[k] ++ (L.drop (k + 1)).flatMap f := flat_step f L h
theorem thV_pos {V : List (Int × Thing)} {E : List ((Int × Int) × Thing)} (hi : GInv V E) {x : Int} {j : Nat} (hj : j < V.length) (h : V[j].1 = x) : thV V x = V[j].2 := by rw [← h]; exact th_at hi hj
theorem pos_at {V : List (Int × Thing)} {x : Int} (h : x ∈ idsV V) : ∃ j : Nat, ∃ hj : j < V.length,posI (fun p : Int × Thing => p.1 == x) V = (j : Int) ∧ V[j].1 = x := by
 obtain ⟨j,hj,hp,hx,_⟩ := pos_ids h
 refine ⟨j,hj,hp, ?_⟩
 have h1 : (idsV V).idxOf x < (idsV V).length := List.idxOf_lt_length_of_mem h
 have h2 : (idsV V)[(idsV V).idxOf x] = x := List.getElem_idxOf h1
 have h3 : (idsV V)[(idsV V).idxOf x] = V[(idsV V).idxOf x].1 := List.getElem_map _
 rw [h3] at h2
 simp only [hx] at h2
 exact h2
theorem slAt_lt {α : Type} {enc : α → List Value} {k : Nat} {w : World} {A : Option Addr} {xs : List α} (h : SlAt enc k w A xs) (hne : xs ≠ []) : ∃ b off,A = some ⟨b,off,none⟩ ∧ b < w.heap.size := by
 obtain ⟨b,off,hA,hlt,_⟩ := h hne
 exact ⟨b,off,hA,hlt⟩
theorem redge8 (A B : Option Addr) (E : List ((Int × Int) × Thing)) (nV nE cV cE : Nat) (u v z : Int) (w : World) (hE : SlAt encE 4 w B E) (hn : nE = E.length) (hl : E.length ≤ 4096) (hz : posI (isE u v) E = z) : Calls Tryz.prog 61 #[.agg #[.slice A nV cV, .slice B nE cE], .int .i64 u, .int .i64 v] w fun e w' => e = .returned (.int .i64 z) ∧ Ext w w' := by
 subst hn
 subst hz
 exact redge_any A B E nV cV cE u v w hE hl
set_option maxRecDepth 100000 in
set_option maxHeartbeats 16000000 in
theorem code08_any (A1 B1 : Option Addr) (V : List (Int × Thing)) (E : List ((Int × Int) × Thing)) (nV nE cA cB : Nat) (A : Option Addr) (L : List Int) (n cC : Nat) (w : World) (hsV : SlAt encV 3 w A1 V) (hsE : SlAt encE 4 w B1 E) (hi : GInv V E) (hlb : LabB V E) (hnV : nV = V.length) (hnE : nE = E.length) (hA : SlAt encI 1 w A L) (hn : n = L.length) (hl : n ≤ 8) (hm : ∀ x ∈ L,x ∈ idsV V) :
  Calls Tryz.prog 50 #[.agg #[.slice A1 nV cA, .slice B1 nE cB], .slice A n cC] w (OwJ w (codeR V E L)) := by
 have hsV' := hide hsV
 have hsE' := hide hsE
 have hi' := hide hi
 have hlb' := hide hlb
 have hnV' := hide hnV
 have hnE' := hide hnE
 have hA' := hide hA
 have hn' := hide hn
 have hl' := hide hl
 have hm' := hide hm
 have hv4 := hide hi.nv
 have he4 := hide hi.ne
 have hcl := hide (code_le (V := V) (E := E) (L := L) (by omega))
 clear hsV hsE hi hlb hnV hnE hA hn hl hm
 have hP := hide (Sp.new w)
 refine callsIn_wide.1 (callsIn_of_wp_marks (n := 0) Tryz.func50 rfl trivial (wpIn_wide.2 ?_))
 simp only [Tryz.ntmps50,List.size_toArray,List.length_cons,List.length_nil,Nat.reduceAdd,Nat.reduceSub,Array.replicate_succ,Array.replicate_zero,List.push_toArray,List.append_toArray,List.nil_append,List.cons_append]
 try dsimp only
 repeat ((fail_if_success (with_reducible refine wp_reg (id := 0) ?_)); (first | go_values | go_skip | go_step | go_guarded | go_upon | go_in | go_back | fail))
 with_reducible refine wp_reg (id := 0) ?_
 refine (unhide hP).allocO 28 #[.slice A1 nV cA, .slice B1 nE cB] rfl (run_box (v := .agg #[.slice A1 nV cA, .slice B1 nE cB]) rfl rfl) ?_
 intro r2 y1 hQ
 replace hP : Hid (Sp w [] w [] [(r2,28, #[.slice A1 nV cA, .slice B1 nE cB])] [] y1) := hide hQ
 clear hQ
 refine wpO_want rfl ?_
 go_simp
 refine wpO_done ?_
 try go_frame
 replace hP : Hid (Sp w [] w [] [(r2,28, #[.slice A1 nV cA, .slice B1 nE cB])] [(3,1, .slice none 0 0,0,([] : List Int).flatMap encI)] y1) := hide ((unhide hP).nil 3 1)
 go_wp2_with fail
 obtain ⟨I1_2,hI1_20⟩ : ∃ I : Nat → Act → World → Prop,I = fun fi a' wr => ∃ (i : Nat), ∃ (Ax : Option Addr), ∃ (m : Nat), ∃ (cx : Nat), ∃ (xs : List Int),a'.tmps.size = 81 ∧ a'.tmps.getD 1 undef = .slice A n cC ∧ a'.tmps.getD 2 undef = .pointer (some ⟨r2,0,none⟩) ∧ a'.tmps.getD 5 undef = .slice Ax m cx ∧ a'.tmps.getD 6 undef = .int .i64 (i : Nat) ∧ a'.defers = [] ∧ i ≤ n ∧ xs = codeT ((L.take i).map (thV V)) ∧ m = xs.length ∧ Sp w [] w [] [(r2,28, #[.slice A1 nV cA, .slice B1 nE cB])] [(3,1, .slice Ax m cx,m,xs.flatMap encI)] wr ∧ fi = n - i := ⟨_,rfl⟩
 have hI1_2 := hide hI1_20
 clear hI1_20
 refine wp_loop_ix I1_2 (n - 0) ?_ ?_
 ·rw [unhide hI1_2]; exact ⟨0,none,0,0,[],rfl,rfl,rfl,rfl,rfl,rfl,Nat.zero_le _,rfl,rfl,unhide hP,rfl⟩
 ·rintro fi ⟨tm,dfs⟩ wr hrel
  rw [unhide hI1_2] at hrel
  obtain ⟨i,Ax,m,cx,xs,hsz,e1,e2,e5,e6,hdf,hin,hxs0,hml0,hPr,hfm⟩ := hrel
  obtain ⟨us,rfl⟩ : ∃ us : Nat → Value,tm = #[us 0,us 1,us 2,us 3,us 4,us 5,us 6,us 7,us 8,us 9,us 10,us 11,us 12,us 13,us 14,us 15,us 16,us 17,us 18,us 19,us 20,us 21,us 22,us 23,us 24,us 25,us 26,us 27,us 28,us 29,us 30,us 31,us 32,us 33,us 34,us 35,us 36,us 37,us 38,us 39,us 40,us 41,us 42,us 43,us 44,us 45,us 46,us 47,us 48,us 49,us 50,us 51,us 52,us 53,us 54,us 55,us 56,us 57,us 58,us 59,us 60,us 61,us 62,us 63,us 64,us 65,us 66,us 67,us 68,us 69,us 70,us 71,us 72,us 73,us 74,us 75,us 76,us 77,us 78,us 79,us 80] := ⟨fun i => tm.getD i undef,arr_fn hsz⟩
  have h1 : us 1 = .slice A n cC := e1
  have h2 : us 2 = .pointer (some ⟨r2,0,none⟩) := e2
  have h5 : us 5 = .slice Ax m cx := e5
  have h6 : us 6 = .int .i64 (i : Nat) := e6
  have hdf2 : dfs = [] := hdf
  subst hdf2
  clear hdf hsz e1 e2 e5 e6
  simp only [h1,h2,h5,h6]
  clear h1 h2 h5 h6
  clear hP
  have hP := hide hPr
  have hfm' := hide hfm
  have hxs := hide hxs0
  have hml := hide hml0
  clear hPr hfm hxs0 hml0
  by_cases hlt : i < n
  ·skip
   have hil : (i : Int) < (n : Int) := by omega
   have hlt' := hide hlt
   have hiL : i < L.length := by have := unhide hn'; omega
   have hib : (i : Int) ≤ 8 := by have := unhide hl'; omega
   have hst := hide (codeT_step (V := V) hiL)
   have hmb := hide (show m ≤ 300 by rw [unhide hml,unhide hxs,codeT_len,List.length_map,List.length_take]; omega)
   obtain ⟨jx,hjx,hpx,hjx2⟩ := pos_at (unhide hm' _ (List.getElem_mem hiL))
   obtain ⟨b,off,rfl,t0⟩ := atI ((unhide hA').ext (unhide hP).extf) hiL
   obtain ⟨bv,ov,rfl,g0,g1,g2⟩ := atV ((unhide hsV').ext (unhide hP).extf) hjx
   have hth := thV_pos (unhide hi') hjx hjx2
   have hlb2 := hide ((unhide hlb').1 _ (List.getElem_mem hjx))
   obtain ⟨x,hx0⟩ : ∃ x,x = L[i] := ⟨_,rfl⟩
   obtain ⟨⟨v0,lab,wt⟩,hp0⟩ : ∃ p,p = V[jx] := ⟨_,rfl⟩
   rw [← hp0] at hth g0 g1 g2 hlb2
   rw [← hx0] at hst t0 hth hpx
   rw [hth] at hst
   dsimp only at hst g0 g1 g2 hlb2
   have hwl : IntKind.i64.wrap lab = lab := wrap_byte (unhide hlb2)
   have hpx' := hide hpx
   have hjv : (jx : Int) < (nV : Int) := by have := unhide hnV'; omega
   have hself := Ext.refl wr
   clear hx0 hp0 hlt hpx hth hjx2
   have q0 := (unhide hP).cell 0 0 (v := .slice (some ⟨bv,ov,none⟩) nV cA) rfl rfl
   have q1 := (unhide hP).cell 0 1 (v := .slice B1 nE cB) rfl rfl
   try dsimp only
   repeat ((fail_if_success (with_reducible refine wp_reg (id := 3) ?_)); (first | go_values | go_skip | go_step | go_guarded | go_upon | go_in | go_back | fail))
   with_reducible refine wp_reg (id := 3) ?_
   iterate 4
    refine wpO_want rfl ?_
    go_simp
   refine wpO_done ?_
   try go_frame
   go_wp2_with fail
   have hc1 := hide (show ∀ W,Ext wr W → Calls Tryz.prog 19 #[.agg #[.slice (some ⟨bv,ov,none⟩) nV cA, .slice B1 nE cB], .int .i64 x] W fun e w' => e = .returned (.int .i64 (jx : Nat)) ∧ Ext W w' from fun W hW => find8 _ B1 V nV cA nE cB x jx W ((unhide hsV').ext ((unhide hP).extf.trans hW)) (unhide hnV') (by have := unhide hv4; omega) (unhide hpx'))
   replace q0 := fun (W : World) (hW : Keep [] wr W) => q0 W (Ext.of_keep0 hW)
   replace q1 := fun (W : World) (hW : Keep [] wr W) => q1 W (Ext.of_keep0 hW)
   replace t0 := fun (W : World) (hW : Keep [] wr W) => t0 W (Ext.of_keep0 hW)
   replace g0 := fun (W : World) (hW : Keep [] wr W) => g0 W (Ext.of_keep0 hW)
   replace g1 := fun (W : World) (hW : Keep [] wr W) => g1 W (Ext.of_keep0 hW)
   replace g2 := fun (W : World) (hW : Keep [] wr W) => g2 W (Ext.of_keep0 hW)
   have hself := Keep.refl [] wr
   refine wp_regionK (P := Tryz.prog) [] [0,1,2,3,4,5,6,7,8,9] [] 2 #[true,true,true,true,true,true,true,true,true,true,false,false] (by kernel_rfl) (by kernel_rfl) rfl (by rfl) ?_
   iterate 7
    first
    | (refine ql_skip rfl (by rfl) ?_)
    | (refine ql_want (v := ?_) rfl (by rfl) (fun W hW => ?_) ?_; rotate_left; (go_simp; (first | done | rfl)))
    try go_frame
   refine ql_want (v := .int .i64 (jx : Nat)) rfl (by rfl) (fun W hW => ?_) ?_
   ·go_simp
    refine (unhide hc1 W (Ext.of_keep0 hW)).mono ?_
    rintro _ _ ⟨h1,h2⟩
    exact ⟨_,h1,rfl,h2⟩
   go_frame
   iterate 2
    first
    | (refine ql_skip rfl (by rfl) ?_)
    | (refine ql_want (v := ?_) rfl (by rfl) (fun W hW => ?_) ?_; rotate_left; (go_simp; (first | done | rfl)))
    try go_frame
   refine wpQL_nil (fun y2 hxq => ?_)
   have hK := hide (hxq.keep [])
   replace hP : Hid (Sp w [] w [] [(r2,28, #[.slice (some ⟨bv,ov,none⟩) nV cA, .slice B1 nE cB])] [(3,1, .slice Ax m cx,m,xs.flatMap encI)] y2) := hide ((unhide hP).ext hxq)
   clear hxq
   clear q0 q1 t0 g0 g1 g2 hself hc1 hjv
   refine lx_one (i := 10) (by kernel_rfl) rfl (by rfl) #[true,true,true,true,true,true,true,true,true,true,true,false] (by rfl) ?_
   refine (unhide hP).allocL (unhide hK) (v := fun b => .pointer (some ⟨b,0,none⟩)) 73 #[.int .i64 0, .int .u8 0, .int .i64 0] ?_ ?_
   ·go_simp
   intro r7 y3 hQ hK2 hg2
   replace hP : Hid (Sp w [] w [] [(r2,28, #[.slice (some ⟨bv,ov,none⟩) nV cA, .slice B1 nE cB]),(r7,73, #[.int .i64 0, .int .u8 0, .int .i64 0])] [(3,1, .slice Ax m cx,m,xs.flatMap encI)] y3) := hide hQ
   replace hK := hide hK2
   have hge_r7 := hide hg2
   clear hQ hK2 hg2
   try go_frame
   refine lx_one (i := 11) (by kernel_rfl) rfl (by rfl) #[true,true,true,true,true,true,true,true,true,true,true,true] (by rfl) ?_
   refine (unhide hP).setNL (unhide hK) 1 #[.int .i64 v0, .int .u8 lab, .int .i64 wt] rfl (unhide hge_r7) (fun hb => run_store_row (v := .agg #[.int .i64 v0, .int .u8 lab, .int .i64 wt]) rfl (by rfl) (by rfl) (by simp [go_sem]) hb rfl (fun u hu => by simp [Value.cells] at hu; rcases hu with rfl | rfl | rfl <;> rfl)) ?_
   intro y4 hQ hK2
   replace hP : Hid (Sp w [] w [] [(r2,28, #[.slice (some ⟨bv,ov,none⟩) nV cA, .slice B1 nE cB]),(r7,73, #[.int .i64 v0, .int .u8 lab, .int .i64 wt])] [(3,1, .slice Ax m cx,m,xs.flatMap encI)] y4) := hide hQ
   replace hK := hide hK2
   clear hQ hK2
   try go_frame
   refine wpX_done (by kernel_rfl) ?_
   try go_frame
   clear hK
   have d1 := (unhide hP).cell 1 1 (v := .int .u8 lab) rfl rfl
   have d2 := (unhide hP).cell 1 2 (v := .int .i64 wt) rfl rfl
   have hself := Ext.refl y4
   try dsimp only
   repeat ((fail_if_success (with_reducible refine wp_reg (id := 6) ?_)); (first | go_values | go_skip | go_step | go_guarded | go_upon | go_in | go_back | fail))
   with_reducible refine wp_reg (id := 6) ?_
   iterate 6
    refine wpO_want rfl ?_
    go_simp
   clear d1 d2 hself hwl
   refine (unhide hP).buildO 2 3 #[.int .i64 lab, .int .i64 wt] rfl (by go_simp) ?_
   intro bs y5 hQ
   replace hP : Hid (Sp w [] w [] [(r2,28, #[.slice (some ⟨bv,ov,none⟩) nV cA, .slice B1 nE cB]),(r7,73, #[.int .i64 v0, .int .u8 lab, .int .i64 wt]),(bs,3, #[.int .i64 lab, .int .i64 wt])] [(3,1, .slice Ax m cx,m,xs.flatMap encI)] y5) := hide hQ
   clear hQ
   try go_frame
   refine (unhide hP).apAO (enc := encI) (T := 3) (ST := 31) 0 (v := .slice Ax m cx) (m := m) (xs := xs) rfl rfl infoI Tryz.underlying31 one_encI (fun _ => rfl) (by decide) (by decide) rfl [lab,wt] rfl rfl (rfl) (slat_two ((unhide hP).get 2 rfl)) (by have := unhide hmb; omega) ?_
   intro Az cAz y6 hQ
   replace hP : Hid (Sp w [] w [] [(r2,28, #[.slice (some ⟨bv,ov,none⟩) nV cA, .slice B1 nE cB]),(r7,73, #[.int .i64 v0, .int .u8 lab, .int .i64 wt]),(bs,3, #[.int .i64 lab, .int .i64 wt])] [(3,1, .slice Az (m + 2) cAz,m + 2,(xs ++ [lab,wt]).flatMap encI)] y6) := hide hQ
   clear hQ
   try go_frame
   refine wpO_want rfl ?_
   go_simp
   refine wpO_done ?_
   try go_frame
   replace hP : Hid (Sp w [] w [] [(r2,28, #[.slice (some ⟨bv,ov,none⟩) nV cA, .slice B1 nE cB]),(r7,73, #[.int .i64 v0, .int .u8 lab, .int .i64 wt])] [(3,1, .slice Az (m + 2) cAz,m + 2,(xs ++ [lab,wt]).flatMap encI)] y6) := hide ((unhide hP).sub (List.sublist_append_left _ ([(bs,3, #[.int .i64 lab, .int .i64 wt])] : List Cl)) (List.Sublist.refl _))
   replace hP : Hid (Sp w [] w [] [(r2,28, #[.slice (some ⟨bv,ov,none⟩) nV cA, .slice B1 nE cB])] [(3,1, .slice Az (m + 2) cAz,m + 2,(xs ++ [lab,wt]).flatMap encI)] y6) := hide ((unhide hP).sub (List.sublist_append_left _ ([(r7,73, #[.int .i64 v0, .int .u8 lab, .int .i64 wt])] : List Cl)) (List.Sublist.refl _))
   go_wp2_with fail
   refine ⟨n - (i + 1), ?_,by have := unhide hfm'; have := unhide hlt'; omega⟩
   rw [unhide hI1_2]
   exact ⟨i + 1,Az,m + 2,cAz,xs ++ [lab,wt],(by first | rfl | trivial),(by first | rfl | trivial),(by first | rfl | trivial),(by first | rfl | trivial),(by first | rfl | (show _ = Value.int _ _; go_num) | go_num),(by first | rfl | trivial),by have := unhide hlt'; omega,(by rw [unhide hst, ← unhide hxs]),(by rw [List.length_append, ← unhide hml]; rfl),unhide hP,rfl⟩
  ·skip
   have hil : ¬ (i : Int) < (n : Int) := by omega
   have hin' := hide hin
   have hxc0 := hide (show xs ++ codeP E (L.drop 0) = codeR V E L by
    rw [unhide hxs,List.take_of_length_le (by have := unhide hn'; omega)]
    rfl)
   clear hlt hin hxs
   try dsimp only
   repeat ((fail_if_success (with_reducible refine wp_reg (id := 3) ?_)); (first | go_values | go_skip | go_step | go_guarded | go_upon | go_in | go_back | fail))
   with_reducible refine wp_reg (id := 3) ?_
   iterate 4
    refine wpO_want rfl ?_
    go_simp
   refine wpO_done ?_
   try go_frame
   clear hil
   go_wp2_with fail
   obtain ⟨wo,hwo⟩ : ∃ wo,wo = wr := ⟨_,rfl⟩
   subst hwo
   obtain ⟨I1_6,hI1_60⟩ : ∃ I : Nat → Act → World → Prop,I = fun fj a' wr => ∃ (j : Nat), ∃ (Ax : Option Addr), ∃ (m : Nat), ∃ (cx : Nat), ∃ (xs : List Int),a'.tmps.size = 81 ∧ a'.tmps.getD 1 undef = .slice A n cC ∧ a'.tmps.getD 2 undef = .pointer (some ⟨r2,0,none⟩) ∧ a'.tmps.getD 5 undef = .slice Ax m cx ∧ a'.tmps.getD 8 undef = .int .i64 (j : Nat) ∧ a'.defers = [] ∧ j ≤ n ∧ xs ++ codeP E (L.drop j) = codeR V E L ∧ m = xs.length ∧ Sp w [] w [] [(r2,28, #[.slice A1 nV cA, .slice B1 nE cB])] [(3,1, .slice Ax m cx,m,xs.flatMap encI)] wr ∧ fj = n - j := ⟨_,rfl⟩
   have hI1_6 := hide hI1_60
   clear hI1_60
   refine wp_loop_ix I1_6 (n - 0) ?_ ?_
   ·rw [unhide hI1_6]; exact ⟨0,Ax,m,cx,xs,rfl,rfl,rfl,rfl,rfl,rfl,Nat.zero_le _,unhide hxc0,unhide hml,unhide hP,rfl⟩
   ·rintro fj ⟨tm,dfs⟩ wr hrel
    rw [unhide hI1_6] at hrel
    obtain ⟨j,Ax,m,cx,xs,hsz,e1,e2,e5,e8,hdf,hjn,hxs0,hml0,hPs,hgm⟩ := hrel
    obtain ⟨us,rfl⟩ : ∃ us : Nat → Value,tm = #[us 0,us 1,us 2,us 3,us 4,us 5,us 6,us 7,us 8,us 9,us 10,us 11,us 12,us 13,us 14,us 15,us 16,us 17,us 18,us 19,us 20,us 21,us 22,us 23,us 24,us 25,us 26,us 27,us 28,us 29,us 30,us 31,us 32,us 33,us 34,us 35,us 36,us 37,us 38,us 39,us 40,us 41,us 42,us 43,us 44,us 45,us 46,us 47,us 48,us 49,us 50,us 51,us 52,us 53,us 54,us 55,us 56,us 57,us 58,us 59,us 60,us 61,us 62,us 63,us 64,us 65,us 66,us 67,us 68,us 69,us 70,us 71,us 72,us 73,us 74,us 75,us 76,us 77,us 78,us 79,us 80] := ⟨fun i => tm.getD i undef,arr_fn hsz⟩
    have h1 : us 1 = .slice A n cC := e1
    have h2 : us 2 = .pointer (some ⟨r2,0,none⟩) := e2
    have h5 : us 5 = .slice Ax m cx := e5
    have h8 : us 8 = .int .i64 (j : Nat) := e8
    have hdf2 : dfs = [] := hdf
    subst hdf2
    clear hdf hsz e1 e2 e5 e8
    simp only [h1,h2,h5,h8]
    clear h1 h2 h5 h8
    clear hP hxc0 hml
    have hP := hide hPs
    have hgm' := hide hgm
    have hxs := hide hxs0
    have hml := hide hml0
    clear hPs hgm hxs0 hml0
    by_cases hlt : j < n
    ·skip
     have hil : (j : Int) < (n : Int) := by omega
     have hlt' := hide hlt
     have hjL : j < L.length := by have := unhide hn'; omega
     have hjb : (j : Int) ≤ 8 := by have := unhide hl'; omega
     have hxk := hide (show xs ++ ((L.drop (j + 1)).flatMap (fun v => pairO (betE E L[j] v)) ++ codeP E (L.drop (j + 1))) = codeR V E L by rw [← codeP_step E L hjL]; exact unhide hxs)
     obtain ⟨x,hx0⟩ : ∃ x,x = L[j] := ⟨_,rfl⟩
     rw [← hx0] at hxk
     have hxj := hide hx0
     obtain ⟨j1,hj10⟩ : ∃ j1,j1 = j + 1 := ⟨_,rfl⟩
     have hj1 := hide hj10
     have hjw : IntKind.i64.wrap ((j : Int) + 1) = (j1 : Int) := by rw [IntKind.wrap_i64]; omega
     rw [← hj10] at hxk
     clear hx0 hlt hxs hj10
     try dsimp only
     repeat ((fail_if_success (with_reducible refine wp_reg (id := 8) ?_)); (first | go_values | go_skip | go_step | go_guarded | go_upon | go_in | go_back | fail))
     with_reducible refine wp_reg (id := 8) ?_
     iterate 4
      refine wpO_want rfl ?_
      go_simp
     refine wpO_done ?_
     try go_frame
     try dsimp only
     repeat ((fail_if_success (with_reducible refine wp_reg (id := 10) ?_)); (first | go_values | go_skip | go_step | go_guarded | go_upon | go_in | go_back | fail))
     with_reducible refine wp_reg (id := 10) ?_
     iterate 3
      refine wpO_want rfl ?_
      go_simp
     refine wpO_done ?_
     try go_frame
     clear hjw
     go_wp2_with fail
     obtain ⟨wo2,hwo⟩ : ∃ wo,wo = wr := ⟨_,rfl⟩
     subst hwo
     obtain ⟨I1_10,hI1_100⟩ : ∃ I : Nat → Act → World → Prop,I = fun fk a' wr => ∃ (k : Nat), ∃ (Ax : Option Addr), ∃ (m : Nat), ∃ (cx : Nat), ∃ (xs : List Int),a'.tmps.size = 81 ∧ a'.tmps.getD 1 undef = .slice A n cC ∧ a'.tmps.getD 2 undef = .pointer (some ⟨r2,0,none⟩) ∧ a'.tmps.getD 5 undef = .slice Ax m cx ∧ a'.tmps.getD 8 undef = .int .i64 (j : Nat) ∧ a'.tmps.getD 9 undef = .int .i64 (k : Nat) ∧ a'.defers = [] ∧ k ≤ n ∧ j < k ∧ (xs ++ ((L.drop k).flatMap (fun v => pairO (betE E x v)) ++ codeP E (L.drop j1)) = codeR V E L) ∧ m = xs.length ∧ Sp w [] w [] [(r2,28, #[.slice A1 nV cA, .slice B1 nE cB])] [(3,1, .slice Ax m cx,m,xs.flatMap encI)] wr ∧ fk = n - k := ⟨_,rfl⟩
     have hI1_10 := hide hI1_100
     clear hI1_100
     refine wp_loop_ix I1_10 (n - j1) ?_ ?_
     ·rw [unhide hI1_10]; exact ⟨j1,Ax,m,cx,xs,rfl,rfl,rfl,rfl,rfl,rfl,rfl,by have := unhide hlt'; have := unhide hj1; omega,by have := unhide hj1; omega,unhide hxk,unhide hml,unhide hP,rfl⟩
     ·rintro fk ⟨tm,dfs⟩ wr hrel
      rw [unhide hI1_10] at hrel
      obtain ⟨k,Ax,m,cx,xs,hsz,e1,e2,e5,e8,e9,hdf,hkn,hjk0,hxs0,hml0,hPt,hhm⟩ := hrel
      obtain ⟨us,rfl⟩ : ∃ us : Nat → Value,tm = #[us 0,us 1,us 2,us 3,us 4,us 5,us 6,us 7,us 8,us 9,us 10,us 11,us 12,us 13,us 14,us 15,us 16,us 17,us 18,us 19,us 20,us 21,us 22,us 23,us 24,us 25,us 26,us 27,us 28,us 29,us 30,us 31,us 32,us 33,us 34,us 35,us 36,us 37,us 38,us 39,us 40,us 41,us 42,us 43,us 44,us 45,us 46,us 47,us 48,us 49,us 50,us 51,us 52,us 53,us 54,us 55,us 56,us 57,us 58,us 59,us 60,us 61,us 62,us 63,us 64,us 65,us 66,us 67,us 68,us 69,us 70,us 71,us 72,us 73,us 74,us 75,us 76,us 77,us 78,us 79,us 80] := ⟨fun i => tm.getD i undef,arr_fn hsz⟩
      have h1 : us 1 = .slice A n cC := e1
      have h2 : us 2 = .pointer (some ⟨r2,0,none⟩) := e2
      have h5 : us 5 = .slice Ax m cx := e5
      have h8 : us 8 = .int .i64 (j : Nat) := e8
      have h9 : us 9 = .int .i64 (k : Nat) := e9
      have hdf2 : dfs = [] := hdf
      subst hdf2
      clear hdf hsz e1 e2 e5 e8 e9
      simp only [h1,h2,h5,h8,h9]
      clear h1 h2 h5 h8 h9
      clear hP hxk hml
      have hP := hide hPt
      have hhm' := hide hhm
      have hxs := hide hxs0
      have hml := hide hml0
      have hjk := hide hjk0
      clear hPt hhm hxs0 hml0 hjk0
      by_cases hkt : k < n
      ·skip
       have hil : (k : Int) < (n : Int) := by omega
       have hkt' := hide hkt
       have hkL : k < L.length := by have := unhide hn'; omega
       have hjL : j < L.length := by have := unhide hn'; have := unhide hlt'; omega
       have hkb : (k : Int) ≤ 8 := by have := unhide hl'; omega
       have hjn2 : (j : Int) < (n : Int) := by have := unhide hlt'; omega
       have hmb := hide (show m ≤ 300 by
        have h1 := congrArg List.length (unhide hxs)
        rw [List.length_append] at h1
        have := unhide hcl
        have := unhide hml
        omega)
       have hx2 := hide (show xs ++ (pairO (betE E x L[k]) ++ ((L.drop (k + 1)).flatMap (fun v => pairO (betE E x v)) ++ codeP E (L.drop j1))) = codeR V E L by
        rw [← List.append_assoc (pairO _), ← drop_flat (fun v => pairO (betE E x v)) hkL]
        exact unhide hxs)
       obtain ⟨b,off,rfl,t0⟩ := atI ((unhide hA').ext (unhide hP).extf) hjL
       obtain ⟨b2,off2,hb2,t1⟩ := atI ((unhide hA').ext (unhide hP).extf) hkL
       cases hb2
       rw [← unhide hxj] at t0
       obtain ⟨y,hy0⟩ : ∃ y,y = L[k] := ⟨_,rfl⟩
       rw [← hy0] at hx2 t1
       have hself := Ext.refl wr
       obtain ⟨pz,hpz0⟩ : ∃ z,z = posI (isE x y) E := ⟨_,rfl⟩
       have hpz := hide hpz0
       clear hy0 hpz0 hkt hxs
       have q0 := (unhide hP).cell 0 0 (v := .slice A1 nV cA) rfl rfl
       have q1 := (unhide hP).cell 0 1 (v := .slice B1 nE cB) rfl rfl
       try dsimp only
       repeat ((fail_if_success (with_reducible refine wp_reg (id := 11) ?_)); (first | go_values | go_skip | go_step | go_guarded | go_upon | go_in | go_back | fail))
       with_reducible refine wp_reg (id := 11) ?_
       iterate 4
        refine wpO_want rfl ?_
        go_simp
       refine wpO_done ?_
       try go_frame
       go_wp2_with fail
       have hc1 := hide (show ∀ W,Ext wr W → Calls Tryz.prog 61 #[.agg #[.slice A1 nV cA, .slice B1 nE cB], .int .i64 x, .int .i64 y] W fun e w' => e = .returned (.int .i64 pz) ∧ Ext W w' from fun W hW => redge8 A1 B1 E nV nE cA cB x y pz W ((unhide hsE').ext ((unhide hP).extf.trans hW)) (unhide hnE') (by have := unhide he4; omega) (unhide hpz).symm)
       refine wp_region_ext (P := Tryz.prog) [0,1,2,3,4,5,6,7,8,9,10] [] 0 #[true,true,true,true,true,true,true,true,true,true,true] (by kernel_rfl) (by kernel_rfl) rfl (by rfl) ?_
       iterate 9
        first
        | (refine ql_skip rfl (by rfl) ?_)
        | (refine ql_want (v := ?_) rfl (by rfl) (fun W hW => ?_) ?_; rotate_left; (go_simp; (first | done | rfl)))
        try go_frame
       refine ql_want (v := .int .i64 pz) rfl (by rfl) (fun W hW => ?_) ?_
       ·go_simp
        refine (unhide hc1 W hW).mono ?_
        rintro _ _ ⟨h1,h2⟩
        exact ⟨_,h1,rfl,h2⟩
       go_frame
       iterate 1
        first
        | (refine ql_skip rfl (by rfl) ?_)
        | (refine ql_want (v := ?_) rfl (by rfl) (fun W hW => ?_) ?_; rotate_left; (go_simp; (first | done | rfl)))
        try go_frame
       refine wpQL_nil (fun y2 hxq => ?_)
       replace hP : Hid (Sp w [] w [] [(r2,28, #[.slice A1 nV cA, .slice B1 nE cB])] [(3,1, .slice Ax m cx,m,xs.flatMap encI)] y2) := hide ((unhide hP).ext hxq)
       clear q0 q1 t0 t1 hself hc1 hjn2 hxq
       refine wpX_done (by kernel_rfl) ?_
       try go_frame
       rcases posE_find (u := x) (v := y) (E := E) with ⟨hp1,hbe⟩ | ⟨kk,hkk,hp1,hbe⟩
       ·skip
        rw [← unhide hpz] at hp1
        subst hp1
        rw [hbe] at hx2
        clear hbe hil
        try dsimp only
        repeat ((fail_if_success (with_reducible refine wp_reg (id := 14) ?_)); (first | go_values | go_skip | go_step | go_guarded | go_upon | go_in | go_back | fail))
        with_reducible refine wp_reg (id := 14) ?_
        iterate 2
         refine wpO_want rfl ?_
         go_simp
        refine wpO_done ?_
        try go_frame
        try dsimp only
        repeat ((fail_if_success (with_reducible refine wp_reg (id := 15) ?_)); (first | go_values | go_skip | go_step | go_guarded | go_upon | go_in | go_back | fail))
        with_reducible refine wp_reg (id := 15) ?_
        refine wpO_want rfl ?_
        go_simp
        refine (unhide hP).buildO 1 3 #[.int .i64 0] rfl (by go_simp) ?_
        intro bs y3 hQ
        replace hP : Hid (Sp w [] w [] [(r2,28, #[.slice A1 nV cA, .slice B1 nE cB]),(bs,3, #[.int .i64 0])] [(3,1, .slice Ax m cx,m,xs.flatMap encI)] y3) := hide hQ
        clear hQ
        try go_frame
        refine (unhide hP).apAO (enc := encI) (T := 3) (ST := 31) 0 (v := .slice Ax m cx) (m := m) (xs := xs) rfl rfl infoI Tryz.underlying31 one_encI (fun _ => rfl) (by decide) (by decide) rfl [0] rfl rfl (rfl) (slat_one ((unhide hP).get 1 rfl)) (by have := unhide hmb; omega) ?_
        intro Az cAz y4 hQ
        replace hP : Hid (Sp w [] w [] [(r2,28, #[.slice A1 nV cA, .slice B1 nE cB]),(bs,3, #[.int .i64 0])] [(3,1, .slice Az (m + 1) cAz,m + 1,(xs ++ [0]).flatMap encI)] y4) := hide hQ
        clear hQ
        try go_frame
        refine wpO_want rfl ?_
        go_simp
        refine wpO_done ?_
        try go_frame
        replace hP : Hid (Sp w [] w [] [(r2,28, #[.slice A1 nV cA, .slice B1 nE cB])] [(3,1, .slice Az (m + 1) cAz,m + 1,(xs ++ [0]).flatMap encI)] y4) := hide ((unhide hP).sub (List.sublist_append_left _ ([(bs,3, #[.int .i64 0])] : List Cl)) (List.Sublist.refl _))
        go_wp2_with fail
        refine ⟨n - (k + 1), ?_,by have := unhide hhm'; have := unhide hkt'; omega⟩
        rw [unhide hI1_10]
        exact ⟨k + 1,Az,m + 1,cAz,xs ++ [0],(by first | rfl | trivial),(by first | rfl | trivial),(by first | rfl | trivial),(by first | rfl | trivial),(by first | rfl | trivial),(by first | rfl | (show _ = Value.int _ _; go_num) | go_num),(by first | rfl | trivial),by have := unhide hkt'; omega,by have := unhide hjk; omega,(by rw [List.append_assoc]; exact unhide hx2),(by rw [List.length_append, ← unhide hml]; rfl),unhide hP,rfl⟩
       ·skip
        rw [← unhide hpz] at hp1
        subst hp1
        rw [hbe] at hx2
        obtain ⟨be,oe,rfl,g0,g1,g2,g3⟩ := atE ((unhide hsE').ext (unhide hP).extf) hkk
        have hlb2 := hide ((unhide hlb').2 _ (List.getElem_mem hkk))
        obtain ⟨⟨⟨eu,ev⟩,⟨lab,wt⟩⟩,hp0⟩ : ∃ p,p = E[kk] := ⟨_,rfl⟩
        rw [← hp0] at hx2 g2 g3 hlb2
        dsimp only at hx2 g2 g3 hlb2
        have hwl : IntKind.i64.wrap lab = lab := wrap_byte (unhide hlb2)
        have hke : (kk : Int) < (nE : Int) := by have := unhide hnE'; omega
        have hkz : ¬ ((kk : Int) < 0) := by omega
        obtain ⟨S,hS0⟩ : ∃ S,S = (Value.slice Ax m cx).ownBlock.toList := ⟨_,rfl⟩
        have hS := hide hS0
        have hrS := hide (show r2 ∉ S from fun hm9 => by rw [hS0] at hm9; exact (unhide hP).ne_row 0 0 rfl rfl (by decide) hm9)
        have heS := hide (show be ∉ S from fun hm9 => by
         rw [hS0] at hm9
         have h1 := (own_base ((unhide hP).row 0 rfl) (by simpa using hm9)).1
         obtain ⟨b7,o7,h7,h8⟩ := slAt_lt (unhide hsE') (by intro e9; rw [e9] at hkk; simp at hkk)
         cases h7
         omega)
        clear g0 g1 hbe hp0 hil hS0
        try dsimp only
        repeat ((fail_if_success (with_reducible refine wp_reg (id := 14) ?_)); (first | go_values | go_skip | go_step | go_guarded | go_upon | go_in | go_back | fail))
        with_reducible refine wp_reg (id := 14) ?_
        iterate 2
         refine wpO_want rfl ?_
         go_simp
        refine wpO_done ?_
        try go_frame
        clear hkz
        go_wp2_with fail
        have q1 := (unhide hP).cellK 0 1 (v := .slice (some ⟨be,oe,none⟩) nE cB) rfl rfl (unhide hrS)
        have k2 : ∀ W,Keep S y2 W → W.cell? ⟨be,oe + kk * 4 + 2,none⟩ = some (.int .u8 lab) := fun W hW => by rw [World.cell?_of_block (hW.block be (by obtain ⟨b7,o7,h7,h8⟩ := slAt_lt ((unhide hsE').ext (unhide hP).extf) (by intro e9; rw [e9] at hkk; simp at hkk); cases h7; exact h8) (unhide heS))]; exact g2 _ (Ext.refl _)
        have k3 : ∀ W,Keep S y2 W → W.cell? ⟨be,oe + kk * 4 + 3,none⟩ = some (.int .i64 wt) := fun W hW => by rw [World.cell?_of_block (hW.block be (by obtain ⟨b7,o7,h7,h8⟩ := slAt_lt ((unhide hsE').ext (unhide hP).extf) (by intro e9; rw [e9] at hkk; simp at hkk); cases h7; exact h8) (unhide heS))]; exact g3 _ (Ext.refl _)
        have hself := Keep.refl S y2
        clear g2 g3
        refine wp_regionK (P := Tryz.prog) S [0,1,2,3,4,5,6,7,8,9,10,11,12,13] [] 3 #[true,true,true,true,true,true,true,true,true,true,true,true,true,true,false,false,false] (by kernel_rfl) (by kernel_rfl) rfl (by rfl) ?_
        iterate 14
         first
         | (refine ql_skip rfl (by rfl) ?_)
         | (refine ql_want (v := ?_) rfl (by rfl) (fun W hW => ?_) ?_; rotate_left; (go_simp; (first | done | rfl)))
         try go_frame
        refine wpQL_nil (fun y3 hxq => ?_)
        have hK := hide (hxq.keep S)
        replace hP : Hid (Sp w [] w [] [(r2,28, #[.slice A1 nV cA, .slice (some ⟨be,oe,none⟩) nE cB])] [(3,1, .slice Ax m cx,m,xs.flatMap encI)] y3) := hide ((unhide hP).ext hxq)
        clear hxq
        clear q1 k2 k3 hself hwl hke
        refine lx_one (i := 14) (by kernel_rfl) rfl (by rfl) #[true,true,true,true,true,true,true,true,true,true,true,true,true,true,true,false,false] (by rfl) ?_
        refine (unhide hP).allocL (unhide hK) (v := fun b => .slice (some ⟨b,0,none⟩) 3 3) 3 #[.int .i64 1, .int .i64 lab, .int .i64 wt] ?_ ?_
        ·go_simp
        intro bs y4 hQ hK2 hg2
        replace hP : Hid (Sp w [] w [] [(r2,28, #[.slice A1 nV cA, .slice (some ⟨be,oe,none⟩) nE cB]),(bs,3, #[.int .i64 1, .int .i64 lab, .int .i64 wt])] [(3,1, .slice Ax m cx,m,xs.flatMap encI)] y4) := hide hQ
        replace hK := hide hK2
        have hge_bs := hide hg2
        clear hQ hK2 hg2
        try go_frame
        refine lx_one (i := 15) (by kernel_rfl) rfl (by rfl) #[true,true,true,true,true,true,true,true,true,true,true,true,true,true,true,true,false] (by rfl) ?_
        refine (unhide hP).apAL (unhide hK) (enc := encI) (T := 3) (ST := 31) 0 (v := .slice Ax m cx) (m := m) (xs := xs) rfl (fun z hz => .inl (by rw [unhide hS]; exact hz)) infoI Tryz.underlying31 one_encI (fun _ => rfl) (by decide) (by decide) rfl [1,lab,wt] rfl rfl (rfl) (slat_blk (enc := encI) (k := 1) [1,lab,wt] ((unhide hP).get 1 rfl) rfl (fun _ => rfl) (by simp)) (by have := unhide hmb; omega) ?_
        intro Az cAz y5 hQ hK2 hg2
        replace hP : Hid (Sp w [] w [] [(r2,28, #[.slice A1 nV cA, .slice (some ⟨be,oe,none⟩) nE cB]),(bs,3, #[.int .i64 1, .int .i64 lab, .int .i64 wt])] [(3,1, .slice Az (m + 3) cAz,m + 3,(xs ++ [1,lab,wt]).flatMap encI)] y5) := hide hQ
        replace hK := hide hK2
        have hge_Az := hide hg2
        clear hQ hK2 hg2
        try go_frame
        refine lx_one (i := 16) (by kernel_rfl) rfl (by rfl) #[true,true,true,true,true,true,true,true,true,true,true,true,true,true,true,true,true] (by rfl) ?_
        refine (unhide hP).valL (unhide hK) (v := .slice Az (m + 3) cAz) ?_ ?_
        ·go_simp
        intro y6 hQ hK2
        replace hP : Hid (Sp w [] w [] [(r2,28, #[.slice A1 nV cA, .slice (some ⟨be,oe,none⟩) nE cB]),(bs,3, #[.int .i64 1, .int .i64 lab, .int .i64 wt])] [(3,1, .slice Az (m + 3) cAz,m + 3,(xs ++ [1,lab,wt]).flatMap encI)] y6) := hide hQ
        replace hK := hide hK2
        clear hQ hK2
        try go_frame
        refine wpX_done (by kernel_rfl) ?_
        try go_frame
        clear hK
        replace hP : Hid (Sp w [] w [] [(r2,28, #[.slice A1 nV cA, .slice (some ⟨be,oe,none⟩) nE cB])] [(3,1, .slice Az (m + 3) cAz,m + 3,(xs ++ [1,lab,wt]).flatMap encI)] y6) := hide ((unhide hP).sub (List.sublist_append_left _ ([(bs,3, #[.int .i64 1, .int .i64 lab, .int .i64 wt])] : List Cl)) (List.Sublist.refl _))
        go_wp2_with fail
        refine ⟨n - (k + 1), ?_,by have := unhide hhm'; have := unhide hkt'; omega⟩
        rw [unhide hI1_10]
        exact ⟨k + 1,Az,m + 3,cAz,xs ++ [1,lab,wt],(by first | rfl | trivial),(by first | rfl | trivial),(by first | rfl | trivial),(by first | rfl | trivial),(by first | rfl | trivial),(by first | rfl | (show _ = Value.int _ _; go_num) | go_num),(by first | rfl | trivial),by have := unhide hkt'; omega,by have := unhide hjk; omega,(by rw [List.append_assoc]; exact unhide hx2),(by rw [List.length_append, ← unhide hml]; rfl),unhide hP,rfl⟩
      ·skip
       have hil : ¬ (k : Int) < (n : Int) := by omega
       have hx3 := hide (show xs ++ codeP E (L.drop (j + 1)) = codeR V E L by
        have h := unhide hxs
        rw [unhide hj1] at h
        rw [show L.drop k = [] from List.drop_eq_nil_of_le (by have := unhide hn'; omega)] at h
        exact h)
       clear hkt hkn
       try dsimp only
       repeat ((fail_if_success (with_reducible refine wp_reg (id := 11) ?_)); (first | go_values | go_skip | go_step | go_guarded | go_upon | go_in | go_back | fail))
       with_reducible refine wp_reg (id := 11) ?_
       iterate 4
        refine wpO_want rfl ?_
        go_simp
       refine wpO_done ?_
       try go_frame
       clear hil
       go_wp2_with fail
       refine ⟨n - (j + 1), ?_,by have := unhide hgm'; have := unhide hlt'; omega⟩
       rw [unhide hI1_6]
       exact ⟨j + 1,Ax,m,cx,xs,(by first | rfl | trivial),(by first | rfl | trivial),(by first | rfl | trivial),(by first | rfl | trivial),(by first | rfl | (show _ = Value.int _ _; go_num) | go_num),(by first | rfl | trivial),by have := unhide hlt'; omega,unhide hx3,unhide hml,unhide hP,rfl⟩
    ·skip
     have hil : ¬ (j : Int) < (n : Int) := by omega
     have hxe := hide (show xs = codeR V E L by
      have h := unhide hxs
      rw [show L.drop j = [] from List.drop_eq_nil_of_le (by have := unhide hn'; omega)] at h
      exact (List.append_nil xs).symm.trans h)
     clear hlt hjn
     try dsimp only
     repeat ((fail_if_success (with_reducible refine wp_reg (id := 8) ?_)); (first | go_values | go_skip | go_step | go_guarded | go_upon | go_in | go_back | fail))
     with_reducible refine wp_reg (id := 8) ?_
     iterate 4
      refine wpO_want rfl ?_
      go_simp
     refine wpO_done ?_
     try go_frame
     clear hil
     try dsimp only
     repeat ((fail_if_success (with_reducible refine wp_reg (id := 17) ?_)); (first | go_values | go_skip | go_step | go_guarded | go_upon | go_in | go_back | fail))
     with_reducible refine wp_reg (id := 17) ?_
     iterate 2
      refine wpO_want rfl ?_
      go_simp
     refine wpO_done ?_
     try go_frame
     go_wp2_with fail
     refine Sp.leaves0 ?_
     refine ⟨_,results_tmp (t := 4) rfl _ _ _, ?_⟩
     have ho := (unhide hP).row 0 rfl
     rw [unhide hxe] at ho
     exact OwJ.mk (by rw [← unhide hxe]; exact unhide hml) ho (unhide hP).extf
end Go.Proofs.YtbpeemhfjgcnaaaGreat
