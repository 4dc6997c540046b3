/- Parts of a proof, laid together. Each part says its own conditions. -/
import Derived.Test.YtbpeemhfjgcnaaaGreatC41
import Derived.Test.YtbpeemhfjgcnaaaGreatC42
namespace Go.Proofs.YtbpeemhfjgcnaaaGreat
open Go Go.RowKit Go.Shelf
attribute [local go_sem] qUpon lUpon
attribute [local irreducible] wpO wpX wpQL
theorem run_store_fld {P : Program} {ρ : Operand → Value} {o : Oper} {t : TypeId} {p x : Operand} {w : World} {b i : Nat} {cs cs' : Array Value} {v : Value} {t0 : TypeId} (ho : o.op = .store t p x) (hp : ρ p = .pointer (some ⟨b,i,none⟩)) (hx : ρ x = v) (hcl : v.cells = #[v]) (h1 : v.oneCell' = true) (hs : (sizeOf t).run P w = .ok 1 w) (hb : Blk w b t0 cs) (hi : i < cs.size) (hc : cs.setIfInBounds i v = cs') : (execOp ρ o).run P w = .ok .skip (w.setRow b cs') := by
 have hst := run_storeCells_at (P := P) b i t0 [v] 0 cs w hb (by simp; omega) (fun u hu => by simp at hu; subst hu; exact h1)
 rw [Nat.add_zero] at hst
 have he : (cs.toList.take i ++ [v] ++ cs.toList.drop (i + 1)).toArray = cs' := by
  rw [← hc]
  have : cs.toList.take i ++ [v] ++ cs.toList.drop (i + 1) = cs.toList.set i v := by
   rw [List.set_eq_take_append_cons_drop,if_pos (by simpa using hi)]
   simp
  rw [this]
  apply Array.ext'
  simp
 simp only [List.length_cons,List.length_nil,Nat.zero_add] at hst
 rw [he] at hst
 unfold execOp
 simp only [ho,hp,hx]
 simp [Instr.storeAt,Instr.sureAddr,storeVar,hs,hst,hcl,Result.andThen]
theorem infoVR : (Tryz.prog.info? 73).map (fun i => (i.zero.map (·.cells.size),i.size,i.bytes)) = some (some 3,3,24) := by kernel_rfl
theorem infoER : (Tryz.prog.info? 100).map (fun i => (i.zero.map (·.cells.size),i.size,i.bytes)) = some (some 4,4,32) := by kernel_rfl
theorem one_encV8 (x : Int × Thing) : ∀ v ∈ encV x,v.oneCell' = true := by intro v hv; simp [encV] at hv; rcases hv with rfl | rfl | rfl <;> rfl
theorem one_encE8 (x : (Int × Int) × Thing) : ∀ v ∈ encE x,v.oneCell' = true := by intro v hv; simp [encE] at hv; rcases hv with rfl | rfl | rfl | rfl <;> rfl
theorem pos_ids {V : List (Int × Thing)} {x : Int} (h : x ∈ idsV V) : ∃ j : Nat,j < V.length ∧ posI (fun p : Int × Thing => p.1 == x) V = (j : Int) ∧ (idsV V).idxOf x = j ∧ ∀ b : List Int,tr (idsV V) b x = b.getD j 0 := by
 have h1 : (idsV V).idxOf x < (idsV V).length := List.idxOf_lt_length_of_mem h
 have h0 : (idsV V).idxOf x < V.length := by rw [idsV_len] at h1; exact h1
 refine ⟨(idsV V).idxOf x,h0,posI_hit h0 ?_ (fun j hj => ?_),rfl,fun b => rfl⟩
 ·have h2 : (idsV V)[(idsV V).idxOf x] = x := List.getElem_idxOf h1
  have h3 : (idsV V)[(idsV V).idxOf x] = V[(idsV V).idxOf x].1 := List.getElem_map _
  rw [h3] at h2
  simp [h2]
 ·have h2 := List.not_of_lt_findIdx (p := (· == x)) (xs := idsV V) (i := j) hj
  have hjl : j < V.length := by omega
  have h3 : (idsV V)[j]'(by rw [idsV_len]; exact hjl) = V[j].1 := List.getElem_map _
  rw [h3] at h2
  simpa using h2
theorem find8 (A B : Option Addr) (V : List (Int × Thing)) (n cV nE cE : Nat) (id : Int) (j : Nat) (w : World) (hV : SlAt encV 3 w A V) (hn : n = V.length) (hl : V.length ≤ 4096) (hp : posI (fun p : Int × Thing => p.1 == id) V = (j : Int)) :
  Calls Tryz.prog 19 #[.agg #[.slice A n cV, .slice B nE cE], .int .i64 id] w fun e w' => e = .returned (.int .i64 (j : Nat)) ∧ Ext w w' := by
 subst hn
 have h := find_any A B V cV nE cE id w hV hl
 rw [hp] at h
 exact h
theorem renV_len {V : List (Int × Thing)} {to : List Int} (h : to.length = V.length) : (renV V to).length = V.length := by unfold renV; rw [List.length_zipWith,h,Nat.min_self]
theorem renV_step {V : List (Int × Thing)} {to : List Int} (hl : to.length = V.length) {i : Nat} (h : i < V.length) (h2 : i < to.length) : (renV V to).take (i + 1) = (renV V to).take i ++ [(to[i],V[i].2)] := by
 have h3 : i < (renV V to).length := by rw [renV_len hl]; exact h
 rw [List.take_succ_eq_append_getElem h3]
 congr 2
 simp [renV]
theorem renE_step {E : List ((Int × Int) × Thing)} {ids to : List Int} {i : Nat} (h : i < E.length) : ((renE E ids to).map normE).take (i + 1) = ((renE E ids to).map normE).take i ++ [((min (tr ids to E[i].1.1) (tr ids to E[i].1.2),max (tr ids to E[i].1.1) (tr ids to E[i].1.2)),E[i].2)] := by
 have h3 : i < ((renE E ids to).map normE).length := by rw [List.length_map]; unfold renE; rw [List.length_map]; exact h
 rw [List.take_succ_eq_append_getElem h3]
 congr 2
 simp [renE,normE]
def RnPost (V : List (Int × Thing)) (E : List ((Int × Int) × Thing)) (to : List Int) (w : World) (e : Ending) (w' : World) : Prop := ∃ V2 E2 A2 cA2 B2 cB2,IsRen V E to V2 E2 ∧ e = .returned (.agg #[.slice A2 V2.length cA2, .slice B2 E2.length cB2]) ∧ SlAt encV 3 w' A2 V2 ∧ SlAt encE 4 w' B2 E2 ∧ Ext w w'
set_option maxRecDepth 100000 in
set_option maxHeartbeats 16000000 in
theorem renamed08_any (A1 B1 : Option Addr) (V : List (Int × Thing)) (E : List ((Int × Int) × Thing)) (nV nE cA cB : Nat) (A : Option Addr) (to : List Int) (n cC : Nat) (w : World) (hsV : SlAt encV 3 w A1 V) (hsE : SlAt encE 4 w B1 E) (hi : GInv V E) (hnV : nV = V.length) (hnE : nE = E.length) (hA : SlAt encI 1 w A to) (hn : n = to.length) (ho : OkTo V to) :
  Calls Tryz.prog 22 #[.agg #[.slice A1 nV cA, .slice B1 nE cB], .slice A n cC] w (RnPost V E to w) := by
 have hsV' := hide hsV
 have hsE' := hide hsE
 have hi' := hide hi
 have hnV' := hide hnV
 have hnE' := hide hnE
 have hA' := hide hA
 have hn' := hide hn
 have ho' := hide ho
 have hv4 := hide hi.nv
 have he4 := hide hi.ne
 have hTl := hide ho.len
 have hnn := hide (show n = nV by rw [hn,hnV]; exact ho.len)
 clear hsV hsE hi hnV hnE hA hn ho
 have hP := hide (Sp.new w)
 refine callsIn_wide.1 (callsIn_of_wp_marks (n := 0) Tryz.func22 rfl trivial (wpIn_wide.2 ?_))
 simp only [Tryz.ntmps22,List.size_toArray,List.length_cons,List.length_nil,Nat.reduceAdd,Nat.reduceSub,Array.replicate_succ,Array.replicate_zero,List.push_toArray,List.append_toArray,List.nil_append,List.cons_append]
 try dsimp only
 repeat ((fail_if_success (with_reducible refine wp_reg (id := 0) ?_)); (first | go_values | go_skip | go_step | go_guarded | go_upon | go_in | go_back | fail))
 with_reducible refine wp_reg (id := 0) ?_
 refine (unhide hP).allocO 28 #[.slice A1 nV cA, .slice B1 nE cB] rfl (run_box (v := .agg #[.slice A1 nV cA, .slice B1 nE cB]) rfl rfl) ?_
 intro r2 y1 hQ
 replace hP : Hid (Sp w [] w [] [(r2,28, #[.slice A1 nV cA, .slice B1 nE cB])] [] y1) := hide hQ
 clear hQ
 refine (unhide hP).allocO 28 #[.slice none 0 0, .slice none 0 0] rfl (by go_simp) ?_
 intro r4 y2 hQ
 replace hP : Hid (Sp w [] w [] [(r2,28, #[.slice A1 nV cA, .slice B1 nE cB]),(r4,28, #[.slice none 0 0, .slice none 0 0])] [] y2) := hide hQ
 clear hQ
 refine wpO_done ?_
 try go_frame
 replace hP : Hid (Sp w [] w [] [(r2,28, #[.slice A1 nV cA, .slice B1 nE cB]),(r4,28, #[.slice none 0 0, .slice none 0 0])] [(73,3, .slice none 0 0,0,([] : List (Int × Thing)).flatMap encV)] y2) := hide ((unhide hP).nil 73 3)
 replace hP : Hid (Sp w [] w [] [(r2,28, #[.slice A1 nV cA, .slice B1 nE cB]),(r4,28, #[.slice none 0 0, .slice none 0 0])] [(73,3, .slice none 0 0,0,([] : List (Int × Thing)).flatMap encV),(100,4, .slice none 0 0,0,([] : List ((Int × Int) × Thing)).flatMap encE)] y2) := hide ((unhide hP).nil 100 4)
 go_wp2_with fail
 obtain ⟨I2_2,hI2_20⟩ : ∃ I : Nat → Act → World → Prop,I = fun fi a' wr => ∃ (i : Nat), ∃ (Ax : Option Addr), ∃ (cx : Nat),a'.tmps.size = 81 ∧ a'.tmps.getD 1 undef = .slice A n cC ∧ a'.tmps.getD 2 undef = .pointer (some ⟨r2,0,none⟩) ∧ a'.tmps.getD 4 undef = .pointer (some ⟨r4,0,none⟩) ∧ a'.tmps.getD 5 undef = .slice Ax i cx ∧ a'.tmps.getD 6 undef = .slice none 0 0 ∧ a'.tmps.getD 7 undef = .int .i64 (i : Nat) ∧ a'.defers = [] ∧ i ≤ nV ∧ Sp w [] w [] [(r2,28, #[.slice A1 nV cA, .slice B1 nE cB]),(r4,28, #[.slice none 0 0, .slice none 0 0])] [(73,3, .slice Ax i cx,i,((renV V to).take i).flatMap encV),(100,4, .slice none 0 0,0,([] : List ((Int × Int) × Thing)).flatMap encE)] wr ∧ fi = nV - i := ⟨_,rfl⟩
 have hI2_2 := hide hI2_20
 clear hI2_20
 refine wp_loop_ix I2_2 (nV - 0) ?_ ?_
 ·rw [unhide hI2_2]; exact ⟨0,none,0,rfl,rfl,rfl,rfl,rfl,rfl,rfl,rfl,Nat.zero_le _,unhide hP,rfl⟩
 ·rintro fi ⟨tm,dfs⟩ wr hrel
  rw [unhide hI2_2] at hrel
  obtain ⟨i,Ax,cx,hsz,e1,e2,e4,e5,e6,e7,hdf,hin,hPr,hfm⟩ := hrel
  obtain ⟨us,rfl⟩ : ∃ us : Nat → Value,tm = #[us 0,us 1,us 2,us 3,us 4,us 5,us 6,us 7,us 8,us 9,us 10,us 11,us 12,us 13,us 14,us 15,us 16,us 17,us 18,us 19,us 20,us 21,us 22,us 23,us 24,us 25,us 26,us 27,us 28,us 29,us 30,us 31,us 32,us 33,us 34,us 35,us 36,us 37,us 38,us 39,us 40,us 41,us 42,us 43,us 44,us 45,us 46,us 47,us 48,us 49,us 50,us 51,us 52,us 53,us 54,us 55,us 56,us 57,us 58,us 59,us 60,us 61,us 62,us 63,us 64,us 65,us 66,us 67,us 68,us 69,us 70,us 71,us 72,us 73,us 74,us 75,us 76,us 77,us 78,us 79,us 80] := ⟨fun i => tm.getD i undef,arr_fn hsz⟩
  have h1 : us 1 = .slice A n cC := e1
  have h2 : us 2 = .pointer (some ⟨r2,0,none⟩) := e2
  have h4 : us 4 = .pointer (some ⟨r4,0,none⟩) := e4
  have h5 : us 5 = .slice Ax i cx := e5
  have h6 : us 6 = .slice none 0 0 := e6
  have h7 : us 7 = .int .i64 (i : Nat) := e7
  have hdf2 : dfs = [] := hdf
  subst hdf2
  clear hdf hsz e1 e2 e4 e5 e6 e7
  simp only [h1,h2,h4,h5,h6,h7]
  clear h1 h2 h4 h5 h6 h7
  clear hP
  have hP := hide hPr
  have hfm' := hide hfm
  clear hPr hfm
  by_cases hlt : i < nV
  ·skip
   have hil : (i : Int) < (nV : Int) := by omega
   have hlt' := hide hlt
   have hiV : i < V.length := by have := unhide hnV'; omega
   have hiT : i < to.length := by have := unhide hTl; omega
   have hiln : (i : Int) < (n : Int) := by have := unhide hnn; omega
   have hib : (i : Int) ≤ 1024 := by have := unhide hv4; omega
   have hst := hide (renV_step (unhide hTl) hiV hiT)
   obtain ⟨b,off,rfl,t0⟩ := atI ((unhide hA').ext (unhide hP).extf) hiT
   obtain ⟨bv,ov,rfl,g0,g1,g2⟩ := atV ((unhide hsV').ext (unhide hP).extf) hiV
   obtain ⟨x,hx0⟩ : ∃ x,x = to[i] := ⟨_,rfl⟩
   obtain ⟨⟨v0,lab,wt⟩,hp0⟩ : ∃ p,p = V[i] := ⟨_,rfl⟩
   rw [← hx0] at hst t0
   rw [← hp0] at hst g0 g1 g2
   dsimp only at hst g0 g1 g2
   have hself := Ext.refl wr
   clear hx0 hp0 hlt
   have q0 := (unhide hP).cell 0 0 (v := .slice (some ⟨bv,ov,none⟩) nV cA) rfl rfl
   try dsimp only
   repeat ((fail_if_success (with_reducible refine wp_reg (id := 4) ?_)); (first | go_values | go_skip | go_step | go_guarded | go_upon | go_in | go_back | fail))
   with_reducible refine wp_reg (id := 4) ?_
   iterate 5
    refine wpO_want rfl ?_
    go_simp
   refine wpO_done ?_
   try go_frame
   try dsimp only
   repeat ((fail_if_success (with_reducible refine wp_reg (id := 6) ?_)); (first | go_values | go_skip | go_step | go_guarded | go_upon | go_in | go_back | fail))
   with_reducible refine wp_reg (id := 6) ?_
   iterate 5
    refine wpO_want rfl ?_
    go_simp
   replace t0 := fun (W : World) (hW : Ext wr W) => t0 W hW
   clear g0 g1 g2 q0
   refine (unhide hP).allocT 73 #[.int .i64 0, .int .u8 0, .int .i64 0] rfl (by go_simp) ?_
   intro r8 y3 hQ hxa hga
   replace hP : Hid (Sp w [] w [] [(r2,28, #[.slice (some ⟨bv,ov,none⟩) nV cA, .slice B1 nE cB]),(r4,28, #[.slice none 0 0, .slice none 0 0]),(r8,73, #[.int .i64 0, .int .u8 0, .int .i64 0])] [(73,3, .slice Ax i cx,i,((renV V to).take i).flatMap encV),(100,4, .slice none 0 0,0,([] : List ((Int × Int) × Thing)).flatMap encE)] y3) := hide hQ
   clear hQ
   try go_frame
   refine (unhide hP).setT 2 #[.int .i64 v0, .int .u8 lab, .int .i64 wt] rfl rfl (fun hb => run_store_row (v := .agg #[.int .i64 v0, .int .u8 lab, .int .i64 wt]) rfl (by rfl) (by rfl) (by simp [go_sem]) hb rfl (fun u hu => by simp [Value.cells] at hu; rcases hu with rfl | rfl | rfl <;> rfl)) ?_
   intro y4 hQ hkq
   replace hP : Hid (Sp w [] w [] [(r2,28, #[.slice (some ⟨bv,ov,none⟩) nV cA, .slice B1 nE cB]),(r4,28, #[.slice none 0 0, .slice none 0 0]),(r8,73, #[.int .i64 v0, .int .u8 lab, .int .i64 wt])] [(73,3, .slice Ax i cx,i,((renV V to).take i).flatMap encV),(100,4, .slice none 0 0,0,([] : List ((Int × Int) × Thing)).flatMap encE)] y4) := hide hQ
   have hxs := hxa.of_new hkq (fun x hx => by rw [List.mem_singleton] at hx; rw [hx]; exact hga)
   clear hQ hkq hxa hga
   try go_frame
   have t1 : ∀ W,Ext y4 W → W.cell? ⟨b,off + i,none⟩ = some (.int .i64 x) := fun W hW => t0 W (hxs.trans hW)
   clear t0 hself hxs
   refine wpO_done ?_
   try go_frame
   have hself := Ext.refl y4
   try dsimp only
   repeat ((fail_if_success (with_reducible refine wp_reg (id := 7) ?_)); (first | go_values | go_skip | go_step | go_guarded | go_upon | go_in | go_back | fail))
   with_reducible refine wp_reg (id := 7) ?_
   iterate 5
    refine wpO_want rfl ?_
    go_simp
   clear t1 hself
   refine (unhide hP).setO 2 #[.int .i64 x, .int .u8 lab, .int .i64 wt] rfl rfl (fun hb => run_store_fld (v := .int .i64 x) (i := 0) rfl (by first | rfl | (go_simp; done)) rfl rfl rfl (by kernel_rfl) hb (by simp) rfl) ?_
   intro y5 hQ
   replace hP : Hid (Sp w [] w [] [(r2,28, #[.slice (some ⟨bv,ov,none⟩) nV cA, .slice B1 nE cB]),(r4,28, #[.slice none 0 0, .slice none 0 0]),(r8,73, #[.int .i64 x, .int .u8 lab, .int .i64 wt])] [(73,3, .slice Ax i cx,i,((renV V to).take i).flatMap encV),(100,4, .slice none 0 0,0,([] : List ((Int × Int) × Thing)).flatMap encE)] y5) := hide hQ
   clear hQ
   refine wpO_done ?_
   try go_frame
   have d0 := (unhide hP).cell 2 0 (v := .int .i64 x) rfl rfl
   have d1 := (unhide hP).cell 2 1 (v := .int .u8 lab) rfl rfl
   have d2 := (unhide hP).cell 2 2 (v := .int .i64 wt) rfl rfl
   have hself := Ext.refl y5
   try dsimp only
   repeat ((fail_if_success (with_reducible refine wp_reg (id := 8) ?_)); (first | go_values | go_skip | go_step | go_guarded | go_upon | go_in | go_back | fail))
   with_reducible refine wp_reg (id := 8) ?_
   iterate 2
    refine wpO_want rfl ?_
    go_simp
   clear d0 d1 d2 hself
   refine (unhide hP).buildO 1 73 #[.int .i64 x, .int .u8 lab, .int .i64 wt] rfl (by go_simp) ?_
   intro bs y6 hQ
   replace hP : Hid (Sp w [] w [] [(r2,28, #[.slice (some ⟨bv,ov,none⟩) nV cA, .slice B1 nE cB]),(r4,28, #[.slice none 0 0, .slice none 0 0]),(r8,73, #[.int .i64 x, .int .u8 lab, .int .i64 wt]),(bs,73, #[.int .i64 x, .int .u8 lab, .int .i64 wt])] [(73,3, .slice Ax i cx,i,((renV V to).take i).flatMap encV),(100,4, .slice none 0 0,0,([] : List ((Int × Int) × Thing)).flatMap encE)] y6) := hide hQ
   clear hQ
   try go_frame
   refine (unhide hP).ap1O (enc := encV) (T := 73) (ST := 25) 0 (v := .slice Ax i cx) (m := i) (xs := (renV V to).take i) rfl rfl infoVR Tryz.underlying25 one_encV8 (fun _ => rfl) (by decide) (by decide) rfl (x,(lab,wt)) rfl rfl ((unhide hP).get 3 rfl) (by omega) ?_
   intro Az cAz y7 hQ
   replace hP : Hid (Sp w [] w [] [(r2,28, #[.slice (some ⟨bv,ov,none⟩) nV cA, .slice B1 nE cB]),(r4,28, #[.slice none 0 0, .slice none 0 0]),(r8,73, #[.int .i64 x, .int .u8 lab, .int .i64 wt]),(bs,73, #[.int .i64 x, .int .u8 lab, .int .i64 wt])] [(73,3, .slice Az (i + 1) cAz,i + 1,((renV V to).take i ++ [(x,(lab,wt))]).flatMap encV),(100,4, .slice none 0 0,0,([] : List ((Int × Int) × Thing)).flatMap encE)] y7) := hide hQ
   clear hQ
   try go_frame
   refine wpO_want rfl ?_
   go_simp
   refine wpO_done ?_
   try go_frame
   replace hP : Hid (Sp w [] w [] [(r2,28, #[.slice (some ⟨bv,ov,none⟩) nV cA, .slice B1 nE cB]),(r4,28, #[.slice none 0 0, .slice none 0 0]),(r8,73, #[.int .i64 x, .int .u8 lab, .int .i64 wt])] [(73,3, .slice Az (i + 1) cAz,i + 1,((renV V to).take i ++ [(x,(lab,wt))]).flatMap encV),(100,4, .slice none 0 0,0,([] : List ((Int × Int) × Thing)).flatMap encE)] y7) := hide ((unhide hP).sub (List.sublist_append_left _ ([(bs,73, #[.int .i64 x, .int .u8 lab, .int .i64 wt])] : List Cl)) (List.Sublist.refl _))
   replace hP : Hid (Sp w [] w [] [(r2,28, #[.slice (some ⟨bv,ov,none⟩) nV cA, .slice B1 nE cB]),(r4,28, #[.slice none 0 0, .slice none 0 0])] [(73,3, .slice Az (i + 1) cAz,i + 1,((renV V to).take i ++ [(x,(lab,wt))]).flatMap encV),(100,4, .slice none 0 0,0,([] : List ((Int × Int) × Thing)).flatMap encE)] y7) := hide ((unhide hP).sub (List.sublist_append_left _ ([(r8,73, #[.int .i64 x, .int .u8 lab, .int .i64 wt])] : List Cl)) (List.Sublist.refl _))
   go_wp2_with fail
   have hp9 := unhide hP
   rw [← unhide hst] at hp9
   refine ⟨nV - (i + 1), ?_,by have := unhide hfm'; have := unhide hlt'; omega⟩
   rw [unhide hI2_2]
   exact ⟨i + 1,Az,cAz,(by first | rfl | trivial),(by first | rfl | trivial),(by first | rfl | trivial),(by first | rfl | trivial),(by first | rfl | trivial),(by first | rfl | trivial),(by first | rfl | (show _ = Value.int _ _; go_num) | go_num),(by first | rfl | trivial),by have := unhide hlt'; omega,hp9,rfl⟩
  ·skip
   have hil : ¬ (i : Int) < (nV : Int) := by omega
   obtain rfl : nV = i := by omega
   rw [List.take_of_length_le (by rw [renV_len (unhide hTl)]; have := unhide hnV'; omega)] at hP
   clear hlt hin
   have q0 := (unhide hP).cell 0 0 (v := .slice A1 nV cA) rfl rfl
   have hself := Ext.refl wr
   try dsimp only
   repeat ((fail_if_success (with_reducible refine wp_reg (id := 4) ?_)); (first | go_values | go_skip | go_step | go_guarded | go_upon | go_in | go_back | fail))
   with_reducible refine wp_reg (id := 4) ?_
   iterate 5
    refine wpO_want rfl ?_
    go_simp
   refine wpO_done ?_
   try go_frame
   clear hil q0 hself
   go_wp2_with fail
   obtain ⟨I2_6,hI2_60⟩ : ∃ I : Nat → Act → World → Prop,I = fun fj a' wr => ∃ (j : Nat), ∃ (Ay : Option Addr), ∃ (cy : Nat),a'.tmps.size = 81 ∧ a'.tmps.getD 1 undef = .slice A n cC ∧ a'.tmps.getD 2 undef = .pointer (some ⟨r2,0,none⟩) ∧ a'.tmps.getD 4 undef = .pointer (some ⟨r4,0,none⟩) ∧ a'.tmps.getD 5 undef = .slice Ax nV cx ∧ a'.tmps.getD 6 undef = .slice Ay j cy ∧ a'.tmps.getD 9 undef = .int .i64 (j : Nat) ∧ a'.defers = [] ∧ j ≤ nE ∧ Sp w [] w [] [(r2,28, #[.slice A1 nV cA, .slice B1 nE cB]),(r4,28, #[.slice none 0 0, .slice none 0 0])] [(73,3, .slice Ax nV cx,nV,(renV V to).flatMap encV),(100,4, .slice Ay j cy,j,(((renE E (idsV V) to).map normE).take j).flatMap encE)] wr ∧ fj = nE - j := ⟨_,rfl⟩
   have hI2_6 := hide hI2_60
   clear hI2_60
   refine wp_loop_ix I2_6 (nE - 0) ?_ ?_
   ·rw [unhide hI2_6]; exact ⟨0,none,0,rfl,rfl,rfl,rfl,rfl,rfl,rfl,rfl,Nat.zero_le _,unhide hP,rfl⟩
   ·rintro fj ⟨tm,dfs⟩ wr hrel
    rw [unhide hI2_6] at hrel
    obtain ⟨j,Ay,cy,hsz,e1,e2,e4,e5,e6,e9,hdf,hjn,hPs,hgm⟩ := hrel
    obtain ⟨us,rfl⟩ : ∃ us : Nat → Value,tm = #[us 0,us 1,us 2,us 3,us 4,us 5,us 6,us 7,us 8,us 9,us 10,us 11,us 12,us 13,us 14,us 15,us 16,us 17,us 18,us 19,us 20,us 21,us 22,us 23,us 24,us 25,us 26,us 27,us 28,us 29,us 30,us 31,us 32,us 33,us 34,us 35,us 36,us 37,us 38,us 39,us 40,us 41,us 42,us 43,us 44,us 45,us 46,us 47,us 48,us 49,us 50,us 51,us 52,us 53,us 54,us 55,us 56,us 57,us 58,us 59,us 60,us 61,us 62,us 63,us 64,us 65,us 66,us 67,us 68,us 69,us 70,us 71,us 72,us 73,us 74,us 75,us 76,us 77,us 78,us 79,us 80] := ⟨fun i => tm.getD i undef,arr_fn hsz⟩
    have h1 : us 1 = .slice A n cC := e1
    have h2 : us 2 = .pointer (some ⟨r2,0,none⟩) := e2
    have h4 : us 4 = .pointer (some ⟨r4,0,none⟩) := e4
    have h5 : us 5 = .slice Ax nV cx := e5
    have h6 : us 6 = .slice Ay j cy := e6
    have h9 : us 9 = .int .i64 (j : Nat) := e9
    have hdf2 : dfs = [] := hdf
    subst hdf2
    clear hdf hsz e1 e2 e4 e5 e6 e9
    simp only [h1,h2,h4,h5,h6,h9]
    clear h1 h2 h4 h5 h6 h9
    clear hP
    have hP := hide hPs
    have hgm' := hide hgm
    clear hPs hgm
    by_cases hlt : j < nE
    ·skip
     have hil : (j : Int) < (nE : Int) := by omega
     have hlt' := hide hlt
     have hjE : j < E.length := by have := unhide hnE'; omega
     have hjb : (j : Int) ≤ 1024 := by have := unhide he4; omega
     have hst := hide (renE_step (ids := idsV V) (to := to) hjE)
     have hme := ids_mem (unhide hi') (List.getElem_mem hjE)
     obtain ⟨be,oe,rfl,g0,g1,g2,g3⟩ := atE ((unhide hsE').ext (unhide hP).extf) hjE
     obtain ⟨⟨⟨eu,ev⟩,⟨lab,wt⟩⟩,hp0⟩ : ∃ p,p = E[j] := ⟨_,rfl⟩
     rw [← hp0] at hst hme g0 g1 g2 g3
     dsimp only at hst hme g0 g1 g2 g3
     obtain ⟨ju,hju,hpu,_,htu⟩ := pos_ids hme.1
     obtain ⟨jv,hjv,hpv,_,htv⟩ := pos_ids hme.2
     have hjuT : ju < to.length := by have := unhide hTl; omega
     have hjvT : jv < to.length := by have := unhide hTl; omega
     obtain ⟨tu,htu0⟩ : ∃ t,t = to[ju] := ⟨_,rfl⟩
     obtain ⟨tv,htv0⟩ : ∃ t,t = to[jv] := ⟨_,rfl⟩
     rw [htu,htv,getD_at hjuT,getD_at hjvT, ← htu0, ← htv0] at hst
     have hpu' := hide hpu
     have hpv' := hide hpv
     have htu' := hide htu0
     have htv' := hide htv0
     have hju' := hide hjuT
     have hjv' := hide hjvT
     have hself := Ext.refl wr
     clear hp0 hme hpu hpv htu htv htu0 htv0 hju hjv hlt
     have q1 := (unhide hP).cell 0 1 (v := .slice (some ⟨be,oe,none⟩) nE cB) rfl rfl
     try dsimp only
     repeat ((fail_if_success (with_reducible refine wp_reg (id := 10) ?_)); (first | go_values | go_skip | go_step | go_guarded | go_upon | go_in | go_back | fail))
     with_reducible refine wp_reg (id := 10) ?_
     iterate 5
      refine wpO_want rfl ?_
      go_simp
     refine wpO_done ?_
     try go_frame
     try dsimp only
     repeat ((fail_if_success (with_reducible refine wp_reg (id := 12) ?_)); (first | go_values | go_skip | go_step | go_guarded | go_upon | go_in | go_back | fail))
     with_reducible refine wp_reg (id := 12) ?_
     iterate 5
      refine wpO_want rfl ?_
      go_simp
     clear g0 g1 g2 g3 q1 hself
     refine (unhide hP).allocO 100 #[.int .i64 0, .int .i64 0, .int .u8 0, .int .i64 0] rfl (by go_simp) ?_
     intro r10 y3 hQ
     replace hP : Hid (Sp w [] w [] [(r2,28, #[.slice A1 nV cA, .slice (some ⟨be,oe,none⟩) nE cB]),(r4,28, #[.slice none 0 0, .slice none 0 0]),(r10,100, #[.int .i64 0, .int .i64 0, .int .u8 0, .int .i64 0])] [(73,3, .slice Ax nV cx,nV,(renV V to).flatMap encV),(100,4, .slice Ay j cy,j,(((renE E (idsV V) to).map normE).take j).flatMap encE)] y3) := hide hQ
     clear hQ
     refine (unhide hP).setO 2 #[.int .i64 eu, .int .i64 ev, .int .u8 lab, .int .i64 wt] rfl rfl (fun hb => run_store_row (v := .agg #[.int .i64 eu, .int .i64 ev, .int .u8 lab, .int .i64 wt]) rfl (by rfl) (by rfl) (by simp [go_sem]) hb rfl (fun u hu => by simp [Value.cells] at hu; rcases hu with rfl | rfl | rfl | rfl <;> rfl)) ?_
     intro y4 hQ
     replace hP : Hid (Sp w [] w [] [(r2,28, #[.slice A1 nV cA, .slice (some ⟨be,oe,none⟩) nE cB]),(r4,28, #[.slice none 0 0, .slice none 0 0]),(r10,100, #[.int .i64 eu, .int .i64 ev, .int .u8 lab, .int .i64 wt])] [(73,3, .slice Ax nV cx,nV,(renV V to).flatMap encV),(100,4, .slice Ay j cy,j,(((renE E (idsV V) to).map normE).take j).flatMap encE)] y4) := hide hQ
     clear hQ
     refine wpO_done ?_
     try go_frame
     go_wp2_with fail
     have hc1 := hide (show ∀ W,Ext y4 W → Calls Tryz.prog 19 #[.agg #[.slice A1 nV cA, .slice (some ⟨be,oe,none⟩) nE cB], .int .i64 eu] W fun e w' => e = .returned (.int .i64 (ju : Nat)) ∧ Ext W w' from fun W hW => find8 A1 _ V nV cA nE cB eu ju W ((unhide hsV').ext ((unhide hP).extf.trans hW)) (unhide hnV') (by have := unhide hv4; omega) (unhide hpu'))
     have hc2 := hide (show ∀ W,Ext y4 W → Calls Tryz.prog 19 #[.agg #[.slice A1 nV cA, .slice (some ⟨be,oe,none⟩) nE cB], .int .i64 ev] W fun e w' => e = .returned (.int .i64 (jv : Nat)) ∧ Ext W w' from fun W hW => find8 A1 _ V nV cA nE cB ev jv W ((unhide hsV').ext ((unhide hP).extf.trans hW)) (unhide hnV') (by have := unhide hv4; omega) (unhide hpv'))
     obtain ⟨b,off,rfl,t1⟩ := atI ((unhide hA').ext (unhide hP).extf) (unhide hju')
     obtain ⟨b2,off2,hb2,t2⟩ := atI ((unhide hA').ext (unhide hP).extf) (unhide hjv')
     cases hb2
     rw [← unhide htu'] at t1
     rw [← unhide htv'] at t2
     have hu1 : (ju : Int) < (n : Int) := by have := unhide hju'; have := unhide hn'; omega
     have hu2 : (jv : Int) < (n : Int) := by have := unhide hjv'; have := unhide hn'; omega
     have q0 := (unhide hP).cell 0 0 (v := .slice A1 nV cA) rfl rfl
     have q1 := (unhide hP).cell 0 1 (v := .slice (some ⟨be,oe,none⟩) nE cB) rfl rfl
     have d0 := (unhide hP).cell 2 0 (v := .int .i64 eu) rfl rfl
     have d1 := (unhide hP).cell 2 1 (v := .int .i64 ev) rfl rfl
     have hself := Ext.refl y4
     refine wp_region_ext (P := Tryz.prog) [0,1,2,3,4,5,6,7,8,9,10,11,12,13,14,15] [] 0 #[true,true,true,true,true,true,true,true,true,true,true,true,true,true,true,true] (by kernel_rfl) (by kernel_rfl) rfl (by rfl) ?_
     iterate 4
      first
      | (refine ql_skip rfl (by rfl) ?_)
      | (refine ql_want (v := ?_) rfl (by rfl) (fun W hW => ?_) ?_; rotate_left; (go_simp; (first | done | rfl)))
      try go_frame
     refine ql_want (v := .int .i64 (ju : Nat)) rfl (by rfl) (fun W hW => ?_) ?_
     ·go_simp
      refine (unhide hc1 W hW).mono ?_
      rintro _ _ ⟨h1,h2⟩
      exact ⟨_,h1,rfl,h2⟩
     go_frame
     iterate 6
      first
      | (refine ql_skip rfl (by rfl) ?_)
      | (refine ql_want (v := ?_) rfl (by rfl) (fun W hW => ?_) ?_; rotate_left; (go_simp; (first | done | rfl)))
      try go_frame
     refine ql_want (v := .int .i64 (jv : Nat)) rfl (by rfl) (fun W hW => ?_) ?_
     ·go_simp
      refine (unhide hc2 W hW).mono ?_
      rintro _ _ ⟨h1,h2⟩
      exact ⟨_,h1,rfl,h2⟩
     go_frame
     iterate 4
      first
      | (refine ql_skip rfl (by rfl) ?_)
      | (refine ql_want (v := ?_) rfl (by rfl) (fun W hW => ?_) ?_; rotate_left; (go_simp; (first | done | rfl)))
      try go_frame
     refine wpQL_nil (fun y5 hxq => ?_)
     replace hP : Hid (Sp w [] w [] [(r2,28, #[.slice A1 nV cA, .slice (some ⟨be,oe,none⟩) nE cB]),(r4,28, #[.slice none 0 0, .slice none 0 0]),(r10,100, #[.int .i64 eu, .int .i64 ev, .int .u8 lab, .int .i64 wt])] [(73,3, .slice Ax nV cx,nV,(renV V to).flatMap encV),(100,4, .slice Ay j cy,j,(((renE E (idsV V) to).map normE).take j).flatMap encE)] y5) := hide ((unhide hP).ext hxq)
     clear q0 q1 d0 d1 t1 t2 hself hxq hc1 hc2 hu1 hu2
     refine wpX_done (by kernel_rfl) ?_
     try go_frame
     obtain ⟨lo,hlo0⟩ : ∃ z,z = min tu tv := ⟨_,rfl⟩
     obtain ⟨hi9,hhi0⟩ : ∃ z,z = max tu tv := ⟨_,rfl⟩
     rw [← hlo0, ← hhi0] at hst
     have hlo : min (tu : Int) tv = lo := hlo0.symm
     have hhi : max (tu : Int) tv = hi9 := hhi0.symm
     clear hlo0 hhi0
     try dsimp only
     repeat ((fail_if_success (with_reducible refine wp_reg (id := 14) ?_)); (first | go_values | go_skip | go_step | go_guarded | go_upon | go_in | go_back | fail))
     with_reducible refine wp_reg (id := 14) ?_
     iterate 7
      refine wpO_want rfl ?_
      go_simp
     refine (unhide hP).setO 2 #[.int .i64 lo, .int .i64 ev, .int .u8 lab, .int .i64 wt] rfl rfl (fun hb => run_store_fld (v := .int .i64 lo) (i := 0) rfl (by first | rfl | (go_simp; done)) rfl rfl rfl (by kernel_rfl) hb (by simp) rfl) ?_
     intro y6 hQ
     replace hP : Hid (Sp w [] w [] [(r2,28, #[.slice A1 nV cA, .slice (some ⟨be,oe,none⟩) nE cB]),(r4,28, #[.slice none 0 0, .slice none 0 0]),(r10,100, #[.int .i64 lo, .int .i64 ev, .int .u8 lab, .int .i64 wt])] [(73,3, .slice Ax nV cx,nV,(renV V to).flatMap encV),(100,4, .slice Ay j cy,j,(((renE E (idsV V) to).map normE).take j).flatMap encE)] y6) := hide hQ
     clear hQ
     refine wpO_want rfl ?_
     go_simp
     refine (unhide hP).setO 2 #[.int .i64 lo, .int .i64 hi9, .int .u8 lab, .int .i64 wt] rfl rfl (fun hb => run_store_fld (v := .int .i64 hi9) (i := 1) rfl (by first | rfl | (go_simp; done)) rfl rfl rfl (by kernel_rfl) hb (by simp) rfl) ?_
     intro y7 hQ
     replace hP : Hid (Sp w [] w [] [(r2,28, #[.slice A1 nV cA, .slice (some ⟨be,oe,none⟩) nE cB]),(r4,28, #[.slice none 0 0, .slice none 0 0]),(r10,100, #[.int .i64 lo, .int .i64 hi9, .int .u8 lab, .int .i64 wt])] [(73,3, .slice Ax nV cx,nV,(renV V to).flatMap encV),(100,4, .slice Ay j cy,j,(((renE E (idsV V) to).map normE).take j).flatMap encE)] y7) := hide hQ
     clear hQ
     refine wpO_done ?_
     try go_frame
     clear hlo hhi
     have d0 := (unhide hP).cell 2 0 (v := .int .i64 lo) rfl rfl
     have d1 := (unhide hP).cell 2 1 (v := .int .i64 hi9) rfl rfl
     have d2 := (unhide hP).cell 2 2 (v := .int .u8 lab) rfl rfl
     have d3 := (unhide hP).cell 2 3 (v := .int .i64 wt) rfl rfl
     have hself := Ext.refl y7
     try dsimp only
     repeat ((fail_if_success (with_reducible refine wp_reg (id := 15) ?_)); (first | go_values | go_skip | go_step | go_guarded | go_upon | go_in | go_back | fail))
     with_reducible refine wp_reg (id := 15) ?_
     iterate 2
      refine wpO_want rfl ?_
      go_simp
     clear d0 d1 d2 d3 hself
     refine (unhide hP).buildO 1 100 #[.int .i64 lo, .int .i64 hi9, .int .u8 lab, .int .i64 wt] rfl (by go_simp) ?_
     intro bs y8 hQ
     replace hP : Hid (Sp w [] w [] [(r2,28, #[.slice A1 nV cA, .slice (some ⟨be,oe,none⟩) nE cB]),(r4,28, #[.slice none 0 0, .slice none 0 0]),(r10,100, #[.int .i64 lo, .int .i64 hi9, .int .u8 lab, .int .i64 wt]),(bs,100, #[.int .i64 lo, .int .i64 hi9, .int .u8 lab, .int .i64 wt])] [(73,3, .slice Ax nV cx,nV,(renV V to).flatMap encV),(100,4, .slice Ay j cy,j,(((renE E (idsV V) to).map normE).take j).flatMap encE)] y8) := hide hQ
     clear hQ
     try go_frame
     refine (unhide hP).ap1O (enc := encE) (T := 100) (ST := 26) 1 (v := .slice Ay j cy) (m := j) (xs := ((renE E (idsV V) to).map normE).take j) rfl rfl infoER Tryz.underlying26 one_encE8 (fun _ => rfl) (by decide) (by decide) rfl ((lo,hi9),(lab,wt)) rfl rfl ((unhide hP).get 3 rfl) (by omega) ?_
     intro Az cAz y9 hQ
     replace hP : Hid (Sp w [] w [] [(r2,28, #[.slice A1 nV cA, .slice (some ⟨be,oe,none⟩) nE cB]),(r4,28, #[.slice none 0 0, .slice none 0 0]),(r10,100, #[.int .i64 lo, .int .i64 hi9, .int .u8 lab, .int .i64 wt]),(bs,100, #[.int .i64 lo, .int .i64 hi9, .int .u8 lab, .int .i64 wt])] [(73,3, .slice Ax nV cx,nV,(renV V to).flatMap encV),(100,4, .slice Az (j + 1) cAz,j + 1,(((renE E (idsV V) to).map normE).take j ++ [((lo,hi9),(lab,wt))]).flatMap encE)] y9) := hide hQ
     clear hQ
     try go_frame
     refine wpO_want rfl ?_
     go_simp
     refine wpO_done ?_
     try go_frame
     replace hP : Hid (Sp w [] w [] [(r2,28, #[.slice A1 nV cA, .slice (some ⟨be,oe,none⟩) nE cB]),(r4,28, #[.slice none 0 0, .slice none 0 0]),(r10,100, #[.int .i64 lo, .int .i64 hi9, .int .u8 lab, .int .i64 wt])] [(73,3, .slice Ax nV cx,nV,(renV V to).flatMap encV),(100,4, .slice Az (j + 1) cAz,j + 1,(((renE E (idsV V) to).map normE).take j ++ [((lo,hi9),(lab,wt))]).flatMap encE)] y9) := hide ((unhide hP).sub (List.sublist_append_left _ ([(bs,100, #[.int .i64 lo, .int .i64 hi9, .int .u8 lab, .int .i64 wt])] : List Cl)) (List.Sublist.refl _))
     replace hP : Hid (Sp w [] w [] [(r2,28, #[.slice A1 nV cA, .slice (some ⟨be,oe,none⟩) nE cB]),(r4,28, #[.slice none 0 0, .slice none 0 0])] [(73,3, .slice Ax nV cx,nV,(renV V to).flatMap encV),(100,4, .slice Az (j + 1) cAz,j + 1,(((renE E (idsV V) to).map normE).take j ++ [((lo,hi9),(lab,wt))]).flatMap encE)] y9) := hide ((unhide hP).sub (List.sublist_append_left _ ([(r10,100, #[.int .i64 lo, .int .i64 hi9, .int .u8 lab, .int .i64 wt])] : List Cl)) (List.Sublist.refl _))
     go_wp2_with fail
     have hp9 := unhide hP
     rw [← unhide hst] at hp9
     refine ⟨nE - (j + 1), ?_,by have := unhide hgm'; have := unhide hlt'; omega⟩
     rw [unhide hI2_6]
     exact ⟨j + 1,Az,cAz,(by first | rfl | trivial),(by first | rfl | trivial),(by first | rfl | trivial),(by first | rfl | trivial),(by first | rfl | trivial),(by first | rfl | trivial),(by first | rfl | (show _ = Value.int _ _; go_num) | go_num),(by first | rfl | trivial),by have := unhide hlt'; omega,hp9,rfl⟩
    ·skip
     have hil : ¬ (j : Int) < (nE : Int) := by omega
     obtain rfl : nE = j := by omega
     have hEl : ((renE E (idsV V) to).map normE).length = nE := by rw [List.length_map]; unfold renE; rw [List.length_map]; exact (unhide hnE').symm
     have hVl : (renV V to).length = nV := by rw [renV_len (unhide hTl)]; exact (unhide hnV').symm
     rw [List.take_of_length_le (by rw [hEl]; exact Nat.le_refl _)] at hP
     have hEl' := hide hEl
     have hVl' := hide hVl
     obtain ⟨V2,E2,hb0,hbS,hren⟩ := ren_norm (unhide hi') (unhide ho')
     have hb0' := hide hb0
     have hbS' := hide hbS
     have hren' := hide hren
     clear hlt hjn hEl hVl hb0 hbS hren
     have q1 := (unhide hP).cell 0 1 (v := .slice B1 nE cB) rfl rfl
     have hself := Ext.refl wr
     try dsimp only
     repeat ((fail_if_success (with_reducible refine wp_reg (id := 10) ?_)); (first | go_values | go_skip | go_step | go_guarded | go_upon | go_in | go_back | fail))
     with_reducible refine wp_reg (id := 10) ?_
     iterate 5
      refine wpO_want rfl ?_
      go_simp
     refine wpO_done ?_
     try go_frame
     clear hil q1 hself
     try dsimp only
     repeat ((fail_if_success (with_reducible refine wp_reg (id := 16) ?_)); (first | go_values | go_skip | go_step | go_guarded | go_upon | go_in | go_back | fail))
     with_reducible refine wp_reg (id := 16) ?_
     iterate 2
      refine wpO_want rfl ?_
      go_simp
     refine wpO_want rfl ?_
     go_simp
     have hca := of_any Ax Ay (renV V to) ((renE E (idsV V) to).map normE) cx cy wr (own_at (by have h := (unhide hP).row 0 rfl; rw [← unhide hVl'] at h; exact h) (fun _ => rfl)) (own_at (by have h := (unhide hP).row 1 rfl; rw [← unhide hEl'] at h; exact h) (fun _ => rfl)) (by rw [unhide hVl',unhide hnV']; have := unhide hv4; omega) (by rw [unhide hEl',unhide hnE']; have := unhide he4; omega)
     rw [unhide hVl',unhide hEl'] at hca
     unfold OfPost at hca
     rw [rS_yes (unhide hb0'),unhide hb0',unhide hbS'] at hca
     dsimp only at hca
     refine hca.mono ?_
     clear hca
     rintro _ y3 ⟨A2,cA2,B2,cB2,rfl,hs1,hs2,hxc⟩
     refine ⟨_,rfl, ?_⟩
     replace hP : Hid (Sp w [] w [] [(r2,28, #[.slice A1 nV cA, .slice B1 nE cB]),(r4,28, #[.slice none 0 0, .slice none 0 0])] [(73,3, .slice Ax nV cx,nV,(renV V to).flatMap encV),(100,4, .slice Ay nE cy,nE,((renE E (idsV V) to).map normE).flatMap encE)] y3) := hide ((unhide hP).ext hxc)
     have hs1' := hide hs1
     have hs2' := hide hs2
     clear hxc hs1 hs2
     generalize htu0 : Value.tuple _ = tu
     have htu := hide htu0
     clear htu0
     refine wpO_val rfl (run_move rfl rfl) ?_
     go_frame
     refine wpO_val rfl (run_extract (i := 0) (v := .agg #[.slice A2 V2.length cA2, .slice B2 E2.length cB2]) rfl (unhide htu).symm rfl) ?_
     go_frame
     refine wpO_val rfl (run_extract (i := 1) (v := .int .i64 0) rfl (unhide htu).symm rfl) ?_
     go_frame
     refine (unhide hP).allocT 28 #[.slice none 0 0, .slice none 0 0] rfl (by go_simp) ?_
     intro r13 y4 hQ hxa hga
     replace hP : Hid (Sp w [] w [] [(r2,28, #[.slice A1 nV cA, .slice B1 nE cB]),(r4,28, #[.slice none 0 0, .slice none 0 0]),(r13,28, #[.slice none 0 0, .slice none 0 0])] [(73,3, .slice Ax nV cx,nV,(renV V to).flatMap encV),(100,4, .slice Ay nE cy,nE,((renE E (idsV V) to).map normE).flatMap encE)] y4) := hide hQ
     clear hQ
     try go_frame
     refine (unhide hP).setT 2 #[.slice A2 V2.length cA2, .slice B2 E2.length cB2] rfl rfl (fun hb => run_store_row (v := .agg #[.slice A2 V2.length cA2, .slice B2 E2.length cB2]) rfl (by rfl) (by rfl) (by simp [go_sem]) hb rfl (fun u hu => by simp [Value.cells] at hu; rcases hu with rfl | rfl <;> rfl)) ?_
     intro y5 hQ hkq
     replace hP : Hid (Sp w [] w [] [(r2,28, #[.slice A1 nV cA, .slice B1 nE cB]),(r4,28, #[.slice none 0 0, .slice none 0 0]),(r13,28, #[.slice A2 V2.length cA2, .slice B2 E2.length cB2])] [(73,3, .slice Ax nV cx,nV,(renV V to).flatMap encV),(100,4, .slice Ay nE cy,nE,((renE E (idsV V) to).map normE).flatMap encE)] y5) := hide hQ
     have hxs := hxa.of_new hkq (fun x hx => by rw [List.mem_singleton] at hx; rw [hx]; exact hga)
     clear hQ hkq hxa hga
     try go_frame
     replace hs1' := hide ((unhide hs1').ext hxs)
     replace hs2' := hide ((unhide hs2').ext hxs)
     clear hxs
     refine wpO_want rfl ?_
     go_simp
     refine wpO_done ?_
     try go_frame
     clear htu
     have q0 := (unhide hP).cell 2 0 (v := .slice A2 V2.length cA2) rfl rfl
     have q1 := (unhide hP).cell 2 1 (v := .slice B2 E2.length cB2) rfl rfl
     have hself := Ext.refl y5
     try dsimp only
     repeat ((fail_if_success (with_reducible refine wp_reg (id := 17) ?_)); (first | go_values | go_skip | go_step | go_guarded | go_upon | go_in | go_back | fail))
     with_reducible refine wp_reg (id := 17) ?_
     refine wpO_want rfl ?_
     go_simp
     clear q0 q1 hself
     have hs3 := hide (fun (W : World) (hW : Keep [r4] y5 W) => SlAt.keep_G (unhide hs1') ((unhide hP).get 1 rfl) ⟨_,_,_,rfl⟩ ⟨_,_,_,rfl⟩ encV_ns (fun x => ⟨_,rfl⟩) hW)
     have hs4 := hide (fun (W : World) (hW : Keep [r4] y5 W) => SlAt.keep_G (unhide hs2') ((unhide hP).get 1 rfl) ⟨_,_,_,rfl⟩ ⟨_,_,_,rfl⟩ encE_ns (fun x => ⟨_,rfl⟩) hW)
     refine (unhide hP).setT 1 #[.slice A2 V2.length cA2, .slice B2 E2.length cB2] rfl rfl (fun hb => run_store_row (v := .agg #[.slice A2 V2.length cA2, .slice B2 E2.length cB2]) rfl (by rfl) (by rfl) (by simp [go_sem]) hb rfl (fun u hu => by simp [Value.cells] at hu; rcases hu with rfl | rfl <;> rfl)) ?_
     intro y6 hQ hkq
     replace hP : Hid (Sp w [] w [] [(r2,28, #[.slice A1 nV cA, .slice B1 nE cB]),(r4,28, #[.slice A2 V2.length cA2, .slice B2 E2.length cB2]),(r13,28, #[.slice A2 V2.length cA2, .slice B2 E2.length cB2])] [(73,3, .slice Ax nV cx,nV,(renV V to).flatMap encV),(100,4, .slice Ay nE cy,nE,((renE E (idsV V) to).map normE).flatMap encE)] y6) := hide hQ
     have hs5 := hide (unhide hs3 _ hkq)
     have hs6 := hide (unhide hs4 _ hkq)
     clear hQ hkq hs3 hs4 hs1' hs2'
     try go_frame
     refine wpO_done ?_
     try go_frame
     go_wp2_with fail
     refine Sp.leaves0 ?_
     have h4 := (unhide hP).get 1 rfl
     refine ⟨_,ret_cell1 rfl rfl (load_G _ r4 _ _ (h4.cell 0) (h4.cell 1)), ?_⟩
     exact ⟨V2,E2,A2,cA2,B2,cB2,unhide hren',rfl,unhide hs5,unhide hs6,(unhide hP).extf⟩
end Go.Proofs.YtbpeemhfjgcnaaaGreat
