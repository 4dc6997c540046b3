/- Parts of a proof, laid together. Each part says its own conditions. -/
import Derived.Test.YtmfkkkhddigkfaaGreatDoorR43
import Derived.Test.YtmfkkkhddigkfaaGreatDoorR45
import Derived.Test.YtmfkkkhddigkfaaGreatDoorR46
import Derived.Test.YtmfkkkhddigkfaaGreatDoorR32
namespace Go.Proofs.YtmfkkkhddigkfaaGreatDoor
open Go Go.RowKit Go.Shelf
attribute [local go_sem] qUpon lUpon
attribute [local irreducible] wpO wpX wpQL
theorem peoS_sound2 {V : List (Int × Thing)} {E : List ((Int × Int) × Thing)} (hi : GInv V E) {o : List Int} (h : peoS V E = some o) : o.Perm (toL (vS V)) ∧ Peo E o := by
 refine poS_sound hi (fun x hx => (mem_vS hi).1 hx) ?_ h
 rw [toL_vS hi,List.length_map]
 have := hi.nv
 omega
theorem inv_ends2 {V : List (Int × Thing)} {E : List ((Int × Int) × Thing)} (hi : GInv V E) {e : (Int × Int) × Thing} (he : e ∈ E) : hasE e.1.1 e.1.2 E = true ∧ e.1.1 ∈ V.map (·.1) ∧ e.1.2 ∈ V.map (·.1) := by
 have h : hasE e.1.1 e.1.2 E = true := by
  unfold hasE
  rw [decide_eq_true_eq,posI_nonneg]
  have h1 := (hi.lo e he)
  exact ⟨e,he,by unfold isE; simp⟩
 have h2 := hasE_rng hi h
 exact ⟨h,h2.1,h2.2⟩
theorem col_at {V : List (Int × Thing)} {E : List ((Int × Int) × Thing)} (hi : GInv V E) (o : List Int) {u : Int} (hu : u ∈ V.map (·.1)) : ∃ (p : Nat) (hp : p < (colOut V E o).length),posI (fun q : Int × Thing => q.1 == u) V = (p : Int) ∧ (colOut V E o)[p] = (lookM (colS E o).1 u).getD 0 := by
 rcases posI_cases (fun q : Int × Thing => q.1 == u) V with ⟨_,h⟩ | ⟨p,hp,h1,h2⟩
 ·obtain ⟨v,hv,rfl⟩ := List.mem_map.1 hu
  have := h v hv
  simp at this
 ·have hl : (colOut V E o).length = V.length := by unfold colOut; rw [List.length_map,toL_vS hi,List.length_map]
  refine ⟨p,by rw [hl]; exact hp,h1, ?_⟩
  have h3 : V[p].1 = u := by simpa using h2
  unfold colOut
  simp only [toL_vS hi,List.getElem_map,h3]
structure ClF (V : List (Int × Thing)) (E : List ((Int × Int) × Thing)) (o C : List Int) (m : Int) : Prop where
 len : C.length = V.length
 ref : (colR V E o).1 = C
 many : (colR V E o).2 = m
 edge : ∀ e ∈ E, ∃ (p q : Nat) (hp : p < C.length) (hq : q < C.length),posI (fun z : Int × Thing => z.1 == e.1.1) V = (p : Int) ∧ posI (fun z : Int × Thing => z.1 == e.1.2) V = (q : Int) ∧ C[p] ≠ C[q]
 most : mostR V E = m
 mem : ∀ x ∈ o,x ∈ V.map (·.1)
theorem clf {V : List (Int × Thing)} {E : List ((Int × Int) × Thing)} (hi : GInv V E) {o : List Int} (hpo : peoS V E = some o) : ClF V E o (colOut V E o) (colS E o).2 := by
 obtain ⟨hpm,hpe⟩ := peoS_sound2 hi hpo
 have hmem : ∀ x,x ∈ o ↔ x ∈ V.map (·.1) := fun x => by rw [hpm.mem_iff,mem_vS hi]
 have hnd : o.Nodup := hpm.nodup_iff.2 (toL_nodup _)
 have hI := colS_inv hi o hnd
 refine ⟨by unfold colOut; rw [List.length_map,toL_vS hi,List.length_map],colR_out hi hnd hmem,(colR_eq hi o hnd fun x hx => (hmem x).1 hx).2,fun e he => ?_,most_col hi hnd hmem hpe,fun x hx => (hmem x).1 hx⟩
 obtain ⟨h1,h2,h3⟩ := inv_ends2 hi he
 obtain ⟨p,hp,p1,p2⟩ := col_at hi o h2
 obtain ⟨q,hq,q1,q2⟩ := col_at hi o h3
 refine ⟨p,q,hp,hq,p1,q1, ?_⟩
 rw [p2,q2]
 obtain ⟨c,hc⟩ := Option.isSome_iff_exists.1 ((hI.dom e.1.1).2 ((hmem _).2 h2))
 obtain ⟨d,hd⟩ := Option.isSome_iff_exists.1 ((hI.dom e.1.2).2 ((hmem _).2 h3))
 rw [hc,hd]
 exact hI.proper _ _ c d h1 hc hd
theorem fold_next {l : List (List Int)} {k : Nat} (h : k < l.length) (m : Int) : (l.take (k + 1)).foldl (fun m K => max m (K.length : Int)) m = max ((l.take k).foldl (fun m K => max m (K.length : Int)) m) (l[k].length : Int) := by
 rw [List.take_succ_eq_append_getElem h,List.foldl_append]; rfl
theorem cliques_small {V : List (Int × Thing)} {E : List ((Int × Int) × Thing)} (h : V.length ≤ 12) : (cliquesR V E).length ≤ 4096 ∧ ∀ K ∈ cliquesR V E,K.length ≤ 12 := by
 constructor
 ·refine Nat.le_trans (List.length_filter_le _ _) ?_
  have := subs_small (V.map (·.1)) (i := (V.map (·.1)).length) (by rw [List.length_map]; exact h)
  rwa [List.take_length] at this
 ·intro K hK
  have := (mem_cliques.1 hK).1.length_le
  rw [List.length_map] at this
  omega
set_option maxRecDepth 100000 in
set_option maxHeartbeats 16000000 in
theorem chordalColoring_walk (A : Option Addr) (L : List Ed) (cL : Nat) (w : World) (hL : SlAt encD 5 w A L) (hT : Tab w) :
  Calls Tryz.prog 5 #[.slice A L.length cL] w fun e w' => e = .returned (.bool true) ∧ Ext w w' := by
 have hL' := hide hL
 have hT' := hide hT
 clear hL hT
 have hP := hide (Sp.new w)
 refine callsIn_wide.1 (callsIn_of_wp_marks (n := 0) Tryz.func5 rfl trivial (wpIn_wide.2 ?_))
 simp only [Tryz.ntmps5,List.size_toArray,List.length_cons,List.length_nil,Nat.reduceAdd,Nat.reduceSub,Array.replicate_succ,Array.replicate_zero,List.push_toArray,List.append_toArray,List.nil_append,List.cons_append]
 try dsimp only
 repeat ((fail_if_success (with_reducible refine wp_reg (id := 1) ?_)); (first | go_values | go_skip | go_step | go_guarded | go_upon | go_in | go_back | fail))
 with_reducible refine wp_reg (id := 1) ?_
 refine wpO_want rfl ?_
 go_simp
 refine (known24_any _ ((unhide hT').ext (unhide hP).extf)).mono ?_
 rintro _ y1 ⟨rfl,hxc⟩
 refine ⟨_,rfl, ?_⟩
 replace hP : Hid (Sp w [] w [] [] [] y1) := hide ((unhide hP).ext hxc)
 clear hxc
 refine wpO_want rfl ?_
 go_simp
 refine wpO_done ?_
 try go_frame
 try dsimp only
 repeat ((fail_if_success (with_reducible refine wp_reg (id := 3) ?_)); (first | go_values | go_skip | go_step | go_guarded | go_upon | go_in | go_back | fail))
 with_reducible refine wp_reg (id := 3) ?_
 refine wpO_val rfl (run_move rfl rfl) ?_
 go_frame
 refine wpO_want rfl ?_
 go_simp
 have hca := take_any A L cL 7 y1 ((unhide hL').ext (unhide hP).extf)
 have hi := hide (mdS_inv L)
 refine hca.mono ?_
 clear hca
 generalize mdS L = S at *
 obtain ⟨V,E⟩ := S
 try dsimp only at hi ⊢
 rintro _ y2 ⟨g,bv,be,A1,B1,cA,cB,rfl,hg0,hs0,he0,hxc⟩
 refine ⟨_,rfl, ?_⟩
 replace hP : Hid (Sp w [] w [] [] [] y2) := hide ((unhide hP).ext hxc)
 have hg := hide hg0
 have hsV := hide hs0
 have hsE := hide he0
 obtain ⟨q,hq⟩ : ∃ q,q = decide ((V.length : Int) ≤ 7) := ⟨_,rfl⟩
 rw [← hq]
 have hq' := hide hq
 have hnV := hide hg0.nV
 have hnE := hide hg0.nE
 clear hxc hg0 hs0 he0 hq
 generalize htu0 : Value.tuple _ = tu
 have htu := hide htu0
 clear htu0
 refine wpO_val rfl (run_move rfl rfl) ?_
 go_frame
 refine wpO_val rfl (run_extract (i := 0) (v := .pointer (some ⟨g,0,none⟩)) rfl (unhide htu).symm rfl) ?_
 go_frame
 refine wpO_val rfl (run_extract (i := 1) (v := .agg #[.slice A1 V.length cA, .slice B1 E.length cB]) rfl (unhide htu).symm rfl) ?_
 go_frame
 refine wpO_val rfl (run_extract (i := 2) (v := .bool q) rfl (unhide htu).symm rfl) ?_
 go_frame
 refine (unhide hP).allocT 28 #[.slice none 0 0, .slice none 0 0] rfl (by go_simp) ?_
 intro r4 y3 hQ hxa hga
 replace hP : Hid (Sp w [] w [] [(r4,28, #[.slice none 0 0, .slice none 0 0])] [] y3) := hide hQ
 clear hQ
 try go_frame
 refine wpO_want rfl ?_
 go_simp
 refine (unhide hP).setT 0 #[.slice A1 V.length cA, .slice B1 E.length cB] rfl rfl (fun hb => run_store_row (v := .agg #[.slice A1 V.length cA, .slice B1 E.length cB]) rfl (by rfl) (by rfl) (by simp [go_sem]) hb rfl (fun u hu => by simp [Value.cells] at hu; rcases hu with rfl | rfl <;> rfl)) ?_
 intro y4 hQ hkq
 replace hP : Hid (Sp w [] w [] [(r4,28, #[.slice A1 V.length cA, .slice B1 E.length cB])] [] y4) := hide hQ
 have hxs := hxa.of_new hkq (fun x hx => by rw [List.mem_singleton] at hx; rw [hx]; exact hga)
 clear hQ hkq hxa hga
 try go_frame
 replace hg := hide ((unhide hg).ext (hxs))
 replace hsV := hide ((unhide hsV).ext (hxs))
 replace hsE := hide ((unhide hsE).ext (hxs))
 clear hxs
 refine wpO_want rfl ?_
 go_simp
 refine wpO_done ?_
 try go_frame
 clear htu
 cases q
 ·skip
  go_wp2_with fail
  refine Sp.leaves0 ?_
  exact ⟨_,results_tmp rfl _ _ _,rfl,(unhide hP).extf⟩
 ·skip
  have hclf := hide (fun (o : List Int) (h : peoS V E = some o) => clf (unhide hi) h)
  have href := hide (peo_ref (unhide hi))
  have hpl := hide (peo_len (V := V) (E := E))
  have hV7 := hide (show V.length ≤ 7 by have h := unhide hq'; have := of_decide_eq_true h.symm; omega)
  have hco := hide (fun (W : World) (hW : IsG W g bv be V E) (hT : Tab W) => coloring_any (some ⟨g,0,none⟩) V E W (GL.of hW) hT)
  obtain ⟨po,hpo⟩ : ∃ po,po = peoS V E := ⟨_,rfl⟩
  rw [← hpo] at href hco hclf hpl
  clear hpo
  cases po with
  | none =>
   try dsimp only
   repeat ((fail_if_success (with_reducible refine wp_reg (id := 6) ?_)); (first | go_values | go_skip | go_step | go_guarded | go_upon | go_in | go_back | fail))
   with_reducible refine wp_reg (id := 6) ?_
   refine wpO_val rfl (run_move rfl rfl) ?_
   go_frame
   refine wpO_want rfl ?_
   go_simp
   have hca := unhide hco y4 (unhide hg) ((unhide hT').ext (unhide hP).extf)
   unfold CoPost at hca
   dsimp only at hca
   refine (hca).mono ?_
   rintro _ y5 ⟨rfl,hxc⟩
   clear hca
   refine ⟨_,rfl, ?_⟩
   replace hP : Hid (Sp w [] w [] [(r4,28, #[.slice A1 V.length cA, .slice B1 E.length cB])] [] y5) := hide ((unhide hP).ext hxc)
   replace hg := hide ((unhide hg).ext (hxc))
   replace hsV := hide ((unhide hsV).ext (hxc))
   replace hsE := hide ((unhide hsE).ext (hxc))
   clear hxc
   generalize htu0 : Value.tuple _ = tu
   have htu := hide htu0
   clear htu0
   refine wpO_val rfl (run_move rfl rfl) ?_
   go_frame
   refine wpO_val rfl (run_extract (i := 0) (v := .int .i64 0) rfl (unhide htu).symm rfl) ?_
   go_frame
   refine wpO_val rfl (run_extract (i := 1) (v := .slice none 0 0) rfl (unhide htu).symm rfl) ?_
   go_frame
   refine wpO_val rfl (run_extract (i := 2) (v := .int .i64 3) rfl (unhide htu).symm rfl) ?_
   go_frame
   iterate 3
    refine wpO_want rfl ?_
    go_simp
   refine wpO_done ?_
   try go_frame
   clear htu
   try dsimp only
   repeat ((fail_if_success (with_reducible refine wp_reg (id := 7) ?_)); (first | go_values | go_skip | go_step | go_guarded | go_upon | go_in | go_back | fail))
   with_reducible refine wp_reg (id := 7) ?_
   have q0 := (unhide hP).cell 0 0 (v := .slice A1 V.length cA) rfl rfl
   have q1 := (unhide hP).cell 0 1 (v := .slice B1 E.length cB) rfl rfl
   have hself := Ext.refl y5
   refine wpO_want rfl ?_
   go_simp
   clear q0 q1 hself
   refine wpO_want rfl ?_
   go_simp
   have hca := OrderR_any A1 B1 V E cA cB y5 (unhide hsV) (unhide hnV) (unhide hsE) (unhide hnE)
   rw [unhide href] at hca
   unfold OrPost at hca
   simp only [Option.getD_none,Option.isSome_none,List.length_nil] at hca
   refine (hca).mono ?_
   rintro _ y6 ⟨Aq,cq,rfl,ho,hxc⟩
   clear hca ho
   refine ⟨_,rfl, ?_⟩
   replace hP : Hid (Sp w [] w [] [(r4,28, #[.slice A1 V.length cA, .slice B1 E.length cB])] [] y6) := hide ((unhide hP).ext hxc)
   replace hg := hide ((unhide hg).ext (hxc))
   replace hsV := hide ((unhide hsV).ext (hxc))
   replace hsE := hide ((unhide hsE).ext (hxc))
   clear hxc
   generalize htu0 : Value.tuple _ = tu
   have htu := hide htu0
   clear htu0
   refine wpO_val rfl (run_move rfl rfl) ?_
   go_frame
   refine wpO_val rfl (run_extract (i := 0) (v := .slice Aq 0 cq) rfl (unhide htu).symm rfl) ?_
   go_frame
   refine wpO_val rfl (run_extract (i := 1) (v := .bool false) rfl (unhide htu).symm rfl) ?_
   go_frame
   iterate 2
    refine wpO_want rfl ?_
    go_simp
   refine wpO_done ?_
   try go_frame
   clear htu
   try dsimp only
   repeat ((fail_if_success (with_reducible refine wp_reg (id := 8) ?_)); (first | go_values | go_skip | go_step | go_guarded | go_upon | go_in | go_back | fail))
   with_reducible refine wp_reg (id := 8) ?_
   iterate 2
    refine wpO_want rfl ?_
    go_simp
   refine wpO_done ?_
   try go_frame
   try dsimp only
   repeat ((fail_if_success (with_reducible refine wp_reg (id := 9) ?_)); (first | go_values | go_skip | go_step | go_guarded | go_upon | go_in | go_back | fail))
   with_reducible refine wp_reg (id := 9) ?_
   iterate 12
    refine wpO_want rfl ?_
    go_simp
   refine wpO_done ?_
   try go_frame
   go_wp2_with fail
   refine Sp.leaves0 ?_
   exact ⟨_,results_tmp rfl _ _ _,rfl,(unhide hP).extf⟩
  | some oo =>
   have hF0 := unhide hclf oo rfl
   obtain ⟨C,hC⟩ : ∃ C,C = colOut V E oo := ⟨_,rfl⟩
   obtain ⟨nn,hnn⟩ : ∃ n,n = (colS E oo).2 := ⟨_,rfl⟩
   simp only [Option.getD_some] at hco hpl
   rw [← hC, ← hnn] at hF0 hco
   have hF := hide hF0
   obtain ⟨K,hK⟩ : ∃ K,K = C.length := ⟨_,rfl⟩
   have hK' := hide hK
   have hKV := hide (show K = V.length by rw [hK]; exact hF0.len)
   have hKb := hide (show K ≤ 7 by rw [hK,hF0.len]; exact unhide hV7)
   obtain ⟨no,hno⟩ : ∃ n,n = oo.length := ⟨_,rfl⟩
   have hno' := hide hno
   rw [← hno] at hpl
   have hclq := hide (fun (W : World) (h1 : SlAt encV 3 W A1 V) (h2 : SlAt encE 4 W B1 E) => cliquesR_any A1 B1 V E cA cB W h1 h2 (unhide hnE) (unhide hi) (by have := unhide hV7; omega))
   have hcr := hide (fun (W : World) (h1 : SlAt encV 3 W A1 V) (h2 : SlAt encE 4 W B1 E) (D : Option Addr) (cD : Nat) (h3 : SlAt encI 1 W D oo) => coloursR_any A1 B1 V E cA cB D oo no cD W h1 (unhide hnV) h2 (unhide hnE) h3 hno (by have := unhide hpl; omega) hF0.mem)
   rw [hF0.ref,hF0.many] at hcr
   have hsm := hide (cliques_small (V := V) (E := E) (by have := unhide hV7; omega))
   have hmo0 : (cliquesR V E).foldl (fun m K => max m (K.length : Int)) 0 = nn := hF0.most
   obtain ⟨CL,hCL⟩ : ∃ l,l = cliquesR V E := ⟨_,rfl⟩
   rw [← hCL] at hclq hsm hmo0
   have hmo := hide hmo0
   obtain ⟨nc,hnc⟩ : ∃ n,n = CL.length := ⟨_,rfl⟩
   have hnc' := hide hnc
   clear hF0 hC hnn hK hno hmo0 hCL hnc hclf
   try dsimp only
   repeat ((fail_if_success (with_reducible refine wp_reg (id := 6) ?_)); (first | go_values | go_skip | go_step | go_guarded | go_upon | go_in | go_back | fail))
   with_reducible refine wp_reg (id := 6) ?_
   refine wpO_val rfl (run_move rfl rfl) ?_
   go_frame
   refine wpO_want rfl ?_
   go_simp
   have hca := unhide hco y4 (unhide hg) ((unhide hT').ext (unhide hP).extf)
   unfold CoPost at hca
   dsimp only at hca
   rw [← unhide hK'] at hca
   refine (hca).mono ?_
   rintro _ y5 ⟨A7,c7,rfl,hs0,hxc⟩
   have hs7 := hide hs0
   clear hca hs0
   refine ⟨_,rfl, ?_⟩
   replace hP : Hid (Sp w [] w [] [(r4,28, #[.slice A1 V.length cA, .slice B1 E.length cB])] [] y5) := hide ((unhide hP).ext hxc)
   replace hg := hide ((unhide hg).ext (hxc))
   replace hsV := hide ((unhide hsV).ext (hxc))
   replace hsE := hide ((unhide hsE).ext (hxc))
   clear hxc
   generalize htu0 : Value.tuple _ = tu
   have htu := hide htu0
   clear htu0
   refine wpO_val rfl (run_move rfl rfl) ?_
   go_frame
   refine wpO_val rfl (run_extract (i := 0) (v := .int .i64 nn) rfl (unhide htu).symm rfl) ?_
   go_frame
   refine wpO_val rfl (run_extract (i := 1) (v := .slice A7 K c7) rfl (unhide htu).symm rfl) ?_
   go_frame
   refine wpO_val rfl (run_extract (i := 2) (v := .int .i64 0) rfl (unhide htu).symm rfl) ?_
   go_frame
   iterate 3
    refine wpO_want rfl ?_
    go_simp
   refine wpO_done ?_
   try go_frame
   clear htu
   try dsimp only
   repeat ((fail_if_success (with_reducible refine wp_reg (id := 7) ?_)); (first | go_values | go_skip | go_step | go_guarded | go_upon | go_in | go_back | fail))
   with_reducible refine wp_reg (id := 7) ?_
   have q0 := (unhide hP).cell 0 0 (v := .slice A1 V.length cA) rfl rfl
   have q1 := (unhide hP).cell 0 1 (v := .slice B1 E.length cB) rfl rfl
   have hself := Ext.refl y5
   refine wpO_want rfl ?_
   go_simp
   clear q0 q1 hself
   refine wpO_want rfl ?_
   go_simp
   have hca := OrderR_any A1 B1 V E cA cB y5 (unhide hsV) (unhide hnV) (unhide hsE) (unhide hnE)
   rw [unhide href] at hca
   unfold OrPost at hca
   simp only [Option.getD_some,Option.isSome_some] at hca
   rw [← unhide hno'] at hca
   refine (hca).mono ?_
   rintro _ y6 ⟨Aq,cq,rfl,ho,hxc⟩
   have hs9 := hide (show SlAt encI 1 _ Aq oo from own_at (enc := encI) (by rw [← unhide hno']; exact ho) (fun _ => rfl))
   clear hca ho
   refine ⟨_,rfl, ?_⟩
   replace hP : Hid (Sp w [] w [] [(r4,28, #[.slice A1 V.length cA, .slice B1 E.length cB])] [] y6) := hide ((unhide hP).ext hxc)
   replace hg := hide ((unhide hg).ext (hxc))
   replace hsV := hide ((unhide hsV).ext (hxc))
   replace hsE := hide ((unhide hsE).ext (hxc))
   replace hs7 := hide ((unhide hs7).ext (hxc))
   clear hxc
   generalize htu0 : Value.tuple _ = tu
   have htu := hide htu0
   clear htu0
   refine wpO_val rfl (run_move rfl rfl) ?_
   go_frame
   refine wpO_val rfl (run_extract (i := 0) (v := .slice Aq no cq) rfl (unhide htu).symm rfl) ?_
   go_frame
   refine wpO_val rfl (run_extract (i := 1) (v := .bool true) rfl (unhide htu).symm rfl) ?_
   go_frame
   iterate 2
    refine wpO_want rfl ?_
    go_simp
   refine wpO_done ?_
   try go_frame
   clear htu
   try dsimp only
   repeat ((fail_if_success (with_reducible refine wp_reg (id := 8) ?_)); (first | go_values | go_skip | go_step | go_guarded | go_upon | go_in | go_back | fail))
   with_reducible refine wp_reg (id := 8) ?_
   iterate 2
    refine wpO_want rfl ?_
    go_simp
   refine wpO_done ?_
   try go_frame
   try dsimp only
   repeat ((fail_if_success (with_reducible refine wp_reg (id := 10) ?_)); (first | go_values | go_skip | go_step | go_guarded | go_upon | go_in | go_back | fail))
   with_reducible refine wp_reg (id := 10) ?_
   have q0 := (unhide hP).cell 0 0 (v := .slice A1 V.length cA) rfl rfl
   have q1 := (unhide hP).cell 0 1 (v := .slice B1 E.length cB) rfl rfl
   have hself := Ext.refl y6
   refine wpO_want rfl ?_
   go_simp
   clear q0 q1 hself
   refine wpO_want rfl ?_
   go_simp
   refine wpO_want rfl ?_
   go_simp
   have hca := unhide hcr y6 (unhide hsV) (unhide hsE) Aq cq (unhide hs9)
   unfold CrPost at hca
   rw [← unhide hK'] at hca
   refine (hca).mono ?_
   rintro _ y7 ⟨A12,c12,rfl,hs0,hxc⟩
   have hs12 := hide hs0
   clear hca hs0
   refine ⟨_,rfl, ?_⟩
   replace hP : Hid (Sp w [] w [] [(r4,28, #[.slice A1 V.length cA, .slice B1 E.length cB])] [] y7) := hide ((unhide hP).ext hxc)
   replace hg := hide ((unhide hg).ext (hxc))
   replace hsV := hide ((unhide hsV).ext (hxc))
   replace hsE := hide ((unhide hsE).ext (hxc))
   replace hs7 := hide ((unhide hs7).ext (hxc))
   replace hs9 := hide ((unhide hs9).ext (hxc))
   clear hxc
   generalize htu0 : Value.tuple _ = tu
   have htu := hide htu0
   clear htu0
   refine wpO_val rfl (run_move rfl rfl) ?_
   go_frame
   refine wpO_val rfl (run_extract (i := 0) (v := .int .i64 nn) rfl (unhide htu).symm rfl) ?_
   go_frame
   refine wpO_val rfl (run_extract (i := 1) (v := .slice A12 K c12) rfl (unhide htu).symm rfl) ?_
   go_frame
   iterate 2
    refine wpO_want rfl ?_
    go_simp
   refine wpO_done ?_
   try go_frame
   clear htu
   have hnn2 : (nn != nn) = false := by simp
   try dsimp only
   repeat ((fail_if_success (with_reducible refine wp_reg (id := 11) ?_)); (first | go_values | go_skip | go_step | go_guarded | go_upon | go_in | go_back | fail))
   with_reducible refine wp_reg (id := 11) ?_
   iterate 10
    refine wpO_want rfl ?_
    go_simp
   refine wpO_want rfl ?_
   go_simp
   have hca := same_ints A7 A12 C C K K c7 c12 y7 (unhide hs7) (unhide hs12) (unhide hK') (unhide hK') (by have := unhide hKb; omega) (by have := unhide hKb; omega)
   rw [decide_eq_true rfl] at hca
   refine (hca).mono ?_
   rintro _ y8 ⟨rfl,hxc⟩
   clear hca
   refine ⟨_,rfl, ?_⟩
   replace hP : Hid (Sp w [] w [] [(r4,28, #[.slice A1 V.length cA, .slice B1 E.length cB])] [] y8) := hide ((unhide hP).ext hxc)
   replace hg := hide ((unhide hg).ext (hxc))
   replace hsV := hide ((unhide hsV).ext (hxc))
   replace hsE := hide ((unhide hsE).ext (hxc))
   replace hs7 := hide ((unhide hs7).ext (hxc))
   replace hs9 := hide ((unhide hs9).ext (hxc))
   replace hs12 := hide ((unhide hs12).ext (hxc))
   clear hxc
   iterate 2
    refine wpO_want rfl ?_
    go_simp
   refine wpO_done ?_
   try go_frame
   clear hnn2
   have hx0 := hide (unhide hP).extf
   have hB4 := hide ((unhide hP).get 0 rfl)
   clear hP hT' hco hg hs9 hs12 hcr
   have hP : Hid (Sp y8 [] y8 [] [] [] y8) := hide (Sp.new y8)
   try dsimp only
   repeat ((fail_if_success (with_reducible refine wp_reg (id := 13) ?_)); (first | go_values | go_skip | go_step | go_guarded | go_upon | go_in | go_back | fail))
   with_reducible refine wp_reg (id := 13) ?_
   refine wpO_want rfl ?_
   go_simp
   refine wpO_done ?_
   try go_frame
   go_wp2_with fail
   obtain ⟨I8_6,hI8_60⟩ : ∃ I : Nat → Act → World → Prop,I = fun fi a' wr => ∃ (i : Nat),a'.tmps.size = 118 ∧ a'.tmps.getD 4 undef = .pointer (some ⟨r4,0,none⟩) ∧ a'.tmps.getD 6 undef = .int .i64 nn ∧ a'.tmps.getD 7 undef = .slice A7 K c7 ∧ a'.tmps.getD 13 undef = .int .i64 (i : Nat) ∧ a'.defers = [] ∧ i ≤ E.length ∧ Sp y8 [] y8 [] [] [] wr ∧ fi = E.length - i := ⟨_,rfl⟩
   have hI8_6 := hide hI8_60
   clear hI8_60
   refine wp_loop_ix I8_6 (E.length - 0) ?_ ?_
   ·rw [unhide hI8_6]; exact ⟨0,rfl,rfl,rfl,rfl,rfl,rfl,Nat.zero_le _,unhide hP,rfl⟩
   ·rintro fi ⟨tm,dfs⟩ wr hrel
    rw [unhide hI8_6] at hrel
    obtain ⟨i,hsz,e4,e6,e7,e13,hdf,hik,hPr,hfm⟩ := hrel
    obtain ⟨us,rfl⟩ : ∃ us : Nat → Value,tm = #[us 0,us 1,us 2,us 3,us 4,us 5,us 6,us 7,us 8,us 9,us 10,us 11,us 12,us 13,us 14,us 15,us 16,us 17,us 18,us 19,us 20,us 21,us 22,us 23,us 24,us 25,us 26,us 27,us 28,us 29,us 30,us 31,us 32,us 33,us 34,us 35,us 36,us 37,us 38,us 39,us 40,us 41,us 42,us 43,us 44,us 45,us 46,us 47,us 48,us 49,us 50,us 51,us 52,us 53,us 54,us 55,us 56,us 57,us 58,us 59,us 60,us 61,us 62,us 63,us 64,us 65,us 66,us 67,us 68,us 69,us 70,us 71,us 72,us 73,us 74,us 75,us 76,us 77,us 78,us 79,us 80,us 81,us 82,us 83,us 84,us 85,us 86,us 87,us 88,us 89,us 90,us 91,us 92,us 93,us 94,us 95,us 96,us 97,us 98,us 99,us 100,us 101,us 102,us 103,us 104,us 105,us 106,us 107,us 108,us 109,us 110,us 111,us 112,us 113,us 114,us 115,us 116,us 117] := ⟨fun i => tm.getD i undef,arr_fn hsz⟩
    have h4 : us 4 = .pointer (some ⟨r4,0,none⟩) := e4
    have h6 : us 6 = .int .i64 nn := e6
    have h7 : us 7 = .slice A7 K c7 := e7
    have h13 : us 13 = .int .i64 (i : Nat) := e13
    have hdf2 : dfs = [] := hdf
    subst hdf2
    clear hdf hsz e4 e6 e7 e13
    simp only [h4,h6,h7,h13]
    clear h4 h6 h7 h13
    clear hP
    have hP := hide hPr
    have hfm' := hide hfm
    clear hPr hfm
    by_cases hlt : i < E.length
    ·have hil : (i : Int) < (E.length : Int) := by omega
     have hi2 := hide hlt
     have hib : (i : Int) ≤ 4096 := by have := unhide hnE; omega
     obtain ⟨x,hx⟩ : ∃ x,x = E[i].1.1 := ⟨_,rfl⟩
     obtain ⟨y,hy⟩ : ∃ y,y = E[i].1.2 := ⟨_,rfl⟩
     have hed : ∃ (p q : Nat) (hp : p < C.length) (hq : q < C.length),posI (fun z : Int × Thing => z.1 == x) V = (p : Int) ∧ posI (fun z : Int × Thing => z.1 == y) V = (q : Int) ∧ C[p] ≠ C[q] := by rw [hx,hy]; exact (unhide hF).edge _ (List.getElem_mem hlt)
     obtain ⟨p,q,hp,hq,hp1,hq1,hne⟩ := hed
     obtain ⟨bE,oE,rfl,d0,d1,d2,d3⟩ := atE (unhide hsE) hlt
     clear d2 d3
     have cE := hide (fun W (hW : Ext y8 W) => show W.cell? ⟨bE,oE + i * 4,none⟩ = some (.int .i64 x) by rw [hx]; exact d0 W hW)
     have cF := hide (fun W (hW : Ext y8 W) => show W.cell? ⟨bE,oE + i * 4 + 1,none⟩ = some (.int .i64 y) by rw [hy]; exact d1 W hW)
     obtain ⟨b7,o7,rfl,hcz⟩ := cellI (unhide hs7) hp
     clear hcz
     obtain ⟨u,hu⟩ : ∃ u,u = C[p] := ⟨_,rfl⟩
     obtain ⟨v,hv⟩ : ∃ v,v = C[q] := ⟨_,rfl⟩
     have cp := slE (unhide hs7) hp
     have cq2 := slE (unhide hs7) hq
     rw [← hu] at cp hne
     rw [← hv] at cq2 hne
     have cp' := hide cp
     have cq' := hide cq2
     have huv := hide (show (u == v) = false by simp [hne])
     have hp2 := hide hp1
     have hq2 := hide hq1
     have hpK := hide (show p < K by rw [unhide hK']; exact hp)
     have hqK := hide (show q < K by rw [unhide hK']; exact hq)
     clear hx hy d0 d1 hu hv cp cq2 hne hp1 hq1 hlt hik
     have q1 := ((unhide hB4).ext (unhide hP).extf).cells 1 (v := .slice (some ⟨bE,oE,none⟩) E.length cB) rfl
     have hself := Ext.refl wr
     try dsimp only
     repeat ((fail_if_success (with_reducible refine wp_reg (id := 14) ?_)); (first | go_values | go_skip | go_step | go_guarded | go_upon | go_in | go_back | fail))
     with_reducible refine wp_reg (id := 14) ?_
     iterate 5
      refine wpO_want rfl ?_
      go_simp
     clear q1 hself
     refine wpO_done ?_
     try go_frame
     go_wp2_with fail
     have q0 := fun W (hW : Keep [] wr W) => ((unhide hB4).ext (unhide hP).extf).cells 0 (v := .slice A1 V.length cA) rfl W hW.ext
     have q1 := fun W (hW : Keep [] wr W) => ((unhide hB4).ext (unhide hP).extf).cells 1 (v := .slice (some ⟨bE,oE,none⟩) E.length cB) rfl W hW.ext
     have c0 := fun W (hW : Keep [] wr W) => unhide cE W ((unhide hP).extf.trans hW.ext)
     have c1 := fun W (hW : Keep [] wr W) => unhide cF W ((unhide hP).extf.trans hW.ext)
     have c2 := fun W (hW : Keep [] wr W) => unhide cp' W ((unhide hP).extf.trans hW.ext)
     have c3 := fun W (hW : Keep [] wr W) => unhide cq' W ((unhide hP).extf.trans hW.ext)
     have hpk := unhide hpK
     have hqk := unhide hqK
     have huv2 := unhide huv
     have hself := Keep.refl [] wr
     refine wp_regionK (P := Tryz.prog) [] [0,1,2,3,4,5,6,7,8,9,10,11,12,13,14,15,16,17,18,19,20,21,22] [] 0 #[true,true,true,true,true,true,true,true,true,true,true,true,true,true,true,true,true,true,true,true,true,true,true] (by kernel_rfl) (by kernel_rfl) rfl (by rfl) ?_
     iterate 8
      refine ql_want (v := ?_) rfl (by rfl) (fun W hW => ?_) ?_
      rotate_left
      ·go_simp
       first | done | rfl
      go_frame
     refine ql_want (v := .int .i64 (p : Nat)) rfl (by rfl) (fun W hW => ?_) ?_
     ·go_simp
      refine (find_any A1 (some ⟨bE,oE,none⟩) V cA E.length cB x W ((unhide hsV).ext ((unhide hP).extf.trans hW.ext)) (unhide hnV)).mono ?_
      rw [unhide hp2]
      rintro _ _ ⟨h1,h2⟩
      exact ⟨_,h1,rfl,h2⟩
     go_frame
     iterate 10
      refine ql_want (v := ?_) rfl (by rfl) (fun W hW => ?_) ?_
      rotate_left
      ·go_simp
       first | done | rfl
      go_frame
     refine ql_want (v := .int .i64 (q : Nat)) rfl (by rfl) (fun W hW => ?_) ?_
     ·go_simp
      refine (find_any A1 (some ⟨bE,oE,none⟩) V cA E.length cB y W ((unhide hsV).ext ((unhide hP).extf.trans hW.ext)) (unhide hnV)).mono ?_
      rw [unhide hq2]
      rintro _ _ ⟨h1,h2⟩
      exact ⟨_,h1,rfl,h2⟩
     go_frame
     iterate 3
      refine ql_want (v := ?_) rfl (by rfl) (fun W hW => ?_) ?_
      rotate_left
      ·go_simp
       first | done | rfl
      go_frame
     refine wpQL_nil (fun y9 hxq => ?_)
     replace hP : Hid (Sp y8 [] y8 [] [] [] y9) := hide ((unhide hP).ext hxq)
     clear hxq
     clear q0 q1 c0 c1 c2 c3 hself hpk hqk huv2
     refine wpX_done (by kernel_rfl) ?_
     try go_frame
     go_wp2_with fail
     have h1 := unhide hi2
     refine ⟨E.length - (i + 1), ?_,by have := unhide hfm'; omega⟩
     rw [unhide hI8_6]
     exact ⟨i + 1,(by first | rfl | trivial),(by first | rfl | trivial),(by first | rfl | trivial),(by first | rfl | trivial),(by first | rfl | (show _ = Value.int _ _; go_num) | go_num),(by first | rfl | trivial),by omega,unhide hP,rfl⟩
    ·have hil : ¬ (i : Int) < (E.length : Int) := by omega
     have q1 := ((unhide hB4).ext (unhide hP).extf).cells 1 (v := .slice B1 E.length cB) rfl
     have hself := Ext.refl wr
     try dsimp only
     repeat ((fail_if_success (with_reducible refine wp_reg (id := 14) ?_)); (first | go_values | go_skip | go_step | go_guarded | go_upon | go_in | go_back | fail))
     with_reducible refine wp_reg (id := 14) ?_
     iterate 5
      refine wpO_want rfl ?_
      go_simp
     clear q1 hself hil hlt hik hfm'
     refine wpO_done ?_
     try go_frame
     have q0 := ((unhide hB4).ext (unhide hP).extf).cells 0 (v := .slice A1 V.length cA) rfl
     have q1 := ((unhide hB4).ext (unhide hP).extf).cells 1 (v := .slice B1 E.length cB) rfl
     have hself := Ext.refl wr
     try dsimp only
     repeat ((fail_if_success (with_reducible refine wp_reg (id := 18) ?_)); (first | go_values | go_skip | go_step | go_guarded | go_upon | go_in | go_back | fail))
     with_reducible refine wp_reg (id := 18) ?_
     refine wpO_want rfl ?_
     go_simp
     clear q0 q1 hself
     refine wpO_want rfl ?_
     go_simp
     have hca := unhide hclq wr ((unhide hsV).ext (unhide hP).extf) ((unhide hsE).ext (unhide hP).extf)
     unfold SsPost at hca
     rw [← unhide hnc'] at hca
     refine (hca).mono ?_
     rintro _ y9 ⟨Ac,cc,rfl,hs0,hxc⟩
     have hsc := hide hs0
     clear hca hs0
     refine ⟨_,rfl, ?_⟩
     replace hP : Hid (Sp y8 [] y8 [] [] [] y9) := hide ((unhide hP).ext hxc)
     clear hxc
     refine wpO_want rfl ?_
     go_simp
     refine wpO_done ?_
     try go_frame
     have hx1 := hide ((unhide hx0).trans (unhide hP).extf)
     clear hP
     have hP : Hid (Sp y9 [] y9 [] [] [] y9) := hide (Sp.new y9)
     try dsimp only
     repeat ((fail_if_success (with_reducible refine wp_reg (id := 19) ?_)); (first | go_values | go_skip | go_step | go_guarded | go_upon | go_in | go_back | fail))
     with_reducible refine wp_reg (id := 19) ?_
     refine wpO_want rfl ?_
     go_simp
     refine wpO_done ?_
     try go_frame
     try dsimp only
     repeat ((fail_if_success (with_reducible refine wp_reg (id := 20) ?_)); (first | go_values | go_skip | go_step | go_guarded | go_upon | go_in | go_back | fail))
     with_reducible refine wp_reg (id := 20) ?_
     refine wpO_want rfl ?_
     go_simp
     refine wpO_done ?_
     try go_frame
     go_wp2_with fail
     obtain ⟨I9_10,hI9_100⟩ : ∃ I : Nat → Act → World → Prop,I = fun fk a' wr => ∃ (k : Nat), ∃ (mo : Int),a'.tmps.size = 118 ∧ a'.tmps.getD 6 undef = .int .i64 nn ∧ a'.tmps.getD 14 undef = .slice Ac nc cc ∧ a'.tmps.getD 15 undef = .int .i64 mo ∧ a'.tmps.getD 16 undef = .int .i64 (k : Nat) ∧ a'.defers = [] ∧ k ≤ nc ∧ (mo = (CL.take k).foldl (fun m K => max m (K.length : Int)) 0) ∧ Sp y9 [] y9 [] [] [] wr ∧ fk = nc - k := ⟨_,rfl⟩
     have hI9_10 := hide hI9_100
     clear hI9_100
     refine wp_loop_ix I9_10 (nc - 0) ?_ ?_
     ·rw [unhide hI9_10]; exact ⟨0,0,rfl,rfl,rfl,rfl,rfl,rfl,Nat.zero_le _,rfl,unhide hP,rfl⟩
     ·rintro fk ⟨tm,dfs⟩ wr hrel
      rw [unhide hI9_10] at hrel
      obtain ⟨k,mo,hsz,e6,e14,e15,e16,hdf,hk,hmk,hPr,hfk⟩ := hrel
      obtain ⟨us,rfl⟩ : ∃ us : Nat → Value,tm = #[us 0,us 1,us 2,us 3,us 4,us 5,us 6,us 7,us 8,us 9,us 10,us 11,us 12,us 13,us 14,us 15,us 16,us 17,us 18,us 19,us 20,us 21,us 22,us 23,us 24,us 25,us 26,us 27,us 28,us 29,us 30,us 31,us 32,us 33,us 34,us 35,us 36,us 37,us 38,us 39,us 40,us 41,us 42,us 43,us 44,us 45,us 46,us 47,us 48,us 49,us 50,us 51,us 52,us 53,us 54,us 55,us 56,us 57,us 58,us 59,us 60,us 61,us 62,us 63,us 64,us 65,us 66,us 67,us 68,us 69,us 70,us 71,us 72,us 73,us 74,us 75,us 76,us 77,us 78,us 79,us 80,us 81,us 82,us 83,us 84,us 85,us 86,us 87,us 88,us 89,us 90,us 91,us 92,us 93,us 94,us 95,us 96,us 97,us 98,us 99,us 100,us 101,us 102,us 103,us 104,us 105,us 106,us 107,us 108,us 109,us 110,us 111,us 112,us 113,us 114,us 115,us 116,us 117] := ⟨fun i => tm.getD i undef,arr_fn hsz⟩
      have h6 : us 6 = .int .i64 nn := e6
      have h14 : us 14 = .slice Ac nc cc := e14
      have h15 : us 15 = .int .i64 mo := e15
      have h16 : us 16 = .int .i64 (k : Nat) := e16
      have hdf2 : dfs = [] := hdf
      subst hdf2
      clear hdf hsz e6 e14 e15 e16
      simp only [h6,h14,h15,h16]
      clear h6 h14 h15 h16
      clear hP
      have hP := hide hPr
      have hmk' := hide hmk
      have hfk' := hide hfk
      clear hPr hmk hfk
      by_cases hlt : k < nc
      ·have hil : (k : Int) < (nc : Int) := by omega
       have hk2 := hide hlt
       have hkC : k < CL.length := by rw [← unhide hnc']; exact hlt
       have hkb : (k : Int) ≤ 4096 := by have h := (unhide hsm).1; have := unhide hnc'; omega
       obtain ⟨bc,oc,rfl,hget⟩ := (unhide hsc).get (by omega)
       obtain ⟨ak,ck,hck,hsk⟩ := hget k hkC
       have hfn := fold_next hkC 0
       obtain ⟨nk,hnk⟩ : ∃ n,n = CL[k].length := ⟨_,rfl⟩
       rw [← hnk] at hck hfn
       rw [← unhide hmk'] at hfn
       have hfn' := hide hfn
       have c0 := fun W (hW : Ext wr W) => hck [] W (((unhide hP).extf.trans hW).keep []) (by simp)
       clear hk hlt hget hck hsk hfn hnk hkC
       have hself := Ext.refl wr
       try dsimp only
       repeat ((fail_if_success (with_reducible refine wp_reg (id := 21) ?_)); (first | go_values | go_skip | go_step | go_guarded | go_upon | go_in | go_back | fail))
       with_reducible refine wp_reg (id := 21) ?_
       iterate 4
        refine wpO_want rfl ?_
        go_simp
       refine wpO_done ?_
       try go_frame
       try dsimp only
       repeat ((fail_if_success (with_reducible refine wp_reg (id := 23) ?_)); (first | go_values | go_skip | go_step | go_guarded | go_upon | go_in | go_back | fail))
       with_reducible refine wp_reg (id := 23) ?_
       iterate 8
        refine wpO_want rfl ?_
        go_simp
       clear c0 hself
       refine wpO_done ?_
       try go_frame
       go_wp2_with fail
       have h1 := unhide hk2
       refine ⟨nc - (k + 1), ?_,by have := unhide hfk'; omega⟩
       rw [unhide hI9_10]
       exact ⟨k + 1,max mo (nk : Int),(by first | rfl | trivial),(by first | rfl | trivial),(by first | rfl | trivial),(by first | rfl | trivial),(by first | rfl | (show _ = Value.int _ _; go_num) | go_num),(by first | rfl | trivial),by omega,(unhide hfn').symm,unhide hP,rfl⟩
      ·have hil : ¬ (k : Int) < (nc : Int) := by omega
       obtain rfl : mo = nn := by rw [unhide hmk',List.take_of_length_le (by have := unhide hnc'; omega)]; exact unhide hmo
       clear hlt hk hmk' hfk'
       have hmm : (mo == mo) = true := by simp
       try dsimp only
       repeat ((fail_if_success (with_reducible refine wp_reg (id := 21) ?_)); (first | go_values | go_skip | go_step | go_guarded | go_upon | go_in | go_back | fail))
       with_reducible refine wp_reg (id := 21) ?_
       iterate 4
        refine wpO_want rfl ?_
        go_simp
       refine wpO_done ?_
       try go_frame
       try dsimp only
       repeat ((fail_if_success (with_reducible refine wp_reg (id := 24) ?_)); (first | go_values | go_skip | go_step | go_guarded | go_upon | go_in | go_back | fail))
       with_reducible refine wp_reg (id := 24) ?_
       iterate 4
        refine wpO_want rfl ?_
        go_simp
       refine wpO_done ?_
       try go_frame
       go_wp2_with fail
       refine Sp.leaves0 ?_
       exact ⟨_,results_tmp rfl _ _ _,rfl,(unhide hx1).trans (unhide hP).extf⟩
end Go.Proofs.YtmfkkkhddigkfaaGreatDoor
