/- Parts of a proof,laid together. Each part says its own conditions. -/
import Derived.Test.YtmfkkkhddigkfaaGreatDoorP43
import Derived.Test.YtmfkkkhddigkfaaGreatDoorP49
import Derived.Test.YtmfkkkhddigkfaaGreatDoorP50
import Derived.Test.YtmfkkkhddigkfaaGreatDoorP51
import Derived.Test.YtmfkkkhddigkfaaGreatDoorP17
import Derived.Test.YtmfkkkhddigkfaaGreatDoorP25
import Derived.LaidMore
import Derived.Stop.Joined
import Derived.MakeChecks
namespace Go.Proofs.YtmfkkkhddigkfaaGreatDoor
open Go Go.RowKit Go.Shelf
attribute [local go_sem] qUpon lUpon
attribute [local irreducible] wpO wpX wpQL
theorem cliques_toL {V : List (Int × Thing)} {E : List ((Int × Int) × Thing)} (hi : GInv V E) : cliquesR V E = ((cliquesR V E).map fromS).map toL := by
 have h : ∀ K ∈ cliquesR V E,K = toL (fromS K) := fun K hK => by
  have h1 := (mem_cliques.1 hK).1
  refine sorted_ext (l := K) (m := toL (fromS K)) ((sv_map.1 hi.sv).sublist h1) (toL_sorted _) fun x => ?_
  rw [mem_from]
  exact ⟨fun h => ⟨(ids_rng hi (h1.subset h)).1,(ids_rng hi (h1.subset h)).2,h⟩,fun h => h.2.2⟩
 generalize cliquesR V E = l at h
 induction l with
 | nil => rfl
 | cons K l ih => rw [List.map_cons,List.map_cons, ← h K (by simp), ← ih fun K hK => h K (by simp [hK])]
theorem ctf {V : List (Int × Thing)} {E : List ((Int × Int) × Thing)} (hi : GInv V E) : (peoS V E = none ∧ mcS V E = ([],3) ∧ ctS V E = ([],[],3)) ∨ ∃ o l,peoS V E = some o ∧ mcS V E = (l,0) ∧ cliquesR V E = l.map toL ∧ ctS V E = ((treeS l).2.1,(treeS l).2.2,0) ∧ l.length ≤ 1025 ∧ (treeS l).2.1.length = l.length ∧ (treeS l).2.2.length = l.length := by
 cases hpo : peoS V E with
 | none =>
  have h1 : mcS V E = ([],3) := by unfold mcS; rw [hpo]; rfl
  refine .inl ⟨rfl,h1, ?_⟩
  unfold ctS
  rw [h1,if_neg]
  rintro ⟨h,_⟩
  cases h
 | some o =>
  have h1 : mcS V E = ((cliquesR V E).map fromS,0) := by unfold mcS; rw [hpo]; rfl
  have hle := cliques_le hi
  rw [h1] at hle
  have h2 := cliques_toL hi
  obtain ⟨l,hl⟩ : ∃ l,l = (cliquesR V E).map fromS := ⟨_,rfl⟩
  rw [← hl] at h1 h2 hle
  refine .inr ⟨o,l,rfl,h1,h2, ?_,hle, ?_⟩
  ·unfold ctS
   rw [h1]
   by_cases hne : l = []
   ·subst hne; rfl
   ·rw [if_pos ⟨rfl,hne⟩]
  ·by_cases hne : l = []
   ·subst hne; exact ⟨rfl,rfl⟩
   ·obtain ⟨ord,hT,_⟩ := tree_full hne
    exact ⟨hT.lu,hT.ls⟩
set_option maxRecDepth 100000 in
set_option maxHeartbeats 16000000 in
theorem chordalCliqueTree_walk (A : Option Addr) (L : List Ed) (cL : Nat) (w : World) (hL : SlAt encD 5 w A L) (hT : Tab w) :
  Calls Tryz.prog 9 #[.slice A L.length cL] w fun e w' => e = .returned (.bool true) ∧ Ext w w' := by
 have hL' := hide hL
 have hT' := hide hT
 clear hL hT
 have hP := hide (Sp.new w)
 refine callsIn_wide.1 (callsIn_of_wp_marks (n := 0) Tryz.func9 rfl trivial (wpIn_wide.2 ?_))
 simp only [Tryz.ntmps9,List.size_toArray,List.length_cons,List.length_nil,Nat.reduceAdd,Nat.reduceSub,Array.replicate_succ,Array.replicate_zero,List.push_toArray,List.append_toArray,List.nil_append,List.cons_append]
 try dsimp only
 repeat ((fail_if_success (with_reducible refine wp_reg (id := 1) ?_)); (first | go_values | go_skip | go_step | go_guarded | go_upon | go_in | go_back | fail))
 with_reducible refine wp_reg (id := 1) ?_
 refine wpO_want rfl ?_
 go_simp
 refine (known24_any _ ((unhide hT').ext (unhide hP).extf)).mono ?_
 rintro _ y1 ⟨rfl,hxc⟩
 refine ⟨_,rfl, ?_⟩
 replace hP : Hid (Sp w [] w [] [] [] y1) := hide ((unhide hP).ext hxc)
 clear hxc
 refine wpO_want rfl ?_
 go_simp
 refine wpO_done ?_
 try go_frame
 try dsimp only
 repeat ((fail_if_success (with_reducible refine wp_reg (id := 3) ?_)); (first | go_values | go_skip | go_step | go_guarded | go_upon | go_in | go_back | fail))
 with_reducible refine wp_reg (id := 3) ?_
 refine wpO_val rfl (run_move rfl rfl) ?_
 go_frame
 refine wpO_want rfl ?_
 go_simp
 have hca := take_any A L cL 7 y1 ((unhide hL').ext (unhide hP).extf)
 have hi := hide (mdS_inv L)
 refine hca.mono ?_
 clear hca
 generalize mdS L = S at *
 obtain ⟨V,E⟩ := S
 try dsimp only at hi ⊢
 rintro _ y2 ⟨g,bv,be,A1,B1,cA,cB,rfl,hg0,hs0,he0,hxc⟩
 refine ⟨_,rfl, ?_⟩
 replace hP : Hid (Sp w [] w [] [] [] y2) := hide ((unhide hP).ext hxc)
 have hg := hide hg0
 have hsV := hide hs0
 have hsE := hide he0
 obtain ⟨q,hq⟩ : ∃ q,q = decide ((V.length : Int) ≤ 7) := ⟨_,rfl⟩
 rw [← hq]
 have hq' := hide hq
 have hnV := hide hg0.nV
 have hnE := hide hg0.nE
 clear hxc hg0 hs0 he0 hq
 generalize htu0 : Value.tuple _ = tu
 have htu := hide htu0
 clear htu0
 refine wpO_val rfl (run_move rfl rfl) ?_
 go_frame
 refine wpO_val rfl (run_extract (i := 0) (v := .pointer (some ⟨g,0,none⟩)) rfl (unhide htu).symm rfl) ?_
 go_frame
 refine wpO_val rfl (run_extract (i := 1) (v := .agg #[.slice A1 V.length cA, .slice B1 E.length cB]) rfl (unhide htu).symm rfl) ?_
 go_frame
 refine wpO_val rfl (run_extract (i := 2) (v := .bool q) rfl (unhide htu).symm rfl) ?_
 go_frame
 refine (unhide hP).allocT 28 #[.slice none 0 0, .slice none 0 0] rfl (by go_simp) ?_
 intro r4 y3 hQ hxa hga
 replace hP : Hid (Sp w [] w [] [(r4,28, #[.slice none 0 0, .slice none 0 0])] [] y3) := hide hQ
 clear hQ
 try go_frame
 refine wpO_want rfl ?_
 go_simp
 refine (unhide hP).setT 0 #[.slice A1 V.length cA, .slice B1 E.length cB] rfl rfl (fun hb => run_store_row (v := .agg #[.slice A1 V.length cA, .slice B1 E.length cB]) rfl (by rfl) (by rfl) (by simp [go_sem]) hb rfl (fun u hu => by simp [Value.cells] at hu; rcases hu with rfl | rfl <;> rfl)) ?_
 intro y4 hQ hkq
 replace hP : Hid (Sp w [] w [] [(r4,28, #[.slice A1 V.length cA, .slice B1 E.length cB])] [] y4) := hide hQ
 have hxs := hxa.of_new hkq (fun x hx => by rw [List.mem_singleton] at hx; rw [hx]; exact hga)
 clear hQ hkq hxa hga
 try go_frame
 replace hg := hide ((unhide hg).ext (hxs))
 replace hsV := hide ((unhide hsV).ext (hxs))
 replace hsE := hide ((unhide hsE).ext (hxs))
 clear hxs
 refine wpO_want rfl ?_
 go_simp
 refine wpO_done ?_
 try go_frame
 clear htu
 cases q
 ·skip
  go_wp2_with fail
  refine Sp.leaves0 ?_
  exact ⟨_,results_tmp rfl _ _ _,rfl,(unhide hP).extf⟩
 ·skip
  have htl := ctf (unhide hi)
  have href := hide (peo_ref (unhide hi))
  have hV7 := hide (show V.length ≤ 7 by have h := unhide hq'; have := of_decide_eq_true h.symm; omega)
  have hmx := hide (fun (W : World) (hW : IsG W g bv be V E) (hT : Tab W) => maxCliques_any (some ⟨g,0,none⟩) V E W (GL.of hW) hT)
  have hct := hide (fun (W : World) (hW : IsG W g bv be V E) (hT : Tab W) => cliqueTree_any (some ⟨g,0,none⟩) V E W (GL.of hW) hT)
  rcases htl with ⟨hpo,hm1,hc1⟩ | ⟨oo,l,hpo,hm1,hcq,hc1,hle,hlu,hls⟩
  ·skip
   rw [hpo] at href
   rw [hm1] at hmx
   rw [hc1] at hct
   clear hpo hm1 hc1
   try dsimp only
   repeat ((fail_if_success (with_reducible refine wp_reg (id := 6) ?_)); (first | go_values | go_skip | go_step | go_guarded | go_upon | go_in | go_back | fail))
   with_reducible refine wp_reg (id := 6) ?_
   refine wpO_val rfl (run_move rfl rfl) ?_
   go_frame
   refine wpO_want rfl ?_
   go_simp
   have hca := unhide hmx y4 (unhide hg) ((unhide hT').ext (unhide hP).extf)
   unfold McPost at hca
   simp only [List.length_nil] at hca
   refine (hca).mono ?_
   rintro _ y5 ⟨A6,c6,rfl,ho,hxc⟩
   clear hca ho
   refine ⟨_,rfl, ?_⟩
   replace hP : Hid (Sp w [] w [] [(r4,28, #[.slice A1 V.length cA, .slice B1 E.length cB])] [] y5) := hide ((unhide hP).ext hxc)
   replace hg := hide ((unhide hg).ext (hxc))
   replace hsV := hide ((unhide hsV).ext (hxc))
   replace hsE := hide ((unhide hsE).ext (hxc))
   clear hxc
   generalize htu0 : Value.tuple _ = tu
   have htu := hide htu0
   clear htu0
   refine wpO_val rfl (run_move rfl rfl) ?_
   go_frame
   refine wpO_val rfl (run_extract (i := 0) (v := .slice A6 0 c6) rfl (unhide htu).symm rfl) ?_
   go_frame
   refine wpO_val rfl (run_extract (i := 1) (v := .int .i64 3) rfl (unhide htu).symm rfl) ?_
   go_frame
   iterate 2
    refine wpO_want rfl ?_
    go_simp
   refine wpO_done ?_
   try go_frame
   clear htu
   try dsimp only
   repeat ((fail_if_success (with_reducible refine wp_reg (id := 7) ?_)); (first | go_values | go_skip | go_step | go_guarded | go_upon | go_in | go_back | fail))
   with_reducible refine wp_reg (id := 7) ?_
   refine wpO_val rfl (run_move rfl rfl) ?_
   go_frame
   refine wpO_want rfl ?_
   go_simp
   have hca := unhide hct y5 (unhide hg) ((unhide hT').ext (unhide hP).extf)
   unfold CtPost at hca
   simp only [List.length_nil] at hca
   refine (hca).mono ?_
   rintro _ y6 ⟨A8,A9,c8,c9,rfl,hs1,hs2,hxc⟩
   clear hca hs1 hs2
   refine ⟨_,rfl, ?_⟩
   replace hP : Hid (Sp w [] w [] [(r4,28, #[.slice A1 V.length cA, .slice B1 E.length cB])] [] y6) := hide ((unhide hP).ext hxc)
   replace hg := hide ((unhide hg).ext (hxc))
   replace hsV := hide ((unhide hsV).ext (hxc))
   replace hsE := hide ((unhide hsE).ext (hxc))
   clear hxc
   generalize htu0 : Value.tuple _ = tu
   have htu := hide htu0
   clear htu0
   refine wpO_val rfl (run_move rfl rfl) ?_
   go_frame
   refine wpO_val rfl (run_extract (i := 0) (v := .slice A8 0 c8) rfl (unhide htu).symm rfl) ?_
   go_frame
   refine wpO_val rfl (run_extract (i := 1) (v := .slice A9 0 c9) rfl (unhide htu).symm rfl) ?_
   go_frame
   refine wpO_val rfl (run_extract (i := 2) (v := .int .i64 3) rfl (unhide htu).symm rfl) ?_
   go_frame
   iterate 3
    refine wpO_want rfl ?_
    go_simp
   refine wpO_done ?_
   try go_frame
   clear htu
   try dsimp only
   repeat ((fail_if_success (with_reducible refine wp_reg (id := 8) ?_)); (first | go_values | go_skip | go_step | go_guarded | go_upon | go_in | go_back | fail))
   with_reducible refine wp_reg (id := 8) ?_
   have q0 := (unhide hP).cell 0 0 (v := .slice A1 V.length cA) rfl rfl
   have q1 := (unhide hP).cell 0 1 (v := .slice B1 E.length cB) rfl rfl
   have hself := Ext.refl y6
   refine wpO_want rfl ?_
   go_simp
   clear q0 q1 hself
   refine wpO_want rfl ?_
   go_simp
   have hca := OrderR_any A1 B1 V E cA cB y6 (unhide hsV) (unhide hnV) (unhide hsE) (unhide hnE)
   rw [unhide href] at hca
   unfold OrPost at hca
   simp only [Option.getD_none,Option.isSome_none,List.length_nil] at hca
   refine (hca).mono ?_
   rintro _ y7 ⟨Aq,cq,rfl,ho,hxc⟩
   clear hca ho
   refine ⟨_,rfl, ?_⟩
   replace hP : Hid (Sp w [] w [] [(r4,28, #[.slice A1 V.length cA, .slice B1 E.length cB])] [] y7) := hide ((unhide hP).ext hxc)
   replace hg := hide ((unhide hg).ext (hxc))
   replace hsV := hide ((unhide hsV).ext (hxc))
   replace hsE := hide ((unhide hsE).ext (hxc))
   clear hxc
   generalize htu0 : Value.tuple _ = tu
   have htu := hide htu0
   clear htu0
   refine wpO_val rfl (run_move rfl rfl) ?_
   go_frame
   refine wpO_val rfl (run_extract (i := 0) (v := .slice Aq 0 cq) rfl (unhide htu).symm rfl) ?_
   go_frame
   refine wpO_val rfl (run_extract (i := 1) (v := .bool false) rfl (unhide htu).symm rfl) ?_
   go_frame
   iterate 2
    refine wpO_want rfl ?_
    go_simp
   refine wpO_done ?_
   try go_frame
   clear htu
   try dsimp only
   repeat ((fail_if_success (with_reducible refine wp_reg (id := 9) ?_)); (first | go_values | go_skip | go_step | go_guarded | go_upon | go_in | go_back | fail))
   with_reducible refine wp_reg (id := 9) ?_
   iterate 2
    refine wpO_want rfl ?_
    go_simp
   refine wpO_done ?_
   try go_frame
   try dsimp only
   repeat ((fail_if_success (with_reducible refine wp_reg (id := 10) ?_)); (first | go_values | go_skip | go_step | go_guarded | go_upon | go_in | go_back | fail))
   with_reducible refine wp_reg (id := 10) ?_
   iterate 22
    refine wpO_want rfl ?_
    go_simp
   refine wpO_done ?_
   try go_frame
   go_wp2_with fail
   refine Sp.leaves0 ?_
   exact ⟨_,results_tmp rfl _ _ _,rfl,(unhide hP).extf⟩
  ·skip
   rw [hpo] at href
   rw [hm1] at hmx
   rw [hc1] at hct
   obtain ⟨m,hm⟩ : ∃ m,m = l.length := ⟨_,rfl⟩
   obtain ⟨up,hup⟩ : ∃ u,u = (treeS l).2.1 := ⟨_,rfl⟩
   obtain ⟨sh,hsh⟩ : ∃ s,s = (treeS l).2.2 := ⟨_,rfl⟩
   rw [← hup] at hlu hct
   rw [← hsh] at hls hct
   rw [← hm] at hlu hls hle
   have hm' := hide hm
   have hmb := hide hle
   have hmu := hide hlu.symm
   have hms := hide hls.symm
   have htr := hide (fun (A : Option Addr) (c : Nat) (W : World) (hA : SSAt W A (l.map toL)) => treeR_any l A m c W hA hm (by omega))
   rw [← hup, ← hsh] at htr
   have hclq := hide (fun (W : World) (h1 : SlAt encV 3 W A1 V) (h2 : SlAt encE 4 W B1 E) => cliquesR_any A1 B1 V E cA cB W h1 h2 (unhide hnE) (unhide hi) (by have := unhide hV7; omega))
   rw [hcq] at hclq
   obtain ⟨no,hno⟩ : ∃ n,n = oo.length := ⟨_,rfl⟩
   have hno' := hide hno
   clear hm hup hsh hlu hls hle hpo hm1 hc1 hcq hno
   try dsimp only
   repeat ((fail_if_success (with_reducible refine wp_reg (id := 6) ?_)); (first | go_values | go_skip | go_step | go_guarded | go_upon | go_in | go_back | fail))
   with_reducible refine wp_reg (id := 6) ?_
   refine wpO_val rfl (run_move rfl rfl) ?_
   go_frame
   refine wpO_want rfl ?_
   go_simp
   have hca := unhide hmx y4 (unhide hg) ((unhide hT').ext (unhide hP).extf)
   unfold McPost at hca
   dsimp only at hca
   rw [← unhide hm'] at hca
   refine (hca).mono ?_
   rintro _ y5 ⟨A6,c6,rfl,ho,hxc⟩
   have hs6 := hide (show SlAt encS 16 _ A6 l from own_at (enc := encS) (by rw [← unhide hm']; exact ho) (fun _ => rfl))
   clear hca ho
   refine ⟨_,rfl, ?_⟩
   replace hP : Hid (Sp w [] w [] [(r4,28, #[.slice A1 V.length cA, .slice B1 E.length cB])] [] y5) := hide ((unhide hP).ext hxc)
   replace hg := hide ((unhide hg).ext (hxc))
   replace hsV := hide ((unhide hsV).ext (hxc))
   replace hsE := hide ((unhide hsE).ext (hxc))
   clear hxc
   generalize htu0 : Value.tuple _ = tu
   have htu := hide htu0
   clear htu0
   refine wpO_val rfl (run_move rfl rfl) ?_
   go_frame
   refine wpO_val rfl (run_extract (i := 0) (v := .slice A6 m c6) rfl (unhide htu).symm rfl) ?_
   go_frame
   refine wpO_val rfl (run_extract (i := 1) (v := .int .i64 0) rfl (unhide htu).symm rfl) ?_
   go_frame
   iterate 2
    refine wpO_want rfl ?_
    go_simp
   refine wpO_done ?_
   try go_frame
   clear htu
   try dsimp only
   repeat ((fail_if_success (with_reducible refine wp_reg (id := 7) ?_)); (first | go_values | go_skip | go_step | go_guarded | go_upon | go_in | go_back | fail))
   with_reducible refine wp_reg (id := 7) ?_
   refine wpO_val rfl (run_move rfl rfl) ?_
   go_frame
   refine wpO_want rfl ?_
   go_simp
   have hca := unhide hct y5 (unhide hg) ((unhide hT').ext (unhide hP).extf)
   unfold CtPost at hca
   dsimp only at hca
   rw [← unhide hmu, ← unhide hms] at hca
   refine (hca).mono ?_
   rintro _ y6 ⟨A8,A9,c8,c9,rfl,hs1,hs2,hxc⟩
   have hs8 := hide hs1
   have hs9 := hide hs2
   clear hca hs1 hs2
   refine ⟨_,rfl, ?_⟩
   replace hP : Hid (Sp w [] w [] [(r4,28, #[.slice A1 V.length cA, .slice B1 E.length cB])] [] y6) := hide ((unhide hP).ext hxc)
   replace hg := hide ((unhide hg).ext (hxc))
   replace hsV := hide ((unhide hsV).ext (hxc))
   replace hsE := hide ((unhide hsE).ext (hxc))
   replace hs6 := hide ((unhide hs6).ext (hxc))
   clear hxc
   generalize htu0 : Value.tuple _ = tu
   have htu := hide htu0
   clear htu0
   refine wpO_val rfl (run_move rfl rfl) ?_
   go_frame
   refine wpO_val rfl (run_extract (i := 0) (v := .slice A8 m c8) rfl (unhide htu).symm rfl) ?_
   go_frame
   refine wpO_val rfl (run_extract (i := 1) (v := .slice A9 m c9) rfl (unhide htu).symm rfl) ?_
   go_frame
   refine wpO_val rfl (run_extract (i := 2) (v := .int .i64 0) rfl (unhide htu).symm rfl) ?_
   go_frame
   iterate 3
    refine wpO_want rfl ?_
    go_simp
   refine wpO_done ?_
   try go_frame
   clear htu
   try dsimp only
   repeat ((fail_if_success (with_reducible refine wp_reg (id := 8) ?_)); (first | go_values | go_skip | go_step | go_guarded | go_upon | go_in | go_back | fail))
   with_reducible refine wp_reg (id := 8) ?_
   have q0 := (unhide hP).cell 0 0 (v := .slice A1 V.length cA) rfl rfl
   have q1 := (unhide hP).cell 0 1 (v := .slice B1 E.length cB) rfl rfl
   have hself := Ext.refl y6
   refine wpO_want rfl ?_
   go_simp
   clear q0 q1 hself
   refine wpO_want rfl ?_
   go_simp
   have hca := OrderR_any A1 B1 V E cA cB y6 (unhide hsV) (unhide hnV) (unhide hsE) (unhide hnE)
   rw [unhide href] at hca
   unfold OrPost at hca
   simp only [Option.getD_some,Option.isSome_some] at hca
   rw [← unhide hno'] at hca
   refine (hca).mono ?_
   rintro _ y7 ⟨Aq,cq,rfl,ho,hxc⟩
   clear hca ho
   refine ⟨_,rfl, ?_⟩
   replace hP : Hid (Sp w [] w [] [(r4,28, #[.slice A1 V.length cA, .slice B1 E.length cB])] [] y7) := hide ((unhide hP).ext hxc)
   replace hg := hide ((unhide hg).ext (hxc))
   replace hsV := hide ((unhide hsV).ext (hxc))
   replace hsE := hide ((unhide hsE).ext (hxc))
   replace hs6 := hide ((unhide hs6).ext (hxc))
   replace hs8 := hide ((unhide hs8).ext (hxc))
   replace hs9 := hide ((unhide hs9).ext (hxc))
   clear hxc
   generalize htu0 : Value.tuple _ = tu
   have htu := hide htu0
   clear htu0
   refine wpO_val rfl (run_move rfl rfl) ?_
   go_frame
   refine wpO_val rfl (run_extract (i := 0) (v := .slice Aq no cq) rfl (unhide htu).symm rfl) ?_
   go_frame
   refine wpO_val rfl (run_extract (i := 1) (v := .bool true) rfl (unhide htu).symm rfl) ?_
   go_frame
   iterate 2
    refine wpO_want rfl ?_
    go_simp
   refine wpO_done ?_
   try go_frame
   clear htu
   try dsimp only
   repeat ((fail_if_success (with_reducible refine wp_reg (id := 9) ?_)); (first | go_values | go_skip | go_step | go_guarded | go_upon | go_in | go_back | fail))
   with_reducible refine wp_reg (id := 9) ?_
   iterate 2
    refine wpO_want rfl ?_
    go_simp
   refine wpO_done ?_
   try go_frame
   try dsimp only
   repeat ((fail_if_success (with_reducible refine wp_reg (id := 11) ?_)); (first | go_values | go_skip | go_step | go_guarded | go_upon | go_in | go_back | fail))
   with_reducible refine wp_reg (id := 11) ?_
   have q0 := (unhide hP).cell 0 0 (v := .slice A1 V.length cA) rfl rfl
   have q1 := (unhide hP).cell 0 1 (v := .slice B1 E.length cB) rfl rfl
   have hself := Ext.refl y7
   refine wpO_want rfl ?_
   go_simp
   clear q0 q1 hself
   refine wpO_want rfl ?_
   go_simp
   have hca := unhide hclq y7 (unhide hsV) (unhide hsE)
   unfold SsPost at hca
   rw [List.length_map, ← unhide hm'] at hca
   refine (hca).mono ?_
   rintro _ y8 ⟨Ac,cc,rfl,hs0,hxc⟩
   have hsc := hide hs0
   clear hca hs0
   refine ⟨_,rfl, ?_⟩
   replace hP : Hid (Sp w [] w [] [(r4,28, #[.slice A1 V.length cA, .slice B1 E.length cB])] [] y8) := hide ((unhide hP).ext hxc)
   replace hg := hide ((unhide hg).ext (hxc))
   replace hsV := hide ((unhide hsV).ext (hxc))
   replace hsE := hide ((unhide hsE).ext (hxc))
   replace hs6 := hide ((unhide hs6).ext (hxc))
   replace hs8 := hide ((unhide hs8).ext (hxc))
   replace hs9 := hide ((unhide hs9).ext (hxc))
   clear hxc
   refine wpO_want rfl ?_
   go_simp
   refine wpO_done ?_
   try go_frame
   try dsimp only
   repeat ((fail_if_success (with_reducible refine wp_reg (id := 12) ?_)); (first | go_values | go_skip | go_step | go_guarded | go_upon | go_in | go_back | fail))
   with_reducible refine wp_reg (id := 12) ?_
   refine wpO_val rfl (run_move rfl rfl) ?_
   go_frame
   refine wpO_want rfl ?_
   go_simp
   have hca := unhide htr Ac cc y8 (unhide hsc)
   unfold TrPost at hca
   rw [List.length_map, ← unhide hmu, ← unhide hms] at hca
   refine (hca).mono ?_
   rintro _ y9 ⟨At,As,ct,cs,rfl,hs1,hs2,hxc⟩
   have hsu := hide hs1
   have hss := hide hs2
   clear hca hs1 hs2
   refine ⟨_,rfl, ?_⟩
   replace hP : Hid (Sp w [] w [] [(r4,28, #[.slice A1 V.length cA, .slice B1 E.length cB])] [] y9) := hide ((unhide hP).ext hxc)
   replace hg := hide ((unhide hg).ext (hxc))
   replace hsV := hide ((unhide hsV).ext (hxc))
   replace hsE := hide ((unhide hsE).ext (hxc))
   replace hs6 := hide ((unhide hs6).ext (hxc))
   replace hs8 := hide ((unhide hs8).ext (hxc))
   replace hs9 := hide ((unhide hs9).ext (hxc))
   replace hsc := hide ((unhide hsc).ext (hxc))
   clear hxc
   generalize htu0 : Value.tuple _ = tu
   have htu := hide htu0
   clear htu0
   refine wpO_val rfl (run_move rfl rfl) ?_
   go_frame
   refine wpO_val rfl (run_extract (i := 0) (v := .slice At m ct) rfl (unhide htu).symm rfl) ?_
   go_frame
   refine wpO_val rfl (run_extract (i := 1) (v := .slice As m cs) rfl (unhide htu).symm rfl) ?_
   go_frame
   iterate 2
    refine wpO_want rfl ?_
    go_simp
   refine wpO_done ?_
   try go_frame
   clear htu
   try dsimp only
   repeat ((fail_if_success (with_reducible refine wp_reg (id := 13) ?_)); (first | go_values | go_skip | go_step | go_guarded | go_upon | go_in | go_back | fail))
   with_reducible refine wp_reg (id := 13) ?_
   iterate 9
    refine wpO_want rfl ?_
    go_simp
   refine wpO_want rfl ?_
   go_simp
   have hca := rowsQ_any A6 Ac l m c6 cc y9 (unhide hs6) (unhide hsc) (unhide hm') (by have := unhide hmb; omega)
   refine (hca).mono ?_
   rintro _ y10 ⟨rfl,hxc⟩
   clear hca
   refine ⟨_,rfl, ?_⟩
   replace hP : Hid (Sp w [] w [] [(r4,28, #[.slice A1 V.length cA, .slice B1 E.length cB])] [] y10) := hide ((unhide hP).ext hxc)
   replace hg := hide ((unhide hg).ext (hxc))
   replace hsV := hide ((unhide hsV).ext (hxc))
   replace hsE := hide ((unhide hsE).ext (hxc))
   replace hs6 := hide ((unhide hs6).ext (hxc))
   replace hs8 := hide ((unhide hs8).ext (hxc))
   replace hs9 := hide ((unhide hs9).ext (hxc))
   replace hsc := hide ((unhide hsc).ext (hxc))
   replace hsu := hide ((unhide hsu).ext (hxc))
   replace hss := hide ((unhide hss).ext (hxc))
   clear hxc
   iterate 4
    refine wpO_want rfl ?_
    go_simp
   refine wpO_want rfl ?_
   go_simp
   have hca := same_ints A8 At up up m m c8 ct y10 (unhide hs8) (unhide hsu) (unhide hmu) (unhide hmu) (by have := unhide hmb; omega) (by have := unhide hmb; omega)
   rw [decide_eq_true rfl] at hca
   refine (hca).mono ?_
   rintro _ y11 ⟨rfl,hxc⟩
   clear hca
   refine ⟨_,rfl, ?_⟩
   replace hP : Hid (Sp w [] w [] [(r4,28, #[.slice A1 V.length cA, .slice B1 E.length cB])] [] y11) := hide ((unhide hP).ext hxc)
   replace hg := hide ((unhide hg).ext (hxc))
   replace hsV := hide ((unhide hsV).ext (hxc))
   replace hsE := hide ((unhide hsE).ext (hxc))
   replace hs6 := hide ((unhide hs6).ext (hxc))
   replace hs8 := hide ((unhide hs8).ext (hxc))
   replace hs9 := hide ((unhide hs9).ext (hxc))
   replace hsc := hide ((unhide hsc).ext (hxc))
   replace hsu := hide ((unhide hsu).ext (hxc))
   replace hss := hide ((unhide hss).ext (hxc))
   clear hxc
   iterate 4
    refine wpO_want rfl ?_
    go_simp
   refine wpO_want rfl ?_
   go_simp
   have hca := rowsQ_any A9 As sh m c9 cs y11 (unhide hs9) (unhide hss) (unhide hms) (by have := unhide hmb; omega)
   refine (hca).mono ?_
   rintro _ y12 ⟨rfl,hxc⟩
   clear hca
   refine ⟨_,rfl, ?_⟩
   replace hP : Hid (Sp w [] w [] [(r4,28, #[.slice A1 V.length cA, .slice B1 E.length cB])] [] y12) := hide ((unhide hP).ext hxc)
   replace hg := hide ((unhide hg).ext (hxc))
   replace hsV := hide ((unhide hsV).ext (hxc))
   replace hsE := hide ((unhide hsE).ext (hxc))
   replace hs6 := hide ((unhide hs6).ext (hxc))
   replace hs8 := hide ((unhide hs8).ext (hxc))
   replace hs9 := hide ((unhide hs9).ext (hxc))
   replace hsc := hide ((unhide hsc).ext (hxc))
   replace hsu := hide ((unhide hsu).ext (hxc))
   replace hss := hide ((unhide hss).ext (hxc))
   clear hxc
   iterate 2
    refine wpO_want rfl ?_
    go_simp
   refine wpO_done ?_
   try go_frame
   go_wp2_with fail
   refine Sp.leaves0 ?_
   exact ⟨_,results_tmp rfl _ _ _,rfl,(unhide hP).extf⟩
end Go.Proofs.YtmfkkkhddigkfaaGreatDoor
namespace Go.Proofs.YtmfkkkhddigkfaaGreatDoor
open Go Go.RowKit Go.ChangeShapes Go.WideShapes Go.Deep
section
variable {H : Type} {enc : TypeId × Value → H} {w : World} {base : Nat} {spare : Nat → Bool} {held : Bool} {fuel : Nat} {x : DataW H × List MemPlace} {a : Option Addr} {len cap : Nat}
end
theorem gTab : Tryz.prog.globalNamed "math/bits.deBruijn64tab" = some 0 := by kernel_rfl
theorem tTab : (Tryz.prog.globals[0]?).map (·.type) = some 176 := by kernel_rfl
def laidL : List (String × DataW Unit) := [("math/bits.deBruijn64tab",Rows.laid_math_bits_deBruijn64tab)]
theorem laid_list {H : Type} : (Rows.laid_math_bits_deBruijn64tab : DataW H) = .agg (Lib.deBruijn64tab.map fun (n : Nat) => DataW.lit (.int .u8 (n : Int))) := by kernel_rfl
theorem tab_len : Lib.deBruijn64tab.length = 64 := by decide
theorem tab_of_laid {W : World} (h : laidMetH Tryz.prog laidL W) : Tab W := by
 rw [MakeChecks.laidMetH_plain _ _ _ (by kernel_rfl)] at h
 obtain ⟨ps,⟨g0,t0,cs0,f0,p0,q0,hg0,ht0,hv0,hd0,_⟩,_⟩ := h
 obtain rfl := Option.some.inj (gTab.symm.trans hg0)
 obtain rfl := Option.some.inj (tTab.symm.trans ht0)
 obtain ⟨xs,m1,rfl,hx1,hlen,hn3,hel⟩ := DataW.trod_array Tryz.underlying176 hd0
 rw [laid_list] at hx1
 simp only [Prod.mk.injEq,DataW.agg.injEq] at hx1
 have hc8 : Tryz.prog.cellsOf 5 = 1 := by kernel_rfl
 intro j hj
 have hj64 : j < 64 := by rw [tab_len] at hj; exact hj
 have hjx : j < xs.length := by omega
 have h0 := hel j hj64
 rw [List.getElem?_eq_getElem hjx] at h0
 obtain ⟨k,e1,e2,_⟩ := DataW.trod_int Tryz.underlying5 h0
 have hl := congrArg (fun l => l[j]?) hx1.1
 simp only [List.getElem?_map,List.getElem?_eq_getElem hjx,List.getElem?_eq_getElem hj,Option.map_some,e2,Option.some.injEq,DataW.lit.injEq,Lit.int.injEq,true_and] at hl
 rw [World.var?_cell hg0 hv0 j]
 rw [hc8,Nat.mul_one] at e1
 have e3 : (cs0.toList.drop j)[0]? = some (.int .u8 k) := by
  have := congrArg (fun l => l[0]?) e1
  simpa using this
 rw [List.getElem?_drop,Nat.add_zero,Array.getElem?_toList] at e3
 rw [e3, ← hl]
 simp [hj]
end Go.Proofs.YtmfkkkhddigkfaaGreatDoor
