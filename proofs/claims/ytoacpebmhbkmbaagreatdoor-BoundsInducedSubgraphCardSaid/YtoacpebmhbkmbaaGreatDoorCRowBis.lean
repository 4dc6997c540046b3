/- Every input makes the law BoundsInducedSubgraph answer true, and each argument reads behind the call as it read before: the given card, tied to the program's text. No condition. -/
import Derived.Test.YtoacpebmhbkmbaaGreatDoorC46
import Derived.Test.YtoacpebmhbkmbaaGreatDoorC44
import Derived.Test.YtoacpebmhbkmbaaGreatDoorC14
import Derived.Test.YtoacpebmhbkmbaaGreatDoorC47
import Derived.Test.YtoacpebmhbkmbaaGreatDoorCards
import Derived.Test.YtoacpebmhbkmbaaGreatDoorTie
import Derived.WalkKit
import Derived.ProofKit
import Derived.OpenShut
import Derived.ShutString
import Derived.ChangeOld
import Derived.Below
import Derived.SevenTiedAt
namespace Go.Proofs.YtoacpebmhbkmbaaGreatDoor
open Go Go.RowKit Go.Shelf
attribute [local go_sem] qUpon lUpon
attribute [local irreducible] wpO wpX wpQL
theorem fromS_mem {l : List Int} (hr : ∀ x ∈ l,0 ≤ x ∧ x < 1024) (x : Int) : x ∈ toL (fromS l) ↔ x ∈ l := by
 rw [mem_toL',fromS_bit]
 constructor
 ·rintro ⟨h1,h2,h3⟩
  rw [Bool.and_eq_true,decide_eq_true_eq,decide_eq_true_eq] at h3
  have e : ((x.toNat : Nat) : Int) = x := by omega
  rw [e] at h3
  exact h3.2
 ·intro h
  have := hr x h
  refine ⟨this.1,this.2, ?_⟩
  rw [Bool.and_eq_true,decide_eq_true_eq,decide_eq_true_eq]
  have e : ((x.toNat : Nat) : Int) = x := by omega
  rw [e]
  exact ⟨by omega,h⟩
theorem has_mem {N : Nat} {x : Int} : (fitB x && N.testBit x.toNat) = decide (x ∈ toL N) := by
 rw [Bool.eq_iff_iff,decide_eq_true_eq,mem_toL',Bool.and_eq_true]
 unfold fitB
 rw [Bool.and_eq_true,decide_eq_true_eq,decide_eq_true_eq]
 exact ⟨fun h => ⟨h.1.1,h.1.2,h.2⟩,fun h => ⟨⟨h.1,h.2.1⟩,h.2.2⟩⟩
theorem grc_has {V : List (Int × Thing)} {E : List ((Int × Int) × Thing)} (hi : GInv V E) {v : Int} (hv : v ∈ toL (vS V)) :
  (fitB v && (fromS (grcL (nr0 E) (toL (vS V)))).testBit v.toNat) = subS (withoutS (fromS (grcL (nr0 E) (toL (vS V)))) v) (nearS v E) := by
 have hR := rep_of hi
 have hne : toL (vS V) ≠ [] := List.ne_nil_of_mem hv
 have hcr : ∀ x ∈ grcL (nr0 E) (toL (vS V)),0 ≤ x ∧ x < 1024 := fun x hx => hR.rng x (List.mem_filter.1 hx).1
 have hmax := grc_max hR hne hv
 have hmem : ∀ x,x ∈ grcL (nr0 E) (toL (vS V)) ↔ x ∈ grcS (nr0 E) (toL (vS V)) := fun x => grcL_mem hR hne
 rw [has_mem,Bool.eq_iff_iff,decide_eq_true_eq,subS_iff,fromS_mem hcr,hmem,hmax]
 constructor
 ·intro h x hx
  rw [mem_without,fromS_mem hcr,hmem] at hx
  rw [mem_near hi]
  exact h x hx.1 hx.2
 ·intro h c hc hcv
  have := h c (by rw [mem_without,fromS_mem hcr,hmem]; exact ⟨hc,hcv⟩)
  rw [mem_near hi] at this
  exact this
theorem fromS_nil_iff {V : List (Int × Thing)} {E : List ((Int × Int) × Thing)} (hi : GInv V E) : eqS (fromS (grcL (nr0 E) (toL (vS V)))) 0 = eqS (vS V) 0 := by
 have hR := rep_of hi
 have hcr : ∀ x ∈ grcL (nr0 E) (toL (vS V)),0 ≤ x ∧ x < 1024 := fun x hx => hR.rng x (List.mem_filter.1 hx).1
 rw [Bool.eq_iff_iff,eqS_nil,eqS_nil]
 constructor
 ·intro h
  refine Classical.byContradiction fun hne => ?_
  obtain ⟨x,hx,e⟩ := grcS_in (near := nr0 E) hne
  have h1 : x ∈ grcL (nr0 E) (toL (vS V)) := by rw [grcL_mem hR hne,e]; unfold clqS; simp
  rw [← fromS_mem hcr,h] at h1
  cases h1
 ·intro h
  refine List.eq_nil_iff_forall_not_mem.2 fun x hx => ?_
  rw [fromS_mem hcr] at hx
  have := (List.mem_filter.1 hx).1
  rw [h] at this
  cases this
set_option maxRecDepth 100000 in
set_option maxHeartbeats 16000000 in
theorem boundsInducedSubgraph_walk (A : Option Addr) (L : List Ed) (cL : Nat) (N : Nat) (w : World) (hL : SlAt encD 5 w A L) (hl : L.length ≤ 9223372036854775807) (hc : L.length ≤ cL) (_hN : N < 2 ^ (64 * 16)) (hT : Tab w) :
  Calls Tryz.prog 10 #[.slice A L.length cL, .agg (setC N)] w fun e w' => e = .returned (.bool true) ∧ Ext w w' := by
 have hL' := hide hL
 have hl' := hide hl
 have hc' := hide hc
 have hT' := hide hT
 have hi := hide (show GInv (bgS L).1 (bgS L).2 from mdS_inv (L.take 40))
 clear hL hl hc hT
 have hP := hide (Sp.new w)
 refine callsIn_wide.1 (callsIn_of_wp_marks (n := 0) Tryz.func10 rfl trivial (wpIn_wide.2 ?_))
 simp only [Tryz.ntmps10,List.size_toArray,List.length_cons,List.length_nil,Nat.reduceAdd,Nat.reduceSub,Array.replicate_succ,Array.replicate_zero,List.push_toArray,List.append_toArray,List.nil_append,List.cons_append]
 try dsimp only
 repeat ((fail_if_success (with_reducible refine wp_reg (id := 0) ?_)); (first | go_values | go_skip | go_step | go_guarded | go_upon | go_in | go_back | fail))
 with_reducible refine wp_reg (id := 0) ?_
 refine (unhide hP).allocO 76 (setC N) rfl (run_box (v := .agg (setC N)) rfl rfl) ?_
 intro r3 y1 hQ
 replace hP : Hid (Sp w [] w [] [(r3,76,setC N)] [] y1) := hide hQ
 clear hQ
 refine wpO_want rfl ?_
 go_simp
 refine wpO_done ?_
 try go_frame
 try dsimp only
 repeat ((fail_if_success (with_reducible refine wp_reg (id := 1) ?_)); (first | go_values | go_skip | go_step | go_guarded | go_upon | go_in | go_back | fail))
 with_reducible refine wp_reg (id := 1) ?_
 refine wpO_want rfl ?_
 go_simp
 refine wpO_want rfl ?_
 go_simp
 have hca := begun22_any A L cL y1 ((unhide hL').ext (unhide hP).extf) (unhide hl') (unhide hc')
 generalize bgS L = S at *
 obtain ⟨V,E⟩ := S
 try dsimp only at hi hca ⊢
 refine hca.mono ?_
 clear hca
 rintro _ y2 ⟨g,bv,be,A1,B1,cA,cB,rfl,hg0,hs0,he0,hxc⟩
 refine ⟨_,rfl, ?_⟩
 replace hP : Hid (Sp w [] w [] [(r3,76,setC N)] [] y2) := hide ((unhide hP).ext hxc)
 have hg := hide hg0
 have hsV := hide hs0
 have hsE := hide he0
 obtain ⟨q,hq⟩ : ∃ q,q = decide ((L.length : Int) ≤ 40) := ⟨_,rfl⟩
 rw [← hq]
 have hnV := hide hg0.nV
 have hnE := hide hg0.nE
 clear hxc hg0 hs0 he0 hq
 generalize htu0 : Value.tuple _ = tu
 have htu := hide htu0
 clear htu0
 refine wpO_val rfl (run_move rfl rfl) ?_
 go_frame
 refine wpO_val rfl (run_extract (i := 0) (v := .pointer (some ⟨g,0,none⟩)) rfl (unhide htu).symm rfl) ?_
 go_frame
 refine wpO_val rfl (run_extract (i := 1) (v := .agg #[.slice A1 V.length cA, .slice B1 E.length cB]) rfl (unhide htu).symm rfl) ?_
 go_frame
 refine wpO_val rfl (run_extract (i := 2) (v := .bool q) rfl (unhide htu).symm rfl) ?_
 go_frame
 refine (unhide hP).allocT 41 #[.slice none 0 0, .slice none 0 0] rfl (by go_simp) ?_
 intro r6 y3 hQ hxa hga
 replace hP : Hid (Sp w [] w [] [(r3,76,setC N),(r6,41, #[.slice none 0 0, .slice none 0 0])] [] y3) := hide hQ
 clear hQ
 try go_frame
 refine wpO_want rfl ?_
 go_simp
 refine (unhide hP).setT 1 #[.slice A1 V.length cA, .slice B1 E.length cB] rfl rfl (fun hb => run_store_row (v := .agg #[.slice A1 V.length cA, .slice B1 E.length cB]) rfl (by rfl) (by rfl) (by simp [go_sem]) hb rfl (fun u hu => by simp [Value.cells] at hu; rcases hu with rfl | rfl <;> rfl)) ?_
 intro y4 hQ hkq
 replace hP : Hid (Sp w [] w [] [(r3,76,setC N),(r6,41, #[.slice A1 V.length cA, .slice B1 E.length cB])] [] y4) := hide hQ
 have hxs := hxa.of_new hkq (fun x hx => by rw [List.mem_singleton] at hx; rw [hx]; exact hga)
 clear hQ hkq hxa hga
 try go_frame
 replace hg := hide ((unhide hg).ext (hxs))
 replace hsV := hide ((unhide hsV).ext (hxs))
 replace hsE := hide ((unhide hsE).ext (hxs))
 clear hxs
 refine wpO_want rfl ?_
 go_simp
 refine wpO_done ?_
 try go_frame
 clear htu
 try dsimp only
 repeat ((fail_if_success (with_reducible refine wp_reg (id := 2) ?_)); (first | go_values | go_skip | go_step | go_guarded | go_upon | go_in | go_back | fail))
 with_reducible refine wp_reg (id := 2) ?_
 refine wpO_want rfl ?_
 go_simp
 have hca := known22_any y4 ((unhide hT').ext (unhide hP).extf)
 refine (hca).mono ?_
 rintro _ y5 ⟨rfl,hxc⟩
 clear hca
 refine ⟨_,rfl, ?_⟩
 replace hP : Hid (Sp w [] w [] [(r3,76,setC N),(r6,41, #[.slice A1 V.length cA, .slice B1 E.length cB])] [] y5) := hide ((unhide hP).ext hxc)
 replace hg := hide ((unhide hg).ext (hxc))
 replace hsV := hide ((unhide hsV).ext (hxc))
 replace hsE := hide ((unhide hsE).ext (hxc))
 clear hxc
 cases q
 ·skip
  iterate 5
   refine wpO_want rfl ?_
   go_simp
  refine wpO_done ?_
  try go_frame
  try dsimp only
  repeat ((fail_if_success (with_reducible refine wp_reg (id := 3) ?_)); (first | go_values | go_skip | go_step | go_guarded | go_upon | go_in | go_back | fail))
  with_reducible refine wp_reg (id := 3) ?_
  refine wpO_want rfl ?_
  go_simp
  have hca := known22_any y5 ((unhide hT').ext (unhide hP).extf)
  refine (hca).mono ?_
  rintro _ y6 ⟨rfl,hxc⟩
  clear hca
  refine ⟨_,rfl, ?_⟩
  replace hP : Hid (Sp w [] w [] [(r3,76,setC N),(r6,41, #[.slice A1 V.length cA, .slice B1 E.length cB])] [] y6) := hide ((unhide hP).ext hxc)
  replace hg := hide ((unhide hg).ext (hxc))
  replace hsV := hide ((unhide hsV).ext (hxc))
  replace hsE := hide ((unhide hsE).ext (hxc))
  clear hxc
  refine wpO_want rfl ?_
  go_simp
  refine wpO_done ?_
  try go_frame
  go_wp2_with fail
  refine Sp.leaves0 ?_
  exact ⟨_,results_tmp rfl _ _ _,rfl,(unhide hP).extf⟩
 ·skip
  iterate 5
   refine wpO_want rfl ?_
   go_simp
  refine wpO_done ?_
  try go_frame
  have hds := hide (dgn_sub (unhide hi) N)
  have hch := hide (fun (v : Int) (hv : v ∈ toL (vS V)) => grc_has (unhide hi) hv)
  have hce := hide (fromS_nil_iff (unhide hi))
  have hgle := hide (grcL_le (rep_of (unhide hi)))
  obtain ⟨a,ha⟩ : ∃ a,a = dgnP (nr0 E) (toL (vS V)).length (toL (vS V)) := ⟨_,rfl⟩
  obtain ⟨b,hb⟩ : ∃ b,b = dgnP (nr0 (subE N E)) (toL (vS (subV N V))).length (toL (vS (subV N V))) := ⟨_,rfl⟩
  rw [← ha, ← hb] at hds
  have ha' := hide ha
  have hb' := hide hb
  clear ha hb
  try dsimp only
  repeat ((fail_if_success (with_reducible refine wp_reg (id := 4) ?_)); (first | go_values | go_skip | go_step | go_guarded | go_upon | go_in | go_back | fail))
  with_reducible refine wp_reg (id := 4) ?_
  refine wpO_want rfl ?_
  go_simp
  refine wpO_want rfl ?_
  go_simp
  have hca := degeneracy_any (some ⟨g,0,none⟩) V E y5 (GL.of (unhide hg)) (unhide hi) ((unhide hT').ext (unhide hP).extf)
  rw [← unhide ha'] at hca
  refine hca.mono ?_
  clear hca
  rintro _ y6 ⟨Ad,cd,rfl,_,hxc⟩
  refine ⟨_,rfl, ?_⟩
  replace hP : Hid (Sp w [] w [] [(r3,76,setC N),(r6,41, #[.slice A1 V.length cA, .slice B1 E.length cB])] [] y6) := hide ((unhide hP).ext hxc)
  replace hg := hide ((unhide hg).ext (hxc))
  replace hsV := hide ((unhide hsV).ext (hxc))
  replace hsE := hide ((unhide hsE).ext (hxc))
  clear hxc
  obtain ⟨nd,hnd⟩ : ∃ n,n = ((degS (nr0 E) (toL (vS V)).length (toL (vS V))).map (·.1)).length := ⟨_,rfl⟩
  rw [← hnd]
  clear hnd
  generalize htu0 : Value.tuple _ = tu
  have htu := hide htu0
  clear htu0
  refine wpO_val rfl (run_move rfl rfl) ?_
  go_frame
  refine wpO_val rfl (run_extract (i := 0) (v := .int .i64 a) rfl (unhide htu).symm rfl) ?_
  go_frame
  refine wpO_val rfl (run_extract (i := 1) (v := .slice Ad nd cd) rfl (unhide htu).symm rfl) ?_
  go_frame
  iterate 2
   refine wpO_want rfl ?_
   go_simp
  refine wpO_done ?_
  try go_frame
  clear htu
  try dsimp only
  repeat ((fail_if_success (with_reducible refine wp_reg (id := 5) ?_)); (first | go_values | go_skip | go_step | go_guarded | go_upon | go_in | go_back | fail))
  with_reducible refine wp_reg (id := 5) ?_
  refine wpO_want rfl ?_
  go_simp
  refine wpO_val rfl (load_SetR (N := N) rfl rfl ((unhide hP).get 0 rfl).whole) ?_
  try go_frame
  refine wpO_want rfl ?_
  go_simp
  refine (induced_rel g bv be V E N y6 (unhide hg)).mono ?_
  rintro _ y7 ⟨g2,bv2,be2,rfl,hg20,hxc,_,_,_⟩
  refine ⟨_,rfl, ?_⟩
  replace hP : Hid (Sp w [] w [] [(r3,76,setC N),(r6,41, #[.slice A1 V.length cA, .slice B1 E.length cB])] [] y7) := hide ((unhide hP).ext hxc)
  replace hg := hide ((unhide hg).ext (hxc))
  replace hsV := hide ((unhide hsV).ext (hxc))
  replace hsE := hide ((unhide hsE).ext (hxc))
  have hg2 := hide hg20
  clear hxc hg20
  refine wpO_want rfl ?_
  go_simp
  have hca := degeneracy_any (some ⟨g2,0,none⟩) (subV N V) (subE N E) y7 (GL.of (unhide hg2)) ((unhide hi).sub N) ((unhide hT').ext (unhide hP).extf)
  rw [← unhide hb'] at hca
  refine hca.mono ?_
  clear hca hg2
  rintro _ y8 ⟨Ae,ce,rfl,_,hxc⟩
  refine ⟨_,rfl, ?_⟩
  replace hP : Hid (Sp w [] w [] [(r3,76,setC N),(r6,41, #[.slice A1 V.length cA, .slice B1 E.length cB])] [] y8) := hide ((unhide hP).ext hxc)
  replace hg := hide ((unhide hg).ext (hxc))
  replace hsV := hide ((unhide hsV).ext (hxc))
  replace hsE := hide ((unhide hsE).ext (hxc))
  clear hxc
  obtain ⟨ne,hne⟩ : ∃ n,n = ((degS (nr0 (subE N E)) (toL (vS (subV N V))).length (toL (vS (subV N V)))).map (·.1)).length := ⟨_,rfl⟩
  rw [← hne]
  clear hne
  generalize htu0 : Value.tuple _ = tu
  have htu := hide htu0
  clear htu0
  refine wpO_val rfl (run_move rfl rfl) ?_
  go_frame
  refine wpO_val rfl (run_extract (i := 0) (v := .int .i64 b) rfl (unhide htu).symm rfl) ?_
  go_frame
  refine wpO_val rfl (run_extract (i := 1) (v := .slice Ae ne ce) rfl (unhide htu).symm rfl) ?_
  go_frame
  iterate 2
   refine wpO_want rfl ?_
   go_simp
  refine wpO_done ?_
  try go_frame
  clear htu
  have hil : ¬ b > a := by have := unhide hds; omega
  have hd0 : decide (b > a) = false := decide_eq_false hil
  clear hil
  try dsimp only
  repeat ((fail_if_success (with_reducible refine wp_reg (id := 6) ?_)); (first | go_values | go_skip | go_step | go_guarded | go_upon | go_in | go_back | fail))
  with_reducible refine wp_reg (id := 6) ?_
  iterate 3
   refine wpO_want rfl ?_
   go_simp
  refine wpO_done ?_
  try go_frame
  clear hd0
  obtain ⟨C,hC⟩ : ∃ C,C = grcL (nr0 E) (toL (vS V)) := ⟨_,rfl⟩
  obtain ⟨CN,hCN⟩ : ∃ CN,CN = fromS C := ⟨_,rfl⟩
  rw [← hC] at hgle hch hce
  rw [← hCN] at hch hce
  obtain ⟨nC,hnC⟩ : ∃ nC,nC = C.length := ⟨_,rfl⟩
  rw [← hnC] at hgle
  obtain ⟨L0,hL0⟩ : ∃ L0,L0 = toL (vS V) := ⟨_,rfl⟩
  obtain ⟨nL,hnL⟩ : ∃ nL,nL = L0.length := ⟨_,rfl⟩
  have hlb := hide (show nL ≤ 1024 by rw [hnL,hL0]; exact toL_len_le _)
  have hC' := hide hC
  have hCN' := hide hCN
  have hnC' := hide hnC
  have hL0' := hide hL0
  have hnL' := hide hnL
  clear hC hCN hnC hL0 hnL
  try dsimp only
  repeat ((fail_if_success (with_reducible refine wp_reg (id := 8) ?_)); (first | go_values | go_skip | go_step | go_guarded | go_upon | go_in | go_back | fail))
  with_reducible refine wp_reg (id := 8) ?_
  refine wpO_want rfl ?_
  go_simp
  refine wpO_want rfl ?_
  go_simp
  have hca := greedy_any (some ⟨g,0,none⟩) V E y8 (GL.of (unhide hg)) (unhide hi) ((unhide hT').ext (unhide hP).extf)
  rw [← unhide hC'] at hca
  refine hca.mono ?_
  clear hca
  rintro _ y9 ⟨AC,cC,rfl,ho,hxc⟩
  rw [← unhide hnC'] at ho
  rw [← unhide hnC']
  refine ⟨_,rfl, ?_⟩
  replace hP : Hid (Sp w [] w [] [(r3,76,setC N),(r6,41, #[.slice A1 V.length cA, .slice B1 E.length cB])] [] y9) := hide ((unhide hP).ext hxc)
  replace hg := hide ((unhide hg).ext (hxc))
  replace hsV := hide ((unhide hsV).ext (hxc))
  replace hsE := hide ((unhide hsE).ext (hxc))
  have hsC := hide (own_at (enc := encI) (xs := C) (by rw [unhide hnC'] at ho; exact ho) (fun _ => rfl))
  clear hxc ho
  refine wpO_want rfl ?_
  go_simp
  have hca := of_any AC C cC y9 (unhide hsC) (by rw [← unhide hnC']; have := unhide hgle; omega)
  rw [← unhide hCN', ← unhide hnC'] at hca
  refine (hca).mono ?_
  rintro _ y10 ⟨rfl,hxc⟩
  clear hca hsC
  refine ⟨_,rfl, ?_⟩
  replace hP : Hid (Sp w [] w [] [(r3,76,setC N),(r6,41, #[.slice A1 V.length cA, .slice B1 E.length cB])] [] y10) := hide ((unhide hP).ext hxc)
  replace hg := hide ((unhide hg).ext (hxc))
  replace hsV := hide ((unhide hsV).ext (hxc))
  replace hsE := hide ((unhide hsE).ext (hxc))
  clear hxc
  refine (unhide hP).allocT 76 (setC 0) rfl (run_alloc_set rfl) ?_
  intro r12 y11 hQ hxa hga
  replace hP : Hid (Sp w [] w [] [(r3,76,setC N),(r6,41, #[.slice A1 V.length cA, .slice B1 E.length cB]),(r12,76,setC 0)] [] y11) := hide hQ
  clear hQ
  try go_frame
  refine (unhide hP).setT 2 (setC CN) rfl rfl (fun hb => store_SetR (N := CN) rfl (by rfl) (by rfl) hb) ?_
  intro y12 hQ hkq
  replace hP : Hid (Sp w [] w [] [(r3,76,setC N),(r6,41, #[.slice A1 V.length cA, .slice B1 E.length cB]),(r12,76,setC CN)] [] y12) := hide hQ
  have hxs := hxa.of_new hkq (fun x hx => by rw [List.mem_singleton] at hx; rw [hx]; exact hga)
  clear hQ hkq hxa hga
  try go_frame
  replace hg := hide ((unhide hg).ext (hxs))
  replace hsV := hide ((unhide hsV).ext (hxs))
  replace hsE := hide ((unhide hsE).ext (hxs))
  clear hxs
  refine wpO_done ?_
  try go_frame
  try dsimp only
  repeat ((fail_if_success (with_reducible refine wp_reg (id := 9) ?_)); (first | go_values | go_skip | go_step | go_guarded | go_upon | go_in | go_back | fail))
  with_reducible refine wp_reg (id := 9) ?_
  refine wpO_want rfl ?_
  go_simp
  refine wpO_want rfl ?_
  go_simp
  refine (vsetG (some ⟨g,0,none⟩) V E y12 (GL.of (unhide hg))).mono ?_
  rintro _ y13 ⟨rfl,hxc⟩
  refine ⟨_,rfl, ?_⟩
  replace hP : Hid (Sp w [] w [] [(r3,76,setC N),(r6,41, #[.slice A1 V.length cA, .slice B1 E.length cB]),(r12,76,setC CN)] [] y13) := hide ((unhide hP).ext hxc)
  replace hg := hide ((unhide hg).ext (hxc))
  replace hsV := hide ((unhide hsV).ext (hxc))
  replace hsE := hide ((unhide hsE).ext (hxc))
  clear hxc
  refine wpO_want rfl ?_
  go_simp
  have hca := elements_any (vS V) y13 ((unhide hT').ext (unhide hP).extf)
  rw [← unhide hL0'] at hca
  refine hca.mono ?_
  clear hca
  rintro _ y14 ⟨AL,cLL,rfl,ho,hxc⟩
  rw [← unhide hnL'] at ho
  rw [← unhide hnL']
  refine ⟨_,rfl, ?_⟩
  replace hP : Hid (Sp w [] w [] [(r3,76,setC N),(r6,41, #[.slice A1 V.length cA, .slice B1 E.length cB]),(r12,76,setC CN)] [(3,1, .slice AL nL cLL,nL,L0.flatMap encI)] y14) := hide ((unhide hP).addRow hxc ho)
  replace hg := hide ((unhide hg).ext (hxc))
  replace hsV := hide ((unhide hsV).ext (hxc))
  replace hsE := hide ((unhide hsE).ext (hxc))
  clear hxc ho
  iterate 2
   refine wpO_want rfl ?_
   go_simp
  refine wpO_done ?_
  try go_frame
  go_wp2_with fail
  obtain ⟨I14_4,hI14_40⟩ : ∃ I : Nat → Act → World → Prop,I = fun fi a' wr => ∃ (i : Nat),a'.tmps.size = 79 ∧ a'.tmps.getD 5 undef = .pointer (some ⟨g,0,none⟩) ∧ a'.tmps.getD 12 undef = .pointer (some ⟨r12,0,none⟩) ∧ a'.tmps.getD 49 undef = .slice AL nL cLL ∧ a'.tmps.getD 50 undef = .int .i64 (nL : Nat) ∧ a'.tmps.getD 51 undef = .int .i64 (i : Nat) ∧ a'.defers = [] ∧ i ≤ nL ∧ IsG wr g bv be V E ∧ Sp w [] w [] [(r3,76,setC N),(r6,41, #[.slice A1 V.length cA, .slice B1 E.length cB]),(r12,76,setC CN)] [(3,1, .slice AL nL cLL,nL,L0.flatMap encI)] wr ∧ fi = nL - i := ⟨_,rfl⟩
  have hI14_4 := hide hI14_40
  clear hI14_40
  refine wp_loop_ix I14_4 (nL - 0) ?_ ?_
  ·rw [unhide hI14_4]; exact ⟨0,rfl,rfl,rfl,rfl,rfl,rfl,rfl,Nat.zero_le _,unhide hg,unhide hP,rfl⟩
  ·rintro fi ⟨tm,dfs⟩ wr hrel
   rw [unhide hI14_4] at hrel
   obtain ⟨i,hsz,e5,e12,e49,e50,e51,hdf,hin,hgr,hPr,hfm⟩ := hrel
   obtain ⟨us,rfl⟩ : ∃ us : Nat → Value,tm = #[us 0,us 1,us 2,us 3,us 4,us 5,us 6,us 7,us 8,us 9,us 10,us 11,us 12,us 13,us 14,us 15,us 16,us 17,us 18,us 19,us 20,us 21,us 22,us 23,us 24,us 25,us 26,us 27,us 28,us 29,us 30,us 31,us 32,us 33,us 34,us 35,us 36,us 37,us 38,us 39,us 40,us 41,us 42,us 43,us 44,us 45,us 46,us 47,us 48,us 49,us 50,us 51,us 52,us 53,us 54,us 55,us 56,us 57,us 58,us 59,us 60,us 61,us 62,us 63,us 64,us 65,us 66,us 67,us 68,us 69,us 70,us 71,us 72,us 73,us 74,us 75,us 76,us 77,us 78] := ⟨fun i => tm.getD i undef,arr_fn hsz⟩
   have h5 : us 5 = .pointer (some ⟨g,0,none⟩) := e5
   have h12 : us 12 = .pointer (some ⟨r12,0,none⟩) := e12
   have h49 : us 49 = .slice AL nL cLL := e49
   have h50 : us 50 = .int .i64 (nL : Nat) := e50
   have h51 : us 51 = .int .i64 (i : Nat) := e51
   have hdf2 : dfs = [] := hdf
   subst hdf2
   clear hdf hsz e5 e12 e49 e50 e51
   simp only [h5,h12,h49,h50,h51]
   clear h5 h12 h49 h50 h51
   clear hP hg hsV hsE
   have hP := hide hPr
   have hg := hide hgr
   have hfm' := hide hfm
   clear hPr hgr hfm
   by_cases hlt : i < nL
   ·have hil : (i : Int) < (nL : Int) := by omega
    have hk2 := hide hlt
    have hiL : i < L0.length := by have := unhide hnL'; omega
    have hkb : (i : Int) ≤ 1024 := by have := unhide hlb; omega
    have hrow := (unhide hP).row 0 rfl
    rw [unhide hnL'] at hrow
    obtain ⟨bL,oL,rfl,_⟩ := sl1_some (own_at (enc := encI) (A := AL) (c := cLL) (xs := L0) hrow (fun _ => rfl)) (by omega)
    have c0 := slE (own_at (enc := encI) (A := some ⟨bL,oL,none⟩) (c := cLL) (xs := L0) hrow (fun _ => rfl)) hiL
    have hvc := unhide hch L0[i] (by rw [← unhide hL0']; exact List.getElem_mem _)
    obtain ⟨v,hv⟩ : ∃ v,v = L0[i] := ⟨_,rfl⟩
    rw [← hv] at c0 hvc
    obtain ⟨hb,hhb⟩ : ∃ hb,hb = (fitB v && CN.testBit v.toNat) := ⟨_,rfl⟩
    have hhb' := hide hhb
    obtain ⟨CW,hCW⟩ : ∃ CW,CW = withoutS CN v := ⟨_,rfl⟩
    obtain ⟨NV,hNV⟩ : ∃ NV,NV = nearS v E := ⟨_,rfl⟩
    rw [← hhb, ← hCW, ← hNV] at hvc
    have hvc' := hide hvc
    have hCW' := hide hCW
    have hNV' := hide hNV
    obtain ⟨ee,hee⟩ : ∃ ee,ee = eqS CN 0 := ⟨_,rfl⟩
    have hee' := hide hee
    clear hlt hin hrow hv hvc hhb hCW hNV hee
    have hself := Ext.refl wr
    try dsimp only
    repeat ((fail_if_success (with_reducible refine wp_reg (id := 10) ?_)); (first | go_values | go_skip | go_step | go_guarded | go_upon | go_in | go_back | fail))
    with_reducible refine wp_reg (id := 10) ?_
    refine wpO_want rfl ?_
    go_simp
    refine wpO_done ?_
    try go_frame
    try dsimp only
    repeat ((fail_if_success (with_reducible refine wp_reg (id := 11) ?_)); (first | go_values | go_skip | go_step | go_guarded | go_upon | go_in | go_back | fail))
    with_reducible refine wp_reg (id := 11) ?_
    iterate 3
     refine wpO_want rfl ?_
     go_simp
    clear c0 hself
    refine wpO_done ?_
    try go_frame
    try dsimp only
    repeat ((fail_if_success (with_reducible refine wp_reg (id := 12) ?_)); (first | go_values | go_skip | go_step | go_guarded | go_upon | go_in | go_back | fail))
    with_reducible refine wp_reg (id := 12) ?_
    refine wpO_val rfl (load_SetR (N := CN) rfl rfl ((unhide hP).get 2 rfl).whole) ?_
    try go_frame
    refine wpO_want rfl ?_
    go_simp
    refine wpO_want rfl ?_
    go_simp
    have hca := without_S CN v wr
    rw [← unhide hCW'] at hca
    refine (hca).mono ?_
    rintro _ y15 ⟨rfl,hxc⟩
    clear hca
    refine ⟨_,rfl, ?_⟩
    replace hP : Hid (Sp w [] w [] [(r3,76,setC N),(r6,41, #[.slice A1 V.length cA, .slice B1 E.length cB]),(r12,76,setC CN)] [(3,1, .slice (some ⟨bL,oL,none⟩) nL cLL,nL,L0.flatMap encI)] y15) := hide ((unhide hP).ext hxc)
    replace hg := hide ((unhide hg).ext (hxc))
    clear hxc
    iterate 2
     refine wpO_want rfl ?_
     go_simp
    refine wpO_want rfl ?_
    go_simp
    have hca := nearG (some ⟨g,0,none⟩) V E v y15 (GL.of (unhide hg))
    rw [← unhide hNV'] at hca
    refine (hca).mono ?_
    rintro _ y16 ⟨rfl,hxc⟩
    clear hca
    refine ⟨_,rfl, ?_⟩
    replace hP : Hid (Sp w [] w [] [(r3,76,setC N),(r6,41, #[.slice A1 V.length cA, .slice B1 E.length cB]),(r12,76,setC CN)] [(3,1, .slice (some ⟨bL,oL,none⟩) nL cLL,nL,L0.flatMap encI)] y16) := hide ((unhide hP).ext hxc)
    replace hg := hide ((unhide hg).ext (hxc))
    clear hxc
    refine wpO_want rfl ?_
    go_simp
    have hca := sub_any CW NV y16
    rw [← unhide hvc'] at hca
    refine (hca).mono ?_
    rintro _ y17 ⟨rfl,hxc⟩
    clear hca
    refine ⟨_,rfl, ?_⟩
    replace hP : Hid (Sp w [] w [] [(r3,76,setC N),(r6,41, #[.slice A1 V.length cA, .slice B1 E.length cB]),(r12,76,setC CN)] [(3,1, .slice (some ⟨bL,oL,none⟩) nL cLL,nL,L0.flatMap encI)] y17) := hide ((unhide hP).ext hxc)
    replace hg := hide ((unhide hg).ext (hxc))
    clear hxc
    refine wpO_want rfl ?_
    go_simp
    refine wpO_done ?_
    try go_frame
    try dsimp only
    repeat ((fail_if_success (with_reducible refine wp_reg (id := 13) ?_)); (first | go_values | go_skip | go_step | go_guarded | go_upon | go_in | go_back | fail))
    with_reducible refine wp_reg (id := 13) ?_
    refine wpO_val rfl (load_SetR (N := CN) rfl rfl ((unhide hP).get 2 rfl).whole) ?_
    try go_frame
    refine wpO_want rfl ?_
    go_simp
    refine wpO_want rfl ?_
    go_simp
    have hca := has_any CN v y17
    rw [← unhide hhb'] at hca
    refine (hca).mono ?_
    rintro _ y18 ⟨rfl,hxc⟩
    clear hca
    refine ⟨_,rfl, ?_⟩
    replace hP : Hid (Sp w [] w [] [(r3,76,setC N),(r6,41, #[.slice A1 V.length cA, .slice B1 E.length cB]),(r12,76,setC CN)] [(3,1, .slice (some ⟨bL,oL,none⟩) nL cLL,nL,L0.flatMap encI)] y18) := hide ((unhide hP).ext hxc)
    replace hg := hide ((unhide hg).ext (hxc))
    clear hxc
    have hbn : (hb != hb) = false := by cases hb <;> rfl
    iterate 3
     refine wpO_want rfl ?_
     go_simp
    refine wpO_out (by rfl) ?_
    go_frame
    refine wpO_out (by rfl) ?_
    go_frame
    refine wpO_out (by rfl) ?_
    go_frame
    refine wpO_want rfl ?_
    go_simp
    refine wpO_done ?_
    try go_frame
    clear hbn
    have hw1 : IntKind.i64.wrap ((i : Int) + 1) = (i : Int) + 1 := IntWalk.i64_in _ (by omega)
    go_wp2_with fail
    have h3 := unhide hk2
    refine ⟨nL - (i + 1), ?_,by have := unhide hfm'; omega⟩
    rw [unhide hI14_4]
    exact ⟨i + 1,(by first | rfl | trivial),(by first | rfl | trivial),(by first | rfl | trivial),(by first | rfl | trivial),(by first | rfl | trivial),(by first | rfl | (show _ = Value.int _ _; go_num) | go_num),(by first | rfl | trivial),by omega,unhide hg,unhide hP,rfl⟩
   ·have hil : ¬ (i : Int) < (nL : Int) := by omega
    obtain ⟨ee,hee⟩ : ∃ ee,ee = eqS CN 0 := ⟨_,rfl⟩
    have hee' := hide hee
    have hev := hide (show eqS (vS V) 0 = ee by rw [hee]; exact (unhide hce).symm)
    clear hee hlt hin
    try dsimp only
    repeat ((fail_if_success (with_reducible refine wp_reg (id := 10) ?_)); (first | go_values | go_skip | go_step | go_guarded | go_upon | go_in | go_back | fail))
    with_reducible refine wp_reg (id := 10) ?_
    refine wpO_want rfl ?_
    go_simp
    refine wpO_done ?_
    try go_frame
    try dsimp only
    repeat ((fail_if_success (with_reducible refine wp_reg (id := 16) ?_)); (first | go_values | go_skip | go_step | go_guarded | go_upon | go_in | go_back | fail))
    with_reducible refine wp_reg (id := 16) ?_
    refine wpO_val rfl (load_SetR (N := CN) rfl rfl ((unhide hP).get 2 rfl).whole) ?_
    try go_frame
    refine wpO_want rfl ?_
    go_simp
    have hca := empty_any CN wr
    rw [← unhide hee'] at hca
    refine (hca).mono ?_
    rintro _ y15 ⟨rfl,hxc⟩
    clear hca
    refine ⟨_,rfl, ?_⟩
    replace hP : Hid (Sp w [] w [] [(r3,76,setC N),(r6,41, #[.slice A1 V.length cA, .slice B1 E.length cB]),(r12,76,setC CN)] [(3,1, .slice AL nL cLL,nL,L0.flatMap encI)] y15) := hide ((unhide hP).ext hxc)
    replace hg := hide ((unhide hg).ext (hxc))
    clear hxc
    refine wpO_want rfl ?_
    go_simp
    refine wpO_want rfl ?_
    go_simp
    refine (vsetG (some ⟨g,0,none⟩) V E y15 (GL.of (unhide hg))).mono ?_
    rintro _ y16 ⟨rfl,hxc⟩
    refine ⟨_,rfl, ?_⟩
    replace hP : Hid (Sp w [] w [] [(r3,76,setC N),(r6,41, #[.slice A1 V.length cA, .slice B1 E.length cB]),(r12,76,setC CN)] [(3,1, .slice AL nL cLL,nL,L0.flatMap encI)] y16) := hide ((unhide hP).ext hxc)
    replace hg := hide ((unhide hg).ext (hxc))
    clear hxc
    refine wpO_want rfl ?_
    go_simp
    have hca := empty_any (vS V) y16
    rw [unhide hev] at hca
    refine (hca).mono ?_
    rintro _ y17 ⟨rfl,hxc⟩
    clear hca
    refine ⟨_,rfl, ?_⟩
    replace hP : Hid (Sp w [] w [] [(r3,76,setC N),(r6,41, #[.slice A1 V.length cA, .slice B1 E.length cB]),(r12,76,setC CN)] [(3,1, .slice AL nL cLL,nL,L0.flatMap encI)] y17) := hide ((unhide hP).ext hxc)
    replace hg := hide ((unhide hg).ext (hxc))
    clear hxc
    have hbb : (ee == ee) = true := by cases ee <;> rfl
    iterate 2
     refine wpO_want rfl ?_
     go_simp
    refine wpO_done ?_
    try go_frame
    clear hbb
    go_wp2_with fail
    refine Sp.leaves0 ?_
    exact ⟨_,results_tmp rfl _ _ _,rfl,(unhide hP).extf⟩
end Go.Proofs.YtoacpebmhbkmbaaGreatDoor
namespace Go.Proofs.YtoacpebmhbkmbaaGreatDoor.boundsInducedSubgraphRow
open Go.ChangeShapes Go.WideShapes Go.ChangeAt Go.RowKit
set_option linter.unusedVariables false
theorem own : ownKnob Tryz.prog.godebug = none := by kernel_rfl
theorem laidOut : laidOutB Tryz.prog = true := by kernel_rfl
theorem door_met (os : Os) (args : Array Value) : laidMetH Tryz.prog laidL ((World.doorLaid Tryz.prog 400 os).forCall (fun _ _ => 0) ⟨#[],args,[]⟩).memory :=
 laidMetH_of_parts3 (fuel := 8) (laidMet_of_run' 8 (by kernel_rfl) (by kernel_rfl)) (by kernel_rfl) (by kernel_rfl)
set_option maxRecDepth 100000 in
theorem lifted (os : Os) (started : os.Started) (H : Type) (enc : TypeId × Value → H) :
  ReturnsInHanded {} Tryz.checked os 10 .any (fun w args => (Rows.boundsInducedSubgraphSpec.pre enc Tryz.prog Tryz.f10 [] false w args ∧ laidMetH Tryz.prog laidL w) ∧ sizedMet enc Tryz.prog Tryz.f10 (OpenSpec.ofChange Rows.boundsInducedSubgraphSpec) false w args)
   (Rows.boundsInducedSubgraphSpec.post enc Tryz.prog Tryz.f10 false true false false) := by
 refine returnsInHanded_of_change_and (C := Tryz.checked) (X := fun w _ => laidMetH Tryz.prog laidL w) (fun _ _ _ hh h => h.of_heap hh) own started (by kernel_rfl) Tryz.func10
  (ChangeSpec.witness_shaped (enc := enc) (C := Tryz.checked) (os := os) (X := fun w _ => laidMetH Tryz.prog laidL w) false (World.doorLaid Tryz.prog 400 os) #[.slice none 0 0, .agg #[.int .u64 0, .int .u64 0, .int .u64 0, .int .u64 0, .int .u64 0, .int .u64 0, .int .u64 0, .int .u64 0, .int .u64 0, .int .u64 0, .int .u64 0, .int .u64 0, .int .u64 0, .int .u64 0, .int .u64 0, .int .u64 0]] 8 rfl (World.shaped_of_RefB (by kernel_rfl) (by kernel_rfl)) (by kernel_rfl) (by kernel_rfl) (by kernel_rfl) (door_met os _)) ?_
 intro W base args ds gs before hval0 hW _ _ hL _
 have hval : ∀ (j : Nat) t v,Tryz.f10.params[j]? = some t → args[j]? = some v → Value.okWide Tryz.prog W .any base t v := hval0
 have hW' := hW
 obtain ⟨p,q,hA0,hV,rfl,hfz,hnd⟩ := hW
 have hA : DataW.TrodAll enc Tryz.prog W 0 (fun _ => true) true Tryz.f10.params.toList args.toList ds p := hA0
 rw [Tryz.params10] at hA hval
 obtain ⟨v0,vs0,d0,ds0,p0,q0,hargs,rfl,rfl,h0,r0⟩ := trodAll_cons hA
 obtain ⟨v1,vs1,d1,ds1,p1,q1,rfl,rfl,rfl,h1,r1⟩ := trodAll_cons r0
 obtain ⟨rfl,rfl,rfl⟩ := trodAll_nil r1
 obtain rfl : args = #[v0,v1] := by cases args; simp_all
 obtain ⟨rfl,rfl⟩ := trodVars_none hV
 obtain ⟨a0,len0,cap0,rfl⟩ := okWide_slice Tryz.underlying37 (hval 0 37 v0 rfl rfl)
 have k0 := h0
 have lt0 : ∀ x ∈ p0,x.block < W.heap.size := by obtain ⟨m,hm⟩ := k0; exact DataW.trod_lt m _ _ _ hm
 obtain ⟨fu0,hf0⟩ := h0
 obtain ⟨L0,hn0,hs0,ho0,hm0,hz0⟩ := open_edits (by simpa [Value.cells] using hf0)
 subst hn0
 have k1 := h1
 have lt1 : ∀ x ∈ p1,x.block < W.heap.size := by obtain ⟨m,hm⟩ := k1; exact DataW.trod_lt m _ _ _ hm
 obtain ⟨x1,rfl,ho1⟩ := open_set (hval 1 76 v1 rfl rfl) h1
 clear hA0 hval0
 refine (boundsInducedSubgraph_walk a0 L0 cap0 x1 W hs0 hm0 hz0 ho1 (tab_of_laid hL)).mono fun e W' ⟨he,bel⟩ => ?_
 subst he
 exact ⟨_,rfl,_,_,_,[],_,[],hW',trodAll_mk1 (shut_bool Tryz.underlying4 _),(trodAll_cons_mk (Below.trod laidOut (by kernel_rfl) (of_decide_eq_true (by kernel_rfl)) k0 bel lt0) (trodAll_cons_mk (Below.trod laidOut (by kernel_rfl) (of_decide_eq_true (by kernel_rfl)) k1 bel lt1) trodAll_mk0)),rfl,bel.frame _,fun h => by cases h⟩
theorem over : Rows.boundsInducedSubgraphRow.holds Tryz.pinned (OpenSpec.ofChange Rows.boundsInducedSubgraphSpec) :=
 OpenClaim.holds_of_wide 10 Tryz.f10 rfl rfl rfl rfl rfl rfl rfl ⟨rfl,rfl,rfl,rfl,rfl⟩ rfl rfl rfl rfl rfl (by kernel_rfl) Tryz.func10 (by kernel_rfl)
  (of_decide_eq_true (by kernel_rfl)) (by unfold Func.isWrapper; first | (rw [if_pos (by decide +kernel)]; kernel_rfl) | (rw [if_neg (by decide +kernel)]; exact ⟨rfl,rfl⟩))
  (fun os started H enc _ => lifted os started H enc)
end Go.Proofs.YtoacpebmhbkmbaaGreatDoor.boundsInducedSubgraphRow
namespace Go.Proofs.YtoacpebmhbkmbaaGreatDoor
open Go
theorem boundsInducedSubgraph_holds : Rows.BoundsInducedSubgraphCardSaid :=
 Claim7.holds_tied_plain_at .later [] [.data] true (true, "82c6bed31ad2c7c2e5153cee67ccc1cbee0e26a323fdf1de3a9a6c1e0005317a") false
  boundsInducedSubgraphRow.over (fun _ h => by cases h) (by kernel_rfl) (fun _ h => by cases h) boundsInducedSubgraph_row_tie rfl ⟨rfl,rfl⟩ (by kernel_rfl) rfl
  (fun f fn hf hfn => by
   obtain rfl : f = 10 := Option.some.inj ((show Tryz.prog.funcNamed "palmette/palmettelaw22.BoundsInducedSubgraph" = some 10 by kernel_rfl).symm.trans hf) |>.symm
   obtain rfl : fn = Tryz.f10 := (Option.some.inj (Tryz.func10.symm.trans hfn)).symm
   exact ⟨by kernel_rfl,fun j t ht => by
    rw [Tryz.params10] at ht
    have h3 : t = 37 ∨ t = 76 := by
     rcases j with _ | _ | j
     ·simp at ht; simp [ht]
     ·simp at ht; simp [ht]
     ·simp at ht
    rcases h3 with rfl | rfl
    ·exact (show Tryz.prog.wantsStandIn 37 = false by kernel_rfl)
    ·exact (show Tryz.prog.wantsStandIn 76 = false by kernel_rfl)⟩)
  (by kernel_rfl)
#print axioms boundsInducedSubgraph_holds
end Go.Proofs.YtoacpebmhbkmbaaGreatDoor
