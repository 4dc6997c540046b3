/- Every input makes the law BoundsNilGraph answer true, and each argument reads behind the call as it read before: the given card, tied to the program's text. No condition. -/
import Derived.Test.YtoacpebmhbkmbaaGreatDoorC46
import Derived.Test.YtoacpebmhbkmbaaGreatDoorCards
import Derived.Test.YtoacpebmhbkmbaaGreatDoorTie
import Derived.WalkKit
import Derived.ProofKit
import Derived.OpenShut
import Derived.ShutString
import Derived.ChangeOld
import Derived.Below
import Derived.SevenTiedAt
import Derived.Test.YtoacpebmhbkmbaaGreatDoorC47
namespace Go.Proofs.YtoacpebmhbkmbaaGreatDoor
open Go Go.RowKit Go.Shelf
attribute [local go_sem] qUpon lUpon
attribute [local irreducible] wpO wpX wpQL
theorem n_dgn : dgnP (nr0 []) (toL (vS [])).length (toL (vS [])) = -1 := by kernel_rfl
theorem n_dgl : (degS (nr0 []) (toL (vS [])).length (toL (vS []))).map (·.1) = [] := by kernel_rfl
theorem n_con : (conS (toL (vS [])).length (nr0 []) (toL (vS []))).foldl (fun m p => max m (p.2 : Int)) (-1) = -1 := by kernel_rfl
theorem n_col : outC2 (conS (toL (vS [])).length (nr0 []) (toL (vS []))) = [] := by kernel_rfl
theorem n_ub : ubS [] (nr0 []) (toL (vS [])) = (-1,[]) := by kernel_rfl
theorem n_lb : lbS (nr0 []) (toL (vS [])) = -1 := by kernel_rfl
theorem n_grc : grcL (nr0 []) (toL (vS [])) = [] := by kernel_rfl
theorem n_od : ordS degP (toL (vS [])).length (nr0 []) (toL (vS [])) = [] := by kernel_rfl
theorem n_of : ordS filP (toL (vS [])).length (nr0 []) (toL (vS [])) = [] := by kernel_rfl
theorem n_core (k : Int) : corS (nr0 []) k (toL (vS [])).length (toL (vS [])) = [] := by
 have h : toL (vS []) = [] := by kernel_rfl
 rw [h]; rfl
theorem inv0 : GInv [] [] := mdS_inv []
set_option maxRecDepth 100000 in
set_option maxHeartbeats 16000000 in
theorem boundsNilGraph_walk (k : Int) (w : World) (_hk : i64ok k) (hT : Tab w) :
  Calls Tryz.prog 8 #[.int .i64 k] w fun e w' => e = .returned (.bool true) ∧ Ext w w' := by
 have hT' := hide hT
 clear hT _hk
 have hP := hide (Sp.new w)
 refine callsIn_wide.1 (callsIn_of_wp_marks (n := 0) Tryz.func8 rfl trivial (wpIn_wide.2 ?_))
 simp only [Tryz.ntmps8,List.size_toArray,List.length_cons,List.length_nil,Nat.reduceAdd,Nat.reduceSub,Array.replicate_succ,Array.replicate_zero,List.push_toArray,List.append_toArray,List.nil_append,List.cons_append]
 try dsimp only
 repeat ((fail_if_success (with_reducible refine wp_reg (id := 1) ?_)); (first | go_values | go_skip | go_step | go_guarded | go_upon | go_in | go_back | fail))
 with_reducible refine wp_reg (id := 1) ?_
 refine wpO_want rfl ?_
 go_simp
 have hca := degeneracy_any none [] [] w (GL.nil _) inv0 ((unhide hT').ext (unhide hP).extf)
 rw [n_dgn,n_dgl] at hca
 refine hca.mono ?_
 clear hca
 rintro _ y1 ⟨Ad,cd,rfl,ho,hxc⟩
 refine ⟨_,rfl, ?_⟩
 try simp only [List.length_nil]
 replace hP : Hid (Sp w [] w [] [] [] y1) := hide ((unhide hP).ext hxc)
 clear hxc ho
 generalize htu0 : Value.tuple _ = tu
 have htu := hide htu0
 clear htu0
 refine wpO_val rfl (run_move rfl rfl) ?_
 go_frame
 refine wpO_val rfl (run_extract (i := 0) (v := .int .i64 (-1)) rfl (unhide htu).symm rfl) ?_
 go_frame
 refine wpO_val rfl (run_extract (i := 1) (v := .slice Ad 0 cd) rfl (unhide htu).symm rfl) ?_
 go_frame
 iterate 2
  refine wpO_want rfl ?_
  go_simp
 refine wpO_done ?_
 try go_frame
 clear htu
 try dsimp only
 repeat ((fail_if_success (with_reducible refine wp_reg (id := 2) ?_)); (first | go_values | go_skip | go_step | go_guarded | go_upon | go_in | go_back | fail))
 with_reducible refine wp_reg (id := 2) ?_
 refine wpO_want rfl ?_
 go_simp
 have hca := contraction_any none [] [] y1 (GL.nil _) inv0 ((unhide hT').ext (unhide hP).extf)
 rw [n_con,n_col] at hca
 refine hca.mono ?_
 clear hca
 rintro _ y2 ⟨Ac,cc,rfl,ho,hxc⟩
 refine ⟨_,rfl, ?_⟩
 try simp only [List.length_nil]
 replace hP : Hid (Sp w [] w [] [] [] y2) := hide ((unhide hP).ext hxc)
 clear hxc ho
 generalize htu0 : Value.tuple _ = tu
 have htu := hide htu0
 clear htu0
 refine wpO_val rfl (run_move rfl rfl) ?_
 go_frame
 refine wpO_val rfl (run_extract (i := 0) (v := .int .i64 (-1)) rfl (unhide htu).symm rfl) ?_
 go_frame
 refine wpO_val rfl (run_extract (i := 1) (v := .slice Ac 0 cc) rfl (unhide htu).symm rfl) ?_
 go_frame
 iterate 2
  refine wpO_want rfl ?_
  go_simp
 refine wpO_done ?_
 try go_frame
 clear htu
 try dsimp only
 repeat ((fail_if_success (with_reducible refine wp_reg (id := 3) ?_)); (first | go_values | go_skip | go_step | go_guarded | go_upon | go_in | go_back | fail))
 with_reducible refine wp_reg (id := 3) ?_
 refine wpO_want rfl ?_
 go_simp
 have hca := upper_any none [] [] y2 (GL.nil _) inv0 ((unhide hT').ext (unhide hP).extf)
 rw [n_ub] at hca
 refine hca.mono ?_
 clear hca
 rintro _ y3 ⟨Au,cu,rfl,ho,hxc⟩
 refine ⟨_,rfl, ?_⟩
 try simp only [List.length_nil]
 replace hP : Hid (Sp w [] w [] [] [] y3) := hide ((unhide hP).ext hxc)
 clear hxc ho
 generalize htu0 : Value.tuple _ = tu
 have htu := hide htu0
 clear htu0
 refine wpO_val rfl (run_move rfl rfl) ?_
 go_frame
 refine wpO_val rfl (run_extract (i := 0) (v := .int .i64 (-1)) rfl (unhide htu).symm rfl) ?_
 go_frame
 refine wpO_val rfl (run_extract (i := 1) (v := .slice Au 0 cu) rfl (unhide htu).symm rfl) ?_
 go_frame
 iterate 2
  refine wpO_want rfl ?_
  go_simp
 refine wpO_done ?_
 try go_frame
 clear htu
 try dsimp only
 repeat ((fail_if_success (with_reducible refine wp_reg (id := 4) ?_)); (first | go_values | go_skip | go_step | go_guarded | go_upon | go_in | go_back | fail))
 with_reducible refine wp_reg (id := 4) ?_
 refine wpO_want rfl ?_
 go_simp
 have hca := known22_any y3 ((unhide hT').ext (unhide hP).extf)
 refine (hca).mono ?_
 rintro _ y4 ⟨rfl,hxc⟩
 clear hca
 refine ⟨_,rfl, ?_⟩
 replace hP : Hid (Sp w [] w [] [] [] y4) := hide ((unhide hP).ext hxc)
 clear hxc
 iterate 13
  refine wpO_want rfl ?_
  go_simp
 refine wpO_want rfl ?_
 go_simp
 have hca := lower_any none [] [] y4 (GL.nil _) inv0 ((unhide hT').ext (unhide hP).extf)
 rw [n_lb] at hca
 refine (hca).mono ?_
 rintro _ y5 ⟨rfl,hxc⟩
 clear hca
 refine ⟨_,rfl, ?_⟩
 replace hP : Hid (Sp w [] w [] [] [] y5) := hide ((unhide hP).ext hxc)
 clear hxc
 iterate 18
  refine wpO_want rfl ?_
  go_simp
 refine wpO_want rfl ?_
 go_simp
 have hca := greedy_any none [] [] y5 (GL.nil _) inv0 ((unhide hT').ext (unhide hP).extf)
 rw [n_grc] at hca
 refine hca.mono ?_
 clear hca
 rintro _ y6 ⟨Ag,cg,rfl,ho,hxc⟩
 refine ⟨_,rfl, ?_⟩
 try simp only [List.length_nil]
 replace hP : Hid (Sp w [] w [] [] [] y6) := hide ((unhide hP).ext hxc)
 clear hxc ho
 iterate 4
  refine wpO_want rfl ?_
  go_simp
 refine wpO_want rfl ?_
 go_simp
 have hca := minDegree_any none [] [] y6 (GL.nil _) inv0 ((unhide hT').ext (unhide hP).extf)
 rw [n_od] at hca
 refine hca.mono ?_
 clear hca
 rintro _ y7 ⟨Am,cm,rfl,ho,hxc⟩
 refine ⟨_,rfl, ?_⟩
 try simp only [List.length_nil]
 replace hP : Hid (Sp w [] w [] [] [] y7) := hide ((unhide hP).ext hxc)
 clear hxc ho
 iterate 4
  refine wpO_want rfl ?_
  go_simp
 refine wpO_want rfl ?_
 go_simp
 have hca := minFill_any none [] [] y7 (GL.nil _) inv0 ((unhide hT').ext (unhide hP).extf)
 rw [n_of] at hca
 refine hca.mono ?_
 clear hca
 rintro _ y8 ⟨Af,cf,rfl,ho,hxc⟩
 refine ⟨_,rfl, ?_⟩
 try simp only [List.length_nil]
 replace hP : Hid (Sp w [] w [] [] [] y8) := hide ((unhide hP).ext hxc)
 clear hxc ho
 iterate 5
  refine wpO_want rfl ?_
  go_simp
 refine wpO_want rfl ?_
 go_simp
 have hca := kcore_any none [] [] k y8 (GL.nil _) inv0 ((unhide hT').ext (unhide hP).extf)
 rw [n_core] at hca
 refine hca.mono ?_
 clear hca
 rintro _ y9 ⟨Ak,ck,rfl,ho,hxc⟩
 refine ⟨_,rfl, ?_⟩
 try simp only [List.length_nil]
 replace hP : Hid (Sp w [] w [] [] [] y9) := hide ((unhide hP).ext hxc)
 clear hxc ho
 iterate 4
  refine wpO_want rfl ?_
  go_simp
 refine wpO_done ?_
 try go_frame
 go_wp2_with fail
 refine Sp.leaves0 ?_
 exact ⟨_,results_tmp rfl _ _ _,rfl,(unhide hP).extf⟩
end Go.Proofs.YtoacpebmhbkmbaaGreatDoor
namespace Go.Proofs.YtoacpebmhbkmbaaGreatDoor.boundsNilGraphRow
open Go.ChangeShapes Go.WideShapes Go.ChangeAt Go.RowKit
set_option linter.unusedVariables false
theorem own : ownKnob Tryz.prog.godebug = none := by kernel_rfl
theorem door_met (os : Os) (args : Array Value) : laidMetH Tryz.prog laidL ((World.doorLaid Tryz.prog 400 os).forCall (fun _ _ => 0) ⟨#[],args,[]⟩).memory :=
 laidMetH_of_parts3 (fuel := 8) (laidMet_of_run' 8 (by kernel_rfl) (by kernel_rfl)) (by kernel_rfl) (by kernel_rfl)
set_option maxRecDepth 100000 in
theorem lifted (os : Os) (started : os.Started) (H : Type) (enc : TypeId × Value → H) :
  ReturnsInHanded {} Tryz.checked os 8 .any (fun w args => (Rows.boundsNilGraphSpec.pre enc Tryz.prog Tryz.f8 [] false w args ∧ laidMetH Tryz.prog laidL w) ∧ sizedMet enc Tryz.prog Tryz.f8 (OpenSpec.ofChange Rows.boundsNilGraphSpec) false w args)
   (Rows.boundsNilGraphSpec.post enc Tryz.prog Tryz.f8 false true false false) := by
 refine returnsInHanded_of_change_and (C := Tryz.checked) (X := fun w _ => laidMetH Tryz.prog laidL w) (fun _ _ _ hh h => h.of_heap hh) own started (by kernel_rfl) Tryz.func8
  (ChangeSpec.witness_shaped (enc := enc) (C := Tryz.checked) (os := os) (X := fun w _ => laidMetH Tryz.prog laidL w) false (World.doorLaid Tryz.prog 400 os) #[.int .i64 0] 8 rfl (World.shaped_of_RefB (by kernel_rfl) (by kernel_rfl)) (by kernel_rfl) (by kernel_rfl) (by kernel_rfl) (door_met os _)) ?_
 intro W base args ds gs before hval0 hW _ _ hL _
 have hval : ∀ (j : Nat) t v,Tryz.f8.params[j]? = some t → args[j]? = some v → Value.okWide Tryz.prog W .any base t v := hval0
 have hW' := hW
 obtain ⟨p,q,hA0,hV,rfl,hfz,hnd⟩ := hW
 have hA : DataW.TrodAll enc Tryz.prog W 0 (fun _ => true) true Tryz.f8.params.toList args.toList ds p := hA0
 rw [Tryz.params8] at hA hval
 obtain ⟨v0,vs0,d0,ds0,p0,q0,hargs,rfl,rfl,h0,r0⟩ := trodAll_cons hA
 obtain ⟨rfl,rfl,rfl⟩ := trodAll_nil r0
 obtain rfl : args = #[v0] := by cases args; simp_all
 obtain ⟨rfl,rfl⟩ := trodVars_none hV
 obtain ⟨a0,rfl,rfl,rfl,w0⟩ := open_int Tryz.underlying3 (hval 0 3 v0 rfl rfl) h0
 clear hA0 hval0
 refine (boundsNilGraph_walk a0 W (i64_of_wf w0) (tab_of_laid hL)).mono fun e W' ⟨he,bel⟩ => ?_
 subst he
 exact ⟨_,rfl,_,_,_,[],_,[],hW',trodAll_mk1 (shut_bool Tryz.underlying4 _),(trodAll_cons_mk (shut_int Tryz.underlying3 w0) trodAll_mk0),rfl,bel.frame _,fun h => by cases h⟩
theorem over : Rows.boundsNilGraphRow.holds Tryz.pinned (OpenSpec.ofChange Rows.boundsNilGraphSpec) :=
 OpenClaim.holds_of_wide 8 Tryz.f8 rfl rfl rfl rfl rfl rfl rfl ⟨rfl,rfl,rfl,rfl,rfl⟩ rfl rfl rfl rfl rfl (by kernel_rfl) Tryz.func8 (by kernel_rfl)
  (of_decide_eq_true (by kernel_rfl)) (by unfold Func.isWrapper; first | (rw [if_pos (by decide +kernel)]; kernel_rfl) | (rw [if_neg (by decide +kernel)]; exact ⟨rfl,rfl⟩))
  (fun os started H enc _ => lifted os started H enc)
end Go.Proofs.YtoacpebmhbkmbaaGreatDoor.boundsNilGraphRow
namespace Go.Proofs.YtoacpebmhbkmbaaGreatDoor
open Go
theorem boundsNilGraph_holds : Rows.BoundsNilGraphCardSaid :=
 Claim7.holds_tied_plain_at .later [] [.data] true (true, "82c6bed31ad2c7c2e5153cee67ccc1cbee0e26a323fdf1de3a9a6c1e0005317a") false
  boundsNilGraphRow.over (fun _ h => by cases h) (by kernel_rfl) (fun _ h => by cases h) boundsNilGraph_row_tie rfl ⟨rfl,rfl⟩ (by kernel_rfl) rfl
  (fun f fn hf hfn => by
   obtain rfl : f = 8 := Option.some.inj ((show Tryz.prog.funcNamed "palmette/palmettelaw22.BoundsNilGraph" = some 8 by kernel_rfl).symm.trans hf) |>.symm
   obtain rfl : fn = Tryz.f8 := (Option.some.inj (Tryz.func8.symm.trans hfn)).symm
   exact ⟨by kernel_rfl,fun j t ht => by
    rw [Tryz.params8] at ht
    have h3 : t = 3 := by
     rcases j with _ | j
     ·simp at ht; simp [ht]
     ·simp at ht
    rcases h3 with rfl
    ·exact (show Tryz.prog.wantsStandIn 3 = false by kernel_rfl)⟩)
  (by kernel_rfl)
#print axioms boundsNilGraph_holds
end Go.Proofs.YtoacpebmhbkmbaaGreatDoor
