/- Every input makes the law IsomorphismRelabel answer true, and each argument reads behind the call as it read before: the given statement. No condition. -/
import Derived.Test.YtbpeemhfjgcnaaaGreatC38
import Derived.Test.YtbpeemhfjgcnaaaGreatC42
import Derived.Test.YtbpeemhfjgcnaaaGreatC24
import Derived.Test.YtbpeemhfjgcnaaaGreatC43
import Derived.WalkKit
import Derived.ProofKit
import Derived.OpenShut
import Derived.ShutString
import Derived.ChangeOld
import Derived.Below
namespace Go.Proofs.YtbpeemhfjgcnaaaGreat
open Go Go.RowKit Go.Shelf
attribute [local go_sem] qUpon lUpon
attribute [local irreducible] wpO wpX wpQL
set_option maxRecDepth 100000 in
set_option maxHeartbeats 16000000 in
theorem isomorphismRelabel_walk (A : Option Addr) (L : List Ed) (cL : Nat) (At : Option Addr) (to : List Int) (cT : Nat) (turn : Int) (w : World) (hL : SlAt encD 5 w A L) (hok : ∀ d ∈ L,okB d) (_hl9 : L.length ≤ 9223372036854775807) (_hc9 : L.length ≤ cL) (hto : SlAt encI 1 w At to) (hok2 : ∀ d ∈ to,i64ok d) (_hl8 : to.length ≤ 9223372036854775807) (_hc8 : to.length ≤ cT) (htn : 0 ≤ turn ∧ turn ≤ 18446744073709551615) :
  Calls Tryz.prog 5 #[.slice A L.length cL, .slice At to.length cT, .int .u64 turn] w fun e w' => e = .returned (.bool true) ∧ Ext w w' := by
 have hL' := hide hL
 have hlb := hide (mdS_lab hok)
 have hto' := hide hto
 have hok2' := hide hok2
 have htn' := hide htn
 obtain ⟨nt,hnt0⟩ : ∃ n,n = to.length := ⟨_,rfl⟩
 rw [← hnt0]
 have hnt := hide hnt0
 clear hto hok2 htn hnt0
 clear hL hok
 have hP := hide (Sp.new w)
 refine callsIn_wide.1 (callsIn_of_wp_marks (n := 0) Tryz.func5 rfl trivial (wpIn_wide.2 ?_))
 simp only [Tryz.ntmps5,List.size_toArray,List.length_cons,List.length_nil,Nat.reduceAdd,Nat.reduceSub,Array.replicate_succ,Array.replicate_zero,List.push_toArray,List.append_toArray,List.nil_append,List.cons_append]
 try dsimp only
 repeat ((fail_if_success (with_reducible refine wp_reg (id := 1) ?_)); (first | go_values | go_skip | go_step | go_guarded | go_upon | go_in | go_back | fail))
 with_reducible refine wp_reg (id := 1) ?_
 refine wpO_want rfl ?_
 go_simp
 have hca := known08_any w
 refine hca.mono ?_
 clear hca
 rintro _ y1 ⟨rfl,hxc⟩
 refine ⟨_,rfl, ?_⟩
 replace hP : Hid (Sp w [] w [] [] [] y1) := hide ((unhide hP).ext hxc)
 clear hxc
 refine wpO_want rfl ?_
 go_simp
 refine wpO_done ?_
 try go_frame
 try dsimp only
 repeat ((fail_if_success (with_reducible refine wp_reg (id := 3) ?_)); (first | go_values | go_skip | go_step | go_guarded | go_upon | go_in | go_back | fail))
 with_reducible refine wp_reg (id := 3) ?_
 refine wpO_want rfl ?_
 go_simp
 refine wpO_want rfl ?_
 go_simp
 have hca := take_any A L cL 30 y1 ((unhide hL').ext (unhide hP).extf)
 have hi := hide (mdS_inv L)
 refine hca.mono ?_
 clear hca
 generalize mdS L = S at *
 obtain ⟨V,E⟩ := S
 try dsimp only at hi hlb ⊢
 rintro _ y2 ⟨g,bv,be,A1,B1,cA,cB,rfl,hg0,hs0,he0,hxc⟩
 refine ⟨_,rfl, ?_⟩
 replace hP : Hid (Sp w [] w [] [] [] y2) := hide ((unhide hP).ext hxc)
 have hg := hide hg0
 have hsV := hide hs0
 have hsE := hide he0
 obtain ⟨q,hq⟩ : ∃ q,q = decide ((V.length : Int) ≤ 30) := ⟨_,rfl⟩
 rw [← hq]
 have hq' := hide hq
 clear hxc hg0 hs0 he0 hq
 generalize htu0 : Value.tuple _ = tu
 have htu := hide htu0
 clear htu0
 refine wpO_val rfl (run_move rfl rfl) ?_
 go_frame
 refine wpO_val rfl (run_extract (i := 0) (v := .pointer (some ⟨g,0,none⟩)) rfl (unhide htu).symm rfl) ?_
 go_frame
 refine wpO_val rfl (run_extract (i := 1) (v := .agg #[.slice A1 V.length cA, .slice B1 E.length cB]) rfl (unhide htu).symm rfl) ?_
 go_frame
 refine wpO_val rfl (run_extract (i := 2) (v := .bool q) rfl (unhide htu).symm rfl) ?_
 go_frame
 refine (unhide hP).allocT 28 #[.slice none 0 0, .slice none 0 0] rfl (by go_simp) ?_
 intro r8 y3 hQ hxa hga
 replace hP : Hid (Sp w [] w [] [(r8,28, #[.slice none 0 0, .slice none 0 0])] [] y3) := hide hQ
 clear hQ
 try go_frame
 refine wpO_want rfl ?_
 go_simp
 refine (unhide hP).setT 0 #[.slice A1 V.length cA, .slice B1 E.length cB] rfl rfl (fun hb => run_store_row (v := .agg #[.slice A1 V.length cA, .slice B1 E.length cB]) rfl (by rfl) (by rfl) (by simp [go_sem]) hb rfl (fun u hu => by simp [Value.cells] at hu; rcases hu with rfl | rfl <;> rfl)) ?_
 intro y4 hQ hkq
 replace hP : Hid (Sp w [] w [] [(r8,28, #[.slice A1 V.length cA, .slice B1 E.length cB])] [] y4) := hide hQ
 have hxs := hxa.of_new hkq (fun x hx => by rw [List.mem_singleton] at hx; rw [hx]; exact hga)
 clear hQ hkq hxa hga
 try go_frame
 replace hg := hide ((unhide hg).ext (hxs))
 replace hsV := hide ((unhide hsV).ext (hxs))
 replace hsE := hide ((unhide hsE).ext (hxs))
 clear hxs
 refine wpO_want rfl ?_
 go_simp
 refine wpO_done ?_
 try go_frame
 clear htu
 cases q
 ·skip
  try dsimp only
  repeat ((fail_if_success (with_reducible refine wp_reg (id := 4) ?_)); (first | go_values | go_skip | go_step | go_guarded | go_upon | go_in | go_back | fail))
  with_reducible refine wp_reg (id := 4) ?_
  iterate 3
   refine wpO_want rfl ?_
   go_simp
  refine wpO_out (by rfl) ?_
  go_frame
  refine wpO_out (by rfl) ?_
  go_frame
  refine wpO_out (by rfl) ?_
  go_frame
  refine wpO_want rfl ?_
  go_simp
  refine wpO_done ?_
  try go_frame
  go_wp2_with fail
  refine Sp.leaves0 ?_
  exact ⟨_,results_tmp (t := 6) rfl _ _ _,rfl,(unhide hP).extf⟩
 ·skip
  have hmo := hide (show V.length ≤ 30 by have h := of_decide_eq_true (unhide hq').symm; omega)
  clear hq'
  by_cases h40 : (40 : Int) < (nt : Int)
  ·skip
   try dsimp only
   repeat ((fail_if_success (with_reducible refine wp_reg (id := 4) ?_)); (first | go_values | go_skip | go_step | go_guarded | go_upon | go_in | go_back | fail))
   with_reducible refine wp_reg (id := 4) ?_
   iterate 7
    refine wpO_want rfl ?_
    go_simp
   refine wpO_done ?_
   try go_frame
   clear h40
   go_wp2_with fail
   refine Sp.leaves0 ?_
   exact ⟨_,results_tmp (t := 6) rfl _ _ _,rfl,(unhide hP).extf⟩
  ·skip
   try dsimp only
   repeat ((fail_if_success (with_reducible refine wp_reg (id := 4) ?_)); (first | go_values | go_skip | go_step | go_guarded | go_upon | go_in | go_back | fail))
   with_reducible refine wp_reg (id := 4) ?_
   iterate 7
    refine wpO_want rfl ?_
    go_simp
   refine wpO_done ?_
   try go_frame
   clear h40
   have hA := hide ((unhide hto').ext (unhide hP).extf)
   try dsimp only
   repeat ((fail_if_success (with_reducible refine wp_reg (id := 6) ?_)); (first | go_values | go_skip | go_step | go_guarded | go_upon | go_in | go_back | fail))
   with_reducible refine wp_reg (id := 6) ?_
   iterate 2
    refine wpO_want rfl ?_
    go_simp
   refine wpO_want rfl ?_
   go_simp
   have hca := relabel_any g bv be V E At to nt cT y4 (unhide hg) (unhide hA) (unhide hnt) (unhide hok2')
   refine hca.mono ?_
   clear hca
   rintro _ y5 (⟨hz0,rfl,hxc⟩ | ⟨hoT0,f,bf1,bf2,V2,E2,hren0,rfl,hgf0,hxc,_,_,_⟩)
   ·skip
    have hz := hide hz0
    obtain ⟨z,hzz0⟩ : ∃ z,z = wrT V to := ⟨_,rfl⟩
    rw [← hzz0] at hz ⊢
    have hzz := hide hzz0
    refine ⟨_,rfl, ?_⟩
    replace hP : Hid (Sp w [] w [] [(r8,28, #[.slice A1 V.length cA, .slice B1 E.length cB])] [] y5) := hide ((unhide hP).ext hxc)
    replace hg := hide ((unhide hg).ext (hxc))
    replace hsV := hide ((unhide hsV).ext (hxc))
    replace hsE := hide ((unhide hsE).ext (hxc))
    replace hA := hide ((unhide hA).ext (hxc))
    clear hxc hz0 hzz0
    generalize htu0 : Value.tuple _ = tu
    have htu := hide htu0
    clear htu0
    refine wpO_val rfl (run_move rfl rfl) ?_
    go_frame
    refine wpO_val rfl (run_extract (i := 0) (v := .pointer none) rfl (unhide htu).symm rfl) ?_
    go_frame
    refine wpO_val rfl (run_extract (i := 1) (v := .int .i64 z) rfl (unhide htu).symm rfl) ?_
    go_frame
    iterate 2
     refine wpO_want rfl ?_
     go_simp
    refine wpO_done ?_
    try go_frame
    clear htu
    have q0 := (unhide hP).cell 0 0 (v := .slice A1 V.length cA) rfl rfl
    have q1 := (unhide hP).cell 0 1 (v := .slice B1 E.length cB) rfl rfl
    have hself := Ext.refl y5
    try dsimp only
    repeat ((fail_if_success (with_reducible refine wp_reg (id := 7) ?_)); (first | go_values | go_skip | go_step | go_guarded | go_upon | go_in | go_back | fail))
    with_reducible refine wp_reg (id := 7) ?_
    iterate 2
     refine wpO_want rfl ?_
     go_simp
    clear q0 q1 hself
    refine wpO_want rfl ?_
    go_simp
    have hca := wrong08_any A1 B1 V V.length cA E.length cB At to nt cT y5 rfl (unhide hA) (unhide hnt) (by have := unhide hmo; omega)
    rw [show wrT V to = z from (unhide hzz).symm] at hca
    refine hca.mono ?_
    clear hca
    rintro _ y6 ⟨rfl,hxc⟩
    refine ⟨_,rfl, ?_⟩
    replace hP : Hid (Sp w [] w [] [(r8,28, #[.slice A1 V.length cA, .slice B1 E.length cB])] [] y6) := hide ((unhide hP).ext hxc)
    replace hg := hide ((unhide hg).ext (hxc))
    replace hsV := hide ((unhide hsV).ext (hxc))
    replace hsE := hide ((unhide hsE).ext (hxc))
    replace hA := hide ((unhide hA).ext (hxc))
    clear hxc
    refine wpO_want rfl ?_
    go_simp
    refine wpO_done ?_
    try go_frame
    have hq1 : ((z : Int) != 0) = true := by simpa using (unhide hz)
    have hq2 : ((z : Int) != z) = false := by simp
    try dsimp only
    repeat ((fail_if_success (with_reducible refine wp_reg (id := 8) ?_)); (first | go_values | go_skip | go_step | go_guarded | go_upon | go_in | go_back | fail))
    with_reducible refine wp_reg (id := 8) ?_
    iterate 2
     refine wpO_want rfl ?_
     go_simp
    refine wpO_done ?_
    try go_frame
    try dsimp only
    repeat ((fail_if_success (with_reducible refine wp_reg (id := 9) ?_)); (first | go_values | go_skip | go_step | go_guarded | go_upon | go_in | go_back | fail))
    with_reducible refine wp_reg (id := 9) ?_
    iterate 7
     refine wpO_want rfl ?_
     go_simp
    refine wpO_done ?_
    try go_frame
    clear hq1 hq2
    have q0 := (unhide hP).cell 0 0 (v := .slice A1 V.length cA) rfl rfl
    have hself := Ext.refl y6
    try dsimp only
    repeat ((fail_if_success (with_reducible refine wp_reg (id := 13) ?_)); (first | go_values | go_skip | go_step | go_guarded | go_upon | go_in | go_back | fail))
    with_reducible refine wp_reg (id := 13) ?_
    iterate 4
     refine wpO_want rfl ?_
     go_simp
    clear q0 hself
    refine wpO_want rfl ?_
    go_simp
    have hca := numbers_any V.length turn y6 (unhide hmo) (unhide htn')
    refine hca.mono ?_
    clear hca
    rintro _ y7 ⟨to2,hnu0,A2,n2,c2,rfl,hn20,ho2,hxc⟩
    have hnu := hide hnu0
    have hn2 := hide hn20
    rw [hn20] at ho2
    have hA2 := hide (own_at (enc := encI) ho2 (fun _ => rfl))
    refine ⟨_,rfl, ?_⟩
    replace hP : Hid (Sp w [] w [] [(r8,28, #[.slice A1 V.length cA, .slice B1 E.length cB])] [] y7) := hide ((unhide hP).ext hxc)
    replace hg := hide ((unhide hg).ext (hxc))
    replace hsV := hide ((unhide hsV).ext (hxc))
    replace hsE := hide ((unhide hsE).ext (hxc))
    replace hA := hide ((unhide hA).ext (hxc))
    clear hxc hnu0 hn20 ho2
    refine wpO_want rfl ?_
    go_simp
    refine wpO_done ?_
    try go_frame
    try dsimp only
    repeat ((fail_if_success (with_reducible refine wp_reg (id := 14) ?_)); (first | go_values | go_skip | go_step | go_guarded | go_upon | go_in | go_back | fail))
    with_reducible refine wp_reg (id := 14) ?_
    iterate 2
     refine wpO_want rfl ?_
     go_simp
    refine wpO_want rfl ?_
    go_simp
    have hca := relabel_any g bv be V E A2 to2 n2 c2 y7 (unhide hg) (unhide hA2) (unhide hn2) (fun x hx => okK (by have := (unhide hnu).2.2 x hx; omega))
    refine hca.mono ?_
    clear hca
    rintro _ y8 (⟨hz9,_⟩ | ⟨hoU0,gy,by1,by2,V3,E3,hre3,rfl,hgy0,hxc,_,_,_⟩)
    ·exact absurd (wrT_ok.2 (unhide hnu).ok) hz9
    have hgy := hide hgy0
    have hoU := hide hoU0
    have hren3 := hide hre3
    refine ⟨_,rfl, ?_⟩
    replace hP : Hid (Sp w [] w [] [(r8,28, #[.slice A1 V.length cA, .slice B1 E.length cB])] [] y8) := hide ((unhide hP).ext hxc)
    replace hg := hide ((unhide hg).ext (hxc))
    replace hsV := hide ((unhide hsV).ext (hxc))
    replace hsE := hide ((unhide hsE).ext (hxc))
    replace hA := hide ((unhide hA).ext (hxc))
    replace hA2 := hide ((unhide hA2).ext (hxc))
    clear hxc hgy0 hoU0 hre3
    generalize htu0 : Value.tuple _ = tu
    have htu := hide htu0
    clear htu0
    refine wpO_val rfl (run_move rfl rfl) ?_
    go_frame
    refine wpO_val rfl (run_extract (i := 0) (v := .pointer (some ⟨gy,0,none⟩)) rfl (unhide htu).symm rfl) ?_
    go_frame
    refine wpO_val rfl (run_extract (i := 1) (v := .int .i64 0) rfl (unhide htu).symm rfl) ?_
    go_frame
    iterate 2
     refine wpO_want rfl ?_
     go_simp
    refine wpO_done ?_
    try go_frame
    clear htu
    go_wp2_with fail
    have q0 := (unhide hP).cell 0 0 (v := .slice A1 V.length cA) rfl rfl
    have q1 := (unhide hP).cell 0 1 (v := .slice B1 E.length cB) rfl rfl
    have q0 := fun (W : World) (hW : Keep [] y8 W) => q0 W (Ext.of_keep0 hW)
    have q1 := fun (W : World) (hW : Keep [] y8 W) => q1 W (Ext.of_keep0 hW)
    have hself := Keep.refl [] y8
    refine wp_regionK (P := Tryz.prog) [] [0,1,2,3,4,5,6,7,9,10] [] 11 #[true,true,true,true,true,true,true,true,false,true,true,false,false,false,false,false,false,false,false,false,false] (by kernel_rfl) (by kernel_rfl) rfl (by rfl) ?_
    iterate 10
     first
     | (refine ql_skip rfl (by rfl) ?_)
     | (refine ql_want (v := ?_) rfl (by rfl) (fun W hW => ?_) ?_; rotate_left; (go_simp; (first | done | rfl)))
     try go_frame
    refine wpQL_nil (fun y9 hxq => ?_)
    have hK := hide (hxq.keep [])
    replace hP : Hid (Sp w [] w [] [(r8,28, #[.slice A1 V.length cA, .slice B1 E.length cB])] [] y9) := hide ((unhide hP).ext hxq)
    replace hg := hide ((unhide hg).ext hxq)
    replace hsV := hide ((unhide hsV).ext hxq)
    replace hsE := hide ((unhide hsE).ext hxq)
    replace hA := hide ((unhide hA).ext hxq)
    replace hA2 := hide ((unhide hA2).ext hxq)
    replace hgy := hide ((unhide hgy).ext hxq)
    clear hxq
    clear q0 q1 hself
    refine lx_one (i := 8) (by kernel_rfl) rfl (by rfl) #[true,true,true,true,true,true,true,true,true,true,true,false,false,false,false,false,false,false,false,false,false] (by rfl) ?_
    go_simp
    have hca := to_rel gy by1 by2 V3 E3 y9 (unhide hgy)
    refine hca.mono ?_
    clear hca
    rintro _ zy10 ⟨A3,cA3,B3,cB3,rfl,hs3,he3,hxc⟩
    have hsV3 := hide hs3
    have hsE3 := hide he3
    refine ⟨_,rfl,(unhide hK).trans (hxc.keep _),fun y10 hxd => ?_⟩
    replace hP : Hid (Sp w [] w [] [(r8,28, #[.slice A1 V.length cA, .slice B1 E.length cB])] [] y10) := hide ((unhide hP).ext (hxc.trans hxd))
    replace hK := hide ((unhide hK).trans ((hxc.trans hxd).keep _))
    replace hg := hide ((unhide hg).ext (hxc.trans hxd))
    replace hsV := hide ((unhide hsV).ext (hxc.trans hxd))
    replace hsE := hide ((unhide hsE).ext (hxc.trans hxd))
    replace hA := hide ((unhide hA).ext (hxc.trans hxd))
    replace hA2 := hide ((unhide hA2).ext (hxc.trans hxd))
    replace hgy := hide ((unhide hgy).ext (hxc.trans hxd))
    replace hsV3 := hide ((unhide hsV3).ext hxd)
    replace hsE3 := hide ((unhide hsE3).ext hxd)
    clear hxc hxd hs3 he3
    try go_frame
    refine lx_one (i := 11) (by kernel_rfl) rfl (by rfl) #[true,true,true,true,true,true,true,true,true,true,true,true,false,false,false,false,false,false,false,false,false] (by rfl) ?_
    go_simp
    have hca := renamed08_any A1 B1 V E V.length E.length cA cB A2 to2 n2 c2 y10 (unhide hsV) (unhide hsE) (unhide hi) rfl rfl (unhide hA2) (unhide hn2) (unhide hoU)
    refine hca.mono ?_
    clear hca
    rintro _ zy11 ⟨V4,E4,A4,cA4,B4,cB4,hre4,rfl,hs4,he4,hxc⟩
    have hsV4 := hide hs4
    have hsE4 := hide he4
    obtain ⟨rfl,rfl⟩ := (unhide hren3).uniq hre4
    clear hre4
    refine ⟨_,rfl,(unhide hK).trans (hxc.keep _),fun y11 hxd => ?_⟩
    replace hP : Hid (Sp w [] w [] [(r8,28, #[.slice A1 V.length cA, .slice B1 E.length cB])] [] y11) := hide ((unhide hP).ext (hxc.trans hxd))
    replace hK := hide ((unhide hK).trans ((hxc.trans hxd).keep _))
    replace hg := hide ((unhide hg).ext (hxc.trans hxd))
    replace hsV := hide ((unhide hsV).ext (hxc.trans hxd))
    replace hsE := hide ((unhide hsE).ext (hxc.trans hxd))
    replace hA := hide ((unhide hA).ext (hxc.trans hxd))
    replace hA2 := hide ((unhide hA2).ext (hxc.trans hxd))
    replace hgy := hide ((unhide hgy).ext (hxc.trans hxd))
    replace hsV3 := hide ((unhide hsV3).ext (hxc.trans hxd))
    replace hsE3 := hide ((unhide hsE3).ext (hxc.trans hxd))
    replace hsV4 := hide ((unhide hsV4).ext hxd)
    replace hsE4 := hide ((unhide hsE4).ext hxd)
    clear hxc hxd hs4 he4
    try go_frame
    have hnV3 := hide (unhide hgy).nV
    have hnE3 := hide (unhide hgy).nE
    refine lx_one (i := 12) (by kernel_rfl) rfl (by rfl) #[true,true,true,true,true,true,true,true,true,true,true,true,true,false,false,false,false,false,false,false,false] (by rfl) ?_
    go_simp
    have hca := same_any A3 B3 A4 B4 V3 V3 E3 E3 cA3 cB3 cA4 cB4 y11 (unhide hsV3) (unhide hsE3) (unhide hsV4) (unhide hsE4) (unhide hnV3) (unhide hnE3)
    simp only [decide_true,Bool.and_self] at hca
    refine hca.mono ?_
    clear hca
    rintro _ zy12 ⟨rfl,hxc⟩
    refine ⟨_,rfl,(unhide hK).trans (hxc.keep _),fun y12 hxd => ?_⟩
    replace hP : Hid (Sp w [] w [] [(r8,28, #[.slice A1 V.length cA, .slice B1 E.length cB])] [] y12) := hide ((unhide hP).ext (hxc.trans hxd))
    replace hK := hide ((unhide hK).trans ((hxc.trans hxd).keep _))
    replace hg := hide ((unhide hg).ext (hxc.trans hxd))
    replace hsV := hide ((unhide hsV).ext (hxc.trans hxd))
    replace hsE := hide ((unhide hsE).ext (hxc.trans hxd))
    replace hA := hide ((unhide hA).ext (hxc.trans hxd))
    replace hA2 := hide ((unhide hA2).ext (hxc.trans hxd))
    replace hgy := hide ((unhide hgy).ext (hxc.trans hxd))
    replace hsV3 := hide ((unhide hsV3).ext (hxc.trans hxd))
    replace hsE3 := hide ((unhide hsE3).ext (hxc.trans hxd))
    replace hsV4 := hide ((unhide hsV4).ext (hxc.trans hxd))
    replace hsE4 := hide ((unhide hsE4).ext (hxc.trans hxd))
    clear hxc hxd
    try go_frame
    clear hsV3 hsE3 hsV4 hsE4 hA2
    have q0 := (unhide hP).cell 0 0 (v := .slice A1 V.length cA) rfl rfl
    have q1 := (unhide hP).cell 0 1 (v := .slice B1 E.length cB) rfl rfl
    have q0 := fun (W : World) (hW : Keep [] y12 W) => q0 W (Ext.of_keep0 hW)
    have q1 := fun (W : World) (hW : Keep [] y12 W) => q1 W (Ext.of_keep0 hW)
    have hself := Keep.refl [] y12
    refine lx_rekeep (unhide hK) [13,14,15,17] [] 4 8 #[true,true,true,true,true,true,true,true,true,true,true,true,true,false,false,false,false,false,false,false,false] #[true,true,true,true,true,true,true,true,true,true,true,true,true,true,true,true,false,true,false,false,false] (by kernel_rfl) rfl (by rfl) ?_
    clear hK
    iterate 4
     first
     | (refine ql_skip rfl (by rfl) ?_)
     | (refine ql_want (v := ?_) rfl (by rfl) (fun W hW => ?_) ?_; rotate_left; (go_simp; (first | done | rfl)))
     try go_frame
    refine wpQL_nil (fun y13 hxq => ?_)
    have hK := hide (hxq.keep [])
    replace hP : Hid (Sp w [] w [] [(r8,28, #[.slice A1 V.length cA, .slice B1 E.length cB])] [] y13) := hide ((unhide hP).ext hxq)
    replace hg := hide ((unhide hg).ext hxq)
    replace hsV := hide ((unhide hsV).ext hxq)
    replace hsE := hide ((unhide hsE).ext hxq)
    replace hA := hide ((unhide hA).ext hxq)
    replace hgy := hide ((unhide hgy).ext hxq)
    clear hxq
    clear q0 q1 hself
    refine lx_one (i := 16) (by kernel_rfl) rfl (by rfl) #[true,true,true,true,true,true,true,true,true,true,true,true,true,true,true,true,true,true,false,false,false] (by rfl) ?_
    go_simp
    have hca := to_rel g bv be V E y13 (unhide hg)
    refine hca.mono ?_
    clear hca
    rintro _ zy14 ⟨A5,cA5,B5,cB5,rfl,hs5,he5,hxc⟩
    have hsV5 := hide hs5
    have hsE5 := hide he5
    refine ⟨_,rfl,(unhide hK).trans (hxc.keep _),fun y14 hxd => ?_⟩
    replace hP : Hid (Sp w [] w [] [(r8,28, #[.slice A1 V.length cA, .slice B1 E.length cB])] [] y14) := hide ((unhide hP).ext (hxc.trans hxd))
    replace hK := hide ((unhide hK).trans ((hxc.trans hxd).keep _))
    replace hg := hide ((unhide hg).ext (hxc.trans hxd))
    replace hsV := hide ((unhide hsV).ext (hxc.trans hxd))
    replace hsE := hide ((unhide hsE).ext (hxc.trans hxd))
    replace hA := hide ((unhide hA).ext (hxc.trans hxd))
    replace hgy := hide ((unhide hgy).ext (hxc.trans hxd))
    replace hsV5 := hide ((unhide hsV5).ext hxd)
    replace hsE5 := hide ((unhide hsE5).ext hxd)
    clear hxc hxd hs5 he5
    try go_frame
    have hnV5 := hide (unhide hg).nV
    have hnE5 := hide (unhide hg).nE
    refine lx_one (i := 18) (by kernel_rfl) rfl (by rfl) #[true,true,true,true,true,true,true,true,true,true,true,true,true,true,true,true,true,true,true,false,false] (by rfl) ?_
    go_simp
    have hca := same_any A5 B5 A1 B1 V V E E cA5 cB5 cA cB y14 (unhide hsV5) (unhide hsE5) (unhide hsV) (unhide hsE) (unhide hnV5) (unhide hnE5)
    simp only [decide_true,Bool.and_self] at hca
    refine hca.mono ?_
    clear hca
    rintro _ zy15 ⟨rfl,hxc⟩
    refine ⟨_,rfl,(unhide hK).trans (hxc.keep _),fun y15 hxd => ?_⟩
    replace hP : Hid (Sp w [] w [] [(r8,28, #[.slice A1 V.length cA, .slice B1 E.length cB])] [] y15) := hide ((unhide hP).ext (hxc.trans hxd))
    replace hK := hide ((unhide hK).trans ((hxc.trans hxd).keep _))
    replace hg := hide ((unhide hg).ext (hxc.trans hxd))
    replace hsV := hide ((unhide hsV).ext (hxc.trans hxd))
    replace hsE := hide ((unhide hsE).ext (hxc.trans hxd))
    replace hA := hide ((unhide hA).ext (hxc.trans hxd))
    replace hgy := hide ((unhide hgy).ext (hxc.trans hxd))
    replace hsV5 := hide ((unhide hsV5).ext (hxc.trans hxd))
    replace hsE5 := hide ((unhide hsE5).ext (hxc.trans hxd))
    clear hxc hxd
    try go_frame
    refine lx_rekeep (unhide hK) [19,20] [] 0 2 #[true,true,true,true,true,true,true,true,true,true,true,true,true,true,true,true,true,true,true,false,false] #[true,true,true,true,true,true,true,true,true,true,true,true,true,true,true,true,true,true,true,true,true] (by kernel_rfl) rfl (by rfl) ?_
    clear hK
    iterate 2
     first
     | (refine ql_skip rfl (by rfl) ?_)
     | (refine ql_want (v := ?_) rfl (by rfl) (fun W hW => ?_) ?_; rotate_left; (go_simp; (first | done | rfl)))
     try go_frame
    refine wpQL_nil (fun y16 hxq => ?_)
    have hK := hide (hxq.keep [])
    replace hP : Hid (Sp w [] w [] [(r8,28, #[.slice A1 V.length cA, .slice B1 E.length cB])] [] y16) := hide ((unhide hP).ext hxq)
    replace hg := hide ((unhide hg).ext hxq)
    replace hsV := hide ((unhide hsV).ext hxq)
    replace hsE := hide ((unhide hsE).ext hxq)
    replace hA := hide ((unhide hA).ext hxq)
    replace hgy := hide ((unhide hgy).ext hxq)
    replace hsV5 := hide ((unhide hsV5).ext hxq)
    replace hsE5 := hide ((unhide hsE5).ext hxq)
    clear hxq
    refine wpX_done (by kernel_rfl) ?_
    try go_frame
    clear hK
    go_wp2_with fail
    refine Sp.leaves0 ?_
    exact ⟨_,results_tmp (t := 6) rfl _ _ _,rfl,(unhide hP).extf⟩
   ·skip
    have hoT := hide hoT0
    have hren := hide hren0
    have hgf := hide hgf0
    have hw0 := hide (wrT_ok.2 hoT0)
    refine ⟨_,rfl, ?_⟩
    replace hP : Hid (Sp w [] w [] [(r8,28, #[.slice A1 V.length cA, .slice B1 E.length cB])] [] y5) := hide ((unhide hP).ext hxc)
    replace hg := hide ((unhide hg).ext (hxc))
    replace hsV := hide ((unhide hsV).ext (hxc))
    replace hsE := hide ((unhide hsE).ext (hxc))
    replace hA := hide ((unhide hA).ext (hxc))
    clear hxc hoT0 hren0 hgf0
    generalize htu0 : Value.tuple _ = tu
    have htu := hide htu0
    clear htu0
    refine wpO_val rfl (run_move rfl rfl) ?_
    go_frame
    refine wpO_val rfl (run_extract (i := 0) (v := .pointer (some ⟨f,0,none⟩)) rfl (unhide htu).symm rfl) ?_
    go_frame
    refine wpO_val rfl (run_extract (i := 1) (v := .int .i64 0) rfl (unhide htu).symm rfl) ?_
    go_frame
    iterate 2
     refine wpO_want rfl ?_
     go_simp
    refine wpO_done ?_
    try go_frame
    clear htu
    have q0 := (unhide hP).cell 0 0 (v := .slice A1 V.length cA) rfl rfl
    have q1 := (unhide hP).cell 0 1 (v := .slice B1 E.length cB) rfl rfl
    have hself := Ext.refl y5
    try dsimp only
    repeat ((fail_if_success (with_reducible refine wp_reg (id := 7) ?_)); (first | go_values | go_skip | go_step | go_guarded | go_upon | go_in | go_back | fail))
    with_reducible refine wp_reg (id := 7) ?_
    iterate 2
     refine wpO_want rfl ?_
     go_simp
    clear q0 q1 hself
    refine wpO_want rfl ?_
    go_simp
    have hca := wrong08_any A1 B1 V V.length cA E.length cB At to nt cT y5 rfl (unhide hA) (unhide hnt) (by have := unhide hmo; omega)
    rw [show wrT V to = 0 from unhide hw0] at hca
    refine hca.mono ?_
    clear hca
    rintro _ y6 ⟨rfl,hxc⟩
    refine ⟨_,rfl, ?_⟩
    replace hP : Hid (Sp w [] w [] [(r8,28, #[.slice A1 V.length cA, .slice B1 E.length cB])] [] y6) := hide ((unhide hP).ext hxc)
    replace hg := hide ((unhide hg).ext (hxc))
    replace hsV := hide ((unhide hsV).ext (hxc))
    replace hsE := hide ((unhide hsE).ext (hxc))
    replace hA := hide ((unhide hA).ext (hxc))
    replace hgf := hide ((unhide hgf).ext (hxc))
    clear hxc
    refine wpO_want rfl ?_
    go_simp
    refine wpO_done ?_
    try go_frame
    try dsimp only
    repeat ((fail_if_success (with_reducible refine wp_reg (id := 8) ?_)); (first | go_values | go_skip | go_step | go_guarded | go_upon | go_in | go_back | fail))
    with_reducible refine wp_reg (id := 8) ?_
    iterate 2
     refine wpO_want rfl ?_
     go_simp
    refine wpO_done ?_
    try go_frame
    go_wp2_with fail
    have q0 := (unhide hP).cell 0 0 (v := .slice A1 V.length cA) rfl rfl
    have q1 := (unhide hP).cell 0 1 (v := .slice B1 E.length cB) rfl rfl
    have q0 := fun (W : World) (hW : Keep [] y6 W) => q0 W (Ext.of_keep0 hW)
    have q1 := fun (W : World) (hW : Keep [] y6 W) => q1 W (Ext.of_keep0 hW)
    have hself := Keep.refl [] y6
    refine wp_regionK (P := Tryz.prog) [] [0,1,2,3,4,5,6,7,9,10] [] 5 #[true,true,true,true,true,true,true,true,false,true,true,false,false,false,false] (by kernel_rfl) (by kernel_rfl) rfl (by rfl) ?_
    iterate 10
     first
     | (refine ql_skip rfl (by rfl) ?_)
     | (refine ql_want (v := ?_) rfl (by rfl) (fun W hW => ?_) ?_; rotate_left; (go_simp; (first | done | rfl)))
     try go_frame
    refine wpQL_nil (fun y7 hxq => ?_)
    have hK := hide (hxq.keep [])
    replace hP : Hid (Sp w [] w [] [(r8,28, #[.slice A1 V.length cA, .slice B1 E.length cB])] [] y7) := hide ((unhide hP).ext hxq)
    replace hg := hide ((unhide hg).ext hxq)
    replace hsV := hide ((unhide hsV).ext hxq)
    replace hsE := hide ((unhide hsE).ext hxq)
    replace hA := hide ((unhide hA).ext hxq)
    replace hgf := hide ((unhide hgf).ext hxq)
    clear hxq
    clear q0 q1 hself
    refine lx_one (i := 8) (by kernel_rfl) rfl (by rfl) #[true,true,true,true,true,true,true,true,true,true,true,false,false,false,false] (by rfl) ?_
    go_simp
    have hca := to_rel f bf1 bf2 V2 E2 y7 (unhide hgf)
    refine hca.mono ?_
    clear hca
    rintro _ zy8 ⟨A3,cA3,B3,cB3,rfl,hs3,he3,hxc⟩
    have hsV3 := hide hs3
    have hsE3 := hide he3
    refine ⟨_,rfl,(unhide hK).trans (hxc.keep _),fun y8 hxd => ?_⟩
    replace hP : Hid (Sp w [] w [] [(r8,28, #[.slice A1 V.length cA, .slice B1 E.length cB])] [] y8) := hide ((unhide hP).ext (hxc.trans hxd))
    replace hK := hide ((unhide hK).trans ((hxc.trans hxd).keep _))
    replace hg := hide ((unhide hg).ext (hxc.trans hxd))
    replace hsV := hide ((unhide hsV).ext (hxc.trans hxd))
    replace hsE := hide ((unhide hsE).ext (hxc.trans hxd))
    replace hA := hide ((unhide hA).ext (hxc.trans hxd))
    replace hgf := hide ((unhide hgf).ext (hxc.trans hxd))
    replace hsV3 := hide ((unhide hsV3).ext hxd)
    replace hsE3 := hide ((unhide hsE3).ext hxd)
    clear hxc hxd hs3 he3
    try go_frame
    refine lx_one (i := 11) (by kernel_rfl) rfl (by rfl) #[true,true,true,true,true,true,true,true,true,true,true,true,false,false,false] (by rfl) ?_
    go_simp
    have hca := renamed08_any A1 B1 V E V.length E.length cA cB At to nt cT y8 (unhide hsV) (unhide hsE) (unhide hi) rfl rfl (unhide hA) (unhide hnt) (unhide hoT)
    refine hca.mono ?_
    clear hca
    rintro _ zy9 ⟨V4,E4,A4,cA4,B4,cB4,hre4,rfl,hs4,he4,hxc⟩
    have hsV4 := hide hs4
    have hsE4 := hide he4
    obtain ⟨rfl,rfl⟩ := (unhide hren).uniq hre4
    clear hre4
    refine ⟨_,rfl,(unhide hK).trans (hxc.keep _),fun y9 hxd => ?_⟩
    replace hP : Hid (Sp w [] w [] [(r8,28, #[.slice A1 V.length cA, .slice B1 E.length cB])] [] y9) := hide ((unhide hP).ext (hxc.trans hxd))
    replace hK := hide ((unhide hK).trans ((hxc.trans hxd).keep _))
    replace hg := hide ((unhide hg).ext (hxc.trans hxd))
    replace hsV := hide ((unhide hsV).ext (hxc.trans hxd))
    replace hsE := hide ((unhide hsE).ext (hxc.trans hxd))
    replace hA := hide ((unhide hA).ext (hxc.trans hxd))
    replace hgf := hide ((unhide hgf).ext (hxc.trans hxd))
    replace hsV3 := hide ((unhide hsV3).ext (hxc.trans hxd))
    replace hsE3 := hide ((unhide hsE3).ext (hxc.trans hxd))
    replace hsV4 := hide ((unhide hsV4).ext hxd)
    replace hsE4 := hide ((unhide hsE4).ext hxd)
    clear hxc hxd hs4 he4
    try go_frame
    have hnV3 := hide (unhide hgf).nV
    have hnE3 := hide (unhide hgf).nE
    refine lx_one (i := 12) (by kernel_rfl) rfl (by rfl) #[true,true,true,true,true,true,true,true,true,true,true,true,true,false,false] (by rfl) ?_
    go_simp
    have hca := same_any A3 B3 A4 B4 V2 V2 E2 E2 cA3 cB3 cA4 cB4 y9 (unhide hsV3) (unhide hsE3) (unhide hsV4) (unhide hsE4) (unhide hnV3) (unhide hnE3)
    simp only [decide_true,Bool.and_self] at hca
    refine hca.mono ?_
    clear hca
    rintro _ zy10 ⟨rfl,hxc⟩
    refine ⟨_,rfl,(unhide hK).trans (hxc.keep _),fun y10 hxd => ?_⟩
    replace hP : Hid (Sp w [] w [] [(r8,28, #[.slice A1 V.length cA, .slice B1 E.length cB])] [] y10) := hide ((unhide hP).ext (hxc.trans hxd))
    replace hK := hide ((unhide hK).trans ((hxc.trans hxd).keep _))
    replace hg := hide ((unhide hg).ext (hxc.trans hxd))
    replace hsV := hide ((unhide hsV).ext (hxc.trans hxd))
    replace hsE := hide ((unhide hsE).ext (hxc.trans hxd))
    replace hA := hide ((unhide hA).ext (hxc.trans hxd))
    replace hgf := hide ((unhide hgf).ext (hxc.trans hxd))
    replace hsV3 := hide ((unhide hsV3).ext (hxc.trans hxd))
    replace hsE3 := hide ((unhide hsE3).ext (hxc.trans hxd))
    replace hsV4 := hide ((unhide hsV4).ext (hxc.trans hxd))
    replace hsE4 := hide ((unhide hsE4).ext (hxc.trans hxd))
    clear hxc hxd
    try go_frame
    clear hsV3 hsE3 hsV4 hsE4 hgf hnV3 hnE3
    refine lx_rekeep (unhide hK) [13,14] [] 0 2 #[true,true,true,true,true,true,true,true,true,true,true,true,true,false,false] #[true,true,true,true,true,true,true,true,true,true,true,true,true,true,true] (by kernel_rfl) rfl (by rfl) ?_
    clear hK
    iterate 2
     first
     | (refine ql_skip rfl (by rfl) ?_)
     | (refine ql_want (v := ?_) rfl (by rfl) (fun W hW => ?_) ?_; rotate_left; (go_simp; (first | done | rfl)))
     try go_frame
    refine wpQL_nil (fun y11 hxq => ?_)
    have hK := hide (hxq.keep [])
    replace hP : Hid (Sp w [] w [] [(r8,28, #[.slice A1 V.length cA, .slice B1 E.length cB])] [] y11) := hide ((unhide hP).ext hxq)
    replace hg := hide ((unhide hg).ext hxq)
    replace hsV := hide ((unhide hsV).ext hxq)
    replace hsE := hide ((unhide hsE).ext hxq)
    replace hA := hide ((unhide hA).ext hxq)
    clear hxq
    refine wpX_done (by kernel_rfl) ?_
    try go_frame
    clear hK
    have q0 := (unhide hP).cell 0 0 (v := .slice A1 V.length cA) rfl rfl
    have hself := Ext.refl y11
    try dsimp only
    repeat ((fail_if_success (with_reducible refine wp_reg (id := 13) ?_)); (first | go_values | go_skip | go_step | go_guarded | go_upon | go_in | go_back | fail))
    with_reducible refine wp_reg (id := 13) ?_
    iterate 4
     refine wpO_want rfl ?_
     go_simp
    clear q0 hself
    refine wpO_want rfl ?_
    go_simp
    have hca := numbers_any V.length turn y11 (unhide hmo) (unhide htn')
    refine hca.mono ?_
    clear hca
    rintro _ y12 ⟨to2,hnu0,A2,n2,c2,rfl,hn20,ho2,hxc⟩
    have hnu := hide hnu0
    have hn2 := hide hn20
    rw [hn20] at ho2
    have hA2 := hide (own_at (enc := encI) ho2 (fun _ => rfl))
    refine ⟨_,rfl, ?_⟩
    replace hP : Hid (Sp w [] w [] [(r8,28, #[.slice A1 V.length cA, .slice B1 E.length cB])] [] y12) := hide ((unhide hP).ext hxc)
    replace hg := hide ((unhide hg).ext (hxc))
    replace hsV := hide ((unhide hsV).ext (hxc))
    replace hsE := hide ((unhide hsE).ext (hxc))
    replace hA := hide ((unhide hA).ext (hxc))
    clear hxc hnu0 hn20 ho2
    refine wpO_want rfl ?_
    go_simp
    refine wpO_done ?_
    try go_frame
    try dsimp only
    repeat ((fail_if_success (with_reducible refine wp_reg (id := 14) ?_)); (first | go_values | go_skip | go_step | go_guarded | go_upon | go_in | go_back | fail))
    with_reducible refine wp_reg (id := 14) ?_
    iterate 2
     refine wpO_want rfl ?_
     go_simp
    refine wpO_want rfl ?_
    go_simp
    have hca := relabel_any g bv be V E A2 to2 n2 c2 y12 (unhide hg) (unhide hA2) (unhide hn2) (fun x hx => okK (by have := (unhide hnu).2.2 x hx; omega))
    refine hca.mono ?_
    clear hca
    rintro _ y13 (⟨hz9,_⟩ | ⟨hoU0,gy,by1,by2,V3,E3,hre3,rfl,hgy0,hxc,_,_,_⟩)
    ·exact absurd (wrT_ok.2 (unhide hnu).ok) hz9
    have hgy := hide hgy0
    have hoU := hide hoU0
    have hren3 := hide hre3
    refine ⟨_,rfl, ?_⟩
    replace hP : Hid (Sp w [] w [] [(r8,28, #[.slice A1 V.length cA, .slice B1 E.length cB])] [] y13) := hide ((unhide hP).ext hxc)
    replace hg := hide ((unhide hg).ext (hxc))
    replace hsV := hide ((unhide hsV).ext (hxc))
    replace hsE := hide ((unhide hsE).ext (hxc))
    replace hA := hide ((unhide hA).ext (hxc))
    replace hA2 := hide ((unhide hA2).ext (hxc))
    clear hxc hgy0 hoU0 hre3
    generalize htu0 : Value.tuple _ = tu
    have htu := hide htu0
    clear htu0
    refine wpO_val rfl (run_move rfl rfl) ?_
    go_frame
    refine wpO_val rfl (run_extract (i := 0) (v := .pointer (some ⟨gy,0,none⟩)) rfl (unhide htu).symm rfl) ?_
    go_frame
    refine wpO_val rfl (run_extract (i := 1) (v := .int .i64 0) rfl (unhide htu).symm rfl) ?_
    go_frame
    iterate 2
     refine wpO_want rfl ?_
     go_simp
    refine wpO_done ?_
    try go_frame
    clear htu
    go_wp2_with fail
    have q0 := (unhide hP).cell 0 0 (v := .slice A1 V.length cA) rfl rfl
    have q1 := (unhide hP).cell 0 1 (v := .slice B1 E.length cB) rfl rfl
    have q0 := fun (W : World) (hW : Keep [] y13 W) => q0 W (Ext.of_keep0 hW)
    have q1 := fun (W : World) (hW : Keep [] y13 W) => q1 W (Ext.of_keep0 hW)
    have hself := Keep.refl [] y13
    refine wp_regionK (P := Tryz.prog) [] [0,1,2,3,4,5,6,7,9,10] [] 11 #[true,true,true,true,true,true,true,true,false,true,true,false,false,false,false,false,false,false,false,false,false] (by kernel_rfl) (by kernel_rfl) rfl (by rfl) ?_
    iterate 10
     first
     | (refine ql_skip rfl (by rfl) ?_)
     | (refine ql_want (v := ?_) rfl (by rfl) (fun W hW => ?_) ?_; rotate_left; (go_simp; (first | done | rfl)))
     try go_frame
    refine wpQL_nil (fun y14 hxq => ?_)
    have hK := hide (hxq.keep [])
    replace hP : Hid (Sp w [] w [] [(r8,28, #[.slice A1 V.length cA, .slice B1 E.length cB])] [] y14) := hide ((unhide hP).ext hxq)
    replace hg := hide ((unhide hg).ext hxq)
    replace hsV := hide ((unhide hsV).ext hxq)
    replace hsE := hide ((unhide hsE).ext hxq)
    replace hA := hide ((unhide hA).ext hxq)
    replace hA2 := hide ((unhide hA2).ext hxq)
    replace hgy := hide ((unhide hgy).ext hxq)
    clear hxq
    clear q0 q1 hself
    refine lx_one (i := 8) (by kernel_rfl) rfl (by rfl) #[true,true,true,true,true,true,true,true,true,true,true,false,false,false,false,false,false,false,false,false,false] (by rfl) ?_
    go_simp
    have hca := to_rel gy by1 by2 V3 E3 y14 (unhide hgy)
    refine hca.mono ?_
    clear hca
    rintro _ zy15 ⟨A3,cA3,B3,cB3,rfl,hs3,he3,hxc⟩
    have hsV3 := hide hs3
    have hsE3 := hide he3
    refine ⟨_,rfl,(unhide hK).trans (hxc.keep _),fun y15 hxd => ?_⟩
    replace hP : Hid (Sp w [] w [] [(r8,28, #[.slice A1 V.length cA, .slice B1 E.length cB])] [] y15) := hide ((unhide hP).ext (hxc.trans hxd))
    replace hK := hide ((unhide hK).trans ((hxc.trans hxd).keep _))
    replace hg := hide ((unhide hg).ext (hxc.trans hxd))
    replace hsV := hide ((unhide hsV).ext (hxc.trans hxd))
    replace hsE := hide ((unhide hsE).ext (hxc.trans hxd))
    replace hA := hide ((unhide hA).ext (hxc.trans hxd))
    replace hA2 := hide ((unhide hA2).ext (hxc.trans hxd))
    replace hgy := hide ((unhide hgy).ext (hxc.trans hxd))
    replace hsV3 := hide ((unhide hsV3).ext hxd)
    replace hsE3 := hide ((unhide hsE3).ext hxd)
    clear hxc hxd hs3 he3
    try go_frame
    refine lx_one (i := 11) (by kernel_rfl) rfl (by rfl) #[true,true,true,true,true,true,true,true,true,true,true,true,false,false,false,false,false,false,false,false,false] (by rfl) ?_
    go_simp
    have hca := renamed08_any A1 B1 V E V.length E.length cA cB A2 to2 n2 c2 y15 (unhide hsV) (unhide hsE) (unhide hi) rfl rfl (unhide hA2) (unhide hn2) (unhide hoU)
    refine hca.mono ?_
    clear hca
    rintro _ zy16 ⟨V4,E4,A4,cA4,B4,cB4,hre4,rfl,hs4,he4,hxc⟩
    have hsV4 := hide hs4
    have hsE4 := hide he4
    obtain ⟨rfl,rfl⟩ := (unhide hren3).uniq hre4
    clear hre4
    refine ⟨_,rfl,(unhide hK).trans (hxc.keep _),fun y16 hxd => ?_⟩
    replace hP : Hid (Sp w [] w [] [(r8,28, #[.slice A1 V.length cA, .slice B1 E.length cB])] [] y16) := hide ((unhide hP).ext (hxc.trans hxd))
    replace hK := hide ((unhide hK).trans ((hxc.trans hxd).keep _))
    replace hg := hide ((unhide hg).ext (hxc.trans hxd))
    replace hsV := hide ((unhide hsV).ext (hxc.trans hxd))
    replace hsE := hide ((unhide hsE).ext (hxc.trans hxd))
    replace hA := hide ((unhide hA).ext (hxc.trans hxd))
    replace hA2 := hide ((unhide hA2).ext (hxc.trans hxd))
    replace hgy := hide ((unhide hgy).ext (hxc.trans hxd))
    replace hsV3 := hide ((unhide hsV3).ext (hxc.trans hxd))
    replace hsE3 := hide ((unhide hsE3).ext (hxc.trans hxd))
    replace hsV4 := hide ((unhide hsV4).ext hxd)
    replace hsE4 := hide ((unhide hsE4).ext hxd)
    clear hxc hxd hs4 he4
    try go_frame
    have hnV3 := hide (unhide hgy).nV
    have hnE3 := hide (unhide hgy).nE
    refine lx_one (i := 12) (by kernel_rfl) rfl (by rfl) #[true,true,true,true,true,true,true,true,true,true,true,true,true,false,false,false,false,false,false,false,false] (by rfl) ?_
    go_simp
    have hca := same_any A3 B3 A4 B4 V3 V3 E3 E3 cA3 cB3 cA4 cB4 y16 (unhide hsV3) (unhide hsE3) (unhide hsV4) (unhide hsE4) (unhide hnV3) (unhide hnE3)
    simp only [decide_true,Bool.and_self] at hca
    refine hca.mono ?_
    clear hca
    rintro _ zy17 ⟨rfl,hxc⟩
    refine ⟨_,rfl,(unhide hK).trans (hxc.keep _),fun y17 hxd => ?_⟩
    replace hP : Hid (Sp w [] w [] [(r8,28, #[.slice A1 V.length cA, .slice B1 E.length cB])] [] y17) := hide ((unhide hP).ext (hxc.trans hxd))
    replace hK := hide ((unhide hK).trans ((hxc.trans hxd).keep _))
    replace hg := hide ((unhide hg).ext (hxc.trans hxd))
    replace hsV := hide ((unhide hsV).ext (hxc.trans hxd))
    replace hsE := hide ((unhide hsE).ext (hxc.trans hxd))
    replace hA := hide ((unhide hA).ext (hxc.trans hxd))
    replace hA2 := hide ((unhide hA2).ext (hxc.trans hxd))
    replace hgy := hide ((unhide hgy).ext (hxc.trans hxd))
    replace hsV3 := hide ((unhide hsV3).ext (hxc.trans hxd))
    replace hsE3 := hide ((unhide hsE3).ext (hxc.trans hxd))
    replace hsV4 := hide ((unhide hsV4).ext (hxc.trans hxd))
    replace hsE4 := hide ((unhide hsE4).ext (hxc.trans hxd))
    clear hxc hxd
    try go_frame
    clear hsV3 hsE3 hsV4 hsE4 hA2
    have q0 := (unhide hP).cell 0 0 (v := .slice A1 V.length cA) rfl rfl
    have q1 := (unhide hP).cell 0 1 (v := .slice B1 E.length cB) rfl rfl
    have q0 := fun (W : World) (hW : Keep [] y17 W) => q0 W (Ext.of_keep0 hW)
    have q1 := fun (W : World) (hW : Keep [] y17 W) => q1 W (Ext.of_keep0 hW)
    have hself := Keep.refl [] y17
    refine lx_rekeep (unhide hK) [13,14,15,17] [] 4 8 #[true,true,true,true,true,true,true,true,true,true,true,true,true,false,false,false,false,false,false,false,false] #[true,true,true,true,true,true,true,true,true,true,true,true,true,true,true,true,false,true,false,false,false] (by kernel_rfl) rfl (by rfl) ?_
    clear hK
    iterate 4
     first
     | (refine ql_skip rfl (by rfl) ?_)
     | (refine ql_want (v := ?_) rfl (by rfl) (fun W hW => ?_) ?_; rotate_left; (go_simp; (first | done | rfl)))
     try go_frame
    refine wpQL_nil (fun y18 hxq => ?_)
    have hK := hide (hxq.keep [])
    replace hP : Hid (Sp w [] w [] [(r8,28, #[.slice A1 V.length cA, .slice B1 E.length cB])] [] y18) := hide ((unhide hP).ext hxq)
    replace hg := hide ((unhide hg).ext hxq)
    replace hsV := hide ((unhide hsV).ext hxq)
    replace hsE := hide ((unhide hsE).ext hxq)
    replace hA := hide ((unhide hA).ext hxq)
    replace hgy := hide ((unhide hgy).ext hxq)
    clear hxq
    clear q0 q1 hself
    refine lx_one (i := 16) (by kernel_rfl) rfl (by rfl) #[true,true,true,true,true,true,true,true,true,true,true,true,true,true,true,true,true,true,false,false,false] (by rfl) ?_
    go_simp
    have hca := to_rel g bv be V E y18 (unhide hg)
    refine hca.mono ?_
    clear hca
    rintro _ zy19 ⟨A5,cA5,B5,cB5,rfl,hs5,he5,hxc⟩
    have hsV5 := hide hs5
    have hsE5 := hide he5
    refine ⟨_,rfl,(unhide hK).trans (hxc.keep _),fun y19 hxd => ?_⟩
    replace hP : Hid (Sp w [] w [] [(r8,28, #[.slice A1 V.length cA, .slice B1 E.length cB])] [] y19) := hide ((unhide hP).ext (hxc.trans hxd))
    replace hK := hide ((unhide hK).trans ((hxc.trans hxd).keep _))
    replace hg := hide ((unhide hg).ext (hxc.trans hxd))
    replace hsV := hide ((unhide hsV).ext (hxc.trans hxd))
    replace hsE := hide ((unhide hsE).ext (hxc.trans hxd))
    replace hA := hide ((unhide hA).ext (hxc.trans hxd))
    replace hgy := hide ((unhide hgy).ext (hxc.trans hxd))
    replace hsV5 := hide ((unhide hsV5).ext hxd)
    replace hsE5 := hide ((unhide hsE5).ext hxd)
    clear hxc hxd hs5 he5
    try go_frame
    have hnV5 := hide (unhide hg).nV
    have hnE5 := hide (unhide hg).nE
    refine lx_one (i := 18) (by kernel_rfl) rfl (by rfl) #[true,true,true,true,true,true,true,true,true,true,true,true,true,true,true,true,true,true,true,false,false] (by rfl) ?_
    go_simp
    have hca := same_any A5 B5 A1 B1 V V E E cA5 cB5 cA cB y19 (unhide hsV5) (unhide hsE5) (unhide hsV) (unhide hsE) (unhide hnV5) (unhide hnE5)
    simp only [decide_true,Bool.and_self] at hca
    refine hca.mono ?_
    clear hca
    rintro _ zy20 ⟨rfl,hxc⟩
    refine ⟨_,rfl,(unhide hK).trans (hxc.keep _),fun y20 hxd => ?_⟩
    replace hP : Hid (Sp w [] w [] [(r8,28, #[.slice A1 V.length cA, .slice B1 E.length cB])] [] y20) := hide ((unhide hP).ext (hxc.trans hxd))
    replace hK := hide ((unhide hK).trans ((hxc.trans hxd).keep _))
    replace hg := hide ((unhide hg).ext (hxc.trans hxd))
    replace hsV := hide ((unhide hsV).ext (hxc.trans hxd))
    replace hsE := hide ((unhide hsE).ext (hxc.trans hxd))
    replace hA := hide ((unhide hA).ext (hxc.trans hxd))
    replace hgy := hide ((unhide hgy).ext (hxc.trans hxd))
    replace hsV5 := hide ((unhide hsV5).ext (hxc.trans hxd))
    replace hsE5 := hide ((unhide hsE5).ext (hxc.trans hxd))
    clear hxc hxd
    try go_frame
    refine lx_rekeep (unhide hK) [19,20] [] 0 2 #[true,true,true,true,true,true,true,true,true,true,true,true,true,true,true,true,true,true,true,false,false] #[true,true,true,true,true,true,true,true,true,true,true,true,true,true,true,true,true,true,true,true,true] (by kernel_rfl) rfl (by rfl) ?_
    clear hK
    iterate 2
     first
     | (refine ql_skip rfl (by rfl) ?_)
     | (refine ql_want (v := ?_) rfl (by rfl) (fun W hW => ?_) ?_; rotate_left; (go_simp; (first | done | rfl)))
     try go_frame
    refine wpQL_nil (fun y21 hxq => ?_)
    have hK := hide (hxq.keep [])
    replace hP : Hid (Sp w [] w [] [(r8,28, #[.slice A1 V.length cA, .slice B1 E.length cB])] [] y21) := hide ((unhide hP).ext hxq)
    replace hg := hide ((unhide hg).ext hxq)
    replace hsV := hide ((unhide hsV).ext hxq)
    replace hsE := hide ((unhide hsE).ext hxq)
    replace hA := hide ((unhide hA).ext hxq)
    replace hgy := hide ((unhide hgy).ext hxq)
    replace hsV5 := hide ((unhide hsV5).ext hxq)
    replace hsE5 := hide ((unhide hsE5).ext hxq)
    clear hxq
    refine wpX_done (by kernel_rfl) ?_
    try go_frame
    clear hK
    go_wp2_with fail
    refine Sp.leaves0 ?_
    exact ⟨_,results_tmp (t := 6) rfl _ _ _,rfl,(unhide hP).extf⟩
end Go.Proofs.YtbpeemhfjgcnaaaGreat
namespace Go.Proofs.YtbpeemhfjgcnaaaGreat.isomorphismRelabelRow
open Go.ChangeShapes Go.WideShapes Go.ChangeAt Go.RowKit
set_option linter.unusedVariables false
theorem own : ownKnob Tryz.prog.godebug = none := by kernel_rfl
theorem laidOut : laidOutB Tryz.prog = true := by kernel_rfl
set_option maxRecDepth 100000 in
theorem lifted (os : Os) (started : os.Started) (H : Type) (enc : TypeId × Value → H) :
  ReturnsInHanded {} Tryz.checked os 5 .any (Rows.isomorphismRelabelSpec.pre6 enc Tryz.prog Tryz.f5 Rows.isomorphismRelabelRow.domain false) (Rows.isomorphismRelabelSpec.post enc Tryz.prog Tryz.f5 false true false false) := by
 refine returnsInHanded_of_change (C := Tryz.checked) own started (by kernel_rfl) Tryz.func5
  (ChangeSpec.witness6 (enc := enc) (C := Tryz.checked) false ⟨#[], #[.slice none 0 0, .slice none 0 0, .int .u64 0],[]⟩ 8 (by kernel_rfl) (by kernel_rfl) (by kernel_rfl) (by kernel_rfl)) ?_
 intro W base args ds gs before hval0 hW hcnd _
 have hval : ∀ (j : Nat) t v,Tryz.f5.params[j]? = some t → args[j]? = some v → Value.okWide Tryz.prog W .any base t v := hval0
 have hW' := hW
 obtain ⟨p,q,hA0,hV,rfl,hfz,hnd⟩ := hW
 have hA : DataW.TrodAll enc Tryz.prog W 0 (fun _ => true) true Tryz.f5.params.toList args.toList ds p := hA0
 rw [Tryz.params5] at hA hval
 obtain ⟨v0,vs0,d0,ds0,p0,q0,hargs,rfl,rfl,h0,r0⟩ := trodAll_cons hA
 obtain ⟨v1,vs1,d1,ds1,p1,q1,rfl,rfl,rfl,h1,r1⟩ := trodAll_cons r0
 obtain ⟨v2,vs2,d2,ds2,p2,q2,rfl,rfl,rfl,h2,r2⟩ := trodAll_cons r1
 obtain ⟨rfl,rfl,rfl⟩ := trodAll_nil r2
 obtain rfl : args = #[v0,v1,v2] := by cases args; simp_all
 obtain ⟨rfl,rfl⟩ := trodVars_none hV
 obtain ⟨a0,len0,cap0,rfl⟩ := okWide_slice Tryz.underlying22 (hval 0 22 v0 rfl rfl)
 have k0 := h0
 have lt0 : ∀ x ∈ p0,x.block < W.heap.size := by obtain ⟨m,hm⟩ := k0; exact DataW.trod_lt m _ _ _ hm
 obtain ⟨fu0,hf0⟩ := h0
 obtain ⟨L0,hn0,hs0,ho0,hm0,hz0⟩ := open_editsB (by simpa [Value.cells] using hf0)
 subst hn0
 obtain ⟨a1,len1,cap1,rfl⟩ := okWide_slice Tryz.underlying31 (hval 1 31 v1 rfl rfl)
 have k1 := h1
 have lt1 : ∀ x ∈ p1,x.block < W.heap.size := by obtain ⟨m,hm⟩ := k1; exact DataW.trod_lt m _ _ _ hm
 obtain ⟨fu1,hf1⟩ := h1
 obtain ⟨L1,hn1,hs1,ho1,hm1,hz1⟩ := open_ints (by simpa [Value.cells] using hf1)
 subst hn1
 obtain ⟨a2,rfl,rfl,rfl,w2⟩ := open_int Tryz.underlying47 (hval 2 47 v2 rfl rfl) h2
 clear hA0 hval0
 refine (isomorphismRelabel_walk a0 L0 cap0 a1 L1 cap1 a2 W hs0 ho0 hm0 hz0 hs1 ho1 hm1 hz1 (Go.bounds_u64 w2)).mono fun e W' ⟨he,bel⟩ => ?_
 subst he
 exact ⟨_,rfl,_,_,_,[],_,[],hW',trodAll_mk1 (shut_bool Tryz.underlying4 _),(trodAll_cons_mk (Below.trod laidOut (by kernel_rfl) (of_decide_eq_true (by kernel_rfl)) k0 bel lt0) (trodAll_cons_mk (Below.trod laidOut (by kernel_rfl) (of_decide_eq_true (by kernel_rfl)) k1 bel lt1) (trodAll_cons_mk (shut_int Tryz.underlying47 w2) trodAll_mk0))),rfl,bel.frame _,fun h => by cases h⟩
theorem over : Rows.isomorphismRelabelRow.holds Tryz.pinned (OpenSpec.ofChange Rows.isomorphismRelabelSpec) :=
 OpenClaim.holds_of_wide 5 Tryz.f5 rfl rfl rfl rfl rfl rfl rfl ⟨rfl,rfl,rfl,rfl,rfl⟩ rfl rfl rfl rfl rfl (by kernel_rfl) Tryz.func5 (by kernel_rfl)
  (of_decide_eq_true (by kernel_rfl)) (by unfold Func.isWrapper; first | (rw [if_pos (by decide +kernel)]; kernel_rfl) | (rw [if_neg (by decide +kernel)]; exact ⟨rfl,rfl⟩))
  (fun os started H enc _ => lifted os started H enc)
end Go.Proofs.YtbpeemhfjgcnaaaGreat.isomorphismRelabelRow
namespace Go.Proofs.YtbpeemhfjgcnaaaGreat
theorem isomorphismRelabel_holds : Rows.IsomorphismRelabelSaid := isomorphismRelabelRow.over
#print axioms isomorphismRelabel_holds
end Go.Proofs.YtbpeemhfjgcnaaaGreat
