/- Parts of a proof, laid together. Each part says its own conditions. -/
import Derived.Test.YtbpeemhfjgcnaaaGreatC46
import Derived.Test.YtbpeemhfjgcnaaaGreatC45
import Derived.Test.YtbpeemhfjgcnaaaGreatC36
namespace Go.Proofs.YtbpeemhfjgcnaaaGreat
open Go Go.RowKit Go.Shelf
attribute [local go_sem] qUpon lUpon
attribute [local irreducible] wpO wpX wpQL
def AllAt (w : World) (ps : List Sl) (KK : List (List Int)) : Prop := ps.length = KK.length ∧ ∀ (i : Nat) (h : i < ps.length) (h2 : i < KK.length),ps[i].2.1 = KK[i].length ∧ SlAt encI 1 w ps[i].1 KK[i]
theorem AllAt.ext {w w' : World} {ps : List Sl} {KK : List (List Int)} (h : AllAt w ps KK) (hx : Ext w w') : AllAt w' ps KK := ⟨h.1,fun i a b => ⟨(h.2 i a b).1,(h.2 i a b).2.ext hx⟩⟩
theorem AllAt.snoc {w : World} {ps : List Sl} {KK : List (List Int)} (h : AllAt w ps KK) {p : Sl} {K : List Int} (hn : p.2.1 = K.length) (hs : SlAt encI 1 w p.1 K) : AllAt w (ps ++ [p]) (KK ++ [K]) := by
 refine ⟨by rw [List.length_append,List.length_append,h.1]; rfl,fun i a b => ?_⟩
 by_cases hi : i < ps.length
 ·have hi2 : i < KK.length := by rw [← h.1]; exact hi
  rw [List.getElem_append_left hi,List.getElem_append_left hi2]
  exact h.2 i hi hi2
 ·have hl := h.1
  rw [List.length_append] at a
  have hie : i = ps.length := by simp at a; omega
  rw [List.getElem_append_right (by omega),List.getElem_append_right (by omega)]
  simp only [hie,hl,Nat.sub_self,List.getElem_cons_zero]
  exact ⟨hn,hs⟩
theorem AllAt.ss {w : World} {A : Option Addr} {ps : List Sl} {KK : List (List Int)} (h : AllAt w ps KK) (hA : SlAt encSl 1 w A ps) : SSAt w A KK := ⟨ps,h.1,hA,h.2⟩
def SsR (w : World) (KK : List (List Int)) (e : Ending) (w' : World) : Prop := ∃ A n c,e = .returned (.slice A n c) ∧ n = KK.length ∧ SSAt w' A KK ∧ Ext w w'
theorem filt_step {α : Type} (p : α → Bool) {l : List α} {i : Nat} (h : i < l.length) : (l.take (i + 1)).filter p = (l.take i).filter p ++ if p l[i] = true then [l[i]] else [] := by
 rw [List.take_succ_eq_append_getElem h,List.filter_append,List.filter_cons,List.filter_nil]
set_option maxRecDepth 100000 in
set_option maxHeartbeats 16000000 in
theorem maps08_any (A1 B1 A2 B2 : Option Addr) (V V' : List (Int × Thing)) (E E' : List ((Int × Int) × Thing)) (nV nE cA cB mV mE cC cD : Nat) (w : World) (hsV : SlAt encV 3 w A1 V) (hsE : SlAt encE 4 w B1 E) (hsV2 : SlAt encV 3 w A2 V') (hsE2 : SlAt encE 4 w B2 E') (hi : GInv V E) (hi2 : GInv V' E') (hlb : LabB V E) (hlb2 : LabB V' E') (hnV : nV = V.length) (hnE : nE = E.length) (hmV : mV = V'.length) (hmE : mE = E'.length) (hl : nV ≤ 8) (hl2 : mV ≤ 8) :
  Calls Tryz.prog 30 #[.agg #[.slice A1 nV cA, .slice B1 nE cB], .agg #[.slice A2 mV cC, .slice B2 mE cD]] w (SsR w (mapsP V E (idsV V) V' E' (idsV V'))) := by
 have hsV' := hide hsV
 have hsE' := hide hsE
 have hsV2' := hide hsV2
 have hsE2' := hide hsE2
 have hi' := hide hi
 have hi2' := hide hi2
 have hlb' := hide hlb
 have hlb2' := hide hlb2
 have hnV' := hide hnV
 have hnE' := hide hnE
 have hmV' := hide hmV
 have hmE' := hide hmE
 have hl' := hide hl
 have hl2' := hide hl2
 obtain ⟨ids,hids0⟩ : ∃ l,l = idsV V := ⟨_,rfl⟩
 obtain ⟨jds,hjds0⟩ : ∃ l,l = idsV V' := ⟨_,rfl⟩
 have hids := hide hids0
 have hjds := hide hjds0
 have hil0 := hide (show nV = ids.length by rw [hids0,idsV_len,hnV])
 have hjl0 := hide (show mV = jds.length by rw [hjds0,idsV_len,hmV])
 rw [← hids0, ← hjds0]
 obtain ⟨cw,hcw0⟩ : ∃ l,l = codeR V E ids := ⟨_,rfl⟩
 have hcw := hide hcw0
 have hcwl := hide (show cw.length ≤ 300 by rw [hcw0]; exact code_le (by rw [hids0,idsV_len]; omega))
 clear hsV hsE hsV2 hsE2 hi hi2 hlb hlb2 hnV hnE hmV hmE hl hl2 hids0 hjds0 hcw0
 have hP := hide (Sp.new w)
 refine callsIn_wide.1 (callsIn_of_wp_marks (n := 0) Tryz.func30 rfl trivial (wpIn_wide.2 ?_))
 simp only [Tryz.ntmps30,List.size_toArray,List.length_cons,List.length_nil,Nat.reduceAdd,Nat.reduceSub,Array.replicate_succ,Array.replicate_zero,List.push_toArray,List.append_toArray,List.nil_append,List.cons_append]
 try dsimp only
 repeat ((fail_if_success (with_reducible refine wp_reg (id := 0) ?_)); (first | go_values | go_skip | go_step | go_guarded | go_upon | go_in | go_back | fail))
 with_reducible refine wp_reg (id := 0) ?_
 refine (unhide hP).allocO 28 #[.slice A1 nV cA, .slice B1 nE cB] rfl (run_box (v := .agg #[.slice A1 nV cA, .slice B1 nE cB]) rfl rfl) ?_
 intro r2 y1 hQ
 replace hP : Hid (Sp w [] w [] [(r2,28, #[.slice A1 nV cA, .slice B1 nE cB])] [] y1) := hide hQ
 clear hQ
 refine (unhide hP).allocO 28 #[.slice A2 mV cC, .slice B2 mE cD] rfl (run_box (v := .agg #[.slice A2 mV cC, .slice B2 mE cD]) rfl rfl) ?_
 intro r3 y2 hQ
 replace hP : Hid (Sp w [] w [] [(r2,28, #[.slice A1 nV cA, .slice B1 nE cB]),(r3,28, #[.slice A2 mV cC, .slice B2 mE cD])] [] y2) := hide hQ
 clear hQ
 refine wpO_want rfl ?_
 go_simp
 refine wpO_done ?_
 try go_frame
 have q0 := (unhide hP).cell 0 0 (v := .slice A1 nV cA) rfl rfl
 have q2 := (unhide hP).cell 1 0 (v := .slice A2 mV cC) rfl rfl
 have hself := Ext.refl y2
 by_cases hlen : nV = mV
 ·skip
  subst hlen
  have hq : ((nV : Int) != (nV : Int)) = false := by simp
  have hm1 := hide (show mapsP V E ids V' E' jds = (allN nV jds).filter (fun q => decide (codeR V' E' q = cw)) by unfold mapsP; rw [if_pos (by rw [← unhide hil0, ← unhide hjl0]), ← unhide hjl0,unhide hcw])
  try dsimp only
  repeat ((fail_if_success (with_reducible refine wp_reg (id := 2) ?_)); (first | go_values | go_skip | go_step | go_guarded | go_upon | go_in | go_back | fail))
  with_reducible refine wp_reg (id := 2) ?_
  iterate 7
   refine wpO_want rfl ?_
   go_simp
  refine wpO_done ?_
  try go_frame
  clear hq q0 q2 hself
  go_wp2_with fail
  have q0 := (unhide hP).cellK (S := []) 0 0 (v := .slice A1 nV cA) rfl rfl (by simp)
  have q1 := (unhide hP).cellK (S := []) 0 1 (v := .slice B1 nE cB) rfl rfl (by simp)
  have hself := Keep.refl [] y2
  have hsVr := hide ((unhide hsV').ext (unhide hP).extf)
  have hsEr := hide ((unhide hsE').ext (unhide hP).extf)
  refine wp_regionK (P := Tryz.prog) [] [0,1] [] 3 #[true,true,false,false,false] (by kernel_rfl) (by kernel_rfl) rfl (by rfl) ?_
  iterate 2
   first
   | (refine ql_skip rfl (by rfl) ?_)
   | (refine ql_want (v := ?_) rfl (by rfl) (fun W hW => ?_) ?_; rotate_left; (go_simp; (first | done | rfl)))
   try go_frame
  refine wpQL_nil (fun y3 hxq => ?_)
  have hK := hide (hxq.keep [])
  replace hP : Hid (Sp w [] w [] [(r2,28, #[.slice A1 nV cA, .slice B1 nE cB]),(r3,28, #[.slice A2 nV cC, .slice B2 mE cD])] [] y3) := hide ((unhide hP).ext hxq)
  replace hsVr := hide ((unhide hsVr).ext hxq)
  replace hsEr := hide ((unhide hsEr).ext hxq)
  clear hxq
  clear q0 q1 hself
  refine lx_one (i := 2) (by kernel_rfl) rfl (by rfl) #[true,true,true,false,false] (by rfl) ?_
  go_simp
  have hca := ids08_any A1 B1 V nV nE cA cB y3 (unhide hsVr) (unhide hnV') (by have := unhide hl'; omega)
  rw [← unhide hids] at hca
  refine hca.mono ?_
  clear hca
  rintro _ zy4 ⟨Ai,ni,ci,rfl,hni0,ho1,hxc⟩
  have hsi := hide (own_at (enc := encI) (by rw [hni0] at ho1; exact ho1) (fun _ => rfl))
  obtain rfl : nV = ni := by rw [hni0]; exact unhide hil0
  clear ho1 hni0
  refine ⟨_,rfl,(unhide hK).trans (hxc.keep _),fun y4 hxd => ?_⟩
  replace hP : Hid (Sp w [] w [] [(r2,28, #[.slice A1 nV cA, .slice B1 nE cB]),(r3,28, #[.slice A2 nV cC, .slice B2 mE cD])] [] y4) := hide ((unhide hP).ext (hxc.trans hxd))
  replace hK := hide ((unhide hK).trans ((hxc.trans hxd).keep _))
  replace hsVr := hide ((unhide hsVr).ext (hxc.trans hxd))
  replace hsEr := hide ((unhide hsEr).ext (hxc.trans hxd))
  replace hsi := hide ((unhide hsi).ext hxd)
  clear hxc hxd
  try go_frame
  refine lx_one (i := 3) (by kernel_rfl) rfl (by rfl) #[true,true,true,true,false] (by rfl) ?_
  go_simp
  have hca := code08_any A1 B1 V E nV nE cA cB Ai ids nV ci y4 (unhide hsVr) (unhide hsEr) (unhide hi') (unhide hlb') (unhide hnV') (unhide hnE') (unhide hsi) (unhide hil0) (unhide hl') (fun x hx => by rw [← unhide hids]; exact hx)
  rw [← unhide hcw] at hca
  refine hca.mono ?_
  clear hca
  rintro _ zy5 ⟨Aw,nw,cww,rfl,hnw0,ho1,hxc⟩
  have hsw := hide (own_at (enc := encI) (by rw [hnw0] at ho1; exact ho1) (fun _ => rfl))
  have hnw := hide hnw0
  clear ho1 hnw0
  refine ⟨_,rfl,(unhide hK).trans (hxc.keep _),fun y5 hxd => ?_⟩
  replace hP : Hid (Sp w [] w [] [(r2,28, #[.slice A1 nV cA, .slice B1 nE cB]),(r3,28, #[.slice A2 nV cC, .slice B2 mE cD])] [] y5) := hide ((unhide hP).ext (hxc.trans hxd))
  replace hK := hide ((unhide hK).trans ((hxc.trans hxd).keep _))
  replace hsVr := hide ((unhide hsVr).ext (hxc.trans hxd))
  replace hsEr := hide ((unhide hsEr).ext (hxc.trans hxd))
  replace hsi := hide ((unhide hsi).ext (hxc.trans hxd))
  replace hsw := hide ((unhide hsw).ext hxd)
  clear hxc hxd
  try go_frame
  refine lx_rekeep (unhide hK) [4] [] 0 1 #[true,true,true,true,false] #[true,true,true,true,true] (by kernel_rfl) rfl (by rfl) ?_
  clear hK
  iterate 1
   first
   | (refine ql_skip rfl (by rfl) ?_)
   | (refine ql_want (v := ?_) rfl (by rfl) (fun W hW => ?_) ?_; rotate_left; (go_simp; (first | done | rfl)))
   try go_frame
  refine wpQL_nil (fun y6 hxq => ?_)
  have hK := hide (hxq.keep [])
  replace hP : Hid (Sp w [] w [] [(r2,28, #[.slice A1 nV cA, .slice B1 nE cB]),(r3,28, #[.slice A2 nV cC, .slice B2 mE cD])] [] y6) := hide ((unhide hP).ext hxq)
  replace hsVr := hide ((unhide hsVr).ext hxq)
  replace hsEr := hide ((unhide hsEr).ext hxq)
  replace hsi := hide ((unhide hsi).ext hxq)
  replace hsw := hide ((unhide hsw).ext hxq)
  clear hxq
  refine wpX_done (by kernel_rfl) ?_
  try go_frame
  clear hK
  have hswX := hsw
  have q0 := (unhide hP).cell 1 0 (v := .slice A2 nV cC) rfl rfl
  have q1 := (unhide hP).cell 1 1 (v := .slice B2 mE cD) rfl rfl
  have hself := Ext.refl y6
  try dsimp only
  repeat ((fail_if_success (with_reducible refine wp_reg (id := 5) ?_)); (first | go_values | go_skip | go_step | go_guarded | go_upon | go_in | go_back | fail))
  with_reducible refine wp_reg (id := 5) ?_
  refine wpO_want rfl ?_
  go_simp
  clear q0 q1 hself
  refine wpO_want rfl ?_
  go_simp
  have hca := ids08_any A2 B2 V' nV mE cC cD y6 ((unhide hsV2').ext (unhide hP).extf) (unhide hmV') (by have := unhide hl'; omega)
  rw [← unhide hjds] at hca
  refine hca.mono ?_
  clear hca
  rintro _ y7 ⟨Aj,nj,cj,rfl,hnj0,ho1,hxc⟩
  obtain rfl : nV = nj := by rw [hnj0]; exact unhide hjl0
  have hsj := hide (own_at (enc := encI) (by rw [hnj0] at ho1; exact ho1) (fun _ => rfl))
  have hcap := hide (own_cap ho1)
  refine ⟨_,rfl, ?_⟩
  replace hP : Hid (Sp w [] w [] [(r2,28, #[.slice A1 nV cA, .slice B1 nE cB]),(r3,28, #[.slice A2 nV cC, .slice B2 mE cD])] [] y7) := hide ((unhide hP).ext hxc)
  replace hswX := hide ((unhide hswX).ext (hxc))
  clear hxc ho1 hnj0
  refine wpO_want rfl ?_
  go_simp
  have hca := all08_any nV (unhide hl') Aj jds cj y7 (unhide hsj) (unhide hjl0) (unhide hcap)
  refine hca.mono ?_
  clear hca
  rintro _ y8 ⟨A5,q,c5,J5,rfl,hos,hxc⟩
  obtain ⟨KK,hKK0⟩ : ∃ K,K = allN nV jds := ⟨_,rfl⟩
  rw [← hKK0] at hos
  have hKK := hide hKK0
  have hqb := hide (show q ≤ 40320 by
   rw [hos.at.2,hKK0,allN_len nV jds (unhide hjl0).symm]
   have h8 := unhide hl'
   rcases nV with _ | _ | _ | _ | _ | _ | _ | _ | _ | nV
   all_goals first | decide | omega)
  have hqn := hide hos.at.2
  have hq1 := hide hos.1
  have hq3 := hide hos.2.2.1
  have hst5 := hide hos.2.2.2.down
  have hKm := hide (show ∀ K ∈ KK,K.Perm jds from fun K hK => by rw [hKK0] at hK; exact (mem_allN nV jds (unhide hjl0).symm K).1 hK)
  have hJK := hide (show ∀ k (p : Sl × List Int),J5[k]? = some p → KK[k]? = some p.2 from fun k p hk => by rw [← hos.2.1,List.getElem?_map,hk]; rfl)
  refine ⟨_,rfl, ?_⟩
  replace hP : Hid (Sp w [] w [] [(r2,28, #[.slice A1 nV cA, .slice B1 nE cB]),(r3,28, #[.slice A2 nV cC, .slice B2 mE cD])] [] y8) := hide ((unhide hP).ext hxc)
  replace hswX := hide ((unhide hswX).ext (hxc))
  clear hos hxc hKK0 hsj hcap
  refine wpO_want rfl ?_
  go_simp
  refine wpO_done ?_
  try go_frame
  have hM := hide (show mapsP V E ids V' E' jds = KK.filter (fun q => decide (codeR V' E' q = cw)) by rw [unhide hm1, ← unhide hKK])
  clear hm1
  have hsVr := hide ((unhide hsV2').ext (unhide hP).extf)
  have hsEr := hide ((unhide hsE2').ext (unhide hP).extf)
  have hb3 := hide ((unhide hP).get 1 rfl)
  have hbase := hide (unhide hP).extf
  clear hP
  generalize y8 = wb at *
  have hP := hide (Sp.new wb)
  replace hP : Hid (Sp wb [] wb [] [] [(31,1, .slice none 0 0,0,([] : List Sl).flatMap encSl)] wb) := hide ((unhide hP).nil 31 1)
  go_wp2_with fail
  obtain ⟨I8_4,hI8_40⟩ : ∃ I : Nat → Act → World → Prop,I = fun fi a' wr => ∃ (i : Nat), ∃ (Ax : Option Addr), ∃ (m : Nat), ∃ (cx : Nat), ∃ (ps : List Sl),a'.tmps.size = 46 ∧ a'.tmps.getD 3 undef = .pointer (some ⟨r3,0,none⟩) ∧ a'.tmps.getD 5 undef = .slice Ax m cx ∧ a'.tmps.getD 6 undef = .slice Aw nw cww ∧ a'.tmps.getD 7 undef = .slice A5 q c5 ∧ a'.tmps.getD 8 undef = .int .i64 (i : Nat) ∧ a'.defers = [] ∧ i ≤ q ∧ m = ps.length ∧ (AllAt wb ps ((KK.take i).filter (fun q => decide (codeR V' E' q = cw)))) ∧ Sp wb [] wb [] [] [(31,1, .slice Ax m cx,m,ps.flatMap encSl)] wr ∧ fi = q - i := ⟨_,rfl⟩
  have hI8_4 := hide hI8_40
  clear hI8_40
  refine wp_loop_ix I8_4 (q - 0) ?_ ?_
  ·rw [unhide hI8_4]; exact ⟨0,none,0,0,[],rfl,rfl,rfl,rfl,rfl,rfl,rfl,Nat.zero_le _,rfl,⟨rfl,fun i h => by simp at h⟩,unhide hP,rfl⟩
  ·rintro fi ⟨tm,dfs⟩ wr hrel
   rw [unhide hI8_4] at hrel
   obtain ⟨i,Ax,m,cx,ps,hsz,e3,e5,e6,e7,e8,hdf,hiq,hm0,hps0,hPr,hfm⟩ := hrel
   obtain ⟨us,rfl⟩ : ∃ us : Nat → Value,tm = #[us 0,us 1,us 2,us 3,us 4,us 5,us 6,us 7,us 8,us 9,us 10,us 11,us 12,us 13,us 14,us 15,us 16,us 17,us 18,us 19,us 20,us 21,us 22,us 23,us 24,us 25,us 26,us 27,us 28,us 29,us 30,us 31,us 32,us 33,us 34,us 35,us 36,us 37,us 38,us 39,us 40,us 41,us 42,us 43,us 44,us 45] := ⟨fun i => tm.getD i undef,arr_fn hsz⟩
   have h3 : us 3 = .pointer (some ⟨r3,0,none⟩) := e3
   have h5 : us 5 = .slice Ax m cx := e5
   have h6 : us 6 = .slice Aw nw cww := e6
   have h7 : us 7 = .slice A5 q c5 := e7
   have h8 : us 8 = .int .i64 (i : Nat) := e8
   have hdf2 : dfs = [] := hdf
   subst hdf2
   clear hdf hsz e3 e5 e6 e7 e8
   simp only [h3,h5,h6,h7,h8]
   clear h3 h5 h6 h7 h8
   clear hP
   have hP := hide hPr
   have hfm' := hide hfm
   have hm := hide hm0
   have hps := hide hps0
   clear hPr hfm hm0 hps0
   have hxr := hide (unhide hP).extf
   by_cases hlt : i < q
   ·skip
    have hil : (i : Int) < (q : Int) := by omega
    have hlt' := hide hlt
    have hib : (i : Int) ≤ 40320 := by have := unhide hqb; omega
    have hiK : i < KK.length := by rw [← unhide hqn]; exact hlt
    have hfs := hide (filt_step (fun q => decide (codeR V' E' q = cw)) hiK)
    have hmb := hide (show m ≤ 40320 by
     rw [unhide hm,(unhide hps).1]
     refine Nat.le_trans (List.length_filter_le _ _) ?_
     rw [List.length_take]
     have := unhide hqb
     omega)
    obtain ⟨⟨⟨ai,ni,ci⟩,Ki⟩,hpi0⟩ : ∃ p,J5[i]? = some p := ⟨_,List.getElem?_eq_getElem (by have := unhide hq1; omega)⟩
    have hKi := unhide hJK i _ hpi0
    rw [List.getElem?_eq_getElem hiK] at hKi
    have hKi2 : KK[i] = Ki := Option.some.inj hKi
    rw [hKi2] at hfs
    have hKip := hide (show Ki.Perm jds by rw [← hKi2]; exact unhide hKm _ (List.getElem_mem _))
    obtain ⟨b5,o5,rfl,k0,hsi0,hni0⟩ := ss_get2 (unhide hst5) (unhide hq1) (unhide hq3) hpi0
    obtain rfl : nV = ni := by rw [hni0,(unhide hKip).length_eq]; exact unhide hjl0
    have hsb := hide hsi0
    have hpi := hide hpi0
    have hni := hide hni0
    have hsi := hide (hsi0.ext (unhide hxr))
    have hcl1 := hide (code_le (V := V') (E := E') (L := Ki) (by rw [← hni0]; exact unhide hl'))
    have hsVq := hide ((unhide hsVr).ext (unhide hxr))
    have hsEq := hide ((unhide hsEr).ext (unhide hxr))
    have hswq := hide ((unhide hswX).ext (unhide hxr))
    obtain ⟨z,hz0⟩ : ∃ z,z = lcmp (codeR V' E' Ki) cw := ⟨_,rfl⟩
    have hz := hide hz0
    have k1 : ∀ W,Keep [] wr W → W.cell? ⟨b5,o5 + i,none⟩ = some (.slice ai nV ci) := fun W hW => k0 W ((unhide hxr).trans (Ext.of_keep0 hW))
    have q0 : ∀ W,Keep [] wr W → W.cell? ⟨r3,0,none⟩ = some (.slice A2 nV cC) := fun W hW => (unhide hb3).cells 0 rfl W ((unhide hxr).trans (Ext.of_keep0 hW))
    have q1 : ∀ W,Keep [] wr W → W.cell? ⟨r3,1,none⟩ = some (.slice B2 mE cD) := fun W hW => (unhide hb3).cells 1 rfl W ((unhide hxr).trans (Ext.of_keep0 hW))
    have hself := Keep.refl [] wr
    clear hKi hKi2 hpi0 hsi0 hni0 hz0 hlt k0
    try dsimp only
    repeat ((fail_if_success (with_reducible refine wp_reg (id := 7) ?_)); (first | go_values | go_skip | go_step | go_guarded | go_upon | go_in | go_back | fail))
    with_reducible refine wp_reg (id := 7) ?_
    iterate 4
     refine wpO_want rfl ?_
     go_simp
    refine wpO_done ?_
    try go_frame
    go_wp2_with fail
    refine wp_regionK (P := Tryz.prog) [] [0,1,2,3,4,6] [] 3 #[true,true,true,true,true,false,true,false,false] (by kernel_rfl) (by kernel_rfl) rfl (by rfl) ?_
    iterate 6
     first
     | (refine ql_skip rfl (by rfl) ?_)
     | (refine ql_want (v := ?_) rfl (by rfl) (fun W hW => ?_) ?_; rotate_left; (go_simp; (first | done | rfl)))
     try go_frame
    refine wpQL_nil (fun y9 hxq => ?_)
    have hK := hide (hxq.keep [])
    replace hP : Hid (Sp wb [] wb [] [] [(31,1, .slice Ax m cx,m,ps.flatMap encSl)] y9) := hide ((unhide hP).ext hxq)
    replace hsi := hide ((unhide hsi).ext hxq)
    replace hsVq := hide ((unhide hsVq).ext hxq)
    replace hsEq := hide ((unhide hsEq).ext hxq)
    replace hswq := hide ((unhide hswq).ext hxq)
    clear hxq
    clear q0 q1 k1 hself hil
    refine lx_one (i := 5) (by kernel_rfl) rfl (by rfl) #[true,true,true,true,true,true,true,false,false] (by rfl) ?_
    go_simp
    have hca := code08_any A2 B2 V' E' nV mE cC cD ai Ki nV ci y9 (unhide hsVq) (unhide hsEq) (unhide hi2') (unhide hlb2') (unhide hmV') (unhide hmE') (unhide hsi) (unhide hni) (unhide hl') (fun x hx => by rw [← unhide hjds]; exact (unhide hKip).mem_iff.1 hx)
    refine hca.mono ?_
    clear hca
    rintro _ zy10 ⟨Ac,nc,cc,rfl,hnc0,ho1,hxc⟩
    have hs1 := hide (own_at (enc := encI) (by rw [hnc0] at ho1; exact ho1) (fun _ => rfl))
    have hnc := hide hnc0
    clear hnc0 ho1
    refine ⟨_,rfl,(unhide hK).trans (hxc.keep _),fun y10 hxd => ?_⟩
    replace hP : Hid (Sp wb [] wb [] [] [(31,1, .slice Ax m cx,m,ps.flatMap encSl)] y10) := hide ((unhide hP).ext (hxc.trans hxd))
    replace hK := hide ((unhide hK).trans ((hxc.trans hxd).keep _))
    replace hsi := hide ((unhide hsi).ext (hxc.trans hxd))
    replace hsVq := hide ((unhide hsVq).ext (hxc.trans hxd))
    replace hsEq := hide ((unhide hsEq).ext (hxc.trans hxd))
    replace hswq := hide ((unhide hswq).ext (hxc.trans hxd))
    replace hs1 := hide ((unhide hs1).ext hxd)
    clear hxc hxd
    try go_frame
    refine lx_one (i := 7) (by kernel_rfl) rfl (by rfl) #[true,true,true,true,true,true,true,true,false] (by rfl) ?_
    go_simp
    have hca := cmp08_any Ac Aw (codeR V' E' Ki) cw nc nw cc cww y10 (unhide hs1) (unhide hswq) (unhide hnc) (unhide hnw) (by have := unhide hcl1; have := unhide hnc; omega) (by have := unhide hcwl; have := unhide hnw; omega)
    rw [← unhide hz] at hca
    refine hca.mono ?_
    clear hca
    rintro _ zy11 ⟨rfl,hxc⟩
    refine ⟨_,rfl,(unhide hK).trans (hxc.keep _),fun y11 hxd => ?_⟩
    replace hP : Hid (Sp wb [] wb [] [] [(31,1, .slice Ax m cx,m,ps.flatMap encSl)] y11) := hide ((unhide hP).ext (hxc.trans hxd))
    replace hK := hide ((unhide hK).trans ((hxc.trans hxd).keep _))
    replace hsi := hide ((unhide hsi).ext (hxc.trans hxd))
    replace hsVq := hide ((unhide hsVq).ext (hxc.trans hxd))
    replace hsEq := hide ((unhide hsEq).ext (hxc.trans hxd))
    replace hswq := hide ((unhide hswq).ext (hxc.trans hxd))
    replace hs1 := hide ((unhide hs1).ext (hxc.trans hxd))
    clear hxc hxd
    try go_frame
    clear hs1 hsi hsVq hsEq hswq
    by_cases hzn : z = 0
    ·skip
     have hcc := hide (show codeR V' E' Ki = cw from lcmp_eq (by rw [← unhide hz]; exact hzn))
     refine lx_one (i := 8) (by kernel_rfl) rfl (by rfl) #[true,true,true,true,true,true,true,true,true] (by rfl) ?_
     refine (unhide hP).valL (unhide hK) (v := .bool true) ?_ ?_
     ·exact run_eqlP rfl rfl rfl hzn
     intro y12 hQ hK2
     replace hP : Hid (Sp wb [] wb [] [] [(31,1, .slice Ax m cx,m,ps.flatMap encSl)] y12) := hide hQ
     replace hK := hide hK2
     clear hQ hK2
     try go_frame
     refine wpX_done (by kernel_rfl) ?_
     try go_frame
     clear hK
     clear hzn
     obtain ⟨b6,o6,hb6,k0,hx8,hx9⟩ := ss_get2 (unhide hst5) (unhide hq1) (unhide hq3) (k := i) (a := ai) (m := nV) (c2 := ci) (K := Ki) (unhide hpi)
     clear hx8 hx9
     cases hb6
     have hil : (i : Int) < (q : Int) := by have := unhide hlt'; omega
     have k0 : ∀ W,Ext y12 W → W.cell? ⟨b5,o5 + i,none⟩ = some (.slice ai nV ci) := fun W hW => k0 W ((unhide hP).extf.trans hW)
     have hself := Ext.refl y12
     try dsimp only
     repeat ((fail_if_success (with_reducible refine wp_reg (id := 10) ?_)); (first | go_values | go_skip | go_step | go_guarded | go_upon | go_in | go_back | fail))
     with_reducible refine wp_reg (id := 10) ?_
     iterate 5
      refine wpO_want rfl ?_
      go_simp
     clear hself hil
     refine (unhide hP).buildO 1 31 #[.slice ai nV ci] rfl (by go_simp) ?_
     intro bs y13 hQ
     replace hP : Hid (Sp wb [] wb [] [(bs,31, #[.slice ai nV ci])] [(31,1, .slice Ax m cx,m,ps.flatMap encSl)] y13) := hide hQ
     clear hQ
     try go_frame
     refine (unhide hP).ap1O (enc := encSl) (T := 31) (ST := 42) 0 (v := .slice Ax m cx) (m := m) (xs := ps) rfl rfl infoSl Tryz.underlying42 one_encSl (fun _ => rfl) (by decide) (by decide) rfl (ai,nV,ci) rfl rfl ((unhide hP).get 0 rfl) (by have := unhide hmb; omega) ?_
     intro Az cAz y14 hQ
     replace hP : Hid (Sp wb [] wb [] [(bs,31, #[.slice ai nV ci])] [(31,1, .slice Az (m + 1) cAz,m + 1,(ps ++ [(ai,nV,ci)]).flatMap encSl)] y14) := hide hQ
     clear hQ
     try go_frame
     refine wpO_want rfl ?_
     go_simp
     refine wpO_done ?_
     try go_frame
     replace hP : Hid (Sp wb [] wb [] [] [(31,1, .slice Az (m + 1) cAz,m + 1,(ps ++ [(ai,nV,ci)]).flatMap encSl)] y14) := hide ((unhide hP).sub (List.sublist_append_left _ ([(bs,31, #[.slice ai nV ci])] : List Cl)) (List.Sublist.refl _))
     go_wp2_with fail
     refine ⟨q - (i + 1), ?_,by have := unhide hfm'; have := unhide hlt'; omega⟩
     rw [unhide hI8_4]
     exact ⟨i + 1,Az,m + 1,cAz,ps ++ [(ai,nV,ci)],(by first | rfl | trivial),(by first | rfl | trivial),(by first | rfl | trivial),(by first | rfl | trivial),(by first | rfl | trivial),(by first | rfl | (show _ = Value.int _ _; go_num) | go_num),(by first | rfl | trivial),by have := unhide hlt'; omega,(by rw [List.length_append, ← unhide hm]; rfl),(by rw [unhide hfs,if_pos (decide_eq_true (unhide hcc))]; exact (unhide hps).snoc (unhide hni) (unhide hsb)),unhide hP,rfl⟩
    ·skip
     have hcc := hide (show ¬ codeR V' E' Ki = cw from fun h9 => hzn (by rw [unhide hz,h9,lcmp_self]))
     refine lx_one (i := 8) (by kernel_rfl) rfl (by rfl) #[true,true,true,true,true,true,true,true,true] (by rfl) ?_
     refine (unhide hP).valL (unhide hK) (v := .bool false) ?_ ?_
     ·exact run_eqlN rfl rfl rfl hzn
     intro y12 hQ hK2
     replace hP : Hid (Sp wb [] wb [] [] [(31,1, .slice Ax m cx,m,ps.flatMap encSl)] y12) := hide hQ
     replace hK := hide hK2
     clear hQ hK2
     try go_frame
     refine wpX_done (by kernel_rfl) ?_
     try go_frame
     clear hK
     clear hzn
     go_wp2_with fail
     refine ⟨q - (i + 1), ?_,by have := unhide hfm'; have := unhide hlt'; omega⟩
     rw [unhide hI8_4]
     exact ⟨i + 1,Ax,m,cx,ps,(by first | rfl | trivial),(by first | rfl | trivial),(by first | rfl | trivial),(by first | rfl | trivial),(by first | rfl | trivial),(by first | rfl | (show _ = Value.int _ _; go_num) | go_num),(by first | rfl | trivial),by have := unhide hlt'; omega,unhide hm,(by rw [unhide hfs,if_neg (by simp [unhide hcc]),List.append_nil]; exact unhide hps),unhide hP,rfl⟩
   ·skip
    have hil : ¬ (i : Int) < (q : Int) := by omega
    have hpe := hide (show AllAt wb ps (KK.filter (fun q => decide (codeR V' E' q = cw))) by
     have h := unhide hps
     rw [List.take_of_length_le (by rw [← unhide hqn]; omega)] at h
     exact h)
    clear hlt hiq hps
    try dsimp only
    repeat ((fail_if_success (with_reducible refine wp_reg (id := 7) ?_)); (first | go_values | go_skip | go_step | go_guarded | go_upon | go_in | go_back | fail))
    with_reducible refine wp_reg (id := 7) ?_
    iterate 4
     refine wpO_want rfl ?_
     go_simp
    refine wpO_done ?_
    try go_frame
    clear hil
    try dsimp only
    repeat ((fail_if_success (with_reducible refine wp_reg (id := 11) ?_)); (first | go_values | go_skip | go_step | go_guarded | go_upon | go_in | go_back | fail))
    with_reducible refine wp_reg (id := 11) ?_
    iterate 2
     refine wpO_want rfl ?_
     go_simp
    refine wpO_done ?_
    try go_frame
    go_wp2_with fail
    refine Sp.leaves0 ?_
    refine ⟨_,results_tmp (t := 4) rfl _ _ _,Ax,m,cx,rfl,by rw [unhide hM,unhide hm]; exact (unhide hpe).1, ?_,(unhide hbase).trans (unhide hP).extf⟩
    have hr := (unhide hP).row 0 rfl
    rw [unhide hm] at hr
    rw [unhide hM]
    exact ((unhide hpe).ext (unhide hP).extf).ss (own_at (enc := encSl) hr (fun _ => rfl))
 ·skip
  have hq : ((nV : Int) != (mV : Int)) = true := by simp; omega
  have hm0 := hide (show mapsP V E ids V' E' jds = [] by unfold mapsP; rw [if_neg (by rw [← unhide hil0, ← unhide hjl0]; exact hlen)])
  clear hlen
  try dsimp only
  repeat ((fail_if_success (with_reducible refine wp_reg (id := 2) ?_)); (first | go_values | go_skip | go_step | go_guarded | go_upon | go_in | go_back | fail))
  with_reducible refine wp_reg (id := 2) ?_
  iterate 7
   refine wpO_want rfl ?_
   go_simp
  refine wpO_done ?_
  try go_frame
  clear hq q0 q2 hself
  try dsimp only
  repeat ((fail_if_success (with_reducible refine wp_reg (id := 3) ?_)); (first | go_values | go_skip | go_step | go_guarded | go_upon | go_in | go_back | fail))
  with_reducible refine wp_reg (id := 3) ?_
  refine wpO_want rfl ?_
  go_simp
  refine wpO_done ?_
  try go_frame
  go_wp2_with fail
  refine Sp.leaves0 ?_
  exact ⟨_,results_tmp (t := 4) rfl _ _ _,none,0,0,rfl,by rw [unhide hm0]; rfl,by rw [unhide hm0]; exact SSAt.nil _,(unhide hP).extf⟩
end Go.Proofs.YtbpeemhfjgcnaaaGreat
