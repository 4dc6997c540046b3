/- Every input makes the law IsomorphismMapping answer true, and each argument reads behind the call as it read before: the given statement. No condition. -/
import Derived.Test.YtbpeemhfjgcnaaaGreatC39
import Derived.Test.YtbpeemhfjgcnaaaGreatC43
import Derived.Test.YtbpeemhfjgcnaaaGreatC41
import Derived.Test.YtbpeemhfjgcnaaaGreatC36
import Derived.Test.YtbpeemhfjgcnaaaGreatC23
import Derived.Test.YtbpeemhfjgcnaaaGreatC30
import Derived.WalkMore
import Derived.Test.YtbpeemhfjgcnaaaGreatC37
import Derived.Test.YtbpeemhfjgcnaaaGreatC38
import Derived.Test.YtbpeemhfjgcnaaaGreatC47
import Derived.Test.YtbpeemhfjgcnaaaGreatC24
import Derived.Test.YtbpeemhfjgcnaaaGreatC17
import Derived.LaidMore
import Derived.Stop.Joined
import Derived.MakeChecks
import Derived.WalkKit
import Derived.ProofKit
import Derived.WideShapes
import Derived.OpenShut
import Derived.ShutString
import Derived.ChangeOld
import Derived.Below
namespace Go.Proofs.YtbpeemhfjgcnaaaGreat
open Go Go.RowKit Go.Shelf
attribute [local go_sem] qUpon lUpon
attribute [local irreducible] wpO wpX wpQL
theorem IsG.ne_G {w : World} {g bv be b : Nat} {V : List (Int × Thing)} {E : List ((Int × Int) × Thing)} {T : TypeId} {A B : Option Addr} {n c m d : Nat} (h : IsG w g bv be V E) (hb : Blk w b T #[.slice A n c, .slice B m d]) : b ≠ g ∧ b ≠ bv ∧ b ≠ be := by
 obtain ⟨V',E',⟨h1,⟨_,_,h2,_⟩,⟨_,_,h3,_⟩,_⟩,_⟩ := h
 unfold Blk at h1 hb
 refine ⟨fun e => ?_,fun e => ?_,fun e => ?_⟩
 ·subst e; rw [hb] at h1; simp at h1
 ·subst e; rw [hb] at h2; simp at h2
 ·subst e; rw [hb] at h3; simp at h3
theorem Sp.setOK {P : Program} {wf : World} {T0 : List Nat} {w W : World} {ds : List Deferred} {L : List Cl} {Rs : List Rw} {l : List Oper} {K : Act → World → Prop} {r : List Oper} {o : Oper} {a : Act} (h : Sp wf T0 w ds L Rs W) (i : Nat) {c : Nat} {t : TypeId} {cs : Array Value} (cs' : Array Value) (hi : L[i]? = some (c,t,cs)) (hw : Region.wanted o (yielded l.toArray a.tmps) = true) (hrun : Blk W c t cs → (execOp a.eval o).run P W = .ok .skip (W.setRow c cs'))
  (hk : ∀ W',Sp wf T0 w ds (L.set i (c,t,cs')) Rs W' → Keep [c] W W' → wpO P l K r (a.put o.dst undef) W') : wpO P l K (o :: r) a W := wpO_skip hw (hrun (h.get i hi)) (hk _ (h.set i hi) (Keep.setRow W c cs'))
def OtPost (V : List (Int × Thing)) (E : List ((Int × Int) × Thing)) (same : Bool) (w : World) (e : Ending) (w' : World) : Prop := ∃ g bv be V' E' A B cA cB q,e = .returned (.tuple #[.pointer (some ⟨g,0,none⟩), .agg #[.slice A V'.length cA, .slice B E'.length cB], .bool q]) ∧ IsG w' g bv be V' E' ∧ SlAt encV 3 w' A V' ∧ SlAt encE 4 w' B E' ∧ LabB V' E' ∧ (q = true → V'.length ≤ 6) ∧ (same = true → q = true ∧ ∃ to,OkTo V to ∧ IsRen V E to V' E') ∧ Ext w w'
set_option maxRecDepth 100000 in
set_option maxHeartbeats 16000000 in
theorem other_any (A : Option Addr) (L : List Ed) (cL : Nat) (A1 B1 : Option Addr) (V : List (Int × Thing)) (E : List ((Int × Int) × Thing)) (cA cB : Nat) (turn : Int) (same : Bool) (w : World) (hL : SlAt encD 5 w A L) (hok : ∀ d ∈ L,okB d) (hsV : SlAt encV 3 w A1 V) (hsE : SlAt encE 4 w B1 E) (hi : GInv V E) (hlb : LabB V E) (hl : V.length ≤ 6) (htn : 0 ≤ turn ∧ turn ≤ 18446744073709551615) :
  Calls Tryz.prog 28 #[.slice A L.length cL, .agg #[.slice A1 V.length cA, .slice B1 E.length cB], .int .u64 turn, .bool same] w (OtPost V E same w) := by
 have hL' := hide hL
 have hsV' := hide hsV
 have hsE' := hide hsE
 have hi' := hide hi
 have hlb' := hide hlb
 have hl' := hide hl
 have htn' := hide htn
 have hlbL := hide (mdS_lab hok)
 have hinv := hide (mdS_inv L)
 clear hL hok hsV hsE hi hlb hl htn
 have hP := hide (Sp.new w)
 refine callsIn_wide.1 (callsIn_of_wp_marks (n := 0) Tryz.func28 rfl trivial (wpIn_wide.2 ?_))
 simp only [Tryz.ntmps28,List.size_toArray,List.length_cons,List.length_nil,Nat.reduceAdd,Nat.reduceSub,Array.replicate_succ,Array.replicate_zero,List.push_toArray,List.append_toArray,List.nil_append,List.cons_append]
 try dsimp only
 repeat ((fail_if_success (with_reducible refine wp_reg (id := 0) ?_)); (first | go_values | go_skip | go_step | go_guarded | go_upon | go_in | go_back | fail))
 with_reducible refine wp_reg (id := 0) ?_
 refine (unhide hP).allocO 28 #[.slice A1 V.length cA, .slice B1 E.length cB] rfl (run_box (v := .agg #[.slice A1 V.length cA, .slice B1 E.length cB]) rfl rfl) ?_
 intro r5 y1 hQ
 replace hP : Hid (Sp w [] w [] [(r5,28, #[.slice A1 V.length cA, .slice B1 E.length cB])] [] y1) := hide hQ
 clear hQ
 refine wpO_want rfl ?_
 go_simp
 refine (unhide hP).allocO 28 #[.slice none 0 0, .slice none 0 0] rfl (by go_simp) ?_
 intro r9 y2 hQ
 replace hP : Hid (Sp w [] w [] [(r5,28, #[.slice A1 V.length cA, .slice B1 E.length cB]),(r9,28, #[.slice none 0 0, .slice none 0 0])] [] y2) := hide hQ
 clear hQ
 refine wpO_want rfl ?_
 go_simp
 refine wpO_done ?_
 try go_frame
 cases same
 ·skip
  try dsimp only
  repeat ((fail_if_success (with_reducible refine wp_reg (id := 1) ?_)); (first | go_values | go_skip | go_step | go_guarded | go_upon | go_in | go_back | fail))
  with_reducible refine wp_reg (id := 1) ?_
  iterate 2
   refine wpO_want rfl ?_
   go_simp
  refine wpO_done ?_
  try go_frame
  try dsimp only
  repeat ((fail_if_success (with_reducible refine wp_reg (id := 2) ?_)); (first | go_values | go_skip | go_step | go_guarded | go_upon | go_in | go_back | fail))
  with_reducible refine wp_reg (id := 2) ?_
  refine wpO_want rfl ?_
  go_simp
  refine wpO_want rfl ?_
  go_simp
  have hca := take_any A L cL 6 y2 ((unhide hL').ext (unhide hP).extf)
  refine hca.mono ?_
  clear hca
  generalize mdS L = S at *
  obtain ⟨V2,E2⟩ := S
  try dsimp only at hinv hlbL ⊢
  rintro _ y3 ⟨g,bv,be,A2,B2,cA2,cB2,rfl,hg0,hs0,he0,hxc⟩
  refine ⟨_,rfl, ?_⟩
  replace hP : Hid (Sp w [] w [] [(r5,28, #[.slice A1 V.length cA, .slice B1 E.length cB]),(r9,28, #[.slice none 0 0, .slice none 0 0])] [] y3) := hide ((unhide hP).ext hxc)
  have hg := hide hg0
  have hs2 := hide hs0
  have he2 := hide he0
  obtain ⟨q,hq⟩ : ∃ q,q = decide ((V2.length : Int) ≤ 6) := ⟨_,rfl⟩
  rw [← hq]
  have hq' := hide hq
  clear hxc hg0 hs0 he0 hq
  generalize htu0 : Value.tuple _ = tu
  have htu := hide htu0
  clear htu0
  refine wpO_val rfl (run_extract (i := 0) (v := .pointer (some ⟨g,0,none⟩)) rfl (unhide htu).symm rfl) ?_
  go_frame
  refine wpO_val rfl (run_extract (i := 1) (v := .agg #[.slice A2 V2.length cA2, .slice B2 E2.length cB2]) rfl (unhide htu).symm rfl) ?_
  go_frame
  refine wpO_val rfl (run_extract (i := 2) (v := .bool q) rfl (unhide htu).symm rfl) ?_
  go_frame
  refine wpO_want rfl ?_
  go_simp
  have hb9 := hide ((unhide hP).get 1 rfl)
  refine (unhide hP).setOK 1 #[.slice A2 V2.length cA2, .slice B2 E2.length cB2] rfl rfl (fun hb => run_store_row (v := .agg #[.slice A2 V2.length cA2, .slice B2 E2.length cB2]) rfl (by rfl) (by rfl) (by simp [go_sem]) hb rfl (fun u hu => by simp [Value.cells] at hu; rcases hu with rfl | rfl <;> rfl)) ?_
  intro y4 hQ hk9
  replace hP : Hid (Sp w [] w [] [(r5,28, #[.slice A1 V.length cA, .slice B1 E.length cB]),(r9,28, #[.slice A2 V2.length cA2, .slice B2 E2.length cB2])] [] y4) := hide hQ
  clear hQ
  try go_frame
  have hne := IsG.ne_G (unhide hg) (unhide hb9)
  replace hg := hide ((unhide hg).keep hk9 (by simp; omega) (by simp; omega) (by simp; omega))
  replace hs2 := hide (SlAt.keep_G (unhide hs2) (unhide hb9) ⟨_,_,_,rfl⟩ ⟨_,_,_,rfl⟩ encV_ns (fun x => ⟨_,rfl⟩) hk9)
  replace he2 := hide (SlAt.keep_G (unhide he2) (unhide hb9) ⟨_,_,_,rfl⟩ ⟨_,_,_,rfl⟩ encE_ns (fun x => ⟨_,rfl⟩) hk9)
  clear hne hb9 hk9
  refine wpO_want rfl ?_
  go_simp
  refine wpO_done ?_
  try go_frame
  clear htu
  go_wp2_with fail
  refine Sp.leaves0 ?_
  have h5 := (unhide hP).get 1 rfl
  refine ⟨_,ret_tct24 rfl rfl (load_G _ r9 _ _ (h5.cell 0) (h5.cell 1)), ?_⟩
  exact ⟨g,bv,be,V2,E2,A2,B2,cA2,cB2,q,rfl,unhide hg,unhide hs2,unhide he2,unhide hlbL,fun hq9 => (by have h := of_decide_eq_true ((unhide hq').symm.trans hq9); omega),fun h => (by cases h),(unhide hP).extf⟩
 ·skip
  clear hlbL hinv
  try dsimp only
  repeat ((fail_if_success (with_reducible refine wp_reg (id := 1) ?_)); (first | go_values | go_skip | go_step | go_guarded | go_upon | go_in | go_back | fail))
  with_reducible refine wp_reg (id := 1) ?_
  iterate 2
   refine wpO_want rfl ?_
   go_simp
  refine wpO_done ?_
  try go_frame
  have q0 := (unhide hP).cell 0 0 (v := .slice A1 V.length cA) rfl rfl
  have hself := Ext.refl y2
  try dsimp only
  repeat ((fail_if_success (with_reducible refine wp_reg (id := 3) ?_)); (first | go_values | go_skip | go_step | go_guarded | go_upon | go_in | go_back | fail))
  with_reducible refine wp_reg (id := 3) ?_
  iterate 4
   refine wpO_want rfl ?_
   go_simp
  clear q0 hself
  refine wpO_want rfl ?_
  go_simp
  have hca := numbers_any V.length turn y2 (by have := unhide hl'; omega) (unhide htn')
  refine hca.mono ?_
  clear hca
  rintro _ y3 ⟨to2,hnu0,A2,n2,c2,rfl,hn20,ho2,hxc⟩
  have hnu := hide hnu0
  have hn2 := hide hn20
  rw [hn20] at ho2
  have hA2 := hide (own_at (enc := encI) ho2 (fun _ => rfl))
  refine ⟨_,rfl, ?_⟩
  replace hP : Hid (Sp w [] w [] [(r5,28, #[.slice A1 V.length cA, .slice B1 E.length cB]),(r9,28, #[.slice none 0 0, .slice none 0 0])] [] y3) := hide ((unhide hP).ext hxc)
  clear hxc hnu0 hn20 ho2
  refine wpO_want rfl ?_
  go_simp
  refine wpO_done ?_
  try go_frame
  have q0 := (unhide hP).cell 0 0 (v := .slice A1 V.length cA) rfl rfl
  have q1 := (unhide hP).cell 0 1 (v := .slice B1 E.length cB) rfl rfl
  have hself := Ext.refl y3
  try dsimp only
  repeat ((fail_if_success (with_reducible refine wp_reg (id := 4) ?_)); (first | go_values | go_skip | go_step | go_guarded | go_upon | go_in | go_back | fail))
  with_reducible refine wp_reg (id := 4) ?_
  iterate 2
   refine wpO_want rfl ?_
   go_simp
  clear q0 q1 hself
  refine wpO_want rfl ?_
  go_simp
  have hca := renamed08_any A1 B1 V E V.length E.length cA cB A2 to2 n2 c2 y3 ((unhide hsV').ext (unhide hP).extf) ((unhide hsE').ext (unhide hP).extf) (unhide hi') rfl rfl (unhide hA2) (unhide hn2) (unhide hnu).ok
  refine hca.mono ?_
  clear hca
  rintro _ y4 ⟨V2,E2,A3,cA3,B3,cB3,hre0,rfl,hs0,he0,hxc⟩
  have hren := hide hre0
  have hs2 := hide hs0
  have he2 := hide he0
  clear hA2
  refine ⟨_,rfl, ?_⟩
  replace hP : Hid (Sp w [] w [] [(r5,28, #[.slice A1 V.length cA, .slice B1 E.length cB]),(r9,28, #[.slice none 0 0, .slice none 0 0])] [] y4) := hide ((unhide hP).ext hxc)
  clear hxc hre0 hs0 he0
  refine (unhide hP).allocT 28 #[.slice none 0 0, .slice none 0 0] rfl (by go_simp) ?_
  intro r12 y5 hQ hxa hga
  replace hP : Hid (Sp w [] w [] [(r5,28, #[.slice A1 V.length cA, .slice B1 E.length cB]),(r9,28, #[.slice none 0 0, .slice none 0 0]),(r12,28, #[.slice none 0 0, .slice none 0 0])] [] y5) := hide hQ
  clear hQ
  try go_frame
  refine (unhide hP).setT 2 #[.slice A3 V2.length cA3, .slice B3 E2.length cB3] rfl rfl (fun hb => run_store_row (v := .agg #[.slice A3 V2.length cA3, .slice B3 E2.length cB3]) rfl (by rfl) (by rfl) (by simp [go_sem]) hb rfl (fun u hu => by simp [Value.cells] at hu; rcases hu with rfl | rfl <;> rfl)) ?_
  intro y6 hQ hkq
  replace hP : Hid (Sp w [] w [] [(r5,28, #[.slice A1 V.length cA, .slice B1 E.length cB]),(r9,28, #[.slice none 0 0, .slice none 0 0]),(r12,28, #[.slice A3 V2.length cA3, .slice B3 E2.length cB3])] [] y6) := hide hQ
  have hxs := hxa.of_new hkq (fun x hx => by rw [List.mem_singleton] at hx; rw [hx]; exact hga)
  clear hQ hkq hxa hga
  try go_frame
  replace hs2 := hide ((unhide hs2).ext (hxs))
  replace he2 := hide ((unhide he2).ext (hxs))
  clear hxs
  refine wpO_done ?_
  try go_frame
  have q0 := (unhide hP).cell 2 0 (v := .slice A3 V2.length cA3) rfl rfl
  have q1 := (unhide hP).cell 2 1 (v := .slice B3 E2.length cB3) rfl rfl
  have hself := Ext.refl y6
  try dsimp only
  repeat ((fail_if_success (with_reducible refine wp_reg (id := 5) ?_)); (first | go_values | go_skip | go_step | go_guarded | go_upon | go_in | go_back | fail))
  with_reducible refine wp_reg (id := 5) ?_
  refine wpO_want rfl ?_
  go_simp
  clear q0 q1 hself
  refine wpO_want rfl ?_
  go_simp
  have hca := from_any A3 B3 V2 E2 cA3 cB3 y6 (unhide hs2) (unhide he2) (unhide hren).inv
  refine hca.mono ?_
  clear hca
  rintro _ y7 ⟨gn,gn1,gn2,rfl,hgn0,hxc,hn7,hn8,hn9⟩
  have hg := hide hgn0
  refine ⟨_,rfl, ?_⟩
  replace hP : Hid (Sp w [] w [] [(r5,28, #[.slice A1 V.length cA, .slice B1 E.length cB]),(r9,28, #[.slice none 0 0, .slice none 0 0]),(r12,28, #[.slice A3 V2.length cA3, .slice B3 E2.length cB3])] [] y7) := hide ((unhide hP).ext hxc)
  replace hs2 := hide ((unhide hs2).ext (hxc))
  replace he2 := hide ((unhide he2).ext (hxc))
  clear hxc hgn0 hn7 hn8 hn9
  refine wpO_want rfl ?_
  go_simp
  refine wpO_done ?_
  try go_frame
  go_wp2_with fail
  have hb9 := hide ((unhide hP).get 1 rfl)
  have hne := hide (IsG.ne_G (unhide hg) (unhide hb9))
  have hsk := hide (fun (W : World) (hW : Keep [r9] y7 W) => SlAt.keep_G (unhide hs2) (unhide hb9) ⟨_,_,_,rfl⟩ ⟨_,_,_,rfl⟩ encV_ns (fun x => ⟨_,rfl⟩) hW)
  have hek := hide (fun (W : World) (hW : Keep [r9] y7 W) => SlAt.keep_G (unhide he2) (unhide hb9) ⟨_,_,_,rfl⟩ ⟨_,_,_,rfl⟩ encE_ns (fun x => ⟨_,rfl⟩) hW)
  have hgk := hide (fun (W : World) (hW : Keep [r9] y7 W) => (unhide hg).keep hW (by have := unhide hne; simp; omega) (by have := unhide hne; simp; omega) (by have := unhide hne; simp; omega))
  clear hs2 he2 hg hb9
  have q0 := (unhide hP).cellK (S := [r9]) 2 0 (v := .slice A3 V2.length cA3) rfl rfl (by rw [List.mem_singleton]; exact (unhide hP).ne 2 1 (by decide) rfl rfl)
  have q1 := (unhide hP).cellK (S := [r9]) 2 1 (v := .slice B3 E2.length cB3) rfl rfl (by rw [List.mem_singleton]; exact (unhide hP).ne 2 1 (by decide) rfl rfl)
  have hself := Keep.refl [r9] y7
  refine wp_regionK (P := Tryz.prog) [r9] [0,1,2,3,4] [] 2 #[true,true,true,true,true,false,false] (by kernel_rfl) (by kernel_rfl) rfl (by rfl) ?_
  iterate 5
   refine ql_want (v := ?_) rfl (by rfl) (fun W hW => ?_) ?_
   rotate_left
   ·go_simp
    first | done | rfl
   go_frame
  refine wpQL_nil (fun y8 hxq => ?_)
  have hK := hide (hxq.keep [r9])
  replace hP : Hid (Sp w [] w [] [(r5,28, #[.slice A1 V.length cA, .slice B1 E.length cB]),(r9,28, #[.slice none 0 0, .slice none 0 0]),(r12,28, #[.slice A3 V2.length cA3, .slice B3 E2.length cB3])] [] y8) := hide ((unhide hP).ext hxq)
  clear hxq
  clear q0 q1 hself
  have hKa := hK
  refine lx_one (i := 5) (by kernel_rfl) rfl (by rfl) #[true,true,true,true,true,true,false] (by rfl) ?_
  refine (unhide hP).setL (unhide hK) 1 #[.slice A3 V2.length cA3, .slice B3 E2.length cB3] rfl (by simp) (fun hb => run_store_row (v := .agg #[.slice A3 V2.length cA3, .slice B3 E2.length cB3]) rfl (by rfl) (by rfl) (by simp [go_sem]) hb rfl (fun u hu => by simp [Value.cells] at hu; rcases hu with rfl | rfl <;> rfl)) ?_
  intro y9 hQ hK2
  replace hP : Hid (Sp w [] w [] [(r5,28, #[.slice A1 V.length cA, .slice B1 E.length cB]),(r9,28, #[.slice A3 V2.length cA3, .slice B3 E2.length cB3]),(r12,28, #[.slice A3 V2.length cA3, .slice B3 E2.length cB3])] [] y9) := hide hQ
  replace hK := hide hK2
  clear hQ hK2
  try go_frame
  have hKb := hK
  refine lx_rekeep (unhide hK) [6] [] 0 1 #[true,true,true,true,true,true,false] #[true,true,true,true,true,true,true] (by kernel_rfl) rfl (by rfl) ?_
  clear hK
  iterate 1
   refine ql_want (v := ?_) rfl (by rfl) (fun W hW => ?_) ?_
   rotate_left
   ·go_simp
    first | done | rfl
   go_frame
  refine wpQL_nil (fun y10 hxq => ?_)
  have hK := hide (hxq.keep [r9])
  replace hP : Hid (Sp w [] w [] [(r5,28, #[.slice A1 V.length cA, .slice B1 E.length cB]),(r9,28, #[.slice A3 V2.length cA3, .slice B3 E2.length cB3]),(r12,28, #[.slice A3 V2.length cA3, .slice B3 E2.length cB3])] [] y10) := hide ((unhide hP).ext hxq)
  clear hxq
  refine wpX_done (by kernel_rfl) ?_
  try go_frame
  go_wp2_with fail
  have hKe := hide ((unhide hKb).trans (unhide hK))
  refine Sp.leaves0 ?_
  have h5 := (unhide hP).get 1 rfl
  refine ⟨_,ret_tct24 rfl rfl (load_G _ r9 _ _ (h5.cell 0) (h5.cell 1)), ?_⟩
  exact ⟨gn,gn1,gn2,V2,E2,A3,B3,cA3,cB3,true,rfl,unhide hgk _ (unhide hKe),unhide hsk _ (unhide hKe),unhide hek _ (unhide hKe),ren_lab (unhide hlb') (unhide hren),fun _ => by rw [(unhide hren).pv.length_eq,renV_len (unhide hnu).ok.len]; exact unhide hl',fun _ => ⟨rfl,to2,(unhide hnu).ok,unhide hren⟩,(unhide hP).extf⟩
end Go.Proofs.YtbpeemhfjgcnaaaGreat
namespace Go.Proofs.YtbpeemhfjgcnaaaGreat
open Go Go.RowKit Go.Shelf
attribute [local go_sem] qUpon lUpon
attribute [local irreducible] wpO wpX wpQL
def IsoPost (V : List (Int × Thing)) (E : List ((Int × Int) × Thing)) (V' : List (Int × Thing)) (E' : List ((Int × Int) × Thing)) (w : World) (e : Ending) (w' : World) : Prop := ∃ V2 E2 V3 E3,IsCan V E V2 E2 ∧ IsCan V' E' V3 E3 ∧ e = .returned (.tuple #[.bool (decide (V2 = V3) && decide (E2 = E3)), .int .i64 0]) ∧ Ext w w'
set_option maxRecDepth 100000 in
set_option maxHeartbeats 16000000 in
theorem iso_any (g bv be g' bv' be' : Nat) (V V' : List (Int × Thing)) (E E' : List ((Int × Int) × Thing)) (w : World) (hg : IsG w g bv be V E) (hg2 : IsG w g' bv' be' V' E') (hl : V.length ≤ 8) (hl2 : V'.length ≤ 8) (hlb : LabB V E) (hlb2 : LabB V' E') :
  Calls Tryz.prog 27 #[.pointer (some ⟨g,0,none⟩), .pointer (some ⟨g',0,none⟩)] w (IsoPost V E V' E' w) := by
 have hg' := hide hg
 have hg2' := hide hg2
 have hgr := hide hg
 have hgr2 := hide hg2
 have hl' := hide hl
 have hl2' := hide hl2
 have hlb' := hide hlb
 have hlb2' := hide hlb2
 obtain ⟨z,hz0⟩ : ∃ z : Int,z = ((if (0 : Nat) = 0 then 0 else 0 : Nat) : Int) := ⟨_,rfl⟩
 have hq : ((z : Int) != 0) = false := by rw [hz0]; rfl
 have hz' := hide hz0
 clear hg hg2 hl hl2 hlb hlb2 hz0
 have hP := hide (Sp.new w)
 refine callsIn_wide.1 (callsIn_of_wp_marks (n := 0) Tryz.func27 rfl trivial (wpIn_wide.2 ?_))
 simp only [Tryz.ntmps27,List.size_toArray,List.length_cons,List.length_nil,Nat.reduceAdd,Nat.reduceSub,Array.replicate_succ,Array.replicate_zero,List.push_toArray,List.append_toArray,List.nil_append,List.cons_append]
 try dsimp only
 repeat ((fail_if_success (with_reducible refine wp_reg (id := 0) ?_)); (first | go_values | go_skip | go_step | go_guarded | go_upon | go_in | go_back | fail))
 with_reducible refine wp_reg (id := 0) ?_
 iterate 2
  refine wpO_want rfl ?_
  go_simp
 refine wpO_done ?_
 try go_frame
 try dsimp only
 repeat ((fail_if_success (with_reducible refine wp_reg (id := 1) ?_)); (first | go_values | go_skip | go_step | go_guarded | go_upon | go_in | go_back | fail))
 with_reducible refine wp_reg (id := 1) ?_
 iterate 2
  refine wpO_want rfl ?_
  go_simp
 refine (unhide hP).buildO 2 24 #[.pointer (some ⟨g,0,none⟩), .pointer (some ⟨g',0,none⟩)] rfl (by go_simp) ?_
 intro bp y1 hQ
 replace hP : Hid (Sp w [] w [] [(bp,24, #[.pointer (some ⟨g,0,none⟩), .pointer (some ⟨g',0,none⟩)])] [] y1) := hide hQ
 clear hQ
 try go_frame
 refine wpO_want rfl ?_
 go_simp
 refine (asked2 bp (some ⟨g,0,none⟩) (some ⟨g',0,none⟩) 0 0 z y1 ((unhide hP).get 0 rfl) (AskIs.good ((unhide hg').ext (unhide hP).extf) (unhide hl')) (AskIs.good ((unhide hg2').ext (unhide hP).extf) (unhide hl2')) (unhide hz')).mono ?_
 rintro _ y2 ⟨rfl,hxc⟩
 refine ⟨_,rfl, ?_⟩
 replace hP : Hid (Sp w [] w [] [(bp,24, #[.pointer (some ⟨g,0,none⟩), .pointer (some ⟨g',0,none⟩)])] [] y2) := hide ((unhide hP).ext hxc)
 clear hxc
 refine wpO_want rfl ?_
 go_simp
 refine wpO_done ?_
 try go_frame
 replace hP : Hid (Sp w [] w [] [] [] y2) := hide ((unhide hP).sub (List.sublist_append_left _ ([(bp,24, #[.pointer (some ⟨g,0,none⟩), .pointer (some ⟨g',0,none⟩)])] : List Cl)) (List.Sublist.refl _))
 replace hgr := hide ((unhide hg').ext (unhide hP).extf)
 replace hgr2 := hide ((unhide hg2').ext (unhide hP).extf)
 try dsimp only
 repeat ((fail_if_success (with_reducible refine wp_reg (id := 2) ?_)); (first | go_values | go_skip | go_step | go_guarded | go_upon | go_in | go_back | fail))
 with_reducible refine wp_reg (id := 2) ?_
 iterate 2
  refine wpO_want rfl ?_
  go_simp
 refine wpO_done ?_
 try go_frame
 clear hq
 try dsimp only
 repeat ((fail_if_success (with_reducible refine wp_reg (id := 4) ?_)); (first | go_values | go_skip | go_step | go_guarded | go_upon | go_in | go_back | fail))
 with_reducible refine wp_reg (id := 4) ?_
 refine wpO_want rfl ?_
 go_simp
 refine wpO_want rfl ?_
 go_simp
 have hca := canon_any g bv be V E y2 (unhide hgr) (unhide hl') (unhide hlb')
 refine hca.mono ?_
 clear hca
 rintro _ y3 ⟨fa,fav,fae,V2a,E2a,Ala,nla,cla,rfl,hnl0,hgf0,hcan0,ho,hxc,hn7,hn8,hn9⟩
 have hgfa := hide hgf0
 have hcana := hide hcan0
 refine ⟨_,rfl, ?_⟩
 replace hP : Hid (Sp w [] w [] [] [] y3) := hide ((unhide hP).ext hxc)
 replace hgr := hide ((unhide hgr).ext (hxc))
 replace hgr2 := hide ((unhide hgr2).ext (hxc))
 clear hxc ho hgf0 hcan0 hnl0 hn7 hn8 hn9
 generalize htu0 : Value.tuple _ = tu
 have htu := hide htu0
 clear htu0
 refine wpO_val rfl (run_move rfl rfl) ?_
 go_frame
 refine wpO_val rfl (run_extract (i := 0) (v := .pointer (some ⟨fa,0,none⟩)) rfl (unhide htu).symm rfl) ?_
 go_frame
 refine wpO_val rfl (run_extract (i := 1) (v := .slice Ala nla cla) rfl (unhide htu).symm rfl) ?_
 go_frame
 refine wpO_val rfl (run_extract (i := 2) (v := .int .i64 0) rfl (unhide htu).symm rfl) ?_
 go_frame
 iterate 3
  refine wpO_want rfl ?_
  go_simp
 refine wpO_done ?_
 try go_frame
 clear htu
 try dsimp only
 repeat ((fail_if_success (with_reducible refine wp_reg (id := 5) ?_)); (first | go_values | go_skip | go_step | go_guarded | go_upon | go_in | go_back | fail))
 with_reducible refine wp_reg (id := 5) ?_
 refine wpO_want rfl ?_
 go_simp
 refine wpO_want rfl ?_
 go_simp
 have hca := canon_any g' bv' be' V' E' y3 (unhide hgr2) (unhide hl2') (unhide hlb2')
 refine hca.mono ?_
 clear hca
 rintro _ y4 ⟨fb,fbv,fbe,V2b,E2b,Alb,nlb,clb,rfl,hnl0,hgf0,hcan0,ho,hxc,hn7,hn8,hn9⟩
 have hgfb := hide hgf0
 have hcanb := hide hcan0
 refine ⟨_,rfl, ?_⟩
 replace hP : Hid (Sp w [] w [] [] [] y4) := hide ((unhide hP).ext hxc)
 replace hgr := hide ((unhide hgr).ext (hxc))
 replace hgr2 := hide ((unhide hgr2).ext (hxc))
 replace hgfa := hide ((unhide hgfa).ext (hxc))
 clear hxc ho hgf0 hcan0 hnl0 hn7 hn8 hn9
 generalize htu0 : Value.tuple _ = tu
 have htu := hide htu0
 clear htu0
 refine wpO_val rfl (run_move rfl rfl) ?_
 go_frame
 refine wpO_val rfl (run_extract (i := 0) (v := .pointer (some ⟨fb,0,none⟩)) rfl (unhide htu).symm rfl) ?_
 go_frame
 refine wpO_val rfl (run_extract (i := 1) (v := .slice Alb nlb clb) rfl (unhide htu).symm rfl) ?_
 go_frame
 refine wpO_val rfl (run_extract (i := 2) (v := .int .i64 0) rfl (unhide htu).symm rfl) ?_
 go_frame
 iterate 3
  refine wpO_want rfl ?_
  go_simp
 refine wpO_done ?_
 try go_frame
 clear htu
 try dsimp only
 repeat ((fail_if_success (with_reducible refine wp_reg (id := 6) ?_)); (first | go_values | go_skip | go_step | go_guarded | go_upon | go_in | go_back | fail))
 with_reducible refine wp_reg (id := 6) ?_
 iterate 2
  refine wpO_want rfl ?_
  go_simp
 refine wpO_want rfl ?_
 go_simp
 have hca := equal_any fa fav fae fb fbv fbe V2a V2b E2a E2b y4 (unhide hgfa) (unhide hgfb)
 obtain ⟨qq,hqq0⟩ : ∃ q,q = (decide (V2a = V2b) && decide (E2a = E2b)) := ⟨_,rfl⟩
 rw [← hqq0] at hca
 have hqq := hide hqq0
 refine hca.mono ?_
 clear hca hqq0
 rintro _ y5 ⟨rfl,hxc⟩
 refine ⟨_,rfl, ?_⟩
 replace hP : Hid (Sp w [] w [] [] [] y5) := hide ((unhide hP).ext hxc)
 replace hgr := hide ((unhide hgr).ext (hxc))
 replace hgr2 := hide ((unhide hgr2).ext (hxc))
 replace hgfa := hide ((unhide hgfa).ext (hxc))
 replace hgfb := hide ((unhide hgfb).ext (hxc))
 clear hxc
 iterate 2
  refine wpO_want rfl ?_
  go_simp
 refine wpO_done ?_
 try go_frame
 go_wp2_with fail
 refine Sp.leaves0 ?_
 exact ⟨_,results_tmp2 (t := 4) (u := 5) rfl _ _ _,V2a,E2a,V2b,E2b,unhide hcana,unhide hcanb,by rw [← unhide hqq]; rfl,(unhide hP).extf⟩
end Go.Proofs.YtbpeemhfjgcnaaaGreat
namespace Go.Proofs.YtbpeemhfjgcnaaaGreat
open Go Go.RowKit Go.Shelf
attribute [local go_sem] qUpon lUpon
attribute [local irreducible] wpO wpX wpQL
structure TellR (ga bva bea : Nat) (V : List (Int × Thing)) (E : List ((Int × Int) × Thing)) (N fd : Nat) (caps : Array Value) (q : Bool) (m : Nat) (J : List (List Int) → List Nat → World → Prop) : Prop where
 enters : ∀ args w,(callFunc fd args).run Tryz.prog w = .ok (.enter fd args) w
 keep : ∀ k T W W' S,J k T W → Keep S W W' → (∀ x ∈ S,x ∉ T) → J k T W'
 lt : ∀ k T W,J k T W → ∀ x ∈ T,x < W.heap.size
 step : ∀ told (l : List Int) T W A n c,J told T W → IsG W ga bva bea V E → n = l.length → n = m → n ≤ c → SlAt encI 1 W A l → (∀ b off,A = some ⟨b,off,none⟩ → b ∉ T) → told.length < N →
  Calls Tryz.prog fd (#[.slice A n c] ++ caps) W fun e W' => e = .returned (.bool q) ∧ ∃ T',J (told ++ [l]) T' W' ∧ Keep T W W' ∧ ∀ x ∈ T',x ∈ T ∨ W.heap.size ≤ x
set_option maxRecDepth 100000 in
set_option maxHeartbeats 16000000 in
theorem extendR_end {b1 b2 b3 b4 b5 b6 nv cv nu cu ga bva bea gb bvb beb fd N : Nat} {Av Au : Option Addr} {V V' : List (Int × Thing)} {E E' : List ((Int × Int) × Thing)} {caps : Array Value} {q : Bool} {J : List (List Int) → List Nat → World → Prop} (hC : TellR ga bva bea V E N fd caps q nv J) (told : List (List Int)) (T : List Nat) (w : World) (A : Option Addr) (n c : Nat) (xs : List Int) (h : PlH J (FxM b1 b2 b3 b4 b5 b6 Av nv cv Au nu cu ga bva bea gb bvb beb V E V' E' fd caps) (tfM b1 b2 b3 b4 b5 b6 Av Au ga bva bea gb bvb beb) told T (.slice A n c) n xs w) (hn : n = xs.length) (hf : n = nv) (hN : told.length < N) :
  Calls Tryz.prog 82 #[.slice A n c, .pointer (some ⟨b1,0,none⟩), .pointer (some ⟨b2,0,none⟩), .pointer (some ⟨b3,0,none⟩), .pointer (some ⟨b4,0,none⟩), .pointer (some ⟨b5,0,none⟩), .pointer (some ⟨b6,0,none⟩)] w (ExPost J T (.slice A n c) n xs w (told ++ [xs]) q) := by
 have h' := hide h
 have hn' := hide hn
 have hC' := hide hC
 have hen := hC.enters
 have e1 := h.f.c1.cells 0 (v := .slice Av nv cv) rfl
 have e2 := h.f.c2.cells 0 (v := .func (.func fd) #[] caps) rfl
 have hself := Ext.refl w
 have hq : ((n : Int) == (nv : Int)) = true := by rw [hf]; simp
 have hf' := hide hf
 clear h hn hC hf
 have hP := hide (Sp.new w)
 refine callsIn_wide.1 (callsIn_of_wp_marks (n := 0) Tryz.func82 rfl trivial (wpIn_wide.2 ?_))
 simp only [Tryz.ntmps82,List.size_toArray,List.length_cons,List.length_nil,Nat.reduceAdd,Nat.reduceSub,Array.replicate_succ,Array.replicate_zero,List.push_toArray,List.append_toArray,List.nil_append,List.cons_append]
 try dsimp only
 repeat ((fail_if_success (with_reducible refine wp_reg (id := 0) ?_)); (first | go_values | go_skip | go_step | go_guarded | go_upon | go_in | go_back | fail))
 with_reducible refine wp_reg (id := 0) ?_
 refine wpO_want rfl ?_
 go_simp
 refine wpO_done ?_
 try go_frame
 try dsimp only
 repeat ((fail_if_success (with_reducible refine wp_reg (id := 1) ?_)); (first | (with_reducible apply wp_scope_straight) | (with_reducible apply wp_label) | go_values | go_skip | go_step | go_guarded | go_upon | go_in | go_back | fail))
 with_reducible refine wp_reg (id := 1) ?_
 iterate 3
  refine wpO_want rfl ?_
  go_simp
 refine wpO_done ?_
 try go_frame
 try dsimp only
 repeat ((fail_if_success (with_reducible refine wp_reg (id := 2) ?_)); (first | go_values | go_skip | go_step | go_guarded | go_upon | go_in | go_back | fail))
 with_reducible refine wp_reg (id := 2) ?_
 iterate 4
  refine wpO_want rfl ?_
  go_simp
 refine wpO_done ?_
 try go_frame
 try dsimp only
 repeat ((fail_if_success (with_reducible refine wp_reg (id := 3) ?_)); (first | go_values | go_skip | go_step | go_guarded | go_upon | go_in | go_back | fail))
 with_reducible refine wp_reg (id := 3) ?_
 iterate 3
  refine wpO_want rfl ?_
  go_simp
 have hst := (unhide hC').step told xs T w A n c (unhide h').j (unhide h').f.ha (unhide hn') (unhide hf') (own_cap (unhide h').own) (own_at (by have h := (unhide h').own; rw [unhide hn'] at h; exact h) (fun _ => rfl)) (fun b off e => ((unhide h').vf b (by rw [e]; rfl)).2) hN
 refine hst.mono ?_
 rintro _ W' ⟨rfl,T',h1,h2,h3⟩
 refine ⟨_,rfl, ?_⟩
 have hfin := hide (PlH.tell (unhide h') h1 h2 h3)
 clear h1 h2 h3 hst e1 e2 hself
 refine wpO_want rfl ?_
 go_simp
 refine wpO_done ?_
 try go_frame
 go_wp2_with fail
 refine Sp.leaves0 ?_
 exact ⟨_,results_tmp rfl _ _ _,rfl,unhide hfin⟩
set_option maxRecDepth 100000 in
set_option maxHeartbeats 16000000 in
theorem extendR_level {b1 b2 b3 b4 b5 b6 nv cv nu cu ga bva bea gb bvb beb fd N : Nat} {Av Au : Option Addr} {V V' : List (Int × Thing)} {E E' : List ((Int × Int) × Thing)} {caps : Array Value} {q : Bool} {J : List (List Int) → List Nat → World → Prop} (hC : TellR ga bva bea V E N fd caps q nv J) (hnv : nv = V.length) (hnu : nu = V'.length) (hl : nv ≤ 8) (hlu : nu ≤ 8) (hlb : LabB V E) (hlb2 : LabB V' E') (n f : Nat) (hnf : n + (f + 1) = nv)
  (ih : ∀ (told : List (List Int)) (T : List Nat) (w : World) (A : Option Addr) (c : Nat) (xs : List Int),PlH J (FxM b1 b2 b3 b4 b5 b6 Av nv cv Au nu cu ga bva bea gb bvb beb V E V' E' fd caps) (tfM b1 b2 b3 b4 b5 b6 Av Au ga bva bea gb bvb beb) told T (.slice A (n + 1) c) (n + 1) xs w → n + 1 = xs.length → told.length + (extL V E (idsV V) V' E' (idsV V') f xs).length ≤ N → Calls Tryz.prog 82 #[.slice A (n + 1) c, .pointer (some ⟨b1,0,none⟩), .pointer (some ⟨b2,0,none⟩), .pointer (some ⟨b3,0,none⟩), .pointer (some ⟨b4,0,none⟩), .pointer (some ⟨b5,0,none⟩), .pointer (some ⟨b6,0,none⟩)] w (ExPost J T (.slice A (n + 1) c) (n + 1) xs w (told ++ outT q (extL V E (idsV V) V' E' (idsV V') f xs)) (ansT q (extL V E (idsV V) V' E' (idsV V') f xs))))
  (told : List (List Int)) (T : List Nat) (w : World) (A : Option Addr) (c : Nat) (xs : List Int) (h : PlH J (FxM b1 b2 b3 b4 b5 b6 Av nv cv Au nu cu ga bva bea gb bvb beb V E V' E' fd caps) (tfM b1 b2 b3 b4 b5 b6 Av Au ga bva bea gb bvb beb) told T (.slice A n c) n xs w) (hn : n = xs.length) (hN : told.length + (extL V E (idsV V) V' E' (idsV V') (f + 1) xs).length ≤ N) :
  Calls Tryz.prog 82 #[.slice A n c, .pointer (some ⟨b1,0,none⟩), .pointer (some ⟨b2,0,none⟩), .pointer (some ⟨b3,0,none⟩), .pointer (some ⟨b4,0,none⟩), .pointer (some ⟨b5,0,none⟩), .pointer (some ⟨b6,0,none⟩)] w (ExPost J T (.slice A n c) n xs w (told ++ outT q (extL V E (idsV V) V' E' (idsV V') (f + 1) xs)) (ansT q (extL V E (idsV V) V' E' (idsV V') (f + 1) xs))) := by
 have h' := hide h
 have hn' := hide hn
 have hC' := hide hC
 have ih' := hide ih
 have hN' := hide hN
 have hnv' := hide hnv
 have hnu' := hide hnu
 have hl' := hide hl
 have hlu' := hide hlu
 have hlb' := hide hlb
 have hlb2' := hide hlb2
 have hnf' := hide hnf
 have e1 := h.f.c1.cells 0 (v := .slice Av nv cv) rfl
 have e3 := h.f.c3.cells 0 (v := .slice Au nu cu) rfl
 have hself := Ext.refl w
 have hq : ((n : Int) == (nv : Int)) = false := by simp; omega
 obtain ⟨ui,hus⟩ : ∃ ui,ui = idsV V' := ⟨_,rfl⟩
 have hul := hide (show nu = ui.length by rw [hus,idsV_len,hnu])
 have hus' := hide hus
 rw [← hus] at ih' hN' ⊢
 clear h hn hC ih hN hnv hnu hl hlu hlb hlb2 hnf hus
 have hP := hide (Sp.new w)
 refine callsIn_wide.1 (callsIn_of_wp_marks (n := 0) Tryz.func82 rfl trivial (wpIn_wide.2 ?_))
 simp only [Tryz.ntmps82,List.size_toArray,List.length_cons,List.length_nil,Nat.reduceAdd,Nat.reduceSub,Array.replicate_succ,Array.replicate_zero,List.push_toArray,List.append_toArray,List.nil_append,List.cons_append]
 try dsimp only
 repeat ((fail_if_success (with_reducible refine wp_reg (id := 0) ?_)); (first | go_values | go_skip | go_step | go_guarded | go_upon | go_in | go_back | fail))
 with_reducible refine wp_reg (id := 0) ?_
 refine wpO_want rfl ?_
 go_simp
 refine wpO_done ?_
 try go_frame
 try dsimp only
 repeat ((fail_if_success (with_reducible refine wp_reg (id := 1) ?_)); (first | (with_reducible apply wp_scope_straight) | (with_reducible apply wp_label) | go_values | go_skip | go_step | go_guarded | go_upon | go_in | go_back | fail))
 with_reducible refine wp_reg (id := 1) ?_
 iterate 3
  refine wpO_want rfl ?_
  go_simp
 refine wpO_done ?_
 try go_frame
 try dsimp only
 repeat ((fail_if_success (with_reducible refine wp_reg (id := 2) ?_)); (first | go_values | go_skip | go_step | go_guarded | go_upon | go_in | go_back | fail))
 with_reducible refine wp_reg (id := 2) ?_
 iterate 4
  refine wpO_want rfl ?_
  go_simp
 refine wpO_done ?_
 try go_frame
 try dsimp only
 repeat ((fail_if_success (with_reducible refine wp_reg (id := 4) ?_)); (first | (with_reducible apply wp_scope_straight) | (with_reducible apply wp_label) | go_values | go_skip | go_step | go_guarded | go_upon | go_in | go_back | fail))
 with_reducible refine wp_reg (id := 4) ?_
 iterate 3
  refine wpO_want rfl ?_
  go_simp
 refine wpO_done ?_
 try go_frame
 clear e1 e3 hself hq
 go_wp2_with fail
 obtain ⟨I0_2,hI0_20⟩ : ∃ I : Nat → Act → World → Prop,I = fun fi a' wr => ∃ (i : Nat),a'.tmps.size = 88 ∧ a'.tmps.getD 0 undef = .slice A n c ∧ a'.tmps.getD 1 undef = .pointer (some ⟨b1,0,none⟩) ∧ a'.tmps.getD 2 undef = .pointer (some ⟨b2,0,none⟩) ∧ a'.tmps.getD 3 undef = .pointer (some ⟨b3,0,none⟩) ∧ a'.tmps.getD 4 undef = .pointer (some ⟨b4,0,none⟩) ∧ a'.tmps.getD 5 undef = .pointer (some ⟨b5,0,none⟩) ∧ a'.tmps.getD 6 undef = .pointer (some ⟨b6,0,none⟩) ∧ a'.tmps.getD 8 undef = .bool false ∧ a'.tmps.getD 9 undef = .int .i64 (n : Nat) ∧ a'.tmps.getD 23 undef = .slice Au nu cu ∧ a'.tmps.getD 24 undef = .int .i64 (nu : Nat) ∧ a'.tmps.getD 25 undef = .int .i64 (i : Nat) ∧ a'.defers = [] ∧ i ≤ nu ∧ PlI J T (.slice A n c) n xs w (told ++ mapT V E (idsV V) V' E' ui f xs i) wr ∧ (q = false → mapT V E (idsV V) V' E' ui f xs i = []) ∧ fi = nu - i := ⟨_,rfl⟩
 have hI0_2 := hide hI0_20
 clear hI0_20
 refine wp_loop_ix I0_2 (nu - 0) ?_ ?_
 ·rw [unhide hI0_2]; exact ⟨0,rfl,rfl,rfl,rfl,rfl,rfl,rfl,rfl,rfl,rfl,rfl,rfl,rfl,rfl,Nat.zero_le _,by rw [mapT_zero,List.append_nil]; exact (unhide h').start,fun _ => mapT_zero,rfl⟩
 ·rintro fi ⟨tm,dfs⟩ wr hrel
  rw [unhide hI0_2] at hrel
  obtain ⟨i,hsz,e0,e1,e2,e3,e4,e5,e6,e8,e9,e23,e24,e25,hdf,hin,hpl,hz0,hfm⟩ := hrel
  obtain ⟨us,rfl⟩ : ∃ us : Nat → Value,tm = #[us 0,us 1,us 2,us 3,us 4,us 5,us 6,us 7,us 8,us 9,us 10,us 11,us 12,us 13,us 14,us 15,us 16,us 17,us 18,us 19,us 20,us 21,us 22,us 23,us 24,us 25,us 26,us 27,us 28,us 29,us 30,us 31,us 32,us 33,us 34,us 35,us 36,us 37,us 38,us 39,us 40,us 41,us 42,us 43,us 44,us 45,us 46,us 47,us 48,us 49,us 50,us 51,us 52,us 53,us 54,us 55,us 56,us 57,us 58,us 59,us 60,us 61,us 62,us 63,us 64,us 65,us 66,us 67,us 68,us 69,us 70,us 71,us 72,us 73,us 74,us 75,us 76,us 77,us 78,us 79,us 80,us 81,us 82,us 83,us 84,us 85,us 86,us 87] := ⟨fun i => tm.getD i undef,arr_fn hsz⟩
  have h0 : us 0 = .slice A n c := e0
  have h1 : us 1 = .pointer (some ⟨b1,0,none⟩) := e1
  have h2 : us 2 = .pointer (some ⟨b2,0,none⟩) := e2
  have h3 : us 3 = .pointer (some ⟨b3,0,none⟩) := e3
  have h4 : us 4 = .pointer (some ⟨b4,0,none⟩) := e4
  have h5 : us 5 = .pointer (some ⟨b5,0,none⟩) := e5
  have h6 : us 6 = .pointer (some ⟨b6,0,none⟩) := e6
  have h8 : us 8 = .bool false := e8
  have h9 : us 9 = .int .i64 (n : Nat) := e9
  have h23 : us 23 = .slice Au nu cu := e23
  have h24 : us 24 = .int .i64 (nu : Nat) := e24
  have h25 : us 25 = .int .i64 (i : Nat) := e25
  have hdf2 : dfs = [] := hdf
  subst hdf2
  clear hdf hsz e0 e1 e2 e3 e4 e5 e6 e8 e9 e23 e24 e25
  simp only [h0,h1,h2,h3,h4,h5,h6,h8,h9,h23,h24,h25]
  clear h0 h1 h2 h3 h4 h5 h6 h8 h9 h23 h24 h25
  clear hP
  have hP := hide (Sp.new wr)
  have hfm' := hide hfm
  have hpl' := hide hpl
  have hz := hide hz0
  clear hpl hfm hz0
  by_cases hlt : i < nu
  ·skip
   have hil : (i : Int) < (nu : Int) := by omega
   have hib : (i : Int) ≤ 8 := by have := unhide hlu'; omega
   have hiw : i < V'.length := by rw [← unhide hnu']; exact hlt
   have hnw : n < V.length := by have := unhide hnv'; have := unhide hnf'; omega
   have hiu : i < ui.length := by rw [← unhide hul]; exact hlt
   have hlt' := hide hlt
   have hF := hide ((unhide h').fix FxM.keep (unhide hpl'))
   have hie := hide (show ui[i] = V'[i].1 by simp [unhide hus',idsV])
   have hok := hide (okM_at (unhide hF).ha.inv (unhide hF).hb.inv (E := E) (E' := E') (xs := xs) (unhide hn') hnw hiw)
   obtain ⟨ba,oa,rfl,g0,g1,g2⟩ := atV (unhide hF).vu hiw
   obtain ⟨bv2,ov2,rfl,k0,k1,k2⟩ := atV (unhide hF).va hnw
   obtain ⟨⟨x,lab,wt⟩,hx0⟩ : ∃ p,p = V'[i] := ⟨_,rfl⟩
   obtain ⟨⟨x2,lab2,wt2⟩,hx20⟩ : ∃ p,p = V[n] := ⟨_,rfl⟩
   rw [← hx0, ← hx20] at hok
   rw [← hx0] at hie g0 g1 g2
   rw [← hx20] at k0 k1 k2
   dsimp only at hok hie g0 g1 g2 k0 k1 k2
   have e1 := (unhide hF).c1.cells 0 (v := .slice (some ⟨bv2,ov2,none⟩) nv cv) rfl
   have hself := Ext.refl wr
   have hx2' := hide hx20
   clear hlt hin hx0 hx20
   try dsimp only
   repeat ((fail_if_success (with_reducible refine wp_reg (id := 5) ?_)); (first | go_values | go_skip | go_step | go_guarded | go_upon | go_in | go_back | fail))
   with_reducible refine wp_reg (id := 5) ?_
   refine wpO_want rfl ?_
   go_simp
   refine wpO_done ?_
   try go_frame
   try dsimp only
   repeat ((fail_if_success (with_reducible refine wp_reg (id := 6) ?_)); (first | go_values | go_skip | go_step | go_guarded | go_upon | go_in | go_back | fail))
   with_reducible refine wp_reg (id := 6) ?_
   iterate 2
    refine wpO_want rfl ?_
    go_simp
   refine (unhide hP).allocO 81 #[.int .i64 0, .int .u8 0, .int .i64 0] rfl (by go_simp) ?_
   intro r11 y1 hQ
   replace hP : Hid (Sp wr [] wr [] [(r11,81, #[.int .i64 0, .int .u8 0, .int .i64 0])] [] y1) := hide hQ
   clear hQ
   refine (unhide hP).setO 0 #[.int .i64 x, .int .u8 lab, .int .i64 wt] rfl rfl (fun hb => run_store_row (v := .agg #[.int .i64 x, .int .u8 lab, .int .i64 wt]) rfl (by rfl) (by rfl) (by simp [go_sem]) hb rfl (fun u hu => by simp [Value.cells] at hu; rcases hu with rfl | rfl | rfl <;> rfl)) ?_
   intro y2 hQ
   replace hP : Hid (Sp wr [] wr [] [(r11,81, #[.int .i64 x, .int .u8 lab, .int .i64 wt])] [] y2) := hide hQ
   clear hQ
   refine wpO_done ?_
   try go_frame
   have d0 := (unhide hP).cell 0 0 (v := .int .i64 x) rfl rfl
   have d1 := (unhide hP).cell 0 1 (v := .int .u8 lab) rfl rfl
   have d2 := (unhide hP).cell 0 2 (v := .int .i64 wt) rfl rfl
   go_wp2_with fail
   have hx9 := (unhide hP).extf
   replace k0 := fun (W : World) (hW : Ext y2 W) => k0 W (hx9.trans hW)
   replace k1 := fun (W : World) (hW : Ext y2 W) => k1 W (hx9.trans hW)
   replace k2 := fun (W : World) (hW : Ext y2 W) => k2 W (hx9.trans hW)
   replace e1 := fun (W : World) (hW : Ext y2 W) => e1 W (hx9.trans hW)
   clear hself g0 g1 g2
   have hself := Ext.refl y2
   have hx9' := hide hx9
   clear hx9
   have hnL : (n : Int) < (nv : Int) := by have := unhide hnf'; omega
   have hnb : (n : Int) ≤ 8 := by have := unhide hl'; omega
   obtain ⟨cq,hcq⟩ : ∃ cq,cq = decide (x ∈ xs) := ⟨_,rfl⟩
   have hcn := hide (show ∀ W,Ext y2 W → Calls Tryz.prog 83 #[.slice A n c, .int .i64 x] W fun e w' => e = .returned (.bool cq) ∧ Ext W w' from fun W hW => by rw [hcq]; exact contains_any A xs n c x W (own_at (by have h := own_keep (unhide hpl').own (((unhide hx9').trans hW).keep []) (by simp); rw [unhide hn'] at h; exact h) (fun _ => rfl)) (unhide hn') (by have := unhide hl'; have := unhide hnf'; omega))
   have hcq' := hide hcq
   clear hcq
   cases cq
   ·skip
    by_cases hlab : lab = lab2
    ·skip
     have hlq : ((lab : Int) != lab2) = false := by simp [hlab]
     have hlab' := hide hlab
     clear hlab
     by_cases hwt : wt = wt2
     ·skip
      have hwq : ((wt : Int) != wt2) = false := by simp [hwt]
      have hwt' := hide hwt
      clear hwt
      refine wp_region_ext (P := Tryz.prog) [0,1,2,3,4,5,6,7,8,9,10,11,12,13,14,15,16,17,18,19,20,21,22,23] [] 0 #[true,true,true,true,true,true,true,true,true,true,true,true,true,true,true,true,true,true,true,true,true,true,true,true] (by kernel_rfl) (by kernel_rfl) rfl (by rfl) ?_
      iterate 3
       first
       | (refine ql_skip rfl (by rfl) ?_)
       | (refine ql_want (v := ?_) rfl (by rfl) (fun W hW => ?_) ?_; rotate_left; (go_simp; (first | done | rfl)))
       try go_frame
      refine ql_want (v := .bool false) rfl (by rfl) (fun W hW => ?_) ?_
      ·go_simp
       refine (unhide hcn W hW).mono ?_
       rintro _ _ ⟨h1,h2⟩
       exact ⟨_,h1,rfl,h2⟩
      go_frame
      iterate 20
       first
       | (refine ql_skip rfl (by rfl) ?_)
       | (refine ql_want (v := ?_) rfl (by rfl) (fun W hW => ?_) ?_; rotate_left; (go_simp; (first | done | rfl)))
       try go_frame
      refine wpQL_nil (fun y3 hxq => ?_)
      replace hP : Hid (Sp wr [] wr [] [(r11,81, #[.int .i64 x, .int .u8 lab, .int .i64 wt])] [] y3) := hide ((unhide hP).ext hxq)
      replace hx9' := hide ((unhide hx9').trans hxq)
      clear k0 k1 k2 e1 d1 d2 hself hcn
      replace d0 := fun (W : World) (hW : Ext y3 W) => d0 W (hxq.trans hW)
      clear hxq
      refine wpX_done (by kernel_rfl) ?_
      try go_frame
      obtain ⟨wo,hwo⟩ : ∃ wo,wo = wr := ⟨_,rfl⟩
      subst hwo
      try dsimp only
      repeat ((fail_if_success (with_reducible refine wp_reg (id := 8) ?_)); (first | go_values | go_skip | go_step | go_guarded | go_upon | go_in | go_back | fail))
      with_reducible refine wp_reg (id := 8) ?_
      iterate 3
       refine wpO_want rfl ?_
       go_simp
      refine wpO_done ?_
      try go_frame
      clear d0
      go_wp2_with fail
      obtain ⟨I3_12,hI3_120⟩ : ∃ I : Nat → Act → World → Prop,I = fun fj a' wr => ∃ (j : Nat),a'.tmps.size = 88 ∧ a'.tmps.getD 0 undef = .slice A n c ∧ a'.tmps.getD 1 undef = .pointer (some ⟨b1,0,none⟩) ∧ a'.tmps.getD 2 undef = .pointer (some ⟨b2,0,none⟩) ∧ a'.tmps.getD 3 undef = .pointer (some ⟨b3,0,none⟩) ∧ a'.tmps.getD 4 undef = .pointer (some ⟨b4,0,none⟩) ∧ a'.tmps.getD 5 undef = .pointer (some ⟨b5,0,none⟩) ∧ a'.tmps.getD 6 undef = .pointer (some ⟨b6,0,none⟩) ∧ a'.tmps.getD 8 undef = .bool false ∧ a'.tmps.getD 9 undef = .int .i64 (n : Nat) ∧ a'.tmps.getD 11 undef = .pointer (some ⟨r11,0,none⟩) ∧ a'.tmps.getD 23 undef = .slice (some ⟨ba,oa,none⟩) nu cu ∧ a'.tmps.getD 24 undef = .int .i64 (nu : Nat) ∧ a'.tmps.getD 25 undef = .int .i64 (i : Nat) ∧ a'.tmps.getD 53 undef = .slice A n c ∧ a'.tmps.getD 54 undef = .int .i64 (n : Nat) ∧ a'.tmps.getD 55 undef = .int .i64 (j : Nat) ∧ a'.defers = [] ∧ j ≤ n ∧ (∀ j',j' < j → betE E ((idsV V).getD j' 0) x2 = betE E' (xs.getD j' 0) x) ∧ Sp wo [] wo [] [(r11,81, #[.int .i64 x, .int .u8 lab, .int .i64 wt])] [] wr ∧ fj = n - j := ⟨_,rfl⟩
      have hI3_12 := hide hI3_120
      clear hI3_120
      refine wp_loop_ix I3_12 (n - 0) ?_ ?_
      ·rw [unhide hI3_12]; exact ⟨0,rfl,rfl,rfl,rfl,rfl,rfl,rfl,rfl,rfl,rfl,rfl,rfl,rfl,rfl,rfl,rfl,rfl,rfl,Nat.zero_le _,(fun j' h => by omega),unhide hP,rfl⟩
      ·rintro fj ⟨tm,dfs⟩ wr hrel
       rw [unhide hI3_12] at hrel
       obtain ⟨j,hsz,e0,e1,e2,e3,e4,e5,e6,e8,e9,e11,e23,e24,e25,e53,e54,e55,hdf,hjn,hall0,hPs,hgm⟩ := hrel
       obtain ⟨us,rfl⟩ : ∃ us : Nat → Value,tm = #[us 0,us 1,us 2,us 3,us 4,us 5,us 6,us 7,us 8,us 9,us 10,us 11,us 12,us 13,us 14,us 15,us 16,us 17,us 18,us 19,us 20,us 21,us 22,us 23,us 24,us 25,us 26,us 27,us 28,us 29,us 30,us 31,us 32,us 33,us 34,us 35,us 36,us 37,us 38,us 39,us 40,us 41,us 42,us 43,us 44,us 45,us 46,us 47,us 48,us 49,us 50,us 51,us 52,us 53,us 54,us 55,us 56,us 57,us 58,us 59,us 60,us 61,us 62,us 63,us 64,us 65,us 66,us 67,us 68,us 69,us 70,us 71,us 72,us 73,us 74,us 75,us 76,us 77,us 78,us 79,us 80,us 81,us 82,us 83,us 84,us 85,us 86,us 87] := ⟨fun i => tm.getD i undef,arr_fn hsz⟩
       have h0 : us 0 = .slice A n c := e0
       have h1 : us 1 = .pointer (some ⟨b1,0,none⟩) := e1
       have h2 : us 2 = .pointer (some ⟨b2,0,none⟩) := e2
       have h3 : us 3 = .pointer (some ⟨b3,0,none⟩) := e3
       have h4 : us 4 = .pointer (some ⟨b4,0,none⟩) := e4
       have h5 : us 5 = .pointer (some ⟨b5,0,none⟩) := e5
       have h6 : us 6 = .pointer (some ⟨b6,0,none⟩) := e6
       have h8 : us 8 = .bool false := e8
       have h9 : us 9 = .int .i64 (n : Nat) := e9
       have h11 : us 11 = .pointer (some ⟨r11,0,none⟩) := e11
       have h23 : us 23 = .slice (some ⟨ba,oa,none⟩) nu cu := e23
       have h24 : us 24 = .int .i64 (nu : Nat) := e24
       have h25 : us 25 = .int .i64 (i : Nat) := e25
       have h53 : us 53 = .slice A n c := e53
       have h54 : us 54 = .int .i64 (n : Nat) := e54
       have h55 : us 55 = .int .i64 (j : Nat) := e55
       have hdf2 : dfs = [] := hdf
       subst hdf2
       clear hdf hsz e0 e1 e2 e3 e4 e5 e6 e8 e9 e11 e23 e24 e25 e53 e54 e55
       simp only [h0,h1,h2,h3,h4,h5,h6,h8,h9,h11,h23,h24,h25,h53,h54,h55]
       clear h0 h1 h2 h3 h4 h5 h6 h8 h9 h11 h23 h24 h25 h53 h54 h55
       clear hP hx9'
       have hP := hide hPs
       have hgm' := hide hgm
       have hall := hide hall0
       clear hPs hgm hall0
       have hxr := hide (unhide hP).extf
       have hpr := hide (PlI.ext (unhide hC').keep (unhide hpl') (unhide hxr))
       have hFr := hide ((unhide h').fix FxM.keep (unhide hpr))
       by_cases hjt : j < n
       ·skip
        have hil2 : (j : Int) < (n : Int) := by omega
        have hjb : (j : Int) ≤ 8 := by have := unhide hl'; have := unhide hnf'; omega
        have hjx : j < xs.length := by rw [← unhide hn']; exact hjt
        have hjV : j < V.length := by omega
        have hnb : (n : Int) ≤ 8 := by have := unhide hl'; have := unhide hnf'; omega
        have hnL : (n : Int) < (nv : Int) := by have := unhide hnf'; omega
        have hjL : (j : Int) < (nv : Int) := by have := unhide hnf'; omega
        have hjt' := hide hjt
        obtain ⟨bA,oA,rfl,c0⟩ := atI (own_at (by have h := (unhide hpr).own; rw [unhide hn'] at h; exact h) (fun _ => rfl)) hjx
        obtain ⟨bw,ow,hbw,m0,m1,m2⟩ := atV (unhide hFr).va hjV
        cases hbw
        obtain ⟨bw,ow,hbw,k0,k1,k2⟩ := atV (unhide hFr).va hnw
        cases hbw
        rw [← unhide hx2'] at k0
        dsimp only at k0
        clear m1 m2 k1 k2
        have e1 := (unhide hFr).c1.cells 0 (v := .slice (some ⟨bv2,ov2,none⟩) nv cv) rfl
        have e4 := (unhide hFr).c4.cells 0 (v := .pointer (some ⟨ga,0,none⟩)) rfl
        have e5 := (unhide hFr).c5.cells 0 (v := .pointer (some ⟨gb,0,none⟩)) rfl
        have d0 := (unhide hP).cell 0 0 (v := .int .i64 x) rfl rfl
        have hself := Ext.refl wr
        obtain ⟨o1,ho1⟩ : ∃ o1,o1 = betE E ((idsV V).getD j 0) x2 := ⟨_,rfl⟩
        obtain ⟨o2,ho2⟩ : ∃ o2,o2 = betE E' (xs.getD j 0) x := ⟨_,rfl⟩
        obtain ⟨xj,hxj⟩ : ∃ xj,xj = xs[j] := ⟨_,rfl⟩
        obtain ⟨vj,hvj⟩ : ∃ vj,vj = V[j].1 := ⟨_,rfl⟩
        rw [← hxj] at c0
        rw [← hvj] at m0
        have hs1 := hide (show ∀ W,Ext wr W → Calls Tryz.prog 78 #[.pointer (some ⟨ga,0,none⟩), .int .i64 vj, .int .i64 x2] W (fun e w' => e = .returned (sideV o1) ∧ Ext W w') from fun W hW => by
         rw [ho1,ids_at hjV,hvj]
         exact side_any ga bva bea V E _ _ W ((unhide hFr).ha.ext hW) (unhide hlb'))
        have hs2 := hide (show ∀ W,Ext wr W → Calls Tryz.prog 78 #[.pointer (some ⟨gb,0,none⟩), .int .i64 xj, .int .i64 x] W (fun e w' => e = .returned (sideV o2) ∧ Ext W w') from fun W hW => by
         rw [ho2,getD_idx hjx,hxj]
         exact side_any gb bvb beb V' E' _ _ W ((unhide hFr).hb.ext hW) (unhide hlb2'))
        have ho1' := hide ho1
        have ho2' := hide ho2
        clear ho1 ho2 hxj hvj hjt hjn
        try dsimp only
        repeat ((fail_if_success (with_reducible refine wp_reg (id := 9) ?_)); (first | go_values | go_skip | go_step | go_guarded | go_upon | go_in | go_back | fail))
        with_reducible refine wp_reg (id := 9) ?_
        refine wpO_want rfl ?_
        go_simp
        refine wpO_done ?_
        try go_frame
        try dsimp only
        repeat ((fail_if_success (with_reducible refine wp_reg (id := 10) ?_)); (first | go_values | go_skip | go_step | go_guarded | go_upon | go_in | go_back | fail))
        with_reducible refine wp_reg (id := 10) ?_
        iterate 5
         refine wpO_want rfl ?_
         go_simp
        refine wpO_done ?_
        try go_frame
        go_wp2_with fail
        refine wp_region_ext (P := Tryz.prog) [0,1,2,3,4,5,6,7,8,9,10,11,12,13,14,15,16,17] [] 0 #[true,true,true,true,true,true,true,true,true,true,true,true,true,true,true,true,true,true] (by kernel_rfl) (by kernel_rfl) rfl (by rfl) ?_
        iterate 11
         first
         | (refine ql_skip rfl (by rfl) ?_)
         | (refine ql_want (v := ?_) rfl (by rfl) (fun W hW => ?_) ?_; rotate_left; (go_simp; (first | done | rfl)))
         try go_frame
        refine ql_want (v := sideV o1) rfl (by rfl) (fun W hW => ?_) ?_
        ·go_simp
         refine (unhide hs1 W hW).mono ?_
         rintro _ _ ⟨h1,h2⟩
         exact ⟨_,h1,rfl,h2⟩
        go_frame
        iterate 4
         first
         | (refine ql_skip rfl (by rfl) ?_)
         | (refine ql_want (v := ?_) rfl (by rfl) (fun W hW => ?_) ?_; rotate_left; (go_simp; (first | done | rfl)))
         try go_frame
        refine ql_want (v := sideV o2) rfl (by rfl) (fun W hW => ?_) ?_
        ·go_simp
         refine (unhide hs2 W hW).mono ?_
         rintro _ _ ⟨h1,h2⟩
         exact ⟨_,h1,rfl,h2⟩
        go_frame
        obtain ⟨ne,hne⟩ : ∃ ne,ne = !decide (o1 = o2) := ⟨_,rfl⟩
        refine ql_want (v := .bool ne) rfl (by rfl) (fun W hW => qUpon_ofX (by rw [hne]; exact run_neqSide rfl rfl rfl)) ?_
        go_frame
        have hne' := hide hne
        clear hne
        refine wpQL_nil (fun y4 hxq => ?_)
        replace hP : Hid (Sp wo [] wo [] [(r11,81, #[.int .i64 x, .int .u8 lab, .int .i64 wt])] [] y4) := hide ((unhide hP).ext hxq)
        replace hpr := hide (PlI.ext (unhide hC').keep (unhide hpr) hxq)
        clear c0 m0 k0 e1 e4 e5 d0 hself hs1 hs2 hxq
        refine wpX_done (by kernel_rfl) ?_
        try go_frame
        cases ne
        ·skip
         have ho12 := hide (show o1 = o2 from by have h := unhide hne'; simpa using h)
         clear hil2
         go_wp2_with fail
         refine ⟨n - (j + 1), ?_,by have := unhide hgm'; have := unhide hjt'; omega⟩
         rw [unhide hI3_12]
         exact ⟨j + 1,(by first | rfl | trivial),(by first | rfl | trivial),(by first | rfl | trivial),(by first | rfl | trivial),(by first | rfl | trivial),(by first | rfl | trivial),(by first | rfl | trivial),(by first | rfl | trivial),(by first | rfl | trivial),(by first | rfl | trivial),(by first | rfl | trivial),(by first | rfl | trivial),(by first | rfl | trivial),(by first | rfl | trivial),(by first | rfl | trivial),(by first | rfl | trivial),(by first | rfl | (show _ = Value.int _ _; go_num) | go_num),(by first | rfl | trivial),by have := unhide hjt'; omega,(fun j' h => by
          by_cases h2 : j' < j
          ·exact unhide hall j' h2
          ·obtain rfl : j' = j := by omega
           rw [← unhide ho1', ← unhide ho2']; exact unhide ho12),unhide hP,rfl⟩
        ·skip
         have ho12 := hide (show ¬ o1 = o2 from by have h := unhide hne'; simpa using h)
         clear hil2
         go_wp2_with fail
         have hokf : okM V E (idsV V) V' E' xs x = false := by
          rw [unhide hok]
          have h2 : ((List.range n).all fun j => decide (betE E ((idsV V).getD j 0) x2 = betE E' (xs.getD j 0) x)) = false := by
           rw [List.all_eq_false]
           exact ⟨j,List.mem_range.2 (unhide hjt'),by rw [← unhide ho1', ← unhide ho2',decide_eq_true_eq]; exact unhide ho12⟩
          rw [h2,Bool.and_false]
         have hnm := mapT_no (V := V) (E := E) (ids := idsV V) (V' := V') (E' := E') (f := f) (xs := xs) hiu (by rw [unhide hie,hokf])
         refine ⟨nu - (i + 1), ?_,by have := unhide hfm'; have := unhide hlt'; omega⟩
         rw [unhide hI0_2]
         exact ⟨i + 1,(by first | rfl | trivial),(by first | rfl | trivial),(by first | rfl | trivial),(by first | rfl | trivial),(by first | rfl | trivial),(by first | rfl | trivial),(by first | rfl | trivial),(by first | rfl | trivial),(by first | rfl | trivial),(by first | rfl | trivial),(by first | rfl | trivial),(by first | rfl | trivial),(by first | rfl | (show _ = Value.int _ _; go_num) | go_num),(by first | rfl | trivial),by have := unhide hlt'; omega,by rw [hnm]; exact unhide hpr,by rw [hnm]; exact unhide hz,rfl⟩
       ·skip
        have hil2 : ¬ (j : Int) < (n : Int) := by omega
        obtain rfl : n = j := by omega
        clear hjt hjn
        try dsimp only
        repeat ((fail_if_success (with_reducible refine wp_reg (id := 9) ?_)); (first | go_values | go_skip | go_step | go_guarded | go_upon | go_in | go_back | fail))
        with_reducible refine wp_reg (id := 9) ?_
        refine wpO_want rfl ?_
        go_simp
        refine wpO_done ?_
        try go_frame
        clear hil2
        go_wp2_with fail
        obtain ⟨S,hS0⟩ : ∃ S,S = (Value.slice A n c).ownBlock.toList := ⟨_,rfl⟩
        have hS := hide hS0
        clear hS0
        have hb6 := hide (show b6 ∉ S from fun hm => ((unhide h').vf b6 (by rw [unhide hS] at hm; simpa using hm)).1 (by simp [tfM]))
        have hr9 := hide (show r11 ∉ S from fun hm => by
         rw [unhide hS] at hm
         have h1 := (own_base (unhide h').own (by simpa using hm)).2.1
         have h2 := (unhide hP).st.ge r11 (by simp [stT,rwT])
         have h3 := (unhide hpl').keep.size
         omega)
        have hokt : okM V E (idsV V) V' E' xs x = true := by
         rw [unhide hok]
         have h2 : x ∉ xs := of_decide_eq_false (unhide hcq').symm
         have h3 : ((List.range n).all fun j => decide (betE E ((idsV V).getD j 0) x2 = betE E' (xs.getD j 0) x)) = true := List.all_eq_true.2 fun j hj => decide_eq_true (unhide hall j (List.mem_range.1 hj))
         rw [h3,unhide hlab',unhide hwt']
         simp [h2]
        have hnm := hide (mapT_yes (V := V) (E := E) (ids := idsV V) (V' := V') (E' := E') (f := f) (xs := xs) hiu (by rw [unhide hie,hokt]))
        rw [unhide hie] at hnm
        obtain ⟨Lc,hLc⟩ : ∃ Lc,Lc = extL V E (idsV V) V' E' ui f (xs ++ [x]) := ⟨_,rfl⟩
        obtain ⟨an,han⟩ : ∃ an,an = ansT q Lc := ⟨_,rfl⟩
        rw [← hLc] at hnm
        have hLc' := hide hLc
        have han' := hide han
        clear hokt hLc han
        refine wp_regionK (P := Tryz.prog) S [0,1,2,3] [6,7] 4 #[true,true,true,true,false,false,false,false] (by kernel_rfl) (by kernel_rfl) rfl (by rfl) ?_
        refine ql_want (v := .func (.func 82) #[] #[.pointer (some ⟨b1,0,none⟩), .pointer (some ⟨b2,0,none⟩), .pointer (some ⟨b3,0,none⟩), .pointer (some ⟨b4,0,none⟩), .pointer (some ⟨b5,0,none⟩), .pointer (some ⟨b6,0,none⟩)]) rfl (by rfl) (fun W hW => qUpon_ofX (load_V rfl rfl (by simp [go_sem]) (((unhide hFr).c6.keep hW (unhide hb6)).cells 0 rfl W (Ext.refl W)))) ?_
        go_frame
        iterate 2
         refine ql_want (v := ?_) rfl (by rfl) (fun W hW => ?_) ?_
         rotate_left
         ·go_simp
          first | done | rfl
         go_frame
        refine ql_want (v := .int .i64 x) rfl (by rfl) (fun W hW => qUpon_ofX (load_V rfl rfl (by simp [go_sem]) (((unhide hP).get 0 rfl |>.keep hW (unhide hr9)).cells 0 rfl W (Ext.refl W)))) ?_
        go_frame
        refine wpQL_nil (fun y4 hxq => ?_)
        have hK := hide (hxq.keep S)
        replace hP : Hid (Sp wo [] wo [] [(r11,81, #[.int .i64 x, .int .u8 lab, .int .i64 wt])] [] y4) := hide ((unhide hP).ext hxq)
        clear hxq
        refine lx_one (i := 4) (by kernel_rfl) rfl (by rfl) #[true,true,true,true,true,false,false,false] (by rfl) ?_
        refine (unhide hP).allocL (unhide hK) (v := fun b => .slice (some ⟨b,0,none⟩) 1 1) 3 #[.int .i64 x] ?_ ?_
        ·exact run_build1 rfl rfl
        intro r45 y5 hQ hK2 hg2
        replace hP : Hid (Sp wo [] wo [] [(r11,81, #[.int .i64 x, .int .u8 lab, .int .i64 wt]),(r45,3, #[.int .i64 x])] [] y5) := hide hQ
        replace hK := hide hK2
        have hge_r45 := hide hg2
        clear hQ hK2 hg2
        try go_frame
        have hx5 := hide (unhide hP).extf
        have hp5 := hide (PlI.ext (unhide hC').keep (unhide hpl') (unhide hx5))
        refine lx_one (i := 5) (by kernel_rfl) rfl (by rfl) #[true,true,true,true,true,true,false,false] (by rfl) ?_
        refine lx_apR (base := 0) (v := .slice A n c) (n := n) (xs := xs) rfl x rfl rfl ((unhide hP).get 1 rfl) (unhide hp5).own (unhide hn') (by have := unhide hl'; have := unhide hnf'; omega) (Nat.zero_le _) ?_
        intro A6 c6 w6 ho6 hov hg6 hG
        refine ⟨fun _ => (unhide hK).trans (by rw [unhide hS]; exact Keep.of_grown hg6),fun y7 hxd => ?_⟩
        obtain ⟨Tc,hH0,hback0⟩ := (unhide h').step FxM.keep (unhide hC').keep (unhide hC').lt (unhide hn') (unhide hpl') (unhide hx5) (own_keep ho6 (hxd.keep []) (by simp)) (own_keep hov (hxd.keep []) (by simp)) (grown_ext hg6 hxd) hG
        have hca := (unhide ih') _ Tc y7 A6 c6 (xs ++ [x]) hH0 (by rw [List.length_append, ← unhide hn']; rfl) (by
         have h2 := unhide hN'
         obtain ⟨R,hR⟩ := mapT_pre (V := V) (E := E) (ids := idsV V) (V' := V') (E' := E') (us := ui) (f := f) (xs := xs) (i + 1)
         rw [hR,unhide hnm,unhide hLc'] at h2
         simp only [List.length_append] at h2 ⊢
         omega)
        rw [← unhide hLc', ← unhide han'] at hca
        have hca' := hide hca
        have hback := hide hback0
        clear hH0 hback0 ho6 hov hg6 hG hxd hK hP hFr hpr hca
        try go_frame
        refine lx_one (i := 6) (by kernel_rfl) rfl (by rfl) #[true,true,true,true,true,true,true,false] (by rfl) ?_
        go_simp
        refine (unhide hca').mono ?_
        rintro _ W7 ⟨rfl,hp7⟩
        refine ⟨_,rfl,fun y8 hxd => ?_⟩
        have hp8 := hide (PlI.ext (unhide hC').keep ((unhide hback) _ _ hp7) hxd)
        clear hp7 hxd hback hp5 hx5 hca'
        try go_frame
        refine lx_one (i := 7) (by kernel_rfl) rfl (by rfl) #[true,true,true,true,true,true,true,true] (by rfl) ?_
        go_simp
        intro y9 hxd
        replace hp8 := hide (PlI.ext (unhide hC').keep (unhide hp8) hxd)
        clear hxd
        try go_frame
        refine wpX_done (by kernel_rfl) ?_
        try go_frame
        cases an
        ·skip
         have hst := outT_stop (q := q) (L := extL V E (idsV V) V' E' ui (f + 1) xs) (unhide han').symm (show extL V E (idsV V) V' E' ui (f + 1) xs = Lc ++ (mapT_pre (V := V) (E := E) (ids := idsV V) (V' := V') (E' := E') (us := ui) (f := f) (xs := xs) (i + 1)).choose from by
          have h1 := (mapT_pre (V := V) (E := E) (ids := idsV V) (V' := V') (E' := E') (us := ui) (f := f) (xs := xs) (i + 1)).choose_spec
          generalize (mapT_pre (V := V) (E := E) (ids := idsV V) (V' := V') (E' := E') (us := ui) (f := f) (xs := xs) (i + 1)).choose = R at *
          have hqf : q = false := by
           cases q with
           | true => exact absurd (unhide han') (by simp [ansT])
           | false => rfl
          rw [h1,unhide hnm,unhide hz hqf,List.nil_append])
         have hfin : ExPost J T (.slice A n c) n xs w (told ++ outT q (extL V E (idsV V) V' E' ui (f + 1) xs)) (ansT q (extL V E (idsV V) V' E' ui (f + 1) xs)) (.returned (.bool false)) y9 := by
          have hp9 := unhide hp8
          rw [unhide hz hst.1,List.append_nil] at hp9
          rw [hst.2.1,hst.2.2]
          exact ⟨rfl,hp9⟩
         have hfin' := hide hfin
         clear hst hfin
         try dsimp only
         repeat ((fail_if_success (with_reducible refine wp_reg (id := 14) ?_)); (first | go_values | go_skip | go_step | go_guarded | go_upon | go_in | go_back | fail))
         with_reducible refine wp_reg (id := 14) ?_
         refine wpO_want rfl ?_
         go_simp
         refine wpO_done ?_
         try go_frame
         go_wp2_with fail
         have hfin2 := unhide hfin'
         refine Sp.leaves0 ?_
         exact ⟨_,results_tmp (t := 8) rfl _ _ _,hfin2⟩
        ·skip
         go_wp2_with fail
         have hp9 := unhide hp8
         rw [outT_go (unhide han').symm,List.append_assoc, ← unhide hnm] at hp9
         refine ⟨nu - (i + 1), ?_,by have := unhide hfm'; have := unhide hlt'; omega⟩
         rw [unhide hI0_2]
         exact ⟨i + 1,(by first | rfl | trivial),(by first | rfl | trivial),(by first | rfl | trivial),(by first | rfl | trivial),(by first | rfl | trivial),(by first | rfl | trivial),(by first | rfl | trivial),(by first | rfl | trivial),(by first | rfl | trivial),(by first | rfl | trivial),(by first | rfl | trivial),(by first | rfl | trivial),(by first | rfl | (show _ = Value.int _ _; go_num) | go_num),(by first | rfl | trivial),by have := unhide hlt'; omega,hp9,(fun hq0 => by rw [unhide hnm,unhide hz hq0,outT_nil (unhide han').symm hq0]; rfl),rfl⟩
     ·skip
      have hwq : ((wt : Int) != wt2) = true := by simp [hwt]
      have hwt' := hide hwt
      clear hwt
      refine wp_region_ext (P := Tryz.prog) [0,1,2,3,4,5,6,7,8,9,10,11,12,13,14,15,16,17,18,19,20,21,22,23] [] 0 #[true,true,true,true,true,true,true,true,true,true,true,true,true,true,true,true,true,true,true,true,true,true,true,true] (by kernel_rfl) (by kernel_rfl) rfl (by rfl) ?_
      iterate 3
       first
       | (refine ql_skip rfl (by rfl) ?_)
       | (refine ql_want (v := ?_) rfl (by rfl) (fun W hW => ?_) ?_; rotate_left; (go_simp; (first | done | rfl)))
       try go_frame
      refine ql_want (v := .bool false) rfl (by rfl) (fun W hW => ?_) ?_
      ·go_simp
       refine (unhide hcn W hW).mono ?_
       rintro _ _ ⟨h1,h2⟩
       exact ⟨_,h1,rfl,h2⟩
      go_frame
      iterate 20
       first
       | (refine ql_skip rfl (by rfl) ?_)
       | (refine ql_want (v := ?_) rfl (by rfl) (fun W hW => ?_) ?_; rotate_left; (go_simp; (first | done | rfl)))
       try go_frame
      refine wpQL_nil (fun y3 hxq => ?_)
      replace hP : Hid (Sp wr [] wr [] [(r11,81, #[.int .i64 x, .int .u8 lab, .int .i64 wt])] [] y3) := hide ((unhide hP).ext hxq)
      replace hx9' := hide ((unhide hx9').trans hxq)
      clear k0 k1 k2 e1 d1 d2 hself hcn
      replace d0 := fun (W : World) (hW : Ext y3 W) => d0 W (hxq.trans hW)
      clear hxq
      refine wpX_done (by kernel_rfl) ?_
      try go_frame
      have hpl2 := hide (PlI.ext (unhide hC').keep (unhide hpl') (unhide hx9'))
      clear d0
      go_wp2_with fail
      have hokf : okM V E (idsV V) V' E' xs x = false := by
       rw [unhide hok]
       have h2 : ¬ (lab,wt) = (lab2,wt2) := fun h => unhide hwt' (Prod.ext_iff.1 h).2
       rw [decide_eq_false h2,Bool.and_false,Bool.false_and]
      have hnm := mapT_no (V := V) (E := E) (ids := idsV V) (V' := V') (E' := E') (f := f) (xs := xs) hiu (by rw [unhide hie,hokf])
      refine ⟨nu - (i + 1), ?_,by have := unhide hfm'; have := unhide hlt'; omega⟩
      rw [unhide hI0_2]
      exact ⟨i + 1,(by first | rfl | trivial),(by first | rfl | trivial),(by first | rfl | trivial),(by first | rfl | trivial),(by first | rfl | trivial),(by first | rfl | trivial),(by first | rfl | trivial),(by first | rfl | trivial),(by first | rfl | trivial),(by first | rfl | trivial),(by first | rfl | trivial),(by first | rfl | trivial),(by first | rfl | (show _ = Value.int _ _; go_num) | go_num),(by first | rfl | trivial),by have := unhide hlt'; omega,by rw [hnm]; exact unhide hpl2,by rw [hnm]; exact unhide hz,rfl⟩
    ·skip
     have hlq : ((lab : Int) != lab2) = true := by simp [hlab]
     have hlab' := hide hlab
     clear hlab
     refine wp_region_ext (P := Tryz.prog) [0,1,2,3,4,5,6,7,8,9,10,11,12,13,14,15,16,17,18,19,20,21,22,23] [] 0 #[true,true,true,true,true,true,true,true,true,true,true,true,true,true,true,true,true,true,true,true,true,true,true,true] (by kernel_rfl) (by kernel_rfl) rfl (by rfl) ?_
     iterate 3
      first
      | (refine ql_skip rfl (by rfl) ?_)
      | (refine ql_want (v := ?_) rfl (by rfl) (fun W hW => ?_) ?_; rotate_left; (go_simp; (first | done | rfl)))
      try go_frame
     refine ql_want (v := .bool false) rfl (by rfl) (fun W hW => ?_) ?_
     ·go_simp
      refine (unhide hcn W hW).mono ?_
      rintro _ _ ⟨h1,h2⟩
      exact ⟨_,h1,rfl,h2⟩
     go_frame
     iterate 20
      first
      | (refine ql_skip rfl (by rfl) ?_)
      | (refine ql_want (v := ?_) rfl (by rfl) (fun W hW => ?_) ?_; rotate_left; (go_simp; (first | done | rfl)))
      try go_frame
     refine wpQL_nil (fun y3 hxq => ?_)
     replace hP : Hid (Sp wr [] wr [] [(r11,81, #[.int .i64 x, .int .u8 lab, .int .i64 wt])] [] y3) := hide ((unhide hP).ext hxq)
     replace hx9' := hide ((unhide hx9').trans hxq)
     clear k0 k1 k2 e1 d1 d2 hself hcn
     replace d0 := fun (W : World) (hW : Ext y3 W) => d0 W (hxq.trans hW)
     clear hxq
     refine wpX_done (by kernel_rfl) ?_
     try go_frame
     have hpl2 := hide (PlI.ext (unhide hC').keep (unhide hpl') (unhide hx9'))
     clear d0
     go_wp2_with fail
     have hokf : okM V E (idsV V) V' E' xs x = false := by
      rw [unhide hok]
      have h2 : ¬ (lab,wt) = (lab2,wt2) := fun h => unhide hlab' (Prod.ext_iff.1 h).1
      rw [decide_eq_false h2,Bool.and_false,Bool.false_and]
     have hnm := mapT_no (V := V) (E := E) (ids := idsV V) (V' := V') (E' := E') (f := f) (xs := xs) hiu (by rw [unhide hie,hokf])
     refine ⟨nu - (i + 1), ?_,by have := unhide hfm'; have := unhide hlt'; omega⟩
     rw [unhide hI0_2]
     exact ⟨i + 1,(by first | rfl | trivial),(by first | rfl | trivial),(by first | rfl | trivial),(by first | rfl | trivial),(by first | rfl | trivial),(by first | rfl | trivial),(by first | rfl | trivial),(by first | rfl | trivial),(by first | rfl | trivial),(by first | rfl | trivial),(by first | rfl | trivial),(by first | rfl | trivial),(by first | rfl | (show _ = Value.int _ _; go_num) | go_num),(by first | rfl | trivial),by have := unhide hlt'; omega,by rw [hnm]; exact unhide hpl2,by rw [hnm]; exact unhide hz,rfl⟩
   ·skip
    refine wp_region_ext (P := Tryz.prog) [0,1,2,3,4,5,6,7,8,9,10,11,12,13,14,15,16,17,18,19,20,21,22,23] [] 0 #[true,true,true,true,true,true,true,true,true,true,true,true,true,true,true,true,true,true,true,true,true,true,true,true] (by kernel_rfl) (by kernel_rfl) rfl (by rfl) ?_
    iterate 3
     first
     | (refine ql_skip rfl (by rfl) ?_)
     | (refine ql_want (v := ?_) rfl (by rfl) (fun W hW => ?_) ?_; rotate_left; (go_simp; (first | done | rfl)))
     try go_frame
    refine ql_want (v := .bool true) rfl (by rfl) (fun W hW => ?_) ?_
    ·go_simp
     refine (unhide hcn W hW).mono ?_
     rintro _ _ ⟨h1,h2⟩
     exact ⟨_,h1,rfl,h2⟩
    go_frame
    iterate 20
     first
     | (refine ql_skip rfl (by rfl) ?_)
     | (refine ql_want (v := ?_) rfl (by rfl) (fun W hW => ?_) ?_; rotate_left; (go_simp; (first | done | rfl)))
     try go_frame
    refine wpQL_nil (fun y3 hxq => ?_)
    replace hP : Hid (Sp wr [] wr [] [(r11,81, #[.int .i64 x, .int .u8 lab, .int .i64 wt])] [] y3) := hide ((unhide hP).ext hxq)
    replace hx9' := hide ((unhide hx9').trans hxq)
    clear k0 k1 k2 e1 d1 d2 hself hcn
    replace d0 := fun (W : World) (hW : Ext y3 W) => d0 W (hxq.trans hW)
    clear hxq
    refine wpX_done (by kernel_rfl) ?_
    try go_frame
    have hpl2 := hide (PlI.ext (unhide hC').keep (unhide hpl') (unhide hx9'))
    clear d0
    go_wp2_with fail
    have hokf : okM V E (idsV V) V' E' xs x = false := by
     rw [unhide hok]
     have h2 : x ∈ xs := of_decide_eq_true (unhide hcq').symm
     simp [h2]
    have hnm := mapT_no (V := V) (E := E) (ids := idsV V) (V' := V') (E' := E') (f := f) (xs := xs) hiu (by rw [unhide hie,hokf])
    refine ⟨nu - (i + 1), ?_,by have := unhide hfm'; have := unhide hlt'; omega⟩
    rw [unhide hI0_2]
    exact ⟨i + 1,(by first | rfl | trivial),(by first | rfl | trivial),(by first | rfl | trivial),(by first | rfl | trivial),(by first | rfl | trivial),(by first | rfl | trivial),(by first | rfl | trivial),(by first | rfl | trivial),(by first | rfl | trivial),(by first | rfl | trivial),(by first | rfl | trivial),(by first | rfl | trivial),(by first | rfl | (show _ = Value.int _ _; go_num) | go_num),(by first | rfl | trivial),by have := unhide hlt'; omega,by rw [hnm]; exact unhide hpl2,by rw [hnm]; exact unhide hz,rfl⟩
  ·skip
   have hil : ¬ (i : Int) < (nu : Int) := by omega
   obtain rfl : nu = i := by omega
   have hful := hide (mapT_full (V := V) (E := E) (ids := idsV V) (V' := V') (E' := E') (us := ui) (f := f) (xs := xs) (Nat.le_of_eq (unhide hul).symm))
   clear hlt hin
   try dsimp only
   repeat ((fail_if_success (with_reducible refine wp_reg (id := 5) ?_)); (first | go_values | go_skip | go_step | go_guarded | go_upon | go_in | go_back | fail))
   with_reducible refine wp_reg (id := 5) ?_
   refine wpO_want rfl ?_
   go_simp
   refine wpO_done ?_
   try go_frame
   clear hil
   try dsimp only
   repeat ((fail_if_success (with_reducible refine wp_reg (id := 16) ?_)); (first | go_values | go_skip | go_step | go_guarded | go_upon | go_in | go_back | fail))
   with_reducible refine wp_reg (id := 16) ?_
   refine wpO_want rfl ?_
   go_simp
   refine wpO_done ?_
   try go_frame
   go_wp2_with fail
   refine Sp.leaves0 ?_
   refine ⟨_,results_tmp rfl _ _ _, ?_⟩
   have hfin := unhide hpl'
   have hz2 := unhide hz
   rw [unhide hful] at hfin hz2
   cases q with
   | true => exact ⟨rfl,hfin⟩
   | false =>
    rw [hz2 rfl] at hfin ⊢
    exact ⟨rfl,hfin⟩
theorem extendR_any {b1 b2 b3 b4 b5 b6 nv cv nu cu ga bva bea gb bvb beb fd N : Nat} {Av Au : Option Addr} {V V' : List (Int × Thing)} {E E' : List ((Int × Int) × Thing)} {caps : Array Value} {q : Bool} {J : List (List Int) → List Nat → World → Prop} (hC : TellR ga bva bea V E N fd caps q nv J) (hnv : nv = V.length) (hnu : nu = V'.length) (hl : nv ≤ 8) (hlu : nu ≤ 8) (hlb : LabB V E) (hlb2 : LabB V' E') : ∀ (f n : Nat),n + f = nv →
  ∀ (told : List (List Int)) (T : List Nat) (w : World) (A : Option Addr) (c : Nat) (xs : List Int),PlH J (FxM b1 b2 b3 b4 b5 b6 Av nv cv Au nu cu ga bva bea gb bvb beb V E V' E' fd caps) (tfM b1 b2 b3 b4 b5 b6 Av Au ga bva bea gb bvb beb) told T (.slice A n c) n xs w → n = xs.length → told.length + (extL V E (idsV V) V' E' (idsV V') f xs).length ≤ N → Calls Tryz.prog 82 #[.slice A n c, .pointer (some ⟨b1,0,none⟩), .pointer (some ⟨b2,0,none⟩), .pointer (some ⟨b3,0,none⟩), .pointer (some ⟨b4,0,none⟩), .pointer (some ⟨b5,0,none⟩), .pointer (some ⟨b6,0,none⟩)] w (ExPost J T (.slice A n c) n xs w (told ++ outT q (extL V E (idsV V) V' E' (idsV V') f xs)) (ansT q (extL V E (idsV V) V' E' (idsV V') f xs))) := by
 intro f
 induction f with
 | zero =>
  intro n hnf told T w A c xs h hn hN
  have h1 := extendR_end hC told T w A n c xs h hn (by omega) (by have : told.length + 1 ≤ N := hN; omega)
  have e1 : outT q (extL V E (idsV V) V' E' (idsV V') 0 xs) = [xs] := by cases q <;> rfl
  have e2 : ansT q (extL V E (idsV V) V' E' (idsV V') 0 xs) = q := by cases q <;> rfl
  rw [e1,e2]
  exact h1
 | succ f ih =>
  intro n hnf told T w A c xs h hn hN
  exact extendR_level hC hnv hnu hl hlu hlb hlb2 n f hnf (ih (n + 1) (by omega)) told T w A c xs h hn hN
end Go.Proofs.YtbpeemhfjgcnaaaGreat
namespace Go.Proofs.YtbpeemhfjgcnaaaGreat
open Go Go.RowKit Go.Shelf
attribute [local go_sem] qUpon lUpon
attribute [local irreducible] wpO wpX wpQL
set_option maxRecDepth 100000 in
set_option maxHeartbeats 16000000 in
theorem mapsR_any {fd N nv ga bva bea : Nat} {V : List (Int × Thing)} {E : List ((Int × Int) × Thing)} {caps : Array Value} {q : Bool} {J : List (List Int) → List Nat → World → Prop} (hC : TellR ga bva bea V E N fd caps q nv J) (gb bvb beb : Nat) (V' : List (Int × Thing)) (E' : List ((Int × Int) × Thing)) (w : World) (told : List (List Int)) (T : List Nat) (ha : IsG w ga bva bea V E) (hb : IsG w gb bvb beb V' E') (hnv : nv = V.length) (hl : nv ≤ 8) (hl2 : V'.length ≤ 8) (hlb : LabB V E) (hlb2 : LabB V' E') (hj : J told T w) (hgT : ∀ x ∈ [ga,bva,bea,gb,bvb,beb],x ∉ T) (hN : told.length + (mapsP V E (idsV V) V' E' (idsV V')).length ≤ N) :
  Calls Tryz.prog 52 #[.pointer (some ⟨ga,0,none⟩), .pointer (some ⟨gb,0,none⟩), .func (.func fd) #[] caps] w (MapPost J T w (told ++ outT q (mapsP V E (idsV V) V' E' (idsV V')))) := by
 have hC' := hide hC
 have ha' := hide ha
 have hb' := hide hb
 have hnv' := hide hnv
 have hl' := hide hl
 have hl2' := hide hl2
 have hlb' := hide hlb
 have hlb2' := hide hlb2
 have hj' := hide hj
 have hgT' := hide hgT
 have hN' := hide hN
 have hTw := hide (hC.lt _ _ _ hj)
 have hiu := hide (hb.inv).idsS
 obtain ⟨nu,hnu0⟩ : ∃ nu,nu = V'.length := ⟨_,rfl⟩
 have hnu := hide hnu0
 have hlu := hide (show nu ≤ 8 by rw [hnu0]; exact hl2)
 obtain ⟨MP,hMP0⟩ : ∃ MP,MP = mapsP V E (idsV V) V' E' (idsV V') := ⟨_,rfl⟩
 rw [← hMP0] at hN' ⊢
 have hMP := hide hMP0
 clear hC ha hb hnv hl hl2 hlb hlb2 hj hgT hN hnu0 hMP0
 have hP := hide (Sp.new w)
 refine callsIn_wide.1 (callsIn_of_wp_marks (n := 0) Tryz.func52 rfl trivial (wpIn_wide.2 ?_))
 simp only [Tryz.ntmps52,List.size_toArray,List.length_cons,List.length_nil,Nat.reduceAdd,Nat.reduceSub,Array.replicate_succ,Array.replicate_zero,List.push_toArray,List.append_toArray,List.nil_append,List.cons_append]
 try dsimp only
 repeat ((fail_if_success (with_reducible refine wp_reg (id := 0) ?_)); (first | go_values | go_skip | go_step | go_guarded | go_upon | go_in | go_back | fail))
 with_reducible refine wp_reg (id := 0) ?_
 refine (unhide hP).allocO 24 #[.pointer (some ⟨ga,0,none⟩)] rfl (run_box (v := .pointer (some ⟨ga,0,none⟩)) rfl rfl) ?_
 intro b4 y1 hQ
 replace hP : Hid (Sp w [] w [] [(b4,24, #[.pointer (some ⟨ga,0,none⟩)])] [] y1) := hide hQ
 clear hQ
 refine (unhide hP).allocO 24 #[.pointer (some ⟨gb,0,none⟩)] rfl (run_box (v := .pointer (some ⟨gb,0,none⟩)) rfl rfl) ?_
 intro b5 y2 hQ
 replace hP : Hid (Sp w [] w [] [(b4,24, #[.pointer (some ⟨ga,0,none⟩)]),(b5,24, #[.pointer (some ⟨gb,0,none⟩)])] [] y2) := hide hQ
 clear hQ
 refine (unhide hP).allocO 103 #[.func (.func fd) #[] caps] rfl (run_box (v := .func (.func fd) #[] caps) rfl rfl) ?_
 intro b2 y3 hQ
 replace hP : Hid (Sp w [] w [] [(b4,24, #[.pointer (some ⟨ga,0,none⟩)]),(b5,24, #[.pointer (some ⟨gb,0,none⟩)]),(b2,103, #[.func (.func fd) #[] caps])] [] y3) := hide hQ
 clear hQ
 refine wpO_done ?_
 try go_frame
 go_wp2_with fail
 obtain ⟨M,hM0⟩ : ∃ M : Act → World → Prop,M = (fun a' W => ∃ (b1 b3 : Nat) (A1 : Option Addr) (c1 : Nat) (A2 : Option Addr) (c2 : Nat),a'.tmps.size = 21 ∧ a'.defers = [] ∧ a'.tmps.getD 3 undef = .pointer (some ⟨b4,0,none⟩) ∧ a'.tmps.getD 4 undef = .pointer (some ⟨b5,0,none⟩) ∧ a'.tmps.getD 5 undef = .pointer (some ⟨b2,0,none⟩) ∧ a'.tmps.getD 6 undef = .pointer (some ⟨b1,0,none⟩) ∧ a'.tmps.getD 7 undef = .pointer (some ⟨b3,0,none⟩) ∧ Sp w [] w [] [(b4,24, #[.pointer (some ⟨ga,0,none⟩)]),(b5,24, #[.pointer (some ⟨gb,0,none⟩)]),(b2,103, #[.func (.func fd) #[] caps]),(b1,82, #[.slice A1 nv c1]),(b3,82, #[.slice A2 nu c2])] [(81,3, .slice A1 nv c1,nv,V.flatMap encV),(81,3, .slice A2 nu c2,nu,V'.flatMap encV)] W) := ⟨_,rfl⟩
 have hM := hide hM0
 clear hM0
 refine wp_regionKM (P := Tryz.prog) M [] [0,2] [] 6 #[true,false,true,false,false,false,false,false] (by kernel_rfl) (by kernel_rfl) rfl (by rfl) ?_ ?_
 ·skip
  refine ql_want (v := .pointer (some ⟨ga,0,none⟩)) rfl (by rfl) (fun W hW => qUpon_ofX (load_V rfl rfl (by simp [go_sem]) ((unhide hP).cellK 0 0 rfl rfl (by simp) W hW))) ?_
  go_frame
  refine ql_want (v := .pointer (some ⟨gb,0,none⟩)) rfl (by rfl) (fun W hW => qUpon_ofX (load_V rfl rfl (by simp [go_sem]) ((unhide hP).cellK 1 0 rfl rfl (by simp) W hW))) ?_
  go_frame
  refine wpQL_nil (fun y4 hxq => ?_)
  have hK := hide (hxq.keep [])
  replace hP : Hid (Sp w [] w [] [(b4,24, #[.pointer (some ⟨ga,0,none⟩)]),(b5,24, #[.pointer (some ⟨gb,0,none⟩)]),(b2,103, #[.func (.func fd) #[] caps])] [] y4) := hide ((unhide hP).ext hxq)
  clear hxq
  refine lx_three (i := 1) (j := 4) (k := 5) (by kernel_rfl) rfl (by rfl) #[true,true,true,false,false,false,false,false] (by rfl) rfl (by rfl) #[true,false,true,false,true,false,false,false] (by rfl) rfl (by rfl) #[true,false,true,false,false,true,false,false] (by rfl) ?_ ?_ ?_
  ·skip
   have hca := vertices_rel ga bva bea V E y4 ((unhide ha').ext (unhide hP).extf)
   rw [← unhide hnv'] at hca
   go_simp
   refine (hca).mono ?_
   clear hca
   rintro _ zy5 ⟨A1,c1,rfl,ho1,hxc⟩
   refine ⟨_,rfl,(unhide hK).trans (hxc.keep _),fun y5 hxd => ?_⟩
   replace hP : Hid (Sp w [] w [] [(b4,24, #[.pointer (some ⟨ga,0,none⟩)]),(b5,24, #[.pointer (some ⟨gb,0,none⟩)]),(b2,103, #[.func (.func fd) #[] caps])] [(81,3, .slice A1 nv c1,nv,V.flatMap encV)] y5) := hide (((unhide hP).addRow hxc ho1).ext hxd)
   replace hK := hide ((unhide hK).trans ((hxc.trans hxd).keep _))
   clear ho1
   clear hxc hxd
   try go_frame
   refine lx_three (i := 3) (j := 4) (k := 5) (by kernel_rfl) rfl (by rfl) #[true,true,true,true,false,false,false,false] (by rfl) rfl (by rfl) #[true,true,true,false,true,false,false,false] (by rfl) rfl (by rfl) #[true,true,true,false,false,true,false,false] (by rfl) ?_ ?_ ?_
   ·skip
    have hca := vertices_rel gb bvb beb V' E' y5 ((unhide hb').ext (unhide hP).extf)
    rw [← unhide hnu] at hca
    go_simp
    refine (hca).mono ?_
    clear hca
    rintro _ zy6 ⟨A2,c2,rfl,ho1,hxc⟩
    refine ⟨_,rfl,(unhide hK).trans (hxc.keep _),fun y6 hxd => ?_⟩
    replace hP : Hid (Sp w [] w [] [(b4,24, #[.pointer (some ⟨ga,0,none⟩)]),(b5,24, #[.pointer (some ⟨gb,0,none⟩)]),(b2,103, #[.func (.func fd) #[] caps])] [(81,3, .slice A1 nv c1,nv,V.flatMap encV),(81,3, .slice A2 nu c2,nu,V'.flatMap encV)] y6) := hide (((unhide hP).addRow hxc ho1).ext hxd)
    replace hK := hide ((unhide hK).trans ((hxc.trans hxd).keep _))
    clear ho1
    clear hxc hxd
    try go_frame
    refine lx_two (i := 4) (k := 5) (by kernel_rfl) rfl (by rfl) #[true,true,true,true,true,false,false,false] (by rfl) rfl (by rfl) #[true,true,true,true,false,true,false,false] (by rfl) ?_ ?_
    ·skip
     refine (unhide hP).allocL (unhide hK) (v := fun b => .pointer (some ⟨b,0,none⟩)) 82 #[.slice none 0 0] ?_ ?_
     ·go_simp
     intro b1 y7 hQ hK2 hg2
     replace hP : Hid (Sp w [] w [] [(b4,24, #[.pointer (some ⟨ga,0,none⟩)]),(b5,24, #[.pointer (some ⟨gb,0,none⟩)]),(b2,103, #[.func (.func fd) #[] caps]),(b1,82, #[.slice none 0 0])] [(81,3, .slice A1 nv c1,nv,V.flatMap encV),(81,3, .slice A2 nu c2,nu,V'.flatMap encV)] y7) := hide hQ
     replace hK := hide hK2
     have hge_b1 := hide hg2
     clear hQ hK2 hg2
     try go_frame
     refine lx_one (i := 5) (by kernel_rfl) rfl (by rfl) #[true,true,true,true,true,true,false,false] (by rfl) ?_
     refine (unhide hP).allocL (unhide hK) (v := fun b => .pointer (some ⟨b,0,none⟩)) 82 #[.slice none 0 0] ?_ ?_
     ·go_simp
     intro b3 y8 hQ hK2 hg2
     replace hP : Hid (Sp w [] w [] [(b4,24, #[.pointer (some ⟨ga,0,none⟩)]),(b5,24, #[.pointer (some ⟨gb,0,none⟩)]),(b2,103, #[.func (.func fd) #[] caps]),(b1,82, #[.slice none 0 0]),(b3,82, #[.slice none 0 0])] [(81,3, .slice A1 nv c1,nv,V.flatMap encV),(81,3, .slice A2 nu c2,nu,V'.flatMap encV)] y8) := hide hQ
     replace hK := hide hK2
     have hge_b3 := hide hg2
     clear hQ hK2 hg2
     try go_frame
     refine lx_one (i := 6) (by kernel_rfl) rfl (by rfl) #[true,true,true,true,true,true,true,false] (by rfl) ?_
     refine (unhide hP).setNL (unhide hK) 3 #[.slice A1 nv c1] rfl (unhide hge_b1) (fun hb => run_store_row (v := .slice A1 nv c1) rfl (by rfl) (by rfl) (by simp [go_sem]) hb rfl (by simp [Value.cells,Value.oneCell'])) ?_
     intro y9 hQ hK2
     replace hP : Hid (Sp w [] w [] [(b4,24, #[.pointer (some ⟨ga,0,none⟩)]),(b5,24, #[.pointer (some ⟨gb,0,none⟩)]),(b2,103, #[.func (.func fd) #[] caps]),(b1,82, #[.slice A1 nv c1]),(b3,82, #[.slice none 0 0])] [(81,3, .slice A1 nv c1,nv,V.flatMap encV),(81,3, .slice A2 nu c2,nu,V'.flatMap encV)] y9) := hide hQ
     replace hK := hide hK2
     clear hQ hK2
     try go_frame
     refine lx_one (i := 7) (by kernel_rfl) rfl (by rfl) #[true,true,true,true,true,true,true,true] (by rfl) ?_
     refine (unhide hP).setNL (unhide hK) 4 #[.slice A2 nu c2] rfl (unhide hge_b3) (fun hb => run_store_row (v := .slice A2 nu c2) rfl (by rfl) (by rfl) (by simp [go_sem]) hb rfl (by simp [Value.cells,Value.oneCell'])) ?_
     intro y10 hQ hK2
     replace hP : Hid (Sp w [] w [] [(b4,24, #[.pointer (some ⟨ga,0,none⟩)]),(b5,24, #[.pointer (some ⟨gb,0,none⟩)]),(b2,103, #[.func (.func fd) #[] caps]),(b1,82, #[.slice A1 nv c1]),(b3,82, #[.slice A2 nu c2])] [(81,3, .slice A1 nv c1,nv,V.flatMap encV),(81,3, .slice A2 nu c2,nu,V'.flatMap encV)] y10) := hide hQ
     replace hK := hide hK2
     clear hQ hK2
     try go_frame
     refine wpX_done (by kernel_rfl) ?_
     try go_frame
     clear hK
     rw [unhide hM]
     exact ⟨b1,b3,A1,c1,A2,c2,rfl,rfl,rfl,rfl,rfl,rfl,rfl,unhide hP⟩
    ·skip
     refine (unhide hP).allocL (unhide hK) (v := fun b => .pointer (some ⟨b,0,none⟩)) 82 #[.slice none 0 0] ?_ ?_
     ·go_simp
     intro b3 y7 hQ hK2 hg2
     replace hP : Hid (Sp w [] w [] [(b4,24, #[.pointer (some ⟨ga,0,none⟩)]),(b5,24, #[.pointer (some ⟨gb,0,none⟩)]),(b2,103, #[.func (.func fd) #[] caps]),(b3,82, #[.slice none 0 0])] [(81,3, .slice A1 nv c1,nv,V.flatMap encV),(81,3, .slice A2 nu c2,nu,V'.flatMap encV)] y7) := hide hQ
     replace hK := hide hK2
     have hge_b3 := hide hg2
     clear hQ hK2 hg2
     try go_frame
     refine lx_one (i := 4) (by kernel_rfl) rfl (by rfl) #[true,true,true,true,true,true,false,false] (by rfl) ?_
     refine (unhide hP).allocL (unhide hK) (v := fun b => .pointer (some ⟨b,0,none⟩)) 82 #[.slice none 0 0] ?_ ?_
     ·go_simp
     intro b1 y8 hQ hK2 hg2
     replace hP : Hid (Sp w [] w [] [(b4,24, #[.pointer (some ⟨ga,0,none⟩)]),(b5,24, #[.pointer (some ⟨gb,0,none⟩)]),(b2,103, #[.func (.func fd) #[] caps]),(b3,82, #[.slice none 0 0]),(b1,82, #[.slice none 0 0])] [(81,3, .slice A1 nv c1,nv,V.flatMap encV),(81,3, .slice A2 nu c2,nu,V'.flatMap encV)] y8) := hide hQ
     replace hK := hide hK2
     have hge_b1 := hide hg2
     clear hQ hK2 hg2
     try go_frame
     refine lx_one (i := 6) (by kernel_rfl) rfl (by rfl) #[true,true,true,true,true,true,true,false] (by rfl) ?_
     refine (unhide hP).setNL (unhide hK) 4 #[.slice A1 nv c1] rfl (unhide hge_b1) (fun hb => run_store_row (v := .slice A1 nv c1) rfl (by rfl) (by rfl) (by simp [go_sem]) hb rfl (by simp [Value.cells,Value.oneCell'])) ?_
     intro y9 hQ hK2
     replace hP : Hid (Sp w [] w [] [(b4,24, #[.pointer (some ⟨ga,0,none⟩)]),(b5,24, #[.pointer (some ⟨gb,0,none⟩)]),(b2,103, #[.func (.func fd) #[] caps]),(b3,82, #[.slice none 0 0]),(b1,82, #[.slice A1 nv c1])] [(81,3, .slice A1 nv c1,nv,V.flatMap encV),(81,3, .slice A2 nu c2,nu,V'.flatMap encV)] y9) := hide hQ
     replace hK := hide hK2
     clear hQ hK2
     try go_frame
     refine lx_one (i := 7) (by kernel_rfl) rfl (by rfl) #[true,true,true,true,true,true,true,true] (by rfl) ?_
     refine (unhide hP).setNL (unhide hK) 3 #[.slice A2 nu c2] rfl (unhide hge_b3) (fun hb => run_store_row (v := .slice A2 nu c2) rfl (by rfl) (by rfl) (by simp [go_sem]) hb rfl (by simp [Value.cells,Value.oneCell'])) ?_
     intro y10 hQ hK2
     replace hP : Hid (Sp w [] w [] [(b4,24, #[.pointer (some ⟨ga,0,none⟩)]),(b5,24, #[.pointer (some ⟨gb,0,none⟩)]),(b2,103, #[.func (.func fd) #[] caps]),(b3,82, #[.slice A2 nu c2]),(b1,82, #[.slice A1 nv c1])] [(81,3, .slice A1 nv c1,nv,V.flatMap encV),(81,3, .slice A2 nu c2,nu,V'.flatMap encV)] y10) := hide hQ
     replace hK := hide hK2
     clear hQ hK2
     try go_frame
     refine wpX_done (by kernel_rfl) ?_
     try go_frame
     clear hK
     rw [unhide hM]
     exact ⟨b1,b3,A1,c1,A2,c2,rfl,rfl,rfl,rfl,rfl,rfl,rfl,Sp.swapL (L := [(b4,24, #[.pointer (some ⟨ga,0,none⟩)]),(b5,24, #[.pointer (some ⟨gb,0,none⟩)]),(b2,103, #[.func (.func fd) #[] caps])]) (y := (b3,82, #[.slice A2 nu c2])) (x := (b1,82, #[.slice A1 nv c1])) (unhide hP)⟩
   ·skip
    refine (unhide hP).allocL (unhide hK) (v := fun b => .pointer (some ⟨b,0,none⟩)) 82 #[.slice none 0 0] ?_ ?_
    ·go_simp
    intro b1 y6 hQ hK2 hg2
    replace hP : Hid (Sp w [] w [] [(b4,24, #[.pointer (some ⟨ga,0,none⟩)]),(b5,24, #[.pointer (some ⟨gb,0,none⟩)]),(b2,103, #[.func (.func fd) #[] caps]),(b1,82, #[.slice none 0 0])] [(81,3, .slice A1 nv c1,nv,V.flatMap encV)] y6) := hide hQ
    replace hK := hide hK2
    have hge_b1 := hide hg2
    clear hQ hK2 hg2
    try go_frame
    refine lx_two (i := 3) (k := 5) (by kernel_rfl) rfl (by rfl) #[true,true,true,true,true,false,false,false] (by rfl) rfl (by rfl) #[true,true,true,false,true,true,false,false] (by rfl) ?_ ?_
    ·skip
     have hca := vertices_rel gb bvb beb V' E' y6 ((unhide hb').ext (unhide hP).extf)
     rw [← unhide hnu] at hca
     go_simp
     refine (hca).mono ?_
     clear hca
     rintro _ zy7 ⟨A2,c2,rfl,ho1,hxc⟩
     refine ⟨_,rfl,(unhide hK).trans (hxc.keep _),fun y7 hxd => ?_⟩
     replace hP : Hid (Sp w [] w [] [(b4,24, #[.pointer (some ⟨ga,0,none⟩)]),(b5,24, #[.pointer (some ⟨gb,0,none⟩)]),(b2,103, #[.func (.func fd) #[] caps]),(b1,82, #[.slice none 0 0])] [(81,3, .slice A1 nv c1,nv,V.flatMap encV),(81,3, .slice A2 nu c2,nu,V'.flatMap encV)] y7) := hide (((unhide hP).addRow hxc ho1).ext hxd)
     replace hK := hide ((unhide hK).trans ((hxc.trans hxd).keep _))
     clear ho1
     clear hxc hxd
     try go_frame
     refine lx_one (i := 5) (by kernel_rfl) rfl (by rfl) #[true,true,true,true,true,true,false,false] (by rfl) ?_
     refine (unhide hP).allocL (unhide hK) (v := fun b => .pointer (some ⟨b,0,none⟩)) 82 #[.slice none 0 0] ?_ ?_
     ·go_simp
     intro b3 y8 hQ hK2 hg2
     replace hP : Hid (Sp w [] w [] [(b4,24, #[.pointer (some ⟨ga,0,none⟩)]),(b5,24, #[.pointer (some ⟨gb,0,none⟩)]),(b2,103, #[.func (.func fd) #[] caps]),(b1,82, #[.slice none 0 0]),(b3,82, #[.slice none 0 0])] [(81,3, .slice A1 nv c1,nv,V.flatMap encV),(81,3, .slice A2 nu c2,nu,V'.flatMap encV)] y8) := hide hQ
     replace hK := hide hK2
     have hge_b3 := hide hg2
     clear hQ hK2 hg2
     try go_frame
     refine lx_one (i := 6) (by kernel_rfl) rfl (by rfl) #[true,true,true,true,true,true,true,false] (by rfl) ?_
     refine (unhide hP).setNL (unhide hK) 3 #[.slice A1 nv c1] rfl (unhide hge_b1) (fun hb => run_store_row (v := .slice A1 nv c1) rfl (by rfl) (by rfl) (by simp [go_sem]) hb rfl (by simp [Value.cells,Value.oneCell'])) ?_
     intro y9 hQ hK2
     replace hP : Hid (Sp w [] w [] [(b4,24, #[.pointer (some ⟨ga,0,none⟩)]),(b5,24, #[.pointer (some ⟨gb,0,none⟩)]),(b2,103, #[.func (.func fd) #[] caps]),(b1,82, #[.slice A1 nv c1]),(b3,82, #[.slice none 0 0])] [(81,3, .slice A1 nv c1,nv,V.flatMap encV),(81,3, .slice A2 nu c2,nu,V'.flatMap encV)] y9) := hide hQ
     replace hK := hide hK2
     clear hQ hK2
     try go_frame
     refine lx_one (i := 7) (by kernel_rfl) rfl (by rfl) #[true,true,true,true,true,true,true,true] (by rfl) ?_
     refine (unhide hP).setNL (unhide hK) 4 #[.slice A2 nu c2] rfl (unhide hge_b3) (fun hb => run_store_row (v := .slice A2 nu c2) rfl (by rfl) (by rfl) (by simp [go_sem]) hb rfl (by simp [Value.cells,Value.oneCell'])) ?_
     intro y10 hQ hK2
     replace hP : Hid (Sp w [] w [] [(b4,24, #[.pointer (some ⟨ga,0,none⟩)]),(b5,24, #[.pointer (some ⟨gb,0,none⟩)]),(b2,103, #[.func (.func fd) #[] caps]),(b1,82, #[.slice A1 nv c1]),(b3,82, #[.slice A2 nu c2])] [(81,3, .slice A1 nv c1,nv,V.flatMap encV),(81,3, .slice A2 nu c2,nu,V'.flatMap encV)] y10) := hide hQ
     replace hK := hide hK2
     clear hQ hK2
     try go_frame
     refine wpX_done (by kernel_rfl) ?_
     try go_frame
     clear hK
     rw [unhide hM]
     exact ⟨b1,b3,A1,c1,A2,c2,rfl,rfl,rfl,rfl,rfl,rfl,rfl,unhide hP⟩
    ·skip
     refine (unhide hP).allocL (unhide hK) (v := fun b => .pointer (some ⟨b,0,none⟩)) 82 #[.slice none 0 0] ?_ ?_
     ·go_simp
     intro b3 y7 hQ hK2 hg2
     replace hP : Hid (Sp w [] w [] [(b4,24, #[.pointer (some ⟨ga,0,none⟩)]),(b5,24, #[.pointer (some ⟨gb,0,none⟩)]),(b2,103, #[.func (.func fd) #[] caps]),(b1,82, #[.slice none 0 0]),(b3,82, #[.slice none 0 0])] [(81,3, .slice A1 nv c1,nv,V.flatMap encV)] y7) := hide hQ
     replace hK := hide hK2
     have hge_b3 := hide hg2
     clear hQ hK2 hg2
     try go_frame
     refine lx_one (i := 3) (by kernel_rfl) rfl (by rfl) #[true,true,true,true,true,true,false,false] (by rfl) ?_
     have hca := vertices_rel gb bvb beb V' E' y7 ((unhide hb').ext (unhide hP).extf)
     rw [← unhide hnu] at hca
     go_simp
     refine (hca).mono ?_
     clear hca
     rintro _ zy8 ⟨A2,c2,rfl,ho1,hxc⟩
     refine ⟨_,rfl,(unhide hK).trans (hxc.keep _),fun y8 hxd => ?_⟩
     replace hP : Hid (Sp w [] w [] [(b4,24, #[.pointer (some ⟨ga,0,none⟩)]),(b5,24, #[.pointer (some ⟨gb,0,none⟩)]),(b2,103, #[.func (.func fd) #[] caps]),(b1,82, #[.slice none 0 0]),(b3,82, #[.slice none 0 0])] [(81,3, .slice A1 nv c1,nv,V.flatMap encV),(81,3, .slice A2 nu c2,nu,V'.flatMap encV)] y8) := hide (((unhide hP).addRow hxc ho1).ext hxd)
     replace hK := hide ((unhide hK).trans ((hxc.trans hxd).keep _))
     clear ho1
     clear hxc hxd
     try go_frame
     refine lx_one (i := 6) (by kernel_rfl) rfl (by rfl) #[true,true,true,true,true,true,true,false] (by rfl) ?_
     refine (unhide hP).setNL (unhide hK) 3 #[.slice A1 nv c1] rfl (unhide hge_b1) (fun hb => run_store_row (v := .slice A1 nv c1) rfl (by rfl) (by rfl) (by simp [go_sem]) hb rfl (by simp [Value.cells,Value.oneCell'])) ?_
     intro y9 hQ hK2
     replace hP : Hid (Sp w [] w [] [(b4,24, #[.pointer (some ⟨ga,0,none⟩)]),(b5,24, #[.pointer (some ⟨gb,0,none⟩)]),(b2,103, #[.func (.func fd) #[] caps]),(b1,82, #[.slice A1 nv c1]),(b3,82, #[.slice none 0 0])] [(81,3, .slice A1 nv c1,nv,V.flatMap encV),(81,3, .slice A2 nu c2,nu,V'.flatMap encV)] y9) := hide hQ
     replace hK := hide hK2
     clear hQ hK2
     try go_frame
     refine lx_one (i := 7) (by kernel_rfl) rfl (by rfl) #[true,true,true,true,true,true,true,true] (by rfl) ?_
     refine (unhide hP).setNL (unhide hK) 4 #[.slice A2 nu c2] rfl (unhide hge_b3) (fun hb => run_store_row (v := .slice A2 nu c2) rfl (by rfl) (by rfl) (by simp [go_sem]) hb rfl (by simp [Value.cells,Value.oneCell'])) ?_
     intro y10 hQ hK2
     replace hP : Hid (Sp w [] w [] [(b4,24, #[.pointer (some ⟨ga,0,none⟩)]),(b5,24, #[.pointer (some ⟨gb,0,none⟩)]),(b2,103, #[.func (.func fd) #[] caps]),(b1,82, #[.slice A1 nv c1]),(b3,82, #[.slice A2 nu c2])] [(81,3, .slice A1 nv c1,nv,V.flatMap encV),(81,3, .slice A2 nu c2,nu,V'.flatMap encV)] y10) := hide hQ
     replace hK := hide hK2
     clear hQ hK2
     try go_frame
     refine wpX_done (by kernel_rfl) ?_
     try go_frame
     clear hK
     rw [unhide hM]
     exact ⟨b1,b3,A1,c1,A2,c2,rfl,rfl,rfl,rfl,rfl,rfl,rfl,unhide hP⟩
   ·skip
    refine (unhide hP).allocL (unhide hK) (v := fun b => .pointer (some ⟨b,0,none⟩)) 82 #[.slice none 0 0] ?_ ?_
    ·go_simp
    intro b3 y6 hQ hK2 hg2
    replace hP : Hid (Sp w [] w [] [(b4,24, #[.pointer (some ⟨ga,0,none⟩)]),(b5,24, #[.pointer (some ⟨gb,0,none⟩)]),(b2,103, #[.func (.func fd) #[] caps]),(b3,82, #[.slice none 0 0])] [(81,3, .slice A1 nv c1,nv,V.flatMap encV)] y6) := hide hQ
    replace hK := hide hK2
    have hge_b3 := hide hg2
    clear hQ hK2 hg2
    try go_frame
    refine lx_two (i := 3) (k := 4) (by kernel_rfl) rfl (by rfl) #[true,true,true,true,false,true,false,false] (by rfl) rfl (by rfl) #[true,true,true,false,true,true,false,false] (by rfl) ?_ ?_
    ·skip
     have hca := vertices_rel gb bvb beb V' E' y6 ((unhide hb').ext (unhide hP).extf)
     rw [← unhide hnu] at hca
     go_simp
     refine (hca).mono ?_
     clear hca
     rintro _ zy7 ⟨A2,c2,rfl,ho1,hxc⟩
     refine ⟨_,rfl,(unhide hK).trans (hxc.keep _),fun y7 hxd => ?_⟩
     replace hP : Hid (Sp w [] w [] [(b4,24, #[.pointer (some ⟨ga,0,none⟩)]),(b5,24, #[.pointer (some ⟨gb,0,none⟩)]),(b2,103, #[.func (.func fd) #[] caps]),(b3,82, #[.slice none 0 0])] [(81,3, .slice A1 nv c1,nv,V.flatMap encV),(81,3, .slice A2 nu c2,nu,V'.flatMap encV)] y7) := hide (((unhide hP).addRow hxc ho1).ext hxd)
     replace hK := hide ((unhide hK).trans ((hxc.trans hxd).keep _))
     clear ho1
     clear hxc hxd
     try go_frame
     refine lx_one (i := 4) (by kernel_rfl) rfl (by rfl) #[true,true,true,true,true,true,false,false] (by rfl) ?_
     refine (unhide hP).allocL (unhide hK) (v := fun b => .pointer (some ⟨b,0,none⟩)) 82 #[.slice none 0 0] ?_ ?_
     ·go_simp
     intro b1 y8 hQ hK2 hg2
     replace hP : Hid (Sp w [] w [] [(b4,24, #[.pointer (some ⟨ga,0,none⟩)]),(b5,24, #[.pointer (some ⟨gb,0,none⟩)]),(b2,103, #[.func (.func fd) #[] caps]),(b3,82, #[.slice none 0 0]),(b1,82, #[.slice none 0 0])] [(81,3, .slice A1 nv c1,nv,V.flatMap encV),(81,3, .slice A2 nu c2,nu,V'.flatMap encV)] y8) := hide hQ
     replace hK := hide hK2
     have hge_b1 := hide hg2
     clear hQ hK2 hg2
     try go_frame
     refine lx_one (i := 6) (by kernel_rfl) rfl (by rfl) #[true,true,true,true,true,true,true,false] (by rfl) ?_
     refine (unhide hP).setNL (unhide hK) 4 #[.slice A1 nv c1] rfl (unhide hge_b1) (fun hb => run_store_row (v := .slice A1 nv c1) rfl (by rfl) (by rfl) (by simp [go_sem]) hb rfl (by simp [Value.cells,Value.oneCell'])) ?_
     intro y9 hQ hK2
     replace hP : Hid (Sp w [] w [] [(b4,24, #[.pointer (some ⟨ga,0,none⟩)]),(b5,24, #[.pointer (some ⟨gb,0,none⟩)]),(b2,103, #[.func (.func fd) #[] caps]),(b3,82, #[.slice none 0 0]),(b1,82, #[.slice A1 nv c1])] [(81,3, .slice A1 nv c1,nv,V.flatMap encV),(81,3, .slice A2 nu c2,nu,V'.flatMap encV)] y9) := hide hQ
     replace hK := hide hK2
     clear hQ hK2
     try go_frame
     refine lx_one (i := 7) (by kernel_rfl) rfl (by rfl) #[true,true,true,true,true,true,true,true] (by rfl) ?_
     refine (unhide hP).setNL (unhide hK) 3 #[.slice A2 nu c2] rfl (unhide hge_b3) (fun hb => run_store_row (v := .slice A2 nu c2) rfl (by rfl) (by rfl) (by simp [go_sem]) hb rfl (by simp [Value.cells,Value.oneCell'])) ?_
     intro y10 hQ hK2
     replace hP : Hid (Sp w [] w [] [(b4,24, #[.pointer (some ⟨ga,0,none⟩)]),(b5,24, #[.pointer (some ⟨gb,0,none⟩)]),(b2,103, #[.func (.func fd) #[] caps]),(b3,82, #[.slice A2 nu c2]),(b1,82, #[.slice A1 nv c1])] [(81,3, .slice A1 nv c1,nv,V.flatMap encV),(81,3, .slice A2 nu c2,nu,V'.flatMap encV)] y10) := hide hQ
     replace hK := hide hK2
     clear hQ hK2
     try go_frame
     refine wpX_done (by kernel_rfl) ?_
     try go_frame
     clear hK
     rw [unhide hM]
     exact ⟨b1,b3,A1,c1,A2,c2,rfl,rfl,rfl,rfl,rfl,rfl,rfl,Sp.swapL (L := [(b4,24, #[.pointer (some ⟨ga,0,none⟩)]),(b5,24, #[.pointer (some ⟨gb,0,none⟩)]),(b2,103, #[.func (.func fd) #[] caps])]) (y := (b3,82, #[.slice A2 nu c2])) (x := (b1,82, #[.slice A1 nv c1])) (unhide hP)⟩
    ·skip
     refine (unhide hP).allocL (unhide hK) (v := fun b => .pointer (some ⟨b,0,none⟩)) 82 #[.slice none 0 0] ?_ ?_
     ·go_simp
     intro b1 y7 hQ hK2 hg2
     replace hP : Hid (Sp w [] w [] [(b4,24, #[.pointer (some ⟨ga,0,none⟩)]),(b5,24, #[.pointer (some ⟨gb,0,none⟩)]),(b2,103, #[.func (.func fd) #[] caps]),(b3,82, #[.slice none 0 0]),(b1,82, #[.slice none 0 0])] [(81,3, .slice A1 nv c1,nv,V.flatMap encV)] y7) := hide hQ
     replace hK := hide hK2
     have hge_b1 := hide hg2
     clear hQ hK2 hg2
     try go_frame
     refine lx_one (i := 3) (by kernel_rfl) rfl (by rfl) #[true,true,true,true,true,true,false,false] (by rfl) ?_
     have hca := vertices_rel gb bvb beb V' E' y7 ((unhide hb').ext (unhide hP).extf)
     rw [← unhide hnu] at hca
     go_simp
     refine (hca).mono ?_
     clear hca
     rintro _ zy8 ⟨A2,c2,rfl,ho1,hxc⟩
     refine ⟨_,rfl,(unhide hK).trans (hxc.keep _),fun y8 hxd => ?_⟩
     replace hP : Hid (Sp w [] w [] [(b4,24, #[.pointer (some ⟨ga,0,none⟩)]),(b5,24, #[.pointer (some ⟨gb,0,none⟩)]),(b2,103, #[.func (.func fd) #[] caps]),(b3,82, #[.slice none 0 0]),(b1,82, #[.slice none 0 0])] [(81,3, .slice A1 nv c1,nv,V.flatMap encV),(81,3, .slice A2 nu c2,nu,V'.flatMap encV)] y8) := hide (((unhide hP).addRow hxc ho1).ext hxd)
     replace hK := hide ((unhide hK).trans ((hxc.trans hxd).keep _))
     clear ho1
     clear hxc hxd
     try go_frame
     refine lx_one (i := 6) (by kernel_rfl) rfl (by rfl) #[true,true,true,true,true,true,true,false] (by rfl) ?_
     refine (unhide hP).setNL (unhide hK) 4 #[.slice A1 nv c1] rfl (unhide hge_b1) (fun hb => run_store_row (v := .slice A1 nv c1) rfl (by rfl) (by rfl) (by simp [go_sem]) hb rfl (by simp [Value.cells,Value.oneCell'])) ?_
     intro y9 hQ hK2
     replace hP : Hid (Sp w [] w [] [(b4,24, #[.pointer (some ⟨ga,0,none⟩)]),(b5,24, #[.pointer (some ⟨gb,0,none⟩)]),(b2,103, #[.func (.func fd) #[] caps]),(b3,82, #[.slice none 0 0]),(b1,82, #[.slice A1 nv c1])] [(81,3, .slice A1 nv c1,nv,V.flatMap encV),(81,3, .slice A2 nu c2,nu,V'.flatMap encV)] y9) := hide hQ
     replace hK := hide hK2
     clear hQ hK2
     try go_frame
     refine lx_one (i := 7) (by kernel_rfl) rfl (by rfl) #[true,true,true,true,true,true,true,true] (by rfl) ?_
     refine (unhide hP).setNL (unhide hK) 3 #[.slice A2 nu c2] rfl (unhide hge_b3) (fun hb => run_store_row (v := .slice A2 nu c2) rfl (by rfl) (by rfl) (by simp [go_sem]) hb rfl (by simp [Value.cells,Value.oneCell'])) ?_
     intro y10 hQ hK2
     replace hP : Hid (Sp w [] w [] [(b4,24, #[.pointer (some ⟨ga,0,none⟩)]),(b5,24, #[.pointer (some ⟨gb,0,none⟩)]),(b2,103, #[.func (.func fd) #[] caps]),(b3,82, #[.slice A2 nu c2]),(b1,82, #[.slice A1 nv c1])] [(81,3, .slice A1 nv c1,nv,V.flatMap encV),(81,3, .slice A2 nu c2,nu,V'.flatMap encV)] y10) := hide hQ
     replace hK := hide hK2
     clear hQ hK2
     try go_frame
     refine wpX_done (by kernel_rfl) ?_
     try go_frame
     clear hK
     rw [unhide hM]
     exact ⟨b1,b3,A1,c1,A2,c2,rfl,rfl,rfl,rfl,rfl,rfl,rfl,Sp.swapL (L := [(b4,24, #[.pointer (some ⟨ga,0,none⟩)]),(b5,24, #[.pointer (some ⟨gb,0,none⟩)]),(b2,103, #[.func (.func fd) #[] caps])]) (y := (b3,82, #[.slice A2 nu c2])) (x := (b1,82, #[.slice A1 nv c1])) (unhide hP)⟩
  ·skip
   refine (unhide hP).allocL (unhide hK) (v := fun b => .pointer (some ⟨b,0,none⟩)) 82 #[.slice none 0 0] ?_ ?_
   ·go_simp
   intro b1 y5 hQ hK2 hg2
   replace hP : Hid (Sp w [] w [] [(b4,24, #[.pointer (some ⟨ga,0,none⟩)]),(b5,24, #[.pointer (some ⟨gb,0,none⟩)]),(b2,103, #[.func (.func fd) #[] caps]),(b1,82, #[.slice none 0 0])] [] y5) := hide hQ
   replace hK := hide hK2
   have hge_b1 := hide hg2
   clear hQ hK2 hg2
   try go_frame
   refine lx_two (i := 1) (k := 5) (by kernel_rfl) rfl (by rfl) #[true,true,true,false,true,false,false,false] (by rfl) rfl (by rfl) #[true,false,true,false,true,true,false,false] (by rfl) ?_ ?_
   ·skip
    have hca := vertices_rel ga bva bea V E y5 ((unhide ha').ext (unhide hP).extf)
    rw [← unhide hnv'] at hca
    go_simp
    refine (hca).mono ?_
    clear hca
    rintro _ zy6 ⟨A1,c1,rfl,ho1,hxc⟩
    refine ⟨_,rfl,(unhide hK).trans (hxc.keep _),fun y6 hxd => ?_⟩
    replace hP : Hid (Sp w [] w [] [(b4,24, #[.pointer (some ⟨ga,0,none⟩)]),(b5,24, #[.pointer (some ⟨gb,0,none⟩)]),(b2,103, #[.func (.func fd) #[] caps]),(b1,82, #[.slice none 0 0])] [(81,3, .slice A1 nv c1,nv,V.flatMap encV)] y6) := hide (((unhide hP).addRow hxc ho1).ext hxd)
    replace hK := hide ((unhide hK).trans ((hxc.trans hxd).keep _))
    clear ho1
    clear hxc hxd
    try go_frame
    refine lx_two (i := 3) (k := 5) (by kernel_rfl) rfl (by rfl) #[true,true,true,true,true,false,false,false] (by rfl) rfl (by rfl) #[true,true,true,false,true,true,false,false] (by rfl) ?_ ?_
    ·skip
     have hca := vertices_rel gb bvb beb V' E' y6 ((unhide hb').ext (unhide hP).extf)
     rw [← unhide hnu] at hca
     go_simp
     refine (hca).mono ?_
     clear hca
     rintro _ zy7 ⟨A2,c2,rfl,ho1,hxc⟩
     refine ⟨_,rfl,(unhide hK).trans (hxc.keep _),fun y7 hxd => ?_⟩
     replace hP : Hid (Sp w [] w [] [(b4,24, #[.pointer (some ⟨ga,0,none⟩)]),(b5,24, #[.pointer (some ⟨gb,0,none⟩)]),(b2,103, #[.func (.func fd) #[] caps]),(b1,82, #[.slice none 0 0])] [(81,3, .slice A1 nv c1,nv,V.flatMap encV),(81,3, .slice A2 nu c2,nu,V'.flatMap encV)] y7) := hide (((unhide hP).addRow hxc ho1).ext hxd)
     replace hK := hide ((unhide hK).trans ((hxc.trans hxd).keep _))
     clear ho1
     clear hxc hxd
     try go_frame
     refine lx_one (i := 5) (by kernel_rfl) rfl (by rfl) #[true,true,true,true,true,true,false,false] (by rfl) ?_
     refine (unhide hP).allocL (unhide hK) (v := fun b => .pointer (some ⟨b,0,none⟩)) 82 #[.slice none 0 0] ?_ ?_
     ·go_simp
     intro b3 y8 hQ hK2 hg2
     replace hP : Hid (Sp w [] w [] [(b4,24, #[.pointer (some ⟨ga,0,none⟩)]),(b5,24, #[.pointer (some ⟨gb,0,none⟩)]),(b2,103, #[.func (.func fd) #[] caps]),(b1,82, #[.slice none 0 0]),(b3,82, #[.slice none 0 0])] [(81,3, .slice A1 nv c1,nv,V.flatMap encV),(81,3, .slice A2 nu c2,nu,V'.flatMap encV)] y8) := hide hQ
     replace hK := hide hK2
     have hge_b3 := hide hg2
     clear hQ hK2 hg2
     try go_frame
     refine lx_one (i := 6) (by kernel_rfl) rfl (by rfl) #[true,true,true,true,true,true,true,false] (by rfl) ?_
     refine (unhide hP).setNL (unhide hK) 3 #[.slice A1 nv c1] rfl (unhide hge_b1) (fun hb => run_store_row (v := .slice A1 nv c1) rfl (by rfl) (by rfl) (by simp [go_sem]) hb rfl (by simp [Value.cells,Value.oneCell'])) ?_
     intro y9 hQ hK2
     replace hP : Hid (Sp w [] w [] [(b4,24, #[.pointer (some ⟨ga,0,none⟩)]),(b5,24, #[.pointer (some ⟨gb,0,none⟩)]),(b2,103, #[.func (.func fd) #[] caps]),(b1,82, #[.slice A1 nv c1]),(b3,82, #[.slice none 0 0])] [(81,3, .slice A1 nv c1,nv,V.flatMap encV),(81,3, .slice A2 nu c2,nu,V'.flatMap encV)] y9) := hide hQ
     replace hK := hide hK2
     clear hQ hK2
     try go_frame
     refine lx_one (i := 7) (by kernel_rfl) rfl (by rfl) #[true,true,true,true,true,true,true,true] (by rfl) ?_
     refine (unhide hP).setNL (unhide hK) 4 #[.slice A2 nu c2] rfl (unhide hge_b3) (fun hb => run_store_row (v := .slice A2 nu c2) rfl (by rfl) (by rfl) (by simp [go_sem]) hb rfl (by simp [Value.cells,Value.oneCell'])) ?_
     intro y10 hQ hK2
     replace hP : Hid (Sp w [] w [] [(b4,24, #[.pointer (some ⟨ga,0,none⟩)]),(b5,24, #[.pointer (some ⟨gb,0,none⟩)]),(b2,103, #[.func (.func fd) #[] caps]),(b1,82, #[.slice A1 nv c1]),(b3,82, #[.slice A2 nu c2])] [(81,3, .slice A1 nv c1,nv,V.flatMap encV),(81,3, .slice A2 nu c2,nu,V'.flatMap encV)] y10) := hide hQ
     replace hK := hide hK2
     clear hQ hK2
     try go_frame
     refine wpX_done (by kernel_rfl) ?_
     try go_frame
     clear hK
     rw [unhide hM]
     exact ⟨b1,b3,A1,c1,A2,c2,rfl,rfl,rfl,rfl,rfl,rfl,rfl,unhide hP⟩
    ·skip
     refine (unhide hP).allocL (unhide hK) (v := fun b => .pointer (some ⟨b,0,none⟩)) 82 #[.slice none 0 0] ?_ ?_
     ·go_simp
     intro b3 y7 hQ hK2 hg2
     replace hP : Hid (Sp w [] w [] [(b4,24, #[.pointer (some ⟨ga,0,none⟩)]),(b5,24, #[.pointer (some ⟨gb,0,none⟩)]),(b2,103, #[.func (.func fd) #[] caps]),(b1,82, #[.slice none 0 0]),(b3,82, #[.slice none 0 0])] [(81,3, .slice A1 nv c1,nv,V.flatMap encV)] y7) := hide hQ
     replace hK := hide hK2
     have hge_b3 := hide hg2
     clear hQ hK2 hg2
     try go_frame
     refine lx_one (i := 3) (by kernel_rfl) rfl (by rfl) #[true,true,true,true,true,true,false,false] (by rfl) ?_
     have hca := vertices_rel gb bvb beb V' E' y7 ((unhide hb').ext (unhide hP).extf)
     rw [← unhide hnu] at hca
     go_simp
     refine (hca).mono ?_
     clear hca
     rintro _ zy8 ⟨A2,c2,rfl,ho1,hxc⟩
     refine ⟨_,rfl,(unhide hK).trans (hxc.keep _),fun y8 hxd => ?_⟩
     replace hP : Hid (Sp w [] w [] [(b4,24, #[.pointer (some ⟨ga,0,none⟩)]),(b5,24, #[.pointer (some ⟨gb,0,none⟩)]),(b2,103, #[.func (.func fd) #[] caps]),(b1,82, #[.slice none 0 0]),(b3,82, #[.slice none 0 0])] [(81,3, .slice A1 nv c1,nv,V.flatMap encV),(81,3, .slice A2 nu c2,nu,V'.flatMap encV)] y8) := hide (((unhide hP).addRow hxc ho1).ext hxd)
     replace hK := hide ((unhide hK).trans ((hxc.trans hxd).keep _))
     clear ho1
     clear hxc hxd
     try go_frame
     refine lx_one (i := 6) (by kernel_rfl) rfl (by rfl) #[true,true,true,true,true,true,true,false] (by rfl) ?_
     refine (unhide hP).setNL (unhide hK) 3 #[.slice A1 nv c1] rfl (unhide hge_b1) (fun hb => run_store_row (v := .slice A1 nv c1) rfl (by rfl) (by rfl) (by simp [go_sem]) hb rfl (by simp [Value.cells,Value.oneCell'])) ?_
     intro y9 hQ hK2
     replace hP : Hid (Sp w [] w [] [(b4,24, #[.pointer (some ⟨ga,0,none⟩)]),(b5,24, #[.pointer (some ⟨gb,0,none⟩)]),(b2,103, #[.func (.func fd) #[] caps]),(b1,82, #[.slice A1 nv c1]),(b3,82, #[.slice none 0 0])] [(81,3, .slice A1 nv c1,nv,V.flatMap encV),(81,3, .slice A2 nu c2,nu,V'.flatMap encV)] y9) := hide hQ
     replace hK := hide hK2
     clear hQ hK2
     try go_frame
     refine lx_one (i := 7) (by kernel_rfl) rfl (by rfl) #[true,true,true,true,true,true,true,true] (by rfl) ?_
     refine (unhide hP).setNL (unhide hK) 4 #[.slice A2 nu c2] rfl (unhide hge_b3) (fun hb => run_store_row (v := .slice A2 nu c2) rfl (by rfl) (by rfl) (by simp [go_sem]) hb rfl (by simp [Value.cells,Value.oneCell'])) ?_
     intro y10 hQ hK2
     replace hP : Hid (Sp w [] w [] [(b4,24, #[.pointer (some ⟨ga,0,none⟩)]),(b5,24, #[.pointer (some ⟨gb,0,none⟩)]),(b2,103, #[.func (.func fd) #[] caps]),(b1,82, #[.slice A1 nv c1]),(b3,82, #[.slice A2 nu c2])] [(81,3, .slice A1 nv c1,nv,V.flatMap encV),(81,3, .slice A2 nu c2,nu,V'.flatMap encV)] y10) := hide hQ
     replace hK := hide hK2
     clear hQ hK2
     try go_frame
     refine wpX_done (by kernel_rfl) ?_
     try go_frame
     clear hK
     rw [unhide hM]
     exact ⟨b1,b3,A1,c1,A2,c2,rfl,rfl,rfl,rfl,rfl,rfl,rfl,unhide hP⟩
   ·skip
    refine (unhide hP).allocL (unhide hK) (v := fun b => .pointer (some ⟨b,0,none⟩)) 82 #[.slice none 0 0] ?_ ?_
    ·go_simp
    intro b3 y6 hQ hK2 hg2
    replace hP : Hid (Sp w [] w [] [(b4,24, #[.pointer (some ⟨ga,0,none⟩)]),(b5,24, #[.pointer (some ⟨gb,0,none⟩)]),(b2,103, #[.func (.func fd) #[] caps]),(b1,82, #[.slice none 0 0]),(b3,82, #[.slice none 0 0])] [] y6) := hide hQ
    replace hK := hide hK2
    have hge_b3 := hide hg2
    clear hQ hK2 hg2
    try go_frame
    refine lx_one (i := 1) (by kernel_rfl) rfl (by rfl) #[true,true,true,false,true,true,false,false] (by rfl) ?_
    have hca := vertices_rel ga bva bea V E y6 ((unhide ha').ext (unhide hP).extf)
    rw [← unhide hnv'] at hca
    go_simp
    refine (hca).mono ?_
    clear hca
    rintro _ zy7 ⟨A1,c1,rfl,ho1,hxc⟩
    refine ⟨_,rfl,(unhide hK).trans (hxc.keep _),fun y7 hxd => ?_⟩
    replace hP : Hid (Sp w [] w [] [(b4,24, #[.pointer (some ⟨ga,0,none⟩)]),(b5,24, #[.pointer (some ⟨gb,0,none⟩)]),(b2,103, #[.func (.func fd) #[] caps]),(b1,82, #[.slice none 0 0]),(b3,82, #[.slice none 0 0])] [(81,3, .slice A1 nv c1,nv,V.flatMap encV)] y7) := hide (((unhide hP).addRow hxc ho1).ext hxd)
    replace hK := hide ((unhide hK).trans ((hxc.trans hxd).keep _))
    clear ho1
    clear hxc hxd
    try go_frame
    refine lx_one (i := 3) (by kernel_rfl) rfl (by rfl) #[true,true,true,true,true,true,false,false] (by rfl) ?_
    have hca := vertices_rel gb bvb beb V' E' y7 ((unhide hb').ext (unhide hP).extf)
    rw [← unhide hnu] at hca
    go_simp
    refine (hca).mono ?_
    clear hca
    rintro _ zy8 ⟨A2,c2,rfl,ho1,hxc⟩
    refine ⟨_,rfl,(unhide hK).trans (hxc.keep _),fun y8 hxd => ?_⟩
    replace hP : Hid (Sp w [] w [] [(b4,24, #[.pointer (some ⟨ga,0,none⟩)]),(b5,24, #[.pointer (some ⟨gb,0,none⟩)]),(b2,103, #[.func (.func fd) #[] caps]),(b1,82, #[.slice none 0 0]),(b3,82, #[.slice none 0 0])] [(81,3, .slice A1 nv c1,nv,V.flatMap encV),(81,3, .slice A2 nu c2,nu,V'.flatMap encV)] y8) := hide (((unhide hP).addRow hxc ho1).ext hxd)
    replace hK := hide ((unhide hK).trans ((hxc.trans hxd).keep _))
    clear ho1
    clear hxc hxd
    try go_frame
    refine lx_one (i := 6) (by kernel_rfl) rfl (by rfl) #[true,true,true,true,true,true,true,false] (by rfl) ?_
    refine (unhide hP).setNL (unhide hK) 3 #[.slice A1 nv c1] rfl (unhide hge_b1) (fun hb => run_store_row (v := .slice A1 nv c1) rfl (by rfl) (by rfl) (by simp [go_sem]) hb rfl (by simp [Value.cells,Value.oneCell'])) ?_
    intro y9 hQ hK2
    replace hP : Hid (Sp w [] w [] [(b4,24, #[.pointer (some ⟨ga,0,none⟩)]),(b5,24, #[.pointer (some ⟨gb,0,none⟩)]),(b2,103, #[.func (.func fd) #[] caps]),(b1,82, #[.slice A1 nv c1]),(b3,82, #[.slice none 0 0])] [(81,3, .slice A1 nv c1,nv,V.flatMap encV),(81,3, .slice A2 nu c2,nu,V'.flatMap encV)] y9) := hide hQ
    replace hK := hide hK2
    clear hQ hK2
    try go_frame
    refine lx_one (i := 7) (by kernel_rfl) rfl (by rfl) #[true,true,true,true,true,true,true,true] (by rfl) ?_
    refine (unhide hP).setNL (unhide hK) 4 #[.slice A2 nu c2] rfl (unhide hge_b3) (fun hb => run_store_row (v := .slice A2 nu c2) rfl (by rfl) (by rfl) (by simp [go_sem]) hb rfl (by simp [Value.cells,Value.oneCell'])) ?_
    intro y10 hQ hK2
    replace hP : Hid (Sp w [] w [] [(b4,24, #[.pointer (some ⟨ga,0,none⟩)]),(b5,24, #[.pointer (some ⟨gb,0,none⟩)]),(b2,103, #[.func (.func fd) #[] caps]),(b1,82, #[.slice A1 nv c1]),(b3,82, #[.slice A2 nu c2])] [(81,3, .slice A1 nv c1,nv,V.flatMap encV),(81,3, .slice A2 nu c2,nu,V'.flatMap encV)] y10) := hide hQ
    replace hK := hide hK2
    clear hQ hK2
    try go_frame
    refine wpX_done (by kernel_rfl) ?_
    try go_frame
    clear hK
    rw [unhide hM]
    exact ⟨b1,b3,A1,c1,A2,c2,rfl,rfl,rfl,rfl,rfl,rfl,rfl,unhide hP⟩
  ·skip
   refine (unhide hP).allocL (unhide hK) (v := fun b => .pointer (some ⟨b,0,none⟩)) 82 #[.slice none 0 0] ?_ ?_
   ·go_simp
   intro b3 y5 hQ hK2 hg2
   replace hP : Hid (Sp w [] w [] [(b4,24, #[.pointer (some ⟨ga,0,none⟩)]),(b5,24, #[.pointer (some ⟨gb,0,none⟩)]),(b2,103, #[.func (.func fd) #[] caps]),(b3,82, #[.slice none 0 0])] [] y5) := hide hQ
   replace hK := hide hK2
   have hge_b3 := hide hg2
   clear hQ hK2 hg2
   try go_frame
   refine lx_two (i := 1) (k := 4) (by kernel_rfl) rfl (by rfl) #[true,true,true,false,false,true,false,false] (by rfl) rfl (by rfl) #[true,false,true,false,true,true,false,false] (by rfl) ?_ ?_
   ·skip
    have hca := vertices_rel ga bva bea V E y5 ((unhide ha').ext (unhide hP).extf)
    rw [← unhide hnv'] at hca
    go_simp
    refine (hca).mono ?_
    clear hca
    rintro _ zy6 ⟨A1,c1,rfl,ho1,hxc⟩
    refine ⟨_,rfl,(unhide hK).trans (hxc.keep _),fun y6 hxd => ?_⟩
    replace hP : Hid (Sp w [] w [] [(b4,24, #[.pointer (some ⟨ga,0,none⟩)]),(b5,24, #[.pointer (some ⟨gb,0,none⟩)]),(b2,103, #[.func (.func fd) #[] caps]),(b3,82, #[.slice none 0 0])] [(81,3, .slice A1 nv c1,nv,V.flatMap encV)] y6) := hide (((unhide hP).addRow hxc ho1).ext hxd)
    replace hK := hide ((unhide hK).trans ((hxc.trans hxd).keep _))
    clear ho1
    clear hxc hxd
    try go_frame
    refine lx_two (i := 3) (k := 4) (by kernel_rfl) rfl (by rfl) #[true,true,true,true,false,true,false,false] (by rfl) rfl (by rfl) #[true,true,true,false,true,true,false,false] (by rfl) ?_ ?_
    ·skip
     have hca := vertices_rel gb bvb beb V' E' y6 ((unhide hb').ext (unhide hP).extf)
     rw [← unhide hnu] at hca
     go_simp
     refine (hca).mono ?_
     clear hca
     rintro _ zy7 ⟨A2,c2,rfl,ho1,hxc⟩
     refine ⟨_,rfl,(unhide hK).trans (hxc.keep _),fun y7 hxd => ?_⟩
     replace hP : Hid (Sp w [] w [] [(b4,24, #[.pointer (some ⟨ga,0,none⟩)]),(b5,24, #[.pointer (some ⟨gb,0,none⟩)]),(b2,103, #[.func (.func fd) #[] caps]),(b3,82, #[.slice none 0 0])] [(81,3, .slice A1 nv c1,nv,V.flatMap encV),(81,3, .slice A2 nu c2,nu,V'.flatMap encV)] y7) := hide (((unhide hP).addRow hxc ho1).ext hxd)
     replace hK := hide ((unhide hK).trans ((hxc.trans hxd).keep _))
     clear ho1
     clear hxc hxd
     try go_frame
     refine lx_one (i := 4) (by kernel_rfl) rfl (by rfl) #[true,true,true,true,true,true,false,false] (by rfl) ?_
     refine (unhide hP).allocL (unhide hK) (v := fun b => .pointer (some ⟨b,0,none⟩)) 82 #[.slice none 0 0] ?_ ?_
     ·go_simp
     intro b1 y8 hQ hK2 hg2
     replace hP : Hid (Sp w [] w [] [(b4,24, #[.pointer (some ⟨ga,0,none⟩)]),(b5,24, #[.pointer (some ⟨gb,0,none⟩)]),(b2,103, #[.func (.func fd) #[] caps]),(b3,82, #[.slice none 0 0]),(b1,82, #[.slice none 0 0])] [(81,3, .slice A1 nv c1,nv,V.flatMap encV),(81,3, .slice A2 nu c2,nu,V'.flatMap encV)] y8) := hide hQ
     replace hK := hide hK2
     have hge_b1 := hide hg2
     clear hQ hK2 hg2
     try go_frame
     refine lx_one (i := 6) (by kernel_rfl) rfl (by rfl) #[true,true,true,true,true,true,true,false] (by rfl) ?_
     refine (unhide hP).setNL (unhide hK) 4 #[.slice A1 nv c1] rfl (unhide hge_b1) (fun hb => run_store_row (v := .slice A1 nv c1) rfl (by rfl) (by rfl) (by simp [go_sem]) hb rfl (by simp [Value.cells,Value.oneCell'])) ?_
     intro y9 hQ hK2
     replace hP : Hid (Sp w [] w [] [(b4,24, #[.pointer (some ⟨ga,0,none⟩)]),(b5,24, #[.pointer (some ⟨gb,0,none⟩)]),(b2,103, #[.func (.func fd) #[] caps]),(b3,82, #[.slice none 0 0]),(b1,82, #[.slice A1 nv c1])] [(81,3, .slice A1 nv c1,nv,V.flatMap encV),(81,3, .slice A2 nu c2,nu,V'.flatMap encV)] y9) := hide hQ
     replace hK := hide hK2
     clear hQ hK2
     try go_frame
     refine lx_one (i := 7) (by kernel_rfl) rfl (by rfl) #[true,true,true,true,true,true,true,true] (by rfl) ?_
     refine (unhide hP).setNL (unhide hK) 3 #[.slice A2 nu c2] rfl (unhide hge_b3) (fun hb => run_store_row (v := .slice A2 nu c2) rfl (by rfl) (by rfl) (by simp [go_sem]) hb rfl (by simp [Value.cells,Value.oneCell'])) ?_
     intro y10 hQ hK2
     replace hP : Hid (Sp w [] w [] [(b4,24, #[.pointer (some ⟨ga,0,none⟩)]),(b5,24, #[.pointer (some ⟨gb,0,none⟩)]),(b2,103, #[.func (.func fd) #[] caps]),(b3,82, #[.slice A2 nu c2]),(b1,82, #[.slice A1 nv c1])] [(81,3, .slice A1 nv c1,nv,V.flatMap encV),(81,3, .slice A2 nu c2,nu,V'.flatMap encV)] y10) := hide hQ
     replace hK := hide hK2
     clear hQ hK2
     try go_frame
     refine wpX_done (by kernel_rfl) ?_
     try go_frame
     clear hK
     rw [unhide hM]
     exact ⟨b1,b3,A1,c1,A2,c2,rfl,rfl,rfl,rfl,rfl,rfl,rfl,Sp.swapL (L := [(b4,24, #[.pointer (some ⟨ga,0,none⟩)]),(b5,24, #[.pointer (some ⟨gb,0,none⟩)]),(b2,103, #[.func (.func fd) #[] caps])]) (y := (b3,82, #[.slice A2 nu c2])) (x := (b1,82, #[.slice A1 nv c1])) (unhide hP)⟩
    ·skip
     refine (unhide hP).allocL (unhide hK) (v := fun b => .pointer (some ⟨b,0,none⟩)) 82 #[.slice none 0 0] ?_ ?_
     ·go_simp
     intro b1 y7 hQ hK2 hg2
     replace hP : Hid (Sp w [] w [] [(b4,24, #[.pointer (some ⟨ga,0,none⟩)]),(b5,24, #[.pointer (some ⟨gb,0,none⟩)]),(b2,103, #[.func (.func fd) #[] caps]),(b3,82, #[.slice none 0 0]),(b1,82, #[.slice none 0 0])] [(81,3, .slice A1 nv c1,nv,V.flatMap encV)] y7) := hide hQ
     replace hK := hide hK2
     have hge_b1 := hide hg2
     clear hQ hK2 hg2
     try go_frame
     refine lx_one (i := 3) (by kernel_rfl) rfl (by rfl) #[true,true,true,true,true,true,false,false] (by rfl) ?_
     have hca := vertices_rel gb bvb beb V' E' y7 ((unhide hb').ext (unhide hP).extf)
     rw [← unhide hnu] at hca
     go_simp
     refine (hca).mono ?_
     clear hca
     rintro _ zy8 ⟨A2,c2,rfl,ho1,hxc⟩
     refine ⟨_,rfl,(unhide hK).trans (hxc.keep _),fun y8 hxd => ?_⟩
     replace hP : Hid (Sp w [] w [] [(b4,24, #[.pointer (some ⟨ga,0,none⟩)]),(b5,24, #[.pointer (some ⟨gb,0,none⟩)]),(b2,103, #[.func (.func fd) #[] caps]),(b3,82, #[.slice none 0 0]),(b1,82, #[.slice none 0 0])] [(81,3, .slice A1 nv c1,nv,V.flatMap encV),(81,3, .slice A2 nu c2,nu,V'.flatMap encV)] y8) := hide (((unhide hP).addRow hxc ho1).ext hxd)
     replace hK := hide ((unhide hK).trans ((hxc.trans hxd).keep _))
     clear ho1
     clear hxc hxd
     try go_frame
     refine lx_one (i := 6) (by kernel_rfl) rfl (by rfl) #[true,true,true,true,true,true,true,false] (by rfl) ?_
     refine (unhide hP).setNL (unhide hK) 4 #[.slice A1 nv c1] rfl (unhide hge_b1) (fun hb => run_store_row (v := .slice A1 nv c1) rfl (by rfl) (by rfl) (by simp [go_sem]) hb rfl (by simp [Value.cells,Value.oneCell'])) ?_
     intro y9 hQ hK2
     replace hP : Hid (Sp w [] w [] [(b4,24, #[.pointer (some ⟨ga,0,none⟩)]),(b5,24, #[.pointer (some ⟨gb,0,none⟩)]),(b2,103, #[.func (.func fd) #[] caps]),(b3,82, #[.slice none 0 0]),(b1,82, #[.slice A1 nv c1])] [(81,3, .slice A1 nv c1,nv,V.flatMap encV),(81,3, .slice A2 nu c2,nu,V'.flatMap encV)] y9) := hide hQ
     replace hK := hide hK2
     clear hQ hK2
     try go_frame
     refine lx_one (i := 7) (by kernel_rfl) rfl (by rfl) #[true,true,true,true,true,true,true,true] (by rfl) ?_
     refine (unhide hP).setNL (unhide hK) 3 #[.slice A2 nu c2] rfl (unhide hge_b3) (fun hb => run_store_row (v := .slice A2 nu c2) rfl (by rfl) (by rfl) (by simp [go_sem]) hb rfl (by simp [Value.cells,Value.oneCell'])) ?_
     intro y10 hQ hK2
     replace hP : Hid (Sp w [] w [] [(b4,24, #[.pointer (some ⟨ga,0,none⟩)]),(b5,24, #[.pointer (some ⟨gb,0,none⟩)]),(b2,103, #[.func (.func fd) #[] caps]),(b3,82, #[.slice A2 nu c2]),(b1,82, #[.slice A1 nv c1])] [(81,3, .slice A1 nv c1,nv,V.flatMap encV),(81,3, .slice A2 nu c2,nu,V'.flatMap encV)] y10) := hide hQ
     replace hK := hide hK2
     clear hQ hK2
     try go_frame
     refine wpX_done (by kernel_rfl) ?_
     try go_frame
     clear hK
     rw [unhide hM]
     exact ⟨b1,b3,A1,c1,A2,c2,rfl,rfl,rfl,rfl,rfl,rfl,rfl,Sp.swapL (L := [(b4,24, #[.pointer (some ⟨ga,0,none⟩)]),(b5,24, #[.pointer (some ⟨gb,0,none⟩)]),(b2,103, #[.func (.func fd) #[] caps])]) (y := (b3,82, #[.slice A2 nu c2])) (x := (b1,82, #[.slice A1 nv c1])) (unhide hP)⟩
   ·skip
    refine (unhide hP).allocL (unhide hK) (v := fun b => .pointer (some ⟨b,0,none⟩)) 82 #[.slice none 0 0] ?_ ?_
    ·go_simp
    intro b1 y6 hQ hK2 hg2
    replace hP : Hid (Sp w [] w [] [(b4,24, #[.pointer (some ⟨ga,0,none⟩)]),(b5,24, #[.pointer (some ⟨gb,0,none⟩)]),(b2,103, #[.func (.func fd) #[] caps]),(b3,82, #[.slice none 0 0]),(b1,82, #[.slice none 0 0])] [] y6) := hide hQ
    replace hK := hide hK2
    have hge_b1 := hide hg2
    clear hQ hK2 hg2
    try go_frame
    refine lx_one (i := 1) (by kernel_rfl) rfl (by rfl) #[true,true,true,false,true,true,false,false] (by rfl) ?_
    have hca := vertices_rel ga bva bea V E y6 ((unhide ha').ext (unhide hP).extf)
    rw [← unhide hnv'] at hca
    go_simp
    refine (hca).mono ?_
    clear hca
    rintro _ zy7 ⟨A1,c1,rfl,ho1,hxc⟩
    refine ⟨_,rfl,(unhide hK).trans (hxc.keep _),fun y7 hxd => ?_⟩
    replace hP : Hid (Sp w [] w [] [(b4,24, #[.pointer (some ⟨ga,0,none⟩)]),(b5,24, #[.pointer (some ⟨gb,0,none⟩)]),(b2,103, #[.func (.func fd) #[] caps]),(b3,82, #[.slice none 0 0]),(b1,82, #[.slice none 0 0])] [(81,3, .slice A1 nv c1,nv,V.flatMap encV)] y7) := hide (((unhide hP).addRow hxc ho1).ext hxd)
    replace hK := hide ((unhide hK).trans ((hxc.trans hxd).keep _))
    clear ho1
    clear hxc hxd
    try go_frame
    refine lx_one (i := 3) (by kernel_rfl) rfl (by rfl) #[true,true,true,true,true,true,false,false] (by rfl) ?_
    have hca := vertices_rel gb bvb beb V' E' y7 ((unhide hb').ext (unhide hP).extf)
    rw [← unhide hnu] at hca
    go_simp
    refine (hca).mono ?_
    clear hca
    rintro _ zy8 ⟨A2,c2,rfl,ho1,hxc⟩
    refine ⟨_,rfl,(unhide hK).trans (hxc.keep _),fun y8 hxd => ?_⟩
    replace hP : Hid (Sp w [] w [] [(b4,24, #[.pointer (some ⟨ga,0,none⟩)]),(b5,24, #[.pointer (some ⟨gb,0,none⟩)]),(b2,103, #[.func (.func fd) #[] caps]),(b3,82, #[.slice none 0 0]),(b1,82, #[.slice none 0 0])] [(81,3, .slice A1 nv c1,nv,V.flatMap encV),(81,3, .slice A2 nu c2,nu,V'.flatMap encV)] y8) := hide (((unhide hP).addRow hxc ho1).ext hxd)
    replace hK := hide ((unhide hK).trans ((hxc.trans hxd).keep _))
    clear ho1
    clear hxc hxd
    try go_frame
    refine lx_one (i := 6) (by kernel_rfl) rfl (by rfl) #[true,true,true,true,true,true,true,false] (by rfl) ?_
    refine (unhide hP).setNL (unhide hK) 4 #[.slice A1 nv c1] rfl (unhide hge_b1) (fun hb => run_store_row (v := .slice A1 nv c1) rfl (by rfl) (by rfl) (by simp [go_sem]) hb rfl (by simp [Value.cells,Value.oneCell'])) ?_
    intro y9 hQ hK2
    replace hP : Hid (Sp w [] w [] [(b4,24, #[.pointer (some ⟨ga,0,none⟩)]),(b5,24, #[.pointer (some ⟨gb,0,none⟩)]),(b2,103, #[.func (.func fd) #[] caps]),(b3,82, #[.slice none 0 0]),(b1,82, #[.slice A1 nv c1])] [(81,3, .slice A1 nv c1,nv,V.flatMap encV),(81,3, .slice A2 nu c2,nu,V'.flatMap encV)] y9) := hide hQ
    replace hK := hide hK2
    clear hQ hK2
    try go_frame
    refine lx_one (i := 7) (by kernel_rfl) rfl (by rfl) #[true,true,true,true,true,true,true,true] (by rfl) ?_
    refine (unhide hP).setNL (unhide hK) 3 #[.slice A2 nu c2] rfl (unhide hge_b3) (fun hb => run_store_row (v := .slice A2 nu c2) rfl (by rfl) (by rfl) (by simp [go_sem]) hb rfl (by simp [Value.cells,Value.oneCell'])) ?_
    intro y10 hQ hK2
    replace hP : Hid (Sp w [] w [] [(b4,24, #[.pointer (some ⟨ga,0,none⟩)]),(b5,24, #[.pointer (some ⟨gb,0,none⟩)]),(b2,103, #[.func (.func fd) #[] caps]),(b3,82, #[.slice A2 nu c2]),(b1,82, #[.slice A1 nv c1])] [(81,3, .slice A1 nv c1,nv,V.flatMap encV),(81,3, .slice A2 nu c2,nu,V'.flatMap encV)] y10) := hide hQ
    replace hK := hide hK2
    clear hQ hK2
    try go_frame
    refine wpX_done (by kernel_rfl) ?_
    try go_frame
    clear hK
    rw [unhide hM]
    exact ⟨b1,b3,A1,c1,A2,c2,rfl,rfl,rfl,rfl,rfl,rfl,rfl,Sp.swapL (L := [(b4,24, #[.pointer (some ⟨ga,0,none⟩)]),(b5,24, #[.pointer (some ⟨gb,0,none⟩)]),(b2,103, #[.func (.func fd) #[] caps])]) (y := (b3,82, #[.slice A2 nu c2])) (x := (b1,82, #[.slice A1 nv c1])) (unhide hP)⟩
 ·skip
  rintro ⟨tm,dfs⟩ W8 hm
  rw [unhide hM] at hm
  obtain ⟨b1,b3,A1,c1,A2,c2,hsz,hdf,e3,e4,e5,e6,e7,hP8⟩ := hm
  obtain ⟨us,rfl⟩ : ∃ us : Nat → Value,tm = #[us 0,us 1,us 2,us 3,us 4,us 5,us 6,us 7,us 8,us 9,us 10,us 11,us 12,us 13,us 14,us 15,us 16,us 17,us 18,us 19,us 20] := ⟨fun i => tm.getD i undef,arr_fn hsz⟩
  have h3 : us 3 = .pointer (some ⟨b4,0,none⟩) := e3
  have h4 : us 4 = .pointer (some ⟨b5,0,none⟩) := e4
  have h5 : us 5 = .pointer (some ⟨b2,0,none⟩) := e5
  have h6 : us 6 = .pointer (some ⟨b1,0,none⟩) := e6
  have h7 : us 7 = .pointer (some ⟨b3,0,none⟩) := e7
  have hdf2 : dfs = [] := hdf
  subst hdf2
  clear hdf hsz e3 e4 e5 e6 e7
  simp only [h3,h4,h5,h6,h7]
  clear h3 h4 h5 h6 h7 hP hM M
  have hP := hide hP8
  clear hP8
  by_cases hlen : nv = nu
  ·skip
   subst hlen
   have hq : ((nv : Int) != (nv : Int)) = false := by simp
   try dsimp only
   repeat ((fail_if_success (with_reducible refine wp_reg (id := 2) ?_)); (first | go_values | go_skip | go_step | go_guarded | go_upon | go_in | go_back | fail))
   with_reducible refine wp_reg (id := 2) ?_
   refine wpO_val rfl (load_V (v := .slice A1 nv c1) rfl rfl (by simp [go_sem]) (((unhide hP).get 3 rfl).cell 0)) ?_
   go_frame
   refine wpO_want rfl ?_
   go_simp
   refine wpO_val rfl (load_V (v := .slice A2 nv c2) rfl rfl (by simp [go_sem]) (((unhide hP).get 4 rfl).cell 0)) ?_
   go_frame
   iterate 2
    refine wpO_want rfl ?_
    go_simp
   refine wpO_done ?_
   try go_frame
   clear hq
   try dsimp only
   repeat ((fail_if_success (with_reducible refine wp_reg (id := 3) ?_)); (first | go_values | go_skip | go_step | go_guarded | go_upon | go_in | go_back | fail))
   with_reducible refine wp_reg (id := 3) ?_
   refine (unhide hP).allocO 103 #[.nilFunc] rfl (by go_simp) ?_
   intro b6 y21 hQ
   replace hP : Hid (Sp w [] w [] [(b4,24, #[.pointer (some ⟨ga,0,none⟩)]),(b5,24, #[.pointer (some ⟨gb,0,none⟩)]),(b2,103, #[.func (.func fd) #[] caps]),(b1,82, #[.slice A1 nv c1]),(b3,82, #[.slice A2 nv c2]),(b6,103, #[.nilFunc])] [(81,3, .slice A1 nv c1,nv,V.flatMap encV),(81,3, .slice A2 nv c2,nv,V'.flatMap encV)] y21) := hide hQ
   clear hQ
   refine wpO_done ?_
   try go_frame
   try dsimp only
   repeat ((fail_if_success (with_reducible refine wp_reg (id := 4) ?_)); (first | go_values | go_skip | go_step | go_guarded | go_upon | go_in | go_back | fail))
   with_reducible refine wp_reg (id := 4) ?_
   refine wpO_want rfl ?_
   go_simp
   refine (unhide hP).setO 5 #[.func (.func 82) #[] #[.pointer (some ⟨b1,0,none⟩), .pointer (some ⟨b2,0,none⟩), .pointer (some ⟨b3,0,none⟩), .pointer (some ⟨b4,0,none⟩), .pointer (some ⟨b5,0,none⟩), .pointer (some ⟨b6,0,none⟩)]] rfl rfl (fun hb => run_store_row (v := .func (.func 82) #[] #[.pointer (some ⟨b1,0,none⟩), .pointer (some ⟨b2,0,none⟩), .pointer (some ⟨b3,0,none⟩), .pointer (some ⟨b4,0,none⟩), .pointer (some ⟨b5,0,none⟩), .pointer (some ⟨b6,0,none⟩)]) rfl rfl rfl (by simp [go_sem]) hb rfl (by simp [Value.cells,Value.oneCell'])) ?_
   intro y22 hQ
   replace hP : Hid (Sp w [] w [] [(b4,24, #[.pointer (some ⟨ga,0,none⟩)]),(b5,24, #[.pointer (some ⟨gb,0,none⟩)]),(b2,103, #[.func (.func fd) #[] caps]),(b1,82, #[.slice A1 nv c1]),(b3,82, #[.slice A2 nv c2]),(b6,103, #[.func (.func 82) #[] #[.pointer (some ⟨b1,0,none⟩), .pointer (some ⟨b2,0,none⟩), .pointer (some ⟨b3,0,none⟩), .pointer (some ⟨b4,0,none⟩), .pointer (some ⟨b5,0,none⟩), .pointer (some ⟨b6,0,none⟩)]])] [(81,3, .slice A1 nv c1,nv,V.flatMap encV),(81,3, .slice A2 nv c2,nv,V'.flatMap encV)] y22) := hide hQ
   clear hQ
   refine wpO_done ?_
   try go_frame
   try dsimp only
   repeat ((fail_if_success (with_reducible refine wp_reg (id := 5) ?_)); (first | go_values | go_skip | go_step | go_guarded | go_upon | go_in | go_back | fail))
   with_reducible refine wp_reg (id := 5) ?_
   refine wpO_val rfl (load_V (v := .func (.func 82) #[] #[.pointer (some ⟨b1,0,none⟩), .pointer (some ⟨b2,0,none⟩), .pointer (some ⟨b3,0,none⟩), .pointer (some ⟨b4,0,none⟩), .pointer (some ⟨b5,0,none⟩), .pointer (some ⟨b6,0,none⟩)]) rfl rfl (by simp [go_sem]) (((unhide hP).get 5 rfl).cell 0)) ?_
   go_frame
   refine wpO_want rfl ?_
   go_simp
   have hx := hide (unhide hP).extf
   have hge : ∀ x,x ∈ [b1,b2,b3,b4,b5,b6] ++ (blkA A1 ++ blkA A2) → w.heap.size ≤ x ∧ x < y22.heap.size := fun x hm => by
    have hmem : x ∈ stT [(b4,24, #[.pointer (some ⟨ga,0,none⟩)]),(b5,24, #[.pointer (some ⟨gb,0,none⟩)]),(b2,103, #[.func (.func fd) #[] caps]),(b1,82, #[.slice A1 nv c1]),(b3,82, #[.slice A2 nv c2]),(b6,103, #[.func (.func 82) #[] #[.pointer (some ⟨b1,0,none⟩), .pointer (some ⟨b2,0,none⟩), .pointer (some ⟨b3,0,none⟩), .pointer (some ⟨b4,0,none⟩), .pointer (some ⟨b5,0,none⟩), .pointer (some ⟨b6,0,none⟩)]])] [(81,3, .slice A1 nv c1,nv,V.flatMap encV),(81,3, .slice A2 nv c2,nv,V'.flatMap encV)] := by
     rcases List.mem_append.1 hm with hm | hm
     ·refine List.mem_append.2 (.inl ?_)
      simp at hm ⊢
      omega
     ·refine List.mem_append.2 (.inr ?_)
      rcases List.mem_append.1 hm with hm | hm
      ·cases A1 with
       | none => simp [blkA] at hm
       | some a => simp [blkA] at hm; subst hm; simp [rwT,rwB,Value.ownBlock]
      ·cases A2 with
       | none => simp [blkA] at hm
       | some a => simp [blkA] at hm; subst hm; simp [rwT,rwB,Value.ownBlock]
    exact ⟨(unhide hP).st.ge x hmem,(unhide hP).st.lt x hmem⟩
   have hge' := hide hge
   have hH := hide (show PlH J (FxM b1 b2 b3 b4 b5 b6 A1 nv c1 A2 nv c2 ga bva bea gb bvb beb V E V' E' fd caps) (tfM b1 b2 b3 b4 b5 b6 A1 A2 ga bva bea gb bvb beb) told T (.slice none 0 0) 0 [] y22 from
    ⟨⟨(unhide hP).get 3 rfl,(unhide hP).get 2 rfl,(unhide hP).get 4 rfl,(unhide hP).get 0 rfl,(unhide hP).get 1 rfl,(unhide hP).get 5 rfl,own_at (by have h := (unhide hP).row 0 rfl; rw [unhide hnv'] at h; exact h) (fun _ => rfl),own_at (by have h := (unhide hP).row 1 rfl; rw [unhide hnu] at h; exact h) (fun _ => rfl),(unhide ha').ext (unhide hx),(unhide hb').ext (unhide hx)⟩,
     (unhide hC').keep _ _ _ _ [] (unhide hj') ((unhide hx).keep []) (by simp),World.ownsRow_nil _ _ _ _,
     fun x hm => by
      unfold tfM at hm
      have hsz := Below.size (unhide hx)
      have hlt1 := (unhide ha').lt
      have hlt2 := (unhide hb').lt
      have key : x ∈ [b1,b2,b3,b4,b5,b6] ++ (blkA A1 ++ blkA A2) ∨ x ∈ [ga,bva,bea,gb,bvb,beb] := by
       simp only [List.mem_append,List.mem_cons,List.not_mem_nil,or_false] at hm ⊢
       rcases hm with (h | h | h | h | h | h | h | h | h | h | h | h) | h | h <;> simp [h]
      rcases key with hk | hk
      ·exact ⟨(unhide hge' x hk).2,fun hT => by have := unhide hTw x hT; have := (unhide hge' x hk).1; omega⟩
      ·refine ⟨?_,unhide hgT' x hk⟩
       simp only [List.mem_cons,List.not_mem_nil,or_false] at hk
       rcases hk with rfl | rfl | rfl | rfl | rfl | rfl <;> omega,
     fun x hm => by cases hm⟩)
   have hME := hide (show extL V E (idsV V) V' E' (idsV V') nv [] = MP by
    have h := ext_maps (V := V) (E := E) (V' := V') (E' := E') (ids := idsV V) (us := idsV V') (unhide hiu) (by rw [idsV_n (unhide hnv'),idsV_n (unhide hnu)])
    rw [idsV_n (unhide hnu)] at h
    rw [h,unhide hMP])
   have hca := extendR_any (unhide hC') (unhide hnv') (unhide hnu) (unhide hl') (unhide hlu) (unhide hlb') (unhide hlb2') nv 0 (Nat.zero_add _) told T y22 none 0 [] (unhide hH) rfl (by rw [unhide hME]; exact unhide hN')
   rw [unhide hME] at hca
   refine Calls.mono hca ?_
   clear hca
   rintro _ W9 ⟨rfl,hp9⟩
   refine ⟨_,rfl, ?_⟩
   have hfin : MapPost J T w (told ++ outT q MP) (.returned (.tuple #[])) W9 := by
    obtain ⟨T',h1,h2⟩ := hp9.j
    refine ⟨rfl,T',h1, ?_,fun x hm => ?_⟩
    ·have hk := hp9.keep
     simp only [Value.ownBlock,Option.toList,List.append_nil] at hk
     exact ((unhide hx).keep T).trans hk
    ·rcases h2 x hm with h3 | h3
     ·exact .inl h3
     ·exact .inr (Nat.le_trans (Below.size (unhide hx)) h3)
   have hfin' := hide hfin
   clear hfin hp9 hH hge hge'
   refine wpO_done ?_
   try go_frame
   go_wp2_with fail
   refine Sp.leaves0 ?_
   exact ⟨_,results_none rfl _ _ _,unhide hfin'⟩
  ·skip
   have hq : ((nv : Int) != (nu : Int)) = true := by simp; omega
   have hM0 := hide (show MP = [] by rw [unhide hMP]; unfold mapsP; rw [if_neg (by rw [idsV_n (unhide hnv'),idsV_n (unhide hnu)]; exact hlen)])
   clear hlen
   try dsimp only
   repeat ((fail_if_success (with_reducible refine wp_reg (id := 2) ?_)); (first | go_values | go_skip | go_step | go_guarded | go_upon | go_in | go_back | fail))
   with_reducible refine wp_reg (id := 2) ?_
   refine wpO_val rfl (load_V (v := .slice A1 nv c1) rfl rfl (by simp [go_sem]) (((unhide hP).get 3 rfl).cell 0)) ?_
   go_frame
   refine wpO_want rfl ?_
   go_simp
   refine wpO_val rfl (load_V (v := .slice A2 nu c2) rfl rfl (by simp [go_sem]) (((unhide hP).get 4 rfl).cell 0)) ?_
   go_frame
   iterate 2
    refine wpO_want rfl ?_
    go_simp
   refine wpO_done ?_
   try go_frame
   clear hq
   go_wp2_with fail
   have hx9 := (unhide hP).extf
   refine Sp.leaves0 ?_
   refine ⟨_,results_none rfl _ _ _,rfl,T, ?_,hx9.keep T,fun x hx => .inl hx⟩
   rw [unhide hM0,show outT q ([] : List (List Int)) = [] by cases q <;> rfl,List.append_nil]
   exact (unhide hC').keep _ _ _ _ [] (unhide hj') (hx9.keep []) (by simp)
end Go.Proofs.YtbpeemhfjgcnaaaGreat
namespace Go.Proofs.YtbpeemhfjgcnaaaGreat
open Go Go.RowKit Go.Shelf
attribute [local go_sem] qUpon lUpon
attribute [local irreducible] wpO wpX wpQL
def encP2 (p : Int × Int) : List Value := [.int .i64 p.1, .int .i64 p.2]
theorem one_encP2 (p : Int × Int) : ∀ v ∈ encP2 p,v.oneCell' = true := by intro v hv; simp [encP2] at hv; rcases hv with rfl | rfl <;> rfl
theorem infoP2 : (Tryz.prog.info? 71).map (fun i => (i.zero.map (·.cells.size),i.size,i.bytes)) = some (some 2,2,16) := by kernel_rfl
def mpL (ba bo bi g : Nat) (q : Bool) (A : Option Addr) (n c : Nat) : List Cl := [(ba,24, #[.pointer (some ⟨g,0,none⟩)]),(bo,67, #[.slice A n c]),(bi,4, #[.bool q])]
def mpR (A : Option Addr) (n c : Nat) (ps : List (Int × Int)) : List Rw := [(71,2, .slice A n c,n,ps.flatMap encP2)]
def MpJ (ba bo bi g : Nat) (ids : List Int) (told : List (List Int)) (T : List Nat) (W : World) : Prop := ∃ (q : Bool) (A : Option Addr) (n c : Nat) (ps : List (Int × Int)),q = !told.isEmpty ∧ ps = told.flatMap (fun l => ids.zip l) ∧ n = ps.length ∧ St 0 (mpL ba bo bi g q A n c) (mpR A n c ps) W ∧ T = stT (mpL ba bo bi g q A n c) (mpR A n c ps)
theorem MpJ.keep {ba bo bi g : Nat} {ids : List Int} : ∀ k T W W' S,MpJ ba bo bi g ids k T W → Keep S W W' → (∀ x ∈ S,x ∉ T) → MpJ ba bo bi g ids k T W' := by
 rintro k T W W' S ⟨q,A,n,c,ps,h1,h2,h3,h4,rfl⟩ hk hS
 exact ⟨q,A,n,c,ps,h1,h2,h3,h4.keep hk hS,rfl⟩
theorem MpJ.lt {ba bo bi g : Nat} {ids : List Int} : ∀ k T W,MpJ ba bo bi g ids k T W → ∀ x ∈ T,x < W.heap.size := by
 rintro k T W ⟨q,A,n,c,ps,h1,h2,h3,h4,rfl⟩
 exact h4.lt
def MpPost1 (ba bo bi g : Nat) (ids : List Int) (told : List (List Int)) (T : List Nat) (w : World) (e : Ending) (w' : World) : Prop := e = .returned (.bool false) ∧ ∃ T',MpJ ba bo bi g ids told T' w' ∧ Keep T w w' ∧ ∀ x ∈ T',x ∈ T ∨ w.heap.size ≤ x
theorem MpPost1.mk {ba bo bi g : Nat} {ids : List Int} {told : List (List Int)} {T : List Nat} {w wf W : World} {A : Option Addr} {n c : Nat} {ps : List (Int × Int)} {q : Bool} (hP : Sp wf T w [] (mpL ba bo bi g q A n c) (mpR A n c ps) W) (h0 : q = !told.isEmpty) (h1 : ps = told.flatMap (fun l => ids.zip l)) (h2 : n = ps.length) : MpPost1 ba bo bi g ids told T w (.returned (.bool false)) W := ⟨rfl,_,⟨q,A,n,c,ps,h0,h1,h2,hP.st.down,rfl⟩,hP.keep,fun x hx => hP.tin x hx⟩
theorem slAt_lt8 {α : Type} {enc : α → List Value} {k : Nat} {w : World} {A : Option Addr} {xs : List α} (h : SlAt enc k w A xs) (hne : xs ≠ []) : ∃ b off,A = some ⟨b,off,none⟩ ∧ b < w.heap.size := by
 obtain ⟨b,off,hA,hlt,_⟩ := h hne
 exact ⟨b,off,hA,hlt⟩
theorem zip_step {a b : List Int} {i : Nat} (h : i < a.length) (h2 : i < b.length) : (a.zip b).take (i + 1) = (a.zip b).take i ++ [(a[i],b[i])] := by
 have h3 : i < (a.zip b).length := by rw [List.length_zip]; omega
 rw [List.take_succ_eq_append_getElem h3,List.getElem_zip]
theorem pairs_len {ids : List Int} : ∀ told : List (List Int),(told.flatMap fun l => ids.zip l).length ≤ told.length * ids.length
 | [] => by simp
 | l :: r => by
  rw [List.flatMap_cons,List.length_append,List.length_zip,List.length_cons,Nat.add_mul]
  have := pairs_len (ids := ids) r
  omega
set_option maxRecDepth 100000 in
set_option maxHeartbeats 16000000 in
theorem map1_any (ba bo bi g bv be : Nat) (V : List (Int × Thing)) (E : List ((Int × Int) × Thing)) (told : List (List Int)) (l : List Int) (T : List Nat) (w : World) (A : Option Addr) (n c : Nat) (q : Bool) (Ao : Option Addr) (no co : Nat) (ps : List (Int × Int)) (hg : IsG w g bv be V E) (hps : ps = told.flatMap (fun l => (idsV V).zip l)) (hno : no = ps.length) (hst : St 0 (mpL ba bo bi g q Ao no co) (mpR Ao no co ps) w) (hT : T = stT (mpL ba bo bi g q Ao no co) (mpR Ao no co ps)) (hn : n = l.length) (hnV : n = V.length) (hl : n ≤ 8) (hA : SlAt encI 1 w A l) (hAT : ∀ b off,A = some ⟨b,off,none⟩ → b ∉ T) (hb : told.length ≤ 50000) :
  Calls Tryz.prog 62 #[.slice A n c, .pointer (some ⟨ba,0,none⟩), .pointer (some ⟨bo,0,none⟩), .pointer (some ⟨bi,0,none⟩)] w (MpPost1 ba bo bi g (idsV V) (told ++ [l]) T w) := by
 have hg' := hide hg
 have hps' := hide hps
 have hno' := hide hno
 have hn' := hide hn
 have hnV' := hide hnV
 have hl' := hide hl
 have hA' := hide hA
 have hnob := hide (show no ≤ 400000 by
  rw [hno,hps]
  have h1 := pairs_len (ids := idsV V) told
  rw [idsV_len, ← hnV] at h1
  have h2 : told.length * n ≤ 50000 * 8 := Nat.mul_le_mul hb hl
  omega)
 have hAT' := hide hAT
 have hP0 := Sp.bare hst
 rw [← hT] at hP0
 have hP := hide hP0
 unfold mpL mpR at hP
 obtain ⟨wf,hwf⟩ : ∃ wf,wf = bare w := ⟨_,rfl⟩
 rw [← hwf] at hP
 have hil0 := hide (show n = (idsV V).length by rw [idsV_len,hnV])
 clear hg hps hno hst hT hn hnV hl hA hAT hb hP0 hwf
 refine callsIn_wide.1 (callsIn_of_wp_marks (n := 0) Tryz.func62 rfl trivial (wpIn_wide.2 ?_))
 simp only [Tryz.ntmps62,List.size_toArray,List.length_cons,List.length_nil,Nat.reduceAdd,Nat.reduceSub,Array.replicate_succ,Array.replicate_zero,List.push_toArray,List.append_toArray,List.nil_append,List.cons_append]
 try dsimp only
 repeat ((fail_if_success (with_reducible refine wp_reg (id := 0) ?_)); (first | go_values | go_skip | go_step | go_guarded | go_upon | go_in | go_back | fail))
 with_reducible refine wp_reg (id := 0) ?_
 refine wpO_want rfl ?_
 go_simp
 refine wpO_done ?_
 try go_frame
 try dsimp only
 repeat ((fail_if_success (with_reducible refine wp_reg (id := 1) ?_)); (first | go_values | go_skip | go_step | go_guarded | go_upon | go_in | go_back | fail))
 with_reducible refine wp_reg (id := 1) ?_
 refine wpO_val rfl (load_V (v := .pointer (some ⟨g,0,none⟩)) rfl rfl (by simp [go_sem]) (((unhide hP).get 0 rfl).cell 0)) ?_
 go_frame
 refine wpO_want rfl ?_
 go_simp
 have hca := vertices_rel g bv be V E w (unhide hg')
 rw [← unhide hnV'] at hca
 refine hca.mono ?_
 clear hca
 rintro _ y1 ⟨A1,c1,rfl,ho1,hxc⟩
 refine ⟨_,rfl, ?_⟩
 replace hP : Hid (Sp wf T w [] [(ba,24, #[.pointer (some ⟨g,0,none⟩)]),(bo,67, #[.slice Ao no co]),(bi,4, #[.bool q])] [(71,2, .slice Ao no co,no,ps.flatMap encP2),(81,3, .slice A1 n c1,n,V.flatMap encV)] y1) := hide ((unhide hP).addRow hxc ho1)
 clear hxc ho1
 iterate 2
  refine wpO_want rfl ?_
  go_simp
 refine wpO_done ?_
 try go_frame
 go_wp2_with fail
 generalize y1 = wk at *
 obtain ⟨I1_2,hI1_20⟩ : ∃ I : Nat → Act → World → Prop,I = fun fi a' wr => ∃ (i : Nat), ∃ (Ax : Option Addr), ∃ (m : Nat), ∃ (cx : Nat),a'.tmps.size = 27 ∧ a'.tmps.getD 0 undef = .slice A n c ∧ a'.tmps.getD 1 undef = .pointer (some ⟨ba,0,none⟩) ∧ a'.tmps.getD 2 undef = .pointer (some ⟨bo,0,none⟩) ∧ a'.tmps.getD 3 undef = .pointer (some ⟨bi,0,none⟩) ∧ a'.tmps.getD 9 undef = .slice A1 n c1 ∧ a'.tmps.getD 10 undef = .int .i64 (n : Nat) ∧ a'.tmps.getD 11 undef = .int .i64 (i : Nat) ∧ a'.defers = [] ∧ i ≤ n ∧ m = no + i ∧ Sp wf T w [] [(ba,24, #[.pointer (some ⟨g,0,none⟩)]),(bo,67, #[.slice Ax m cx]),(bi,4, #[.bool q])] [(71,2, .slice Ax m cx,m,(ps ++ ((idsV V).zip l).take i).flatMap encP2),(81,3, .slice A1 n c1,n,V.flatMap encV)] wr ∧ fi = n - i := ⟨_,rfl⟩
 have hI1_2 := hide hI1_20
 clear hI1_20
 refine wp_loop_ix I1_2 (n - 0) ?_ ?_
 ·rw [unhide hI1_2]; exact ⟨0,Ao,no,co,rfl,rfl,rfl,rfl,rfl,rfl,rfl,rfl,rfl,Nat.zero_le _,rfl,by rw [List.take_zero,List.append_nil]; exact unhide hP,rfl⟩
 ·rintro fi ⟨tm,dfs⟩ wr hrel
  rw [unhide hI1_2] at hrel
  obtain ⟨i,Ax,m,cx,hsz,e0,e1,e2,e3,e9,e10,e11,hdf,hin,hm0,hPr,hfm⟩ := hrel
  obtain ⟨us,rfl⟩ : ∃ us : Nat → Value,tm = #[us 0,us 1,us 2,us 3,us 4,us 5,us 6,us 7,us 8,us 9,us 10,us 11,us 12,us 13,us 14,us 15,us 16,us 17,us 18,us 19,us 20,us 21,us 22,us 23,us 24,us 25,us 26] := ⟨fun i => tm.getD i undef,arr_fn hsz⟩
  have h0 : us 0 = .slice A n c := e0
  have h1 : us 1 = .pointer (some ⟨ba,0,none⟩) := e1
  have h2 : us 2 = .pointer (some ⟨bo,0,none⟩) := e2
  have h3 : us 3 = .pointer (some ⟨bi,0,none⟩) := e3
  have h9 : us 9 = .slice A1 n c1 := e9
  have h10 : us 10 = .int .i64 (n : Nat) := e10
  have h11 : us 11 = .int .i64 (i : Nat) := e11
  have hdf2 : dfs = [] := hdf
  subst hdf2
  clear hdf hsz e0 e1 e2 e3 e9 e10 e11
  simp only [h0,h1,h2,h3,h9,h10,h11]
  clear h0 h1 h2 h3 h9 h10 h11
  clear hP
  have hP := hide hPr
  have hfm' := hide hfm
  have hm := hide hm0
  clear hPr hfm hm0
  by_cases hlt : i < n
  ·skip
   have hil : (i : Int) < (n : Int) := by omega
   have hlt' := hide hlt
   have hiV : i < V.length := by have := unhide hnV'; omega
   have hiI : i < (idsV V).length := by rw [idsV_len]; exact hiV
   have hiL : i < l.length := by have := unhide hn'; omega
   have hib : (i : Int) ≤ 8 := by have := unhide hl'; omega
   have hst := hide (zip_step hiI hiL)
   obtain ⟨⟨x,lab,wt⟩,hp0⟩ : ∃ p,p = V[i] := ⟨_,rfl⟩
   have hix : (idsV V)[i] = x := by simp [idsV, ← hp0]
   obtain ⟨y,hy0⟩ : ∃ y,y = l[i] := ⟨_,rfl⟩
   rw [hix, ← hy0] at hst
   obtain ⟨bq,oq,rfl,k0,k1,k2⟩ := atV (own_at (by have h := (unhide hP).row 1 rfl; rw [unhide hnV'] at h; exact h) (fun _ => rfl)) hiV
   rw [← hp0] at k0 k1 k2
   dsimp only at k0 k1 k2
   obtain ⟨bl,ol,rfl,t0⟩ := atI ((unhide hA').keepS (unhide hP).keep (unhide hAT')) hiL
   rw [← hy0] at t0
   have hself := Ext.refl wr
   obtain ⟨S,hS0⟩ : ∃ S,S = (Value.slice Ax m cx).ownBlock.toList := ⟨_,rfl⟩
   have hS := hide hS0
   have hmb := hide (show m ≤ 400008 by have := unhide hnob; have := unhide hm; omega)
   have hblt := hide (show bl < w.heap.size by
    obtain ⟨b7,o7,h7,h8⟩ := slAt_lt8 (unhide hA') (by intro e9; rw [e9] at hiL; simp at hiL)
    cases h7
    exact h8)
   have hd1 := hide (show bl ∉ S from fun hm9 => by
    rw [hS0] at hm9
    have h1 := (unhide hP).tin bl (List.mem_append.2 (.inr (mem_rwT.2 ⟨_,List.mem_cons_self ..,by rw [rwB_slice (by decide)]; simpa using hm9⟩)))
    rcases h1 with h1 | h1
    ·exact unhide hAT' bl ol rfl h1
    ·have := unhide hblt
     omega)
   have hb3 := hide (show bl < wr.heap.size from Nat.lt_of_lt_of_le (unhide hblt) (unhide hP).keep.size)
   clear hp0 hix hy0 hS0 hlt
   try dsimp only
   repeat ((fail_if_success (with_reducible refine wp_reg (id := 2) ?_)); (first | go_values | go_skip | go_step | go_guarded | go_upon | go_in | go_back | fail))
   with_reducible refine wp_reg (id := 2) ?_
   refine wpO_want rfl ?_
   go_simp
   refine wpO_done ?_
   try go_frame
   try dsimp only
   repeat ((fail_if_success (with_reducible refine wp_reg (id := 3) ?_)); (first | go_values | go_skip | go_step | go_guarded | go_upon | go_in | go_back | fail))
   with_reducible refine wp_reg (id := 3) ?_
   iterate 3
    refine wpO_want rfl ?_
    go_simp
   refine (unhide hP).allocT 81 #[.int .i64 0, .int .u8 0, .int .i64 0] rfl (by go_simp) ?_
   intro r7 y2 hQ hxa hga
   replace hP : Hid (Sp wf T w [] [(ba,24, #[.pointer (some ⟨g,0,none⟩)]),(bo,67, #[.slice Ax m cx]),(bi,4, #[.bool q]),(r7,81, #[.int .i64 0, .int .u8 0, .int .i64 0])] [(71,2, .slice Ax m cx,m,(ps ++ ((idsV V).zip l).take i).flatMap encP2),(81,3, .slice (some ⟨bq,oq,none⟩) n c1,n,V.flatMap encV)] y2) := hide hQ
   clear hQ
   try go_frame
   refine wpO_want rfl ?_
   go_simp
   refine (unhide hP).setT 3 #[.int .i64 x, .int .u8 lab, .int .i64 wt] rfl rfl (fun hb => run_store_row (v := .agg #[.int .i64 x, .int .u8 lab, .int .i64 wt]) rfl (by rfl) (by rfl) (by simp [go_sem]) hb rfl (fun u hu => by simp [Value.cells] at hu; rcases hu with rfl | rfl | rfl <;> rfl)) ?_
   intro y3 hQ hkq
   replace hP : Hid (Sp wf T w [] [(ba,24, #[.pointer (some ⟨g,0,none⟩)]),(bo,67, #[.slice Ax m cx]),(bi,4, #[.bool q]),(r7,81, #[.int .i64 x, .int .u8 lab, .int .i64 wt])] [(71,2, .slice Ax m cx,m,(ps ++ ((idsV V).zip l).take i).flatMap encP2),(81,3, .slice (some ⟨bq,oq,none⟩) n c1,n,V.flatMap encV)] y3) := hide hQ
   have hxs := hxa.of_new hkq (fun x hx => by rw [List.mem_singleton] at hx; rw [hx]; exact hga)
   clear hQ hkq hxa hga
   try go_frame
   replace t0 := fun (W : World) (hW : Ext y3 W) => t0 W (hxs.trans hW)
   have hb2 := hide (Nat.lt_of_lt_of_le (unhide hb3) (Below.size hxs))
   clear hxs k0 k1 k2 hself
   refine wpO_done ?_
   try go_frame
   go_wp2_with fail
   have d0 := (unhide hP).cellK 3 0 (S := S) (v := .int .i64 x) rfl rfl (by rw [unhide hS]; exact fun hm9 => (unhide hP).ne_row 3 0 rfl rfl (by decide) hm9)
   have e0 := (unhide hP).cellK 1 0 (S := S) (v := .slice Ax m cx) rfl rfl (by rw [unhide hS]; exact fun hm9 => (unhide hP).ne_row 1 0 rfl rfl (by decide) hm9)
   replace t0 : ∀ W,Keep S y3 W → W.cell? ⟨bl,ol + i,none⟩ = some (.int .i64 y) := fun W hW => by
    rw [World.cell?_of_block (hW.block bl (unhide hb2) (unhide hd1))]
    exact t0 _ (Ext.refl _)
   have hself := Keep.refl S y3
   refine wp_regionK (P := Tryz.prog) S [0,1,2,3,4,5,6,7] [10] 3 #[true,true,true,true,true,true,true,true,false,false,false] (by kernel_rfl) (by kernel_rfl) rfl (by rfl) ?_
   iterate 8
    first
    | (refine ql_skip rfl (by rfl) ?_)
    | (refine ql_want (v := ?_) rfl (by rfl) (fun W hW => ?_) ?_; rotate_left; (go_simp; (first | done | rfl)))
    try go_frame
   refine wpQL_nil (fun y4 hxq => ?_)
   have hK := hide (hxq.keep S)
   replace hP : Hid (Sp wf T w [] [(ba,24, #[.pointer (some ⟨g,0,none⟩)]),(bo,67, #[.slice Ax m cx]),(bi,4, #[.bool q]),(r7,81, #[.int .i64 x, .int .u8 lab, .int .i64 wt])] [(71,2, .slice Ax m cx,m,(ps ++ ((idsV V).zip l).take i).flatMap encP2),(81,3, .slice (some ⟨bq,oq,none⟩) n c1,n,V.flatMap encV)] y4) := hide ((unhide hP).ext hxq)
   clear hxq
   clear d0 e0 t0 hself hil
   refine lx_one (i := 8) (by kernel_rfl) rfl (by rfl) #[true,true,true,true,true,true,true,true,true,false,false] (by rfl) ?_
   refine (unhide hP).allocL (unhide hK) (v := fun b => .slice (some ⟨b,0,none⟩) 1 1) 71 #[.int .i64 x, .int .i64 y] ?_ ?_
   ·go_simp
   intro bs y5 hQ hK2 hg2
   replace hP : Hid (Sp wf T w [] [(ba,24, #[.pointer (some ⟨g,0,none⟩)]),(bo,67, #[.slice Ax m cx]),(bi,4, #[.bool q]),(r7,81, #[.int .i64 x, .int .u8 lab, .int .i64 wt]),(bs,71, #[.int .i64 x, .int .i64 y])] [(71,2, .slice Ax m cx,m,(ps ++ ((idsV V).zip l).take i).flatMap encP2),(81,3, .slice (some ⟨bq,oq,none⟩) n c1,n,V.flatMap encV)] y5) := hide hQ
   replace hK := hide hK2
   have hge_bs := hide hg2
   clear hQ hK2 hg2
   try go_frame
   refine lx_one (i := 9) (by kernel_rfl) rfl (by rfl) #[true,true,true,true,true,true,true,true,true,true,false] (by rfl) ?_
   refine (unhide hP).ap1L (unhide hK) (enc := encP2) (T := 71) (ST := 67) 0 (v := .slice Ax m cx) (m := m) (xs := ps ++ ((idsV V).zip l).take i) rfl (fun z hz => .inl (by rw [unhide hS]; exact hz)) infoP2 Tryz.underlying67 one_encP2 (fun _ => rfl) (by decide) (by decide) rfl (x,y) rfl rfl ((unhide hP).get 4 rfl) (by have := unhide hmb; omega) ?_
   intro Az cAz y6 hQ hK2 hg2
   replace hP : Hid (Sp wf T w [] [(ba,24, #[.pointer (some ⟨g,0,none⟩)]),(bo,67, #[.slice Ax m cx]),(bi,4, #[.bool q]),(r7,81, #[.int .i64 x, .int .u8 lab, .int .i64 wt]),(bs,71, #[.int .i64 x, .int .i64 y])] [(71,2, .slice Az (m + 1) cAz,m + 1,((ps ++ ((idsV V).zip l).take i) ++ [(x,y)]).flatMap encP2),(81,3, .slice (some ⟨bq,oq,none⟩) n c1,n,V.flatMap encV)] y6) := hide hQ
   replace hK := hide hK2
   have hge_Az := hide hg2
   clear hQ hK2 hg2
   try go_frame
   replace hP : Hid (Sp wf T w [] [(ba,24, #[.pointer (some ⟨g,0,none⟩)]),(bo,67, #[.slice Ax m cx]),(bi,4, #[.bool q]),(r7,81, #[.int .i64 x, .int .u8 lab, .int .i64 wt])] [(71,2, .slice Az (m + 1) cAz,m + 1,((ps ++ ((idsV V).zip l).take i) ++ [(x,y)]).flatMap encP2),(81,3, .slice (some ⟨bq,oq,none⟩) n c1,n,V.flatMap encV)] y6) := hide ((unhide hP).sub (List.sublist_append_left _ ([(bs,71, #[.int .i64 x, .int .i64 y])] : List Cl)) (List.Sublist.refl _))
   refine (unhide hP).setX 1 #[.slice Az (m + 1) cAz] rfl (j := 10) (by kernel_rfl) rfl (by rfl) #[true,true,true,true,true,true,true,true,true,true,true] (by rfl) rfl (fun hb => run_store_row (v := .slice Az (m + 1) cAz) rfl (by rfl) (by rfl) (by simp [go_sem]) hb rfl (by simp [Value.cells,Value.oneCell'])) ?_
   intro y7 hQ
   replace hP : Hid (Sp wf T w [] [(ba,24, #[.pointer (some ⟨g,0,none⟩)]),(bo,67, #[.slice Az (m + 1) cAz]),(bi,4, #[.bool q]),(r7,81, #[.int .i64 x, .int .u8 lab, .int .i64 wt])] [(71,2, .slice Az (m + 1) cAz,m + 1,((ps ++ ((idsV V).zip l).take i) ++ [(x,y)]).flatMap encP2),(81,3, .slice (some ⟨bq,oq,none⟩) n c1,n,V.flatMap encV)] y7) := hide hQ
   clear hQ
   try go_frame
   refine wpX_done (by kernel_rfl) ?_
   try go_frame
   clear hK
   replace hP : Hid (Sp wf T w [] [(ba,24, #[.pointer (some ⟨g,0,none⟩)]),(bo,67, #[.slice Az (m + 1) cAz]),(bi,4, #[.bool q])] [(71,2, .slice Az (m + 1) cAz,m + 1,((ps ++ ((idsV V).zip l).take i) ++ [(x,y)]).flatMap encP2),(81,3, .slice (some ⟨bq,oq,none⟩) n c1,n,V.flatMap encV)] y7) := hide ((unhide hP).sub (List.sublist_append_left _ ([(r7,81, #[.int .i64 x, .int .u8 lab, .int .i64 wt])] : List Cl)) (List.Sublist.refl _))
   go_wp2_with fail
   have hp9 := unhide hP
   rw [List.append_assoc, ← unhide hst] at hp9
   refine ⟨n - (i + 1), ?_,by have := unhide hfm'; have := unhide hlt'; omega⟩
   rw [unhide hI1_2]
   exact ⟨i + 1,Az,m + 1,cAz,(by first | rfl | trivial),(by first | rfl | trivial),(by first | rfl | trivial),(by first | rfl | trivial),(by first | rfl | trivial),(by first | rfl | trivial),(by first | rfl | trivial),(by first | rfl | (show _ = Value.int _ _; go_num) | go_num),(by first | rfl | trivial),by have := unhide hlt'; omega,by have := unhide hm; omega,hp9,rfl⟩
  ·skip
   have hil : ¬ (i : Int) < (n : Int) := by omega
   obtain rfl : n = i := by omega
   rw [List.take_of_length_le (by rw [List.length_zip]; have := unhide hil0; omega)] at hP
   clear hlt hin
   try dsimp only
   repeat ((fail_if_success (with_reducible refine wp_reg (id := 2) ?_)); (first | go_values | go_skip | go_step | go_guarded | go_upon | go_in | go_back | fail))
   with_reducible refine wp_reg (id := 2) ?_
   refine wpO_want rfl ?_
   go_simp
   refine wpO_done ?_
   try go_frame
   clear hil
   try dsimp only
   repeat ((fail_if_success (with_reducible refine wp_reg (id := 6) ?_)); (first | go_values | go_skip | go_step | go_guarded | go_upon | go_in | go_back | fail))
   with_reducible refine wp_reg (id := 6) ?_
   refine (unhide hP).setO 2 #[.bool true] rfl rfl (fun hb => run_store_row (v := .bool true) rfl rfl rfl (by simp [go_sem]) hb rfl (by simp [Value.cells,Value.oneCell'])) ?_
   intro y2 hQ
   replace hP : Hid (Sp wf T w [] [(ba,24, #[.pointer (some ⟨g,0,none⟩)]),(bo,67, #[.slice Ax m cx]),(bi,4, #[.bool true])] [(71,2, .slice Ax m cx,m,(ps ++ (idsV V).zip l).flatMap encP2),(81,3, .slice A1 n c1,n,V.flatMap encV)] y2) := hide hQ
   clear hQ
   refine wpO_done ?_
   try go_frame
   try dsimp only
   repeat ((fail_if_success (with_reducible refine wp_reg (id := 7) ?_)); (first | go_values | go_skip | go_step | go_guarded | go_upon | go_in | go_back | fail))
   with_reducible refine wp_reg (id := 7) ?_
   refine wpO_want rfl ?_
   go_simp
   refine wpO_done ?_
   try go_frame
   go_wp2_with fail
   have hfin := (unhide hP).sub (List.Sublist.refl _) (List.sublist_append_left ([(71,2, .slice Ax m cx,m,(ps ++ (idsV V).zip l).flatMap encP2)] : List Rw) [(81,3, .slice A1 n c1,n,V.flatMap encV)])
   refine Sp.leaves0 ?_
   refine ⟨_,results_tmp (t := 5) rfl _ _ _, ?_⟩
   exact MpPost1.mk (q := true) hfin (by cases told <;> rfl) (by rw [List.flatMap_append, ← unhide hps']; simp) (by rw [List.length_append,List.length_zip, ← unhide hno',unhide hm]; have := unhide hil0; have := unhide hn'; omega)
end Go.Proofs.YtbpeemhfjgcnaaaGreat
namespace Go.Proofs.YtbpeemhfjgcnaaaGreat
open Go Go.RowKit Go.Shelf
attribute [local go_sem] qUpon lUpon
attribute [local irreducible] wpO wpX wpQL
theorem map_tell (ba bo bi g bv be m : Nat) (V : List (Int × Thing)) (E : List ((Int × Int) × Thing)) (hm : m ≤ 8) (hmV : m = V.length) : TellR g bv be V E 40320 62 #[.pointer (some ⟨ba,0,none⟩), .pointer (some ⟨bo,0,none⟩), .pointer (some ⟨bi,0,none⟩)] false m (MpJ ba bo bi g (idsV V)) where
 enters := Go.Proofs.enters_of Tryz.func62 (by kernel_rfl) rfl
 keep := MpJ.keep
 lt := MpJ.lt
 step := by
  rintro told l T W A n c ⟨q,Ao,no,co,ps,h1,h2,h3,h4,hT⟩ hg hn hnm hcap hA hAT hN
  have key := map1_any ba bo bi g bv be V E told l T W A n c q Ao no co ps hg h2 h3 h4 hT hn (by omega) (by omega) hA hAT (by omega)
  exact key.mono fun e w' h => h
def prM (ids : List Int) : List (List Int) → List (Int × Int)
 | [] => []
 | m :: _ => ids.zip m
theorem prM_take (ids : List Int) (MP : List (List Int)) : (MP.take 1).flatMap (fun l => ids.zip l) = prM ids MP := by
 cases MP with
 | nil => rfl
 | cons m r => simp [prM]
theorem take1_ne (MP : List (List Int)) : (!(MP.take 1).isEmpty) = !MP.isEmpty := by cases MP <;> rfl
def MgPost (ids : List Int) (MP : List (List Int)) (w : World) (e : Ending) (w' : World) : Prop := ∃ A n c,e = .returned (.tuple #[.slice A n c, .bool (!MP.isEmpty), .int .i64 0]) ∧ n = (prM ids MP).length ∧ SlAt encP2 2 w' A (prM ids MP) ∧ Ext w w'
set_option maxRecDepth 100000 in
set_option maxHeartbeats 16000000 in
theorem mapping_any (g bv be h bv' be' : Nat) (V V' : List (Int × Thing)) (E E' : List ((Int × Int) × Thing)) (w : World) (hg : IsG w g bv be V E) (hg2 : IsG w h bv' be' V' E') (hl : V.length ≤ 8) (hl2 : V'.length ≤ 8) (hlb : LabB V E) (hlb2 : LabB V' E') :
  Calls Tryz.prog 29 #[.pointer (some ⟨g,0,none⟩), .pointer (some ⟨h,0,none⟩)] w (MgPost (idsV V) (mapsP V E (idsV V) V' E' (idsV V')) w) := by
 have hg' := hide hg
 have hg2' := hide hg2
 have hl' := hide hl
 have hl2' := hide hl2
 have hlb' := hide hlb
 have hlb2' := hide hlb2
 have hlt := hide hg.lt
 have hlt2 := hide hg2.lt
 obtain ⟨z,hz0⟩ : ∃ z : Int,z = ((if (0 : Nat) = 0 then 0 else 0 : Nat) : Int) := ⟨_,rfl⟩
 have hq : ((z : Int) != 0) = false := by rw [hz0]; rfl
 have hz' := hide hz0
 obtain ⟨MP,hMP0⟩ : ∃ MP,MP = mapsP V E (idsV V) V' E' (idsV V') := ⟨_,rfl⟩
 have hMP := hide hMP0
 rw [← hMP0]
 obtain ⟨nv,hnv0⟩ : ∃ nv,nv = V.length := ⟨_,rfl⟩
 have hnv := hide hnv0
 have hn8 := hide (show nv ≤ 8 by omega)
 clear hg hg2 hl hl2 hlb hlb2 hz0 hMP0 hnv0
 have hP := hide (Sp.new w)
 refine callsIn_wide.1 (callsIn_of_wp_marks (n := 0) Tryz.func29 rfl trivial (wpIn_wide.2 ?_))
 simp only [Tryz.ntmps29,List.size_toArray,List.length_cons,List.length_nil,Nat.reduceAdd,Nat.reduceSub,Array.replicate_succ,Array.replicate_zero,List.push_toArray,List.append_toArray,List.nil_append,List.cons_append]
 try dsimp only
 repeat ((fail_if_success (with_reducible refine wp_reg (id := 0) ?_)); (first | go_values | go_skip | go_step | go_guarded | go_upon | go_in | go_back | fail))
 with_reducible refine wp_reg (id := 0) ?_
 refine (unhide hP).allocO 24 #[.pointer (some ⟨g,0,none⟩)] rfl (run_box (v := .pointer (some ⟨g,0,none⟩)) rfl rfl) ?_
 intro b2 y1 hQ
 replace hP : Hid (Sp w [] w [] [(b2,24, #[.pointer (some ⟨g,0,none⟩)])] [] y1) := hide hQ
 clear hQ
 iterate 3
  refine wpO_want rfl ?_
  go_simp
 refine wpO_done ?_
 try go_frame
 try dsimp only
 repeat ((fail_if_success (with_reducible refine wp_reg (id := 1) ?_)); (first | go_values | go_skip | go_step | go_guarded | go_upon | go_in | go_back | fail))
 with_reducible refine wp_reg (id := 1) ?_
 refine wpO_val rfl (load_V (v := .pointer (some ⟨g,0,none⟩)) rfl rfl (by simp [go_sem]) (((unhide hP).get 0 rfl).cell 0)) ?_
 go_frame
 refine wpO_want rfl ?_
 go_simp
 refine (unhide hP).buildO 2 24 #[.pointer (some ⟨g,0,none⟩), .pointer (some ⟨h,0,none⟩)] rfl (by go_simp) ?_
 intro bp y2 hQ
 replace hP : Hid (Sp w [] w [] [(b2,24, #[.pointer (some ⟨g,0,none⟩)]),(bp,24, #[.pointer (some ⟨g,0,none⟩), .pointer (some ⟨h,0,none⟩)])] [] y2) := hide hQ
 clear hQ
 try go_frame
 refine wpO_want rfl ?_
 go_simp
 refine (asked2 bp (some ⟨g,0,none⟩) (some ⟨h,0,none⟩) 0 0 z y2 ((unhide hP).get 1 rfl) (AskIs.good ((unhide hg').ext (unhide hP).extf) (unhide hl')) (AskIs.good ((unhide hg2').ext (unhide hP).extf) (unhide hl2')) (unhide hz')).mono ?_
 rintro _ y3 ⟨rfl,hxc⟩
 refine ⟨_,rfl, ?_⟩
 replace hP : Hid (Sp w [] w [] [(b2,24, #[.pointer (some ⟨g,0,none⟩)]),(bp,24, #[.pointer (some ⟨g,0,none⟩), .pointer (some ⟨h,0,none⟩)])] [] y3) := hide ((unhide hP).ext hxc)
 clear hxc
 refine wpO_want rfl ?_
 go_simp
 refine wpO_done ?_
 try go_frame
 replace hP : Hid (Sp w [] w [] [(b2,24, #[.pointer (some ⟨g,0,none⟩)])] [] y3) := hide ((unhide hP).sub (List.sublist_append_left _ ([(bp,24, #[.pointer (some ⟨g,0,none⟩), .pointer (some ⟨h,0,none⟩)])] : List Cl)) (List.Sublist.refl _))
 try dsimp only
 repeat ((fail_if_success (with_reducible refine wp_reg (id := 2) ?_)); (first | go_values | go_skip | go_step | go_guarded | go_upon | go_in | go_back | fail))
 with_reducible refine wp_reg (id := 2) ?_
 iterate 2
  refine wpO_want rfl ?_
  go_simp
 refine wpO_done ?_
 try go_frame
 clear hq
 try dsimp only
 repeat ((fail_if_success (with_reducible refine wp_reg (id := 4) ?_)); (first | go_values | go_skip | go_step | go_guarded | go_upon | go_in | go_back | fail))
 with_reducible refine wp_reg (id := 4) ?_
 refine (unhide hP).allocO 67 #[.slice none 0 0] rfl (by go_simp) ?_
 intro bo y4 hQ
 replace hP : Hid (Sp w [] w [] [(b2,24, #[.pointer (some ⟨g,0,none⟩)]),(bo,67, #[.slice none 0 0])] [] y4) := hide hQ
 clear hQ
 refine wpO_done ?_
 try go_frame
 try dsimp only
 repeat ((fail_if_success (with_reducible refine wp_reg (id := 5) ?_)); (first | go_values | go_skip | go_step | go_guarded | go_upon | go_in | go_back | fail))
 with_reducible refine wp_reg (id := 5) ?_
 refine (unhide hP).allocO 4 #[.bool false] rfl (by go_simp) ?_
 intro bi y5 hQ
 replace hP : Hid (Sp w [] w [] [(b2,24, #[.pointer (some ⟨g,0,none⟩)]),(bo,67, #[.slice none 0 0]),(bi,4, #[.bool false])] [] y5) := hide hQ
 clear hQ
 refine (unhide hP).setO 2 #[.bool false] rfl rfl (fun hb => run_store_row (v := .bool false) rfl rfl rfl (by simp [go_sem]) hb rfl (by simp [Value.cells,Value.oneCell'])) ?_
 intro y6 hQ
 replace hP : Hid (Sp w [] w [] [(b2,24, #[.pointer (some ⟨g,0,none⟩)]),(bo,67, #[.slice none 0 0]),(bi,4, #[.bool false])] [] y6) := hide hQ
 clear hQ
 refine wpO_done ?_
 try go_frame
 try dsimp only
 repeat ((fail_if_success (with_reducible refine wp_reg (id := 6) ?_)); (first | go_values | go_skip | go_step | go_guarded | go_upon | go_in | go_back | fail))
 with_reducible refine wp_reg (id := 6) ?_
 refine wpO_val rfl (load_V (v := .pointer (some ⟨g,0,none⟩)) rfl rfl (by simp [go_sem]) (((unhide hP).get 0 rfl).cell 0)) ?_
 go_frame
 iterate 2
  refine wpO_want rfl ?_
  go_simp
 refine wpO_want rfl ?_
 go_simp
 have hst : St w.heap.size (mpL b2 bo bi g false none 0 0) (mpR none 0 0 []) y6 := (unhide hP).st.nil 71 2
 have hj : MpJ b2 bo bi g (idsV V) [] (stT (mpL b2 bo bi g false none 0 0) (mpR none 0 0 [])) y6 := ⟨false,none,0,0,[],rfl,rfl,rfl,hst.down,rfl⟩
 have hge := hide (show ∀ x ∈ [b2,bo,bi],w.heap.size ≤ x from fun x hm => hst.ge x (by
  refine List.mem_append.2 (.inl ?_)
  simp [mpL] at hm ⊢
  exact hm))
 have hT0 : stT (mpL b2 bo bi g false none 0 0) (mpR none 0 0 []) = [b2,bo,bi] := rfl
 rw [hT0] at hj
 have hx := hide (unhide hP).extf
 have hca := mapsR_any (map_tell b2 bo bi g bv be nv V E (unhide hn8) (unhide hnv)) h bv' be' V' E' y6 [] [b2,bo,bi] ((unhide hg').ext (unhide hx)) ((unhide hg2').ext (unhide hx)) (unhide hnv) (unhide hn8) (unhide hl2') (unhide hlb') (unhide hlb2') hj (fun x hm hb => by
  have h1 := unhide hlt
  have h2 := unhide hlt2
  have h3 := unhide hge x hb
  simp only [List.mem_cons,List.not_mem_nil,or_false] at hm
  omega) (by rw [List.length_nil,Nat.zero_add]; exact maps_len (by rw [idsV_len]; exact unhide hl2'))
 rw [← unhide hMP] at hca
 refine Calls.mono hca ?_
 clear hca hj hst hT0
 rintro _ W9 ⟨rfl,T9,hj,hk9,hin9⟩
 rw [List.nil_append,show outT false MP = MP.take 1 from rfl] at hj
 obtain ⟨q,Ao,no,co,ps,h0,h1,h2,h3,rfl⟩ := hj
 rw [prM_take] at h1
 rw [take1_ne] at h0
 have hx9 : Ext w W9 := (unhide hx).of_new hk9 (fun x hm => unhide hge x hm)
 have hup : St w.heap.size (mpL b2 bo bi g q Ao no co) (mpR Ao no co ps) W9 := h3.up fun x hm => by
  rcases hin9 x hm with h | h
  ·exact unhide hge x h
  ·exact Nat.le_trans (Below.size (unhide hx)) h
 have h0' := hide h0
 have h1' := hide h1
 have h2' := hide h2
 have hP := hide (Sp.ofSt hup hx9)
 unfold mpL mpR at hP
 obtain ⟨T8,hT8⟩ : ∃ T,T = stT (mpL b2 bo bi g q Ao no co) (mpR Ao no co ps) := ⟨_,rfl⟩
 unfold mpL mpR at hT8
 rw [← hT8] at hP
 refine ⟨_,rfl, ?_⟩
 clear h0 h1 h2 h3 hk9 hin9 hup hx9 hT8 hx
 refine wpO_done ?_
 try go_frame
 go_wp2_with fail
 have q0 := (unhide hP).cell 1 0 (v := .slice Ao no co) rfl rfl
 have q1 := (unhide hP).cell 2 0 (v := .bool q) rfl rfl
 have hself := Ext.refl W9
 refine wp_region_ext (P := Tryz.prog) [0,1,2,3,4] [] 0 #[true,true,true,true,true] (by kernel_rfl) (by kernel_rfl) rfl (by rfl) ?_
 iterate 5
  first
  | (refine ql_skip rfl (by rfl) ?_)
  | (refine ql_want (v := ?_) rfl (by rfl) (fun W hW => ?_) ?_; rotate_left; (go_simp; (first | done | rfl)))
  try go_frame
 refine wpQL_nil (fun y7 hxq => ?_)
 replace hP : Hid (Sp w T8 W9 [] [(b2,24, #[.pointer (some ⟨g,0,none⟩)]),(bo,67, #[.slice Ao no co]),(bi,4, #[.bool q])] [(71,2, .slice Ao no co,no,ps.flatMap encP2)] y7) := hide ((unhide hP).ext hxq)
 clear q0 q1 hself hxq
 refine wpX_done (by kernel_rfl) ?_
 try go_frame
 go_wp2_with fail
 refine Sp.leaves0 ?_
 refine ⟨_,results_tmp3 (t := 4) (u := 5) (v := 6) rfl _ _ _,Ao,no,co, ?_,by rw [← unhide h1']; exact unhide h2', ?_,(unhide hP).extf⟩
 ·rw [← unhide h0']; rfl
 ·have hr := (unhide hP).row 0 rfl
  rw [unhide h2'] at hr
  rw [← unhide h1']
  exact own_at (enc := encP2) hr (fun _ => rfl)
end Go.Proofs.YtbpeemhfjgcnaaaGreat
namespace Go.Proofs.YtbpeemhfjgcnaaaGreat
open Go Go.RowKit Go.Shelf
attribute [local go_sem] qUpon lUpon
attribute [local irreducible] wpO wpX wpQL
theorem iso_q {V4 V5 : List (Int × Thing)} {E4 E5 : List ((Int × Int) × Thing)} {MP : List (List Int)} (h : (V4 = V5 ∧ E4 = E5) ↔ MP ≠ []) : (decide (V4 = V5) && decide (E4 = E5)) = !MP.isEmpty := by
 cases MP with
 | nil =>
  have h2 : ¬ (V4 = V5 ∧ E4 = E5) := fun h9 => h.1 h9 rfl
  by_cases a : V4 = V5
  ·by_cases b : E4 = E5
   ·exact absurd ⟨a,b⟩ h2
   ·simp [a,b]
  ·simp [a]
 | cons K M =>
  have h2 := h.2 (by simp)
  simp [h2.1,h2.2]
theorem ren_mapsM {V V2 : List (Int × Thing)} {E E2 : List ((Int × Int) × Thing)} {to : List Int} (hi : GInv V E) (ho : OkTo V to) (h : IsRen V E to V2 E2) : to ∈ mapsP V E (idsV V) V2 E2 (idsV V2) := mem_mapsP.2 ⟨by rw [(h.ids ho).length_eq,idsV_len,ho.len],(h.ids ho).symm,h.code hi ho⟩
theorem atQ {w : World} {A : Option Addr} {L : List (Int × Int)} (h : SlAt encP2 2 w A L) {i : Nat} (hi : i < L.length) : ∃ b off,A = some ⟨b,off,none⟩ ∧ (∀ W,Ext w W → W.cell? ⟨b,off + i * 2,none⟩ = some (.int .i64 L[i].1)) ∧ (∀ W,Ext w W → W.cell? ⟨b,off + i * 2 + 1,none⟩ = some (.int .i64 L[i].2)) := by
 obtain ⟨b,off,hA,hc⟩ := h.at_ hi
 exact ⟨b,off,hA,hc 0 _ rfl,hc 1 _ rfl⟩
theorem ss_at0 {w : World} {A : Option Addr} {K : List Int} {M : List (List Int)} (h : SSAt w A (K :: M)) : ∃ b off a c,A = some ⟨b,off,none⟩ ∧ (∀ W,Ext w W → W.cell? ⟨b,off,none⟩ = some (.slice a K.length c)) ∧ SlAt encI 1 w a K := by
 obtain ⟨ps,h1,h2,h3⟩ := h
 have hk : 0 < ps.length := by rw [h1]; simp
 obtain ⟨b,off,hA,hc⟩ := h2.at_ hk
 have h4 := hc 0 _ rfl
 have h5 := h3 0 hk (by simp)
 refine ⟨b,off,ps[0].1,ps[0].2.2,hA,fun W hW => ?_,h5.2⟩
 have h6 := h4 W hW
 rw [h5.1] at h6
 simpa using h6
set_option maxRecDepth 100000 in
set_option maxHeartbeats 16000000 in
theorem isomorphismMapping_walk (A : Option Addr) (L : List Ed) (cL : Nat) (A9 : Option Addr) (L9 : List Ed) (cL9 : Nat) (how : Int × Int) (w : World) (hL : SlAt encD 5 w A L) (hok : ∀ d ∈ L,okB d) (_hl9 : L.length ≤ 9223372036854775807) (_hc9 : L.length ≤ cL) (hL9 : SlAt encD 5 w A9 L9) (hok9 : ∀ d ∈ L9,okB d) (_hl8 : L9.length ≤ 9223372036854775807) (_hc8 : L9.length ≤ cL9) (hhow : (0 ≤ how.1 ∧ how.1 ≤ 18446744073709551615) ∧ 0 ≤ how.2 ∧ how.2 ≤ 18446744073709551615) :
  Calls Tryz.prog 8 #[.slice A L.length cL, .slice A9 L9.length cL9, .agg #[.int .u64 how.1, .int .u64 how.2]] w fun e w' => e = .returned (.bool true) ∧ Ext w w' := by
 have hL' := hide hL
 have hlb := hide (mdS_lab hok)
 obtain ⟨h0,h1⟩ := how
 try dsimp only at hhow ⊢
 have hL9' := hide hL9
 have hok9' := hide hok9
 have hh0 := hide hhow.1
 obtain ⟨tn,htn9⟩ : ∃ tn : Nat,(tn : Int) = h1 := ⟨h1.toNat,by have := hhow.2.1; omega⟩
 obtain ⟨rr,hrr⟩ : ∃ r : Nat,r = tn % 2 := ⟨_,rfl⟩
 have hrem : h1.tmod 2 = (rr : Int) := by rw [← htn9,Int.tmod_eq_emod_of_nonneg (by omega),hrr]; rfl
 have hwr1 : IntKind.u64.wrap (rr : Int) = (rr : Int) := by rw [IntKind.wrap_u64]; omega
 obtain ⟨same,hsame⟩ : ∃ q,((rr : Int) == 1) = q := ⟨_,rfl⟩
 clear hrr htn9 hhow hL9 hok9
 clear hL hok
 have hP := hide (Sp.new w)
 refine callsIn_wide.1 (callsIn_of_wp_marks (n := 0) Tryz.func8 rfl trivial (wpIn_wide.2 ?_))
 simp only [Tryz.ntmps8,List.size_toArray,List.length_cons,List.length_nil,Nat.reduceAdd,Nat.reduceSub,Array.replicate_succ,Array.replicate_zero,List.push_toArray,List.append_toArray,List.nil_append,List.cons_append]
 try dsimp only
 repeat ((fail_if_success (with_reducible refine wp_reg (id := 0) ?_)); (first | go_values | go_skip | go_step | go_guarded | go_upon | go_in | go_back | fail))
 with_reducible refine wp_reg (id := 0) ?_
 refine (unhide hP).allocO 65 #[.int .u64 h0, .int .u64 h1] rfl (run_box (v := .agg #[.int .u64 h0, .int .u64 h1]) rfl rfl) ?_
 intro r5 y1 hQ
 replace hP : Hid (Sp w [] w [] [(r5,65, #[.int .u64 h0, .int .u64 h1])] [] y1) := hide hQ
 clear hQ
 refine wpO_want rfl ?_
 go_simp
 refine wpO_done ?_
 try go_frame
 go_wp2_with fail
 have q0 := (unhide hP).cellK (S := []) 0 0 (v := .int .u64 h0) rfl rfl (by simp)
 have q1 := (unhide hP).cellK (S := []) 0 1 (v := .int .u64 h1) rfl rfl (by simp)
 have hself := Keep.refl [] y1
 refine wp_regionK (P := Tryz.prog) [] [0,1,2,3,4,5,6,7] [] 0 #[true,true,true,true,true,true,true,true] (by kernel_rfl) (by kernel_rfl) rfl (by rfl) ?_
 iterate 8
  first
  | (refine ql_skip rfl (by rfl) ?_)
  | (refine ql_want (v := ?_) rfl (by rfl) (fun W hW => ?_) ?_; rotate_left; (go_simp; (first | done | rfl)))
  try go_frame
 refine wpQL_nil (fun y2 hxq => ?_)
 have hK := hide (hxq.keep [])
 replace hP : Hid (Sp w [] w [] [(r5,65, #[.int .u64 h0, .int .u64 h1])] [] y2) := hide ((unhide hP).ext hxq)
 clear hxq
 refine wpX_done (by kernel_rfl) ?_
 try go_frame
 clear hK
 clear q0 q1 hself hrem hwr1 hsame
 try dsimp only
 repeat ((fail_if_success (with_reducible refine wp_reg (id := 2) ?_)); (first | go_values | go_skip | go_step | go_guarded | go_upon | go_in | go_back | fail))
 with_reducible refine wp_reg (id := 2) ?_
 refine wpO_want rfl ?_
 go_simp
 have hca := known08_any y2
 refine hca.mono ?_
 clear hca
 rintro _ y3 ⟨rfl,hxc⟩
 refine ⟨_,rfl, ?_⟩
 replace hP : Hid (Sp w [] w [] [(r5,65, #[.int .u64 h0, .int .u64 h1])] [] y3) := hide ((unhide hP).ext hxc)
 clear hxc
 refine wpO_want rfl ?_
 go_simp
 refine wpO_done ?_
 try go_frame
 try dsimp only
 repeat ((fail_if_success (with_reducible refine wp_reg (id := 4) ?_)); (first | go_values | go_skip | go_step | go_guarded | go_upon | go_in | go_back | fail))
 with_reducible refine wp_reg (id := 4) ?_
 refine wpO_want rfl ?_
 go_simp
 refine wpO_want rfl ?_
 go_simp
 have hca := take_any A L cL 6 y3 ((unhide hL').ext (unhide hP).extf)
 have hi := hide (mdS_inv L)
 refine hca.mono ?_
 clear hca
 generalize mdS L = S at *
 obtain ⟨V,E⟩ := S
 try dsimp only at hi hlb ⊢
 rintro _ y4 ⟨g,bv,be,A1,B1,cA,cB,rfl,hg0,hs0,he0,hxc⟩
 refine ⟨_,rfl, ?_⟩
 replace hP : Hid (Sp w [] w [] [(r5,65, #[.int .u64 h0, .int .u64 h1])] [] y4) := hide ((unhide hP).ext hxc)
 have hg := hide hg0
 have hsV := hide hs0
 have hsE := hide he0
 obtain ⟨q,hq⟩ : ∃ q,q = decide ((V.length : Int) ≤ 6) := ⟨_,rfl⟩
 rw [← hq]
 have hq' := hide hq
 clear hxc hg0 hs0 he0 hq
 generalize htu0 : Value.tuple _ = tu
 have htu := hide htu0
 clear htu0
 refine wpO_val rfl (run_move rfl rfl) ?_
 go_frame
 refine wpO_val rfl (run_extract (i := 0) (v := .pointer (some ⟨g,0,none⟩)) rfl (unhide htu).symm rfl) ?_
 go_frame
 refine wpO_val rfl (run_extract (i := 1) (v := .agg #[.slice A1 V.length cA, .slice B1 E.length cB]) rfl (unhide htu).symm rfl) ?_
 go_frame
 refine wpO_val rfl (run_extract (i := 2) (v := .bool q) rfl (unhide htu).symm rfl) ?_
 go_frame
 refine (unhide hP).allocT 28 #[.slice none 0 0, .slice none 0 0] rfl (by go_simp) ?_
 intro r10 y5 hQ hxa hga
 replace hP : Hid (Sp w [] w [] [(r5,65, #[.int .u64 h0, .int .u64 h1]),(r10,28, #[.slice none 0 0, .slice none 0 0])] [] y5) := hide hQ
 clear hQ
 try go_frame
 refine wpO_want rfl ?_
 go_simp
 refine (unhide hP).setT 1 #[.slice A1 V.length cA, .slice B1 E.length cB] rfl rfl (fun hb => run_store_row (v := .agg #[.slice A1 V.length cA, .slice B1 E.length cB]) rfl (by rfl) (by rfl) (by simp [go_sem]) hb rfl (fun u hu => by simp [Value.cells] at hu; rcases hu with rfl | rfl <;> rfl)) ?_
 intro y6 hQ hkq
 replace hP : Hid (Sp w [] w [] [(r5,65, #[.int .u64 h0, .int .u64 h1]),(r10,28, #[.slice A1 V.length cA, .slice B1 E.length cB])] [] y6) := hide hQ
 have hxs := hxa.of_new hkq (fun x hx => by rw [List.mem_singleton] at hx; rw [hx]; exact hga)
 clear hQ hkq hxa hga
 try go_frame
 replace hg := hide ((unhide hg).ext (hxs))
 replace hsV := hide ((unhide hsV).ext (hxs))
 replace hsE := hide ((unhide hsE).ext (hxs))
 clear hxs
 refine wpO_want rfl ?_
 go_simp
 refine wpO_done ?_
 try go_frame
 clear htu
 cases q
 ·skip
  go_wp2_with fail
  refine Sp.leaves0 ?_
  exact ⟨_,results_tmp (t := 6) rfl _ _ _,rfl,(unhide hP).extf⟩
 ·skip
  have hmo := hide (show V.length ≤ 6 by have h := of_decide_eq_true (unhide hq').symm; omega)
  clear hq'
  have q0 := (unhide hP).cell 1 0 (v := .slice A1 V.length cA) rfl rfl
  have q1 := (unhide hP).cell 1 1 (v := .slice B1 E.length cB) rfl rfl
  have hself := Ext.refl y6
  try dsimp only
  repeat ((fail_if_success (with_reducible refine wp_reg (id := 7) ?_)); (first | go_values | go_skip | go_step | go_guarded | go_upon | go_in | go_back | fail))
  with_reducible refine wp_reg (id := 7) ?_
  iterate 4
   refine wpO_want rfl ?_
   go_simp
  clear q0 q1 hself
  refine wpO_want rfl ?_
  go_simp
  have hca := other_any A9 L9 cL9 A1 B1 V E cA cB h0 same y6 ((unhide hL9').ext (unhide hP).extf) (unhide hok9') (unhide hsV) (unhide hsE) (unhide hi) (unhide hlb) (unhide hmo) (unhide hh0)
  refine hca.mono ?_
  clear hca
  rintro _ y7 ⟨g2,bv2,be2,V2,E2,A2,B2,cA2,cB2,q2,rfl,hg0,hs0,he0,hlb0,hq60,hsm0,hxc⟩
  have hg2 := hide hg0
  have hsV2 := hide hs0
  have hsE2 := hide he0
  have hlb2 := hide hlb0
  have hq6 := hide hq60
  obtain ⟨MP,hMP0⟩ : ∃ l,l = mapsP V E (idsV V) V2 E2 (idsV V2) := ⟨_,rfl⟩
  have hsm := hide (show same = true → MP ≠ [] from fun h9 => by
   obtain ⟨_,to9,ho9,hr9⟩ := hsm0 h9
   rw [hMP0]
   exact List.ne_nil_of_mem (ren_mapsM (unhide hi) ho9 hr9))
  have hMP := hide hMP0
  refine ⟨_,rfl, ?_⟩
  replace hP : Hid (Sp w [] w [] [(r5,65, #[.int .u64 h0, .int .u64 h1]),(r10,28, #[.slice A1 V.length cA, .slice B1 E.length cB])] [] y7) := hide ((unhide hP).ext hxc)
  replace hg := hide ((unhide hg).ext (hxc))
  replace hsV := hide ((unhide hsV).ext (hxc))
  replace hsE := hide ((unhide hsE).ext (hxc))
  clear hxc hg0 hs0 he0 hlb0 hq60 hsm0 hMP0 hL9' hok9'
  generalize htu0 : Value.tuple _ = tu
  have htu := hide htu0
  clear htu0
  refine wpO_val rfl (run_move rfl rfl) ?_
  go_frame
  refine wpO_val rfl (run_extract (i := 0) (v := .pointer (some ⟨g2,0,none⟩)) rfl (unhide htu).symm rfl) ?_
  go_frame
  refine wpO_val rfl (run_extract (i := 1) (v := .agg #[.slice A2 V2.length cA2, .slice B2 E2.length cB2]) rfl (unhide htu).symm rfl) ?_
  go_frame
  refine wpO_val rfl (run_extract (i := 2) (v := .bool q2) rfl (unhide htu).symm rfl) ?_
  go_frame
  refine (unhide hP).allocT 28 #[.slice none 0 0, .slice none 0 0] rfl (by go_simp) ?_
  intro r13 y8 hQ hxa hga
  replace hP : Hid (Sp w [] w [] [(r5,65, #[.int .u64 h0, .int .u64 h1]),(r10,28, #[.slice A1 V.length cA, .slice B1 E.length cB]),(r13,28, #[.slice none 0 0, .slice none 0 0])] [] y8) := hide hQ
  clear hQ
  try go_frame
  refine wpO_want rfl ?_
  go_simp
  refine (unhide hP).setT 2 #[.slice A2 V2.length cA2, .slice B2 E2.length cB2] rfl rfl (fun hb => run_store_row (v := .agg #[.slice A2 V2.length cA2, .slice B2 E2.length cB2]) rfl (by rfl) (by rfl) (by simp [go_sem]) hb rfl (fun u hu => by simp [Value.cells] at hu; rcases hu with rfl | rfl <;> rfl)) ?_
  intro y9 hQ hkq
  replace hP : Hid (Sp w [] w [] [(r5,65, #[.int .u64 h0, .int .u64 h1]),(r10,28, #[.slice A1 V.length cA, .slice B1 E.length cB]),(r13,28, #[.slice A2 V2.length cA2, .slice B2 E2.length cB2])] [] y9) := hide hQ
  have hxs := hxa.of_new hkq (fun x hx => by rw [List.mem_singleton] at hx; rw [hx]; exact hga)
  clear hQ hkq hxa hga
  try go_frame
  replace hg := hide ((unhide hg).ext (hxs))
  replace hsV := hide ((unhide hsV).ext (hxs))
  replace hsE := hide ((unhide hsE).ext (hxs))
  replace hg2 := hide ((unhide hg2).ext (hxs))
  replace hsV2 := hide ((unhide hsV2).ext (hxs))
  replace hsE2 := hide ((unhide hsE2).ext (hxs))
  clear hxs
  refine wpO_want rfl ?_
  go_simp
  refine wpO_done ?_
  try go_frame
  clear htu
  cases q2
  ·skip
   go_wp2_with fail
   refine Sp.leaves0 ?_
   exact ⟨_,results_tmp (t := 6) rfl _ _ _,rfl,(unhide hP).extf⟩
  ·skip
   have hmo2 := hide (unhide hq6 rfl)
   clear hq6
   try dsimp only
   repeat ((fail_if_success (with_reducible refine wp_reg (id := 8) ?_)); (first | go_values | go_skip | go_step | go_guarded | go_upon | go_in | go_back | fail))
   with_reducible refine wp_reg (id := 8) ?_
   iterate 2
    refine wpO_want rfl ?_
    go_simp
   refine wpO_done ?_
   try go_frame
   try dsimp only
   repeat ((fail_if_success (with_reducible refine wp_reg (id := 10) ?_)); (first | go_values | go_skip | go_step | go_guarded | go_upon | go_in | go_back | fail))
   with_reducible refine wp_reg (id := 10) ?_
   iterate 2
    refine wpO_want rfl ?_
    go_simp
   refine wpO_want rfl ?_
   go_simp
   have hca := iso_any g bv be g2 bv2 be2 V V2 E E2 y9 (unhide hg) (unhide hg2) (by have := unhide hmo; omega) (by have := unhide hmo2; omega) (unhide hlb) (unhide hlb2)
   refine hca.mono ?_
   clear hca
   rintro _ y10 ⟨V4,E4,V5,E5,hc4,hc5,rfl,hxc⟩
   have hqe := iso_q (can_iff (unhide hi) (unhide hg2).inv (by have := unhide hmo; omega) (by have := unhide hmo2; omega) hc4 hc5)
   rw [← unhide hMP] at hqe
   rw [hqe]
   obtain ⟨qq,hqq0⟩ : ∃ q,q = !MP.isEmpty := ⟨_,rfl⟩
   rw [← hqq0]
   have hqq := hide hqq0
   refine ⟨_,rfl, ?_⟩
   replace hP : Hid (Sp w [] w [] [(r5,65, #[.int .u64 h0, .int .u64 h1]),(r10,28, #[.slice A1 V.length cA, .slice B1 E.length cB]),(r13,28, #[.slice A2 V2.length cA2, .slice B2 E2.length cB2])] [] y10) := hide ((unhide hP).ext hxc)
   replace hg := hide ((unhide hg).ext (hxc))
   replace hsV := hide ((unhide hsV).ext (hxc))
   replace hsE := hide ((unhide hsE).ext (hxc))
   replace hg2 := hide ((unhide hg2).ext (hxc))
   replace hsV2 := hide ((unhide hsV2).ext (hxc))
   replace hsE2 := hide ((unhide hsE2).ext (hxc))
   clear hxc hc4 hc5 hqq0 hqe
   generalize htu0 : Value.tuple _ = tu
   have htu := hide htu0
   clear htu0
   refine wpO_val rfl (run_move rfl rfl) ?_
   go_frame
   refine wpO_val rfl (run_extract (i := 0) (v := .bool qq) rfl (unhide htu).symm rfl) ?_
   go_frame
   refine wpO_val rfl (run_extract (i := 1) (v := .int .i64 0) rfl (unhide htu).symm rfl) ?_
   go_frame
   iterate 2
    refine wpO_want rfl ?_
    go_simp
   refine wpO_done ?_
   try go_frame
   clear htu
   try dsimp only
   repeat ((fail_if_success (with_reducible refine wp_reg (id := 11) ?_)); (first | go_values | go_skip | go_step | go_guarded | go_upon | go_in | go_back | fail))
   with_reducible refine wp_reg (id := 11) ?_
   iterate 2
    refine wpO_want rfl ?_
    go_simp
   refine wpO_want rfl ?_
   go_simp
   have hca := mapping_any g bv be g2 bv2 be2 V V2 E E2 y10 (unhide hg) (unhide hg2) (by have := unhide hmo; omega) (by have := unhide hmo2; omega) (unhide hlb) (unhide hlb2)
   rw [← unhide hMP] at hca
   unfold MgPost at hca
   rw [← unhide hqq] at hca
   refine hca.mono ?_
   clear hca
   rintro _ y11 ⟨Ap,np,cp,rfl,hnp0,hsp0,hxc⟩
   have hnp := hide hnp0
   have hsp := hide hsp0
   refine ⟨_,rfl, ?_⟩
   replace hP : Hid (Sp w [] w [] [(r5,65, #[.int .u64 h0, .int .u64 h1]),(r10,28, #[.slice A1 V.length cA, .slice B1 E.length cB]),(r13,28, #[.slice A2 V2.length cA2, .slice B2 E2.length cB2])] [] y11) := hide ((unhide hP).ext hxc)
   replace hg := hide ((unhide hg).ext (hxc))
   replace hsV := hide ((unhide hsV).ext (hxc))
   replace hsE := hide ((unhide hsE).ext (hxc))
   replace hg2 := hide ((unhide hg2).ext (hxc))
   replace hsV2 := hide ((unhide hsV2).ext (hxc))
   replace hsE2 := hide ((unhide hsE2).ext (hxc))
   clear hxc hnp0 hsp0
   generalize htu0 : Value.tuple _ = tu
   have htu := hide htu0
   clear htu0
   refine wpO_val rfl (run_move rfl rfl) ?_
   go_frame
   refine wpO_val rfl (run_extract (i := 0) (v := .slice Ap np cp) rfl (unhide htu).symm rfl) ?_
   go_frame
   refine wpO_val rfl (run_extract (i := 1) (v := .bool qq) rfl (unhide htu).symm rfl) ?_
   go_frame
   refine wpO_val rfl (run_extract (i := 2) (v := .int .i64 0) rfl (unhide htu).symm rfl) ?_
   go_frame
   iterate 3
    refine wpO_want rfl ?_
    go_simp
   refine wpO_done ?_
   try go_frame
   clear htu
   have q0 := (unhide hP).cell 1 0 (v := .slice A1 V.length cA) rfl rfl
   have q1 := (unhide hP).cell 1 1 (v := .slice B1 E.length cB) rfl rfl
   have q2 := (unhide hP).cell 2 0 (v := .slice A2 V2.length cA2) rfl rfl
   have q3 := (unhide hP).cell 2 1 (v := .slice B2 E2.length cB2) rfl rfl
   have hself := Ext.refl y11
   try dsimp only
   repeat ((fail_if_success (with_reducible refine wp_reg (id := 12) ?_)); (first | go_values | go_skip | go_step | go_guarded | go_upon | go_in | go_back | fail))
   with_reducible refine wp_reg (id := 12) ?_
   iterate 2
    refine wpO_want rfl ?_
    go_simp
   clear q0 q1 q2 q3 hself
   refine wpO_want rfl ?_
   go_simp
   have hca := maps08_any A1 B1 A2 B2 V V2 E E2 V.length E.length cA cB V2.length E2.length cA2 cB2 y11 (unhide hsV) (unhide hsE) (unhide hsV2) (unhide hsE2) (unhide hi) (unhide hg2).inv (unhide hlb) (unhide hlb2) rfl rfl rfl rfl (by have := unhide hmo; omega) (by have := unhide hmo2; omega)
   rw [← unhide hMP] at hca
   refine hca.mono ?_
   clear hca
   rintro _ y12 ⟨Aa,na,ca,rfl,hna0,hss0,hxc⟩
   have hna := hide hna0
   have hss := hide hss0
   refine ⟨_,rfl, ?_⟩
   replace hP : Hid (Sp w [] w [] [(r5,65, #[.int .u64 h0, .int .u64 h1]),(r10,28, #[.slice A1 V.length cA, .slice B1 E.length cB]),(r13,28, #[.slice A2 V2.length cA2, .slice B2 E2.length cB2])] [] y12) := hide ((unhide hP).ext hxc)
   replace hg := hide ((unhide hg).ext (hxc))
   replace hsV := hide ((unhide hsV).ext (hxc))
   replace hsE := hide ((unhide hsE).ext (hxc))
   replace hg2 := hide ((unhide hg2).ext (hxc))
   replace hsV2 := hide ((unhide hsV2).ext (hxc))
   replace hsE2 := hide ((unhide hsE2).ext (hxc))
   replace hsp := hide ((unhide hsp).ext (hxc))
   clear hxc hna0 hss0
   refine wpO_want rfl ?_
   go_simp
   refine wpO_done ?_
   try go_frame
   have hKl := hide (show ∀ K ∈ MP,K.length = V.length from fun K hK => by
    rw [unhide hMP] at hK
    have h9 := mem_mapsP.1 hK
    rw [h9.2.1.length_eq, ← h9.1,idsV_len])
   rcases MP with _ | ⟨K,MP⟩
   ·skip
    obtain rfl : qq = false := unhide hqq
    obtain rfl : na = 0 := unhide hna
    obtain rfl : np = 0 := unhide hnp
    obtain rfl : same = false := by
     cases same with
     | false => rfl
     | true => exact absurd rfl (unhide hsm rfl)
    try dsimp only
    repeat ((fail_if_success (with_reducible refine wp_reg (id := 13) ?_)); (first | go_values | go_skip | go_step | go_guarded | go_upon | go_in | go_back | fail))
    with_reducible refine wp_reg (id := 13) ?_
    iterate 21
     refine wpO_want rfl ?_
     go_simp
    refine wpO_out (by rfl) ?_
    go_frame
    refine wpO_out (by rfl) ?_
    go_frame
    iterate 2
     refine wpO_want rfl ?_
     go_simp
    refine wpO_done ?_
    try go_frame
    try dsimp only
    repeat ((fail_if_success (with_reducible refine wp_reg (id := 15) ?_)); (first | go_values | go_skip | go_step | go_guarded | go_upon | go_in | go_back | fail))
    with_reducible refine wp_reg (id := 15) ?_
    iterate 2
     refine wpO_want rfl ?_
     go_simp
    refine wpO_done ?_
    try go_frame
    try dsimp only
    repeat ((fail_if_success (with_reducible refine wp_reg (id := 16) ?_)); (first | go_values | go_skip | go_step | go_guarded | go_upon | go_in | go_back | fail))
    with_reducible refine wp_reg (id := 16) ?_
    iterate 4
     refine wpO_want rfl ?_
     go_simp
    refine wpO_done ?_
    try go_frame
    go_wp2_with fail
    refine Sp.leaves0 ?_
    exact ⟨_,results_tmp (t := 6) rfl _ _ _,(by first | rfl | simp),(unhide hP).extf⟩
   ·skip
    obtain rfl : qq = true := unhide hqq
    have hKv := hide (unhide hKl K (by simp))
    obtain rfl : np = V.length := by
     rw [unhide hnp]
     show ((idsV V).zip K).length = V.length
     rw [List.length_zip,idsV_len,unhide hKv,Nat.min_self]
    have hpos := hide (show (0 : Int) < (na : Int) by rw [unhide hna,List.length_cons]; omega)
    have hpos1 := unhide hpos
    have hpos0 : 0 < na := by omega
    clear hKl hMP hqq hsm hnp hna
    cases same
    ·skip
     try dsimp only
     repeat ((fail_if_success (with_reducible refine wp_reg (id := 13) ?_)); (first | go_values | go_skip | go_step | go_guarded | go_upon | go_in | go_back | fail))
     with_reducible refine wp_reg (id := 13) ?_
     iterate 21
      refine wpO_want rfl ?_
      go_simp
     refine wpO_out (by rfl) ?_
     go_frame
     refine wpO_out (by rfl) ?_
     go_frame
     iterate 2
      refine wpO_want rfl ?_
      go_simp
     refine wpO_done ?_
     try go_frame
     clear hpos1 hpos0
     try dsimp only
     repeat ((fail_if_success (with_reducible refine wp_reg (id := 15) ?_)); (first | go_values | go_skip | go_step | go_guarded | go_upon | go_in | go_back | fail))
     with_reducible refine wp_reg (id := 15) ?_
     iterate 2
      refine wpO_want rfl ?_
      go_simp
     refine wpO_done ?_
     try go_frame
     have q0 := (unhide hP).cell 1 0 (v := .slice A1 V.length cA) rfl rfl
     have hself := Ext.refl y12
     have hne : ((V.length : Int) != (V.length : Int)) = false := by simp
     try dsimp only
     repeat ((fail_if_success (with_reducible refine wp_reg (id := 17) ?_)); (first | go_values | go_skip | go_step | go_guarded | go_upon | go_in | go_back | fail))
     with_reducible refine wp_reg (id := 17) ?_
     iterate 6
      refine wpO_want rfl ?_
      go_simp
     refine wpO_done ?_
     try go_frame
     clear q0 hself hne
     go_wp2_with fail
     have hb10 := hide ((unhide hP).get 1 rfl)
     have hbase := hide (unhide hP).extf
     clear hP
     generalize y12 = wb at *
     have hP := hide (Sp.new wb)
     obtain ⟨I12_10,hI12_100⟩ : ∃ I : Nat → Act → World → Prop,I = fun fi a' wr => ∃ (i : Nat),a'.tmps.size = 133 ∧ a'.tmps.getD 10 undef = .pointer (some ⟨r10,0,none⟩) ∧ a'.tmps.getD 17 undef = .slice Ap V.length cp ∧ a'.tmps.getD 20 undef = .slice Aa na ca ∧ a'.tmps.getD 21 undef = .int .i64 (i : Nat) ∧ a'.defers = [] ∧ i ≤ V.length ∧ Sp wb [] wb [] [] [] wr ∧ fi = V.length - i := ⟨_,rfl⟩
     have hI12_10 := hide hI12_100
     clear hI12_100
     refine wp_loop_ix I12_10 (V.length - 0) ?_ ?_
     ·rw [unhide hI12_10]; exact ⟨0,rfl,rfl,rfl,rfl,rfl,rfl,Nat.zero_le _,unhide hP,rfl⟩
     ·rintro fi ⟨tm,dfs⟩ wr hrel
      rw [unhide hI12_10] at hrel
      obtain ⟨i,hsz,e10,e17,e20,e21,hdf,hin,hPr,hfm⟩ := hrel
      obtain ⟨us,rfl⟩ : ∃ us : Nat → Value,tm = #[us 0,us 1,us 2,us 3,us 4,us 5,us 6,us 7,us 8,us 9,us 10,us 11,us 12,us 13,us 14,us 15,us 16,us 17,us 18,us 19,us 20,us 21,us 22,us 23,us 24,us 25,us 26,us 27,us 28,us 29,us 30,us 31,us 32,us 33,us 34,us 35,us 36,us 37,us 38,us 39,us 40,us 41,us 42,us 43,us 44,us 45,us 46,us 47,us 48,us 49,us 50,us 51,us 52,us 53,us 54,us 55,us 56,us 57,us 58,us 59,us 60,us 61,us 62,us 63,us 64,us 65,us 66,us 67,us 68,us 69,us 70,us 71,us 72,us 73,us 74,us 75,us 76,us 77,us 78,us 79,us 80,us 81,us 82,us 83,us 84,us 85,us 86,us 87,us 88,us 89,us 90,us 91,us 92,us 93,us 94,us 95,us 96,us 97,us 98,us 99,us 100,us 101,us 102,us 103,us 104,us 105,us 106,us 107,us 108,us 109,us 110,us 111,us 112,us 113,us 114,us 115,us 116,us 117,us 118,us 119,us 120,us 121,us 122,us 123,us 124,us 125,us 126,us 127,us 128,us 129,us 130,us 131,us 132] := ⟨fun i => tm.getD i undef,arr_fn hsz⟩
      have h10 : us 10 = .pointer (some ⟨r10,0,none⟩) := e10
      have h17 : us 17 = .slice Ap V.length cp := e17
      have h20 : us 20 = .slice Aa na ca := e20
      have h21 : us 21 = .int .i64 (i : Nat) := e21
      have hdf2 : dfs = [] := hdf
      subst hdf2
      clear hdf hsz e10 e17 e20 e21
      simp only [h10,h17,h20,h21]
      clear h10 h17 h20 h21
      clear hP
      have hP := hide hPr
      have hfm' := hide hfm
      clear hPr hfm
      by_cases hlt : i < V.length
      ·skip
       have hil : (i : Int) < (V.length : Int) := by omega
       have hlt' := hide hlt
       have hib : (i : Int) ≤ 8 := by have := unhide hmo; omega
       have hpos1 := unhide hpos
       have hpos0 : 0 < na := by omega
       have hxr := (unhide hP).extf
       have hiK : i < K.length := by rw [unhide hKv]; exact hlt
       have hiP : i < ((idsV V).zip K).length := by rw [List.length_zip,idsV_len,unhide hKv,Nat.min_self]; exact hlt
       obtain ⟨bp,op,rfl,c0,c1⟩ := atQ (L := (idsV V).zip K) (unhide hsp) hiP
       obtain ⟨bv9,ov9,rfl,d0,hx8,hx9⟩ := atV (unhide hsV) hlt
       clear hx8 hx9
       obtain ⟨ba,oa,ak,ck,rfl,a0,hsK⟩ := ss_at0 (unhide hss)
       rw [unhide hKv] at a0
       obtain ⟨bk,ok9,rfl,k0⟩ := atI hsK hiK
       have hz : ((idsV V).zip K)[i] = (V[i].1,K[i]) := by rw [List.getElem_zip]; first | (simp only [idsV,List.getElem_map]; done) | (simp [idsV]; rfl)
       rw [hz] at c0 c1
       generalize V[i].1 = x at *
       generalize K[i] = y at *
       have c0 : ∀ W,Keep [] wr W → W.cell? ⟨bp,op + i * 2,none⟩ = some (.int .i64 x) := fun W hW => c0 W (hxr.trans (Ext.of_keep0 hW))
       have c1 : ∀ W,Keep [] wr W → W.cell? ⟨bp,op + i * 2 + 1,none⟩ = some (.int .i64 y) := fun W hW => c1 W (hxr.trans (Ext.of_keep0 hW))
       have d0 : ∀ W,Keep [] wr W → W.cell? ⟨bv9,ov9 + i * 3,none⟩ = some (.int .i64 x) := fun W hW => d0 W (hxr.trans (Ext.of_keep0 hW))
       have a0 : ∀ W,Keep [] wr W → W.cell? ⟨ba,oa,none⟩ = some (.slice (some ⟨bk,ok9,none⟩) V.length ck) := fun W hW => a0 W (hxr.trans (Ext.of_keep0 hW))
       have k0 : ∀ W,Keep [] wr W → W.cell? ⟨bk,ok9 + i,none⟩ = some (.int .i64 y) := fun W hW => k0 W (hxr.trans (Ext.of_keep0 hW))
       have q0 : ∀ W,Keep [] wr W → W.cell? ⟨r10,0,none⟩ = some (.slice (some ⟨bv9,ov9,none⟩) V.length cA) := fun W hW => (unhide hb10).cells 0 rfl W (hxr.trans (Ext.of_keep0 hW))
       have hself := Keep.refl [] wr
       have hn1 : ((x : Int) != x) = false := by simp
       have hn2 : ((y : Int) != y) = false := by simp
       clear hz hsK hiK hiP hxr hlt
       try dsimp only
       repeat ((fail_if_success (with_reducible refine wp_reg (id := 20) ?_)); (first | go_values | go_skip | go_step | go_guarded | go_upon | go_in | go_back | fail))
       with_reducible refine wp_reg (id := 20) ?_
       iterate 4
        refine wpO_want rfl ?_
        go_simp
       refine wpO_done ?_
       try go_frame
       go_wp2_with fail
       refine wp_regionK (P := Tryz.prog) [] [0,1,2,3,4,5,6,7,8,9,10,11,12,13,14,15,16,17,18,19,20,21,22,23,24,25] [] 0 #[true,true,true,true,true,true,true,true,true,true,true,true,true,true,true,true,true,true,true,true,true,true,true,true,true,true] (by kernel_rfl) (by kernel_rfl) rfl (by rfl) ?_
       iterate 26
        first
        | (refine ql_skip rfl (by rfl) ?_)
        | (refine ql_want (v := ?_) rfl (by rfl) (fun W hW => ?_) ?_; rotate_left; (go_simp; (first | done | rfl)))
        try go_frame
       refine wpQL_nil (fun y13 hxq => ?_)
       have hK := hide (hxq.keep [])
       replace hP : Hid (Sp wb [] wb [] [] [] y13) := hide ((unhide hP).ext hxq)
       clear hxq
       refine wpX_done (by kernel_rfl) ?_
       try go_frame
       clear hK
       clear c0 c1 d0 a0 k0 q0 hself hn1 hn2 hil hpos1 hpos0
       go_wp2_with fail
       refine ⟨V.length - (i + 1), ?_,by have := unhide hfm'; have := unhide hlt'; omega⟩
       rw [unhide hI12_10]
       exact ⟨i + 1,(by first | rfl | trivial),(by first | rfl | trivial),(by first | rfl | trivial),(by first | rfl | trivial),(by first | rfl | (show _ = Value.int _ _; go_num) | go_num),(by first | rfl | trivial),by have := unhide hlt'; omega,unhide hP,rfl⟩
      ·skip
       have hil : ¬ (i : Int) < (V.length : Int) := by omega
       clear hlt hin
       try dsimp only
       repeat ((fail_if_success (with_reducible refine wp_reg (id := 20) ?_)); (first | go_values | go_skip | go_step | go_guarded | go_upon | go_in | go_back | fail))
       with_reducible refine wp_reg (id := 20) ?_
       iterate 4
        refine wpO_want rfl ?_
        go_simp
       refine wpO_done ?_
       try go_frame
       clear hil
       go_wp2_with fail
       refine Sp.leaves0 ?_
       exact ⟨_,results_tmp (t := 6) rfl _ _ _,rfl,(unhide hbase).trans (unhide hP).extf⟩
    ·skip
     try dsimp only
     repeat ((fail_if_success (with_reducible refine wp_reg (id := 13) ?_)); (first | go_values | go_skip | go_step | go_guarded | go_upon | go_in | go_back | fail))
     with_reducible refine wp_reg (id := 13) ?_
     iterate 25
      refine wpO_want rfl ?_
      go_simp
     refine wpO_done ?_
     try go_frame
     clear hpos1 hpos0
     try dsimp only
     repeat ((fail_if_success (with_reducible refine wp_reg (id := 15) ?_)); (first | go_values | go_skip | go_step | go_guarded | go_upon | go_in | go_back | fail))
     with_reducible refine wp_reg (id := 15) ?_
     iterate 2
      refine wpO_want rfl ?_
      go_simp
     refine wpO_done ?_
     try go_frame
     have q0 := (unhide hP).cell 1 0 (v := .slice A1 V.length cA) rfl rfl
     have hself := Ext.refl y12
     have hne : ((V.length : Int) != (V.length : Int)) = false := by simp
     try dsimp only
     repeat ((fail_if_success (with_reducible refine wp_reg (id := 17) ?_)); (first | go_values | go_skip | go_step | go_guarded | go_upon | go_in | go_back | fail))
     with_reducible refine wp_reg (id := 17) ?_
     iterate 6
      refine wpO_want rfl ?_
      go_simp
     refine wpO_done ?_
     try go_frame
     clear q0 hself hne
     go_wp2_with fail
     have hb10 := hide ((unhide hP).get 1 rfl)
     have hbase := hide (unhide hP).extf
     clear hP
     generalize y12 = wb at *
     have hP := hide (Sp.new wb)
     obtain ⟨I12_10,hI12_100⟩ : ∃ I : Nat → Act → World → Prop,I = fun fi a' wr => ∃ (i : Nat),a'.tmps.size = 133 ∧ a'.tmps.getD 10 undef = .pointer (some ⟨r10,0,none⟩) ∧ a'.tmps.getD 17 undef = .slice Ap V.length cp ∧ a'.tmps.getD 20 undef = .slice Aa na ca ∧ a'.tmps.getD 21 undef = .int .i64 (i : Nat) ∧ a'.defers = [] ∧ i ≤ V.length ∧ Sp wb [] wb [] [] [] wr ∧ fi = V.length - i := ⟨_,rfl⟩
     have hI12_10 := hide hI12_100
     clear hI12_100
     refine wp_loop_ix I12_10 (V.length - 0) ?_ ?_
     ·rw [unhide hI12_10]; exact ⟨0,rfl,rfl,rfl,rfl,rfl,rfl,Nat.zero_le _,unhide hP,rfl⟩
     ·rintro fi ⟨tm,dfs⟩ wr hrel
      rw [unhide hI12_10] at hrel
      obtain ⟨i,hsz,e10,e17,e20,e21,hdf,hin,hPr,hfm⟩ := hrel
      obtain ⟨us,rfl⟩ : ∃ us : Nat → Value,tm = #[us 0,us 1,us 2,us 3,us 4,us 5,us 6,us 7,us 8,us 9,us 10,us 11,us 12,us 13,us 14,us 15,us 16,us 17,us 18,us 19,us 20,us 21,us 22,us 23,us 24,us 25,us 26,us 27,us 28,us 29,us 30,us 31,us 32,us 33,us 34,us 35,us 36,us 37,us 38,us 39,us 40,us 41,us 42,us 43,us 44,us 45,us 46,us 47,us 48,us 49,us 50,us 51,us 52,us 53,us 54,us 55,us 56,us 57,us 58,us 59,us 60,us 61,us 62,us 63,us 64,us 65,us 66,us 67,us 68,us 69,us 70,us 71,us 72,us 73,us 74,us 75,us 76,us 77,us 78,us 79,us 80,us 81,us 82,us 83,us 84,us 85,us 86,us 87,us 88,us 89,us 90,us 91,us 92,us 93,us 94,us 95,us 96,us 97,us 98,us 99,us 100,us 101,us 102,us 103,us 104,us 105,us 106,us 107,us 108,us 109,us 110,us 111,us 112,us 113,us 114,us 115,us 116,us 117,us 118,us 119,us 120,us 121,us 122,us 123,us 124,us 125,us 126,us 127,us 128,us 129,us 130,us 131,us 132] := ⟨fun i => tm.getD i undef,arr_fn hsz⟩
      have h10 : us 10 = .pointer (some ⟨r10,0,none⟩) := e10
      have h17 : us 17 = .slice Ap V.length cp := e17
      have h20 : us 20 = .slice Aa na ca := e20
      have h21 : us 21 = .int .i64 (i : Nat) := e21
      have hdf2 : dfs = [] := hdf
      subst hdf2
      clear hdf hsz e10 e17 e20 e21
      simp only [h10,h17,h20,h21]
      clear h10 h17 h20 h21
      clear hP
      have hP := hide hPr
      have hfm' := hide hfm
      clear hPr hfm
      by_cases hlt : i < V.length
      ·skip
       have hil : (i : Int) < (V.length : Int) := by omega
       have hlt' := hide hlt
       have hib : (i : Int) ≤ 8 := by have := unhide hmo; omega
       have hpos1 := unhide hpos
       have hpos0 : 0 < na := by omega
       have hxr := (unhide hP).extf
       have hiK : i < K.length := by rw [unhide hKv]; exact hlt
       have hiP : i < ((idsV V).zip K).length := by rw [List.length_zip,idsV_len,unhide hKv,Nat.min_self]; exact hlt
       obtain ⟨bp,op,rfl,c0,c1⟩ := atQ (L := (idsV V).zip K) (unhide hsp) hiP
       obtain ⟨bv9,ov9,rfl,d0,hx8,hx9⟩ := atV (unhide hsV) hlt
       clear hx8 hx9
       obtain ⟨ba,oa,ak,ck,rfl,a0,hsK⟩ := ss_at0 (unhide hss)
       rw [unhide hKv] at a0
       obtain ⟨bk,ok9,rfl,k0⟩ := atI hsK hiK
       have hz : ((idsV V).zip K)[i] = (V[i].1,K[i]) := by rw [List.getElem_zip]; first | (simp only [idsV,List.getElem_map]; done) | (simp [idsV]; rfl)
       rw [hz] at c0 c1
       generalize V[i].1 = x at *
       generalize K[i] = y at *
       have c0 : ∀ W,Keep [] wr W → W.cell? ⟨bp,op + i * 2,none⟩ = some (.int .i64 x) := fun W hW => c0 W (hxr.trans (Ext.of_keep0 hW))
       have c1 : ∀ W,Keep [] wr W → W.cell? ⟨bp,op + i * 2 + 1,none⟩ = some (.int .i64 y) := fun W hW => c1 W (hxr.trans (Ext.of_keep0 hW))
       have d0 : ∀ W,Keep [] wr W → W.cell? ⟨bv9,ov9 + i * 3,none⟩ = some (.int .i64 x) := fun W hW => d0 W (hxr.trans (Ext.of_keep0 hW))
       have a0 : ∀ W,Keep [] wr W → W.cell? ⟨ba,oa,none⟩ = some (.slice (some ⟨bk,ok9,none⟩) V.length ck) := fun W hW => a0 W (hxr.trans (Ext.of_keep0 hW))
       have k0 : ∀ W,Keep [] wr W → W.cell? ⟨bk,ok9 + i,none⟩ = some (.int .i64 y) := fun W hW => k0 W (hxr.trans (Ext.of_keep0 hW))
       have q0 : ∀ W,Keep [] wr W → W.cell? ⟨r10,0,none⟩ = some (.slice (some ⟨bv9,ov9,none⟩) V.length cA) := fun W hW => (unhide hb10).cells 0 rfl W (hxr.trans (Ext.of_keep0 hW))
       have hself := Keep.refl [] wr
       have hn1 : ((x : Int) != x) = false := by simp
       have hn2 : ((y : Int) != y) = false := by simp
       clear hz hsK hiK hiP hxr hlt
       try dsimp only
       repeat ((fail_if_success (with_reducible refine wp_reg (id := 20) ?_)); (first | go_values | go_skip | go_step | go_guarded | go_upon | go_in | go_back | fail))
       with_reducible refine wp_reg (id := 20) ?_
       iterate 4
        refine wpO_want rfl ?_
        go_simp
       refine wpO_done ?_
       try go_frame
       go_wp2_with fail
       refine wp_regionK (P := Tryz.prog) [] [0,1,2,3,4,5,6,7,8,9,10,11,12,13,14,15,16,17,18,19,20,21,22,23,24,25] [] 0 #[true,true,true,true,true,true,true,true,true,true,true,true,true,true,true,true,true,true,true,true,true,true,true,true,true,true] (by kernel_rfl) (by kernel_rfl) rfl (by rfl) ?_
       iterate 26
        first
        | (refine ql_skip rfl (by rfl) ?_)
        | (refine ql_want (v := ?_) rfl (by rfl) (fun W hW => ?_) ?_; rotate_left; (go_simp; (first | done | rfl)))
        try go_frame
       refine wpQL_nil (fun y13 hxq => ?_)
       have hK := hide (hxq.keep [])
       replace hP : Hid (Sp wb [] wb [] [] [] y13) := hide ((unhide hP).ext hxq)
       clear hxq
       refine wpX_done (by kernel_rfl) ?_
       try go_frame
       clear hK
       clear c0 c1 d0 a0 k0 q0 hself hn1 hn2 hil hpos1 hpos0
       go_wp2_with fail
       refine ⟨V.length - (i + 1), ?_,by have := unhide hfm'; have := unhide hlt'; omega⟩
       rw [unhide hI12_10]
       exact ⟨i + 1,(by first | rfl | trivial),(by first | rfl | trivial),(by first | rfl | trivial),(by first | rfl | trivial),(by first | rfl | (show _ = Value.int _ _; go_num) | go_num),(by first | rfl | trivial),by have := unhide hlt'; omega,unhide hP,rfl⟩
      ·skip
       have hil : ¬ (i : Int) < (V.length : Int) := by omega
       clear hlt hin
       try dsimp only
       repeat ((fail_if_success (with_reducible refine wp_reg (id := 20) ?_)); (first | go_values | go_skip | go_step | go_guarded | go_upon | go_in | go_back | fail))
       with_reducible refine wp_reg (id := 20) ?_
       iterate 4
        refine wpO_want rfl ?_
        go_simp
       refine wpO_done ?_
       try go_frame
       clear hil
       go_wp2_with fail
       refine Sp.leaves0 ?_
       exact ⟨_,results_tmp (t := 6) rfl _ _ _,rfl,(unhide hbase).trans (unhide hP).extf⟩
end Go.Proofs.YtbpeemhfjgcnaaaGreat
namespace Go.Proofs.YtbpeemhfjgcnaaaGreat
open Go Go.RowKit Go.ChangeShapes Go.WideShapes Go.Deep
section
variable {H : Type} {enc : TypeId × Value → H} {w : World} {base : Nat} {spare : Nat → Bool} {held : Bool}
set_option maxRecDepth 100000 in
theorem open_pair {r : Reach} {b0 : Nat} {v : Value} {d : DataW H} {p : List MemPlace} (hv : Value.okWide Tryz.prog w r b0 65 v) (h : DataW.Trod enc Tryz.prog w base spare held 65 v d p) :
  ∃ x : Int × Int,v = .agg #[.int .u64 x.1, .int .u64 x.2] ∧ ((0 ≤ x.1 ∧ x.1 ≤ 18446744073709551615) ∧ 0 ≤ x.2 ∧ x.2 ≤ 18446744073709551615) := by
 have hv2 := hv
 unfold Value.okWide at hv2
 rw [Tryz.underlying65] at hv2
 obtain ⟨cs,rfl,hsz,_⟩ := hv2
 have h2 : cs.size = 2 := hsz.trans (by kernel_rfl)
 obtain ⟨l⟩ := cs
 match l,h2 with
 | [c0,c1],_ =>
  obtain ⟨fuel,hf⟩ := h
  obtain ⟨xs,m,_,_,_,hlen,hg⟩ := DataW.trod_array Tryz.underlying65 hf
  match xs,hlen with
  | [y0,y1],_ =>
   have r0 := hg 0 (by decide)
   have r1 := hg 1 (by decide)
   have q0 : DataW.trod enc Tryz.prog w base spare held m 47 [c0] = some y0 := r0
   have q1 : DataW.trod enc Tryz.prog w base spare held m 47 [c1] = some y1 := r1
   obtain ⟨n0,e0,_,w0⟩ := DataW.trod_int Tryz.underlying47 q0
   obtain ⟨n1,e1,_,w1⟩ := DataW.trod_int Tryz.underlying47 q1
   simp at e0 e1
   subst e0 e1
   exact ⟨(n0,n1),rfl,Go.bounds_u64 w0,Go.bounds_u64 w1⟩
end
end Go.Proofs.YtbpeemhfjgcnaaaGreat
namespace Go.Proofs.YtbpeemhfjgcnaaaGreat.isomorphismMappingRow
open Go.ChangeShapes Go.WideShapes Go.ChangeAt Go.RowKit
set_option linter.unusedVariables false
theorem own : ownKnob Tryz.prog.godebug = none := by kernel_rfl
theorem laidOut : laidOutB Tryz.prog = true := by kernel_rfl
set_option maxRecDepth 100000 in
theorem lifted (os : Os) (started : os.Started) (H : Type) (enc : TypeId × Value → H) :
  ReturnsInHanded {} Tryz.checked os 8 .any (Rows.isomorphismMappingSpec.pre6 enc Tryz.prog Tryz.f8 Rows.isomorphismMappingRow.domain false) (Rows.isomorphismMappingSpec.post enc Tryz.prog Tryz.f8 false true false false) := by
 refine returnsInHanded_of_change (C := Tryz.checked) own started (by kernel_rfl) Tryz.func8
  (ChangeSpec.witness6 (enc := enc) (C := Tryz.checked) false ⟨#[], #[.slice none 0 0, .slice none 0 0, .agg #[.int .u64 0, .int .u64 0]],[]⟩ 8 (by kernel_rfl) (by kernel_rfl) (by kernel_rfl) (by kernel_rfl)) ?_
 intro W base args ds gs before hval0 hW hcnd _
 have hval : ∀ (j : Nat) t v,Tryz.f8.params[j]? = some t → args[j]? = some v → Value.okWide Tryz.prog W .any base t v := hval0
 have hW' := hW
 obtain ⟨p,q,hA0,hV,rfl,hfz,hnd⟩ := hW
 have hA : DataW.TrodAll enc Tryz.prog W 0 (fun _ => true) true Tryz.f8.params.toList args.toList ds p := hA0
 rw [Tryz.params8] at hA hval
 obtain ⟨v0,vs0,d0,ds0,p0,q0,hargs,rfl,rfl,h0,r0⟩ := trodAll_cons hA
 obtain ⟨v1,vs1,d1,ds1,p1,q1,rfl,rfl,rfl,h1,r1⟩ := trodAll_cons r0
 obtain ⟨v2,vs2,d2,ds2,p2,q2,rfl,rfl,rfl,h2,r2⟩ := trodAll_cons r1
 obtain ⟨rfl,rfl,rfl⟩ := trodAll_nil r2
 obtain rfl : args = #[v0,v1,v2] := by cases args; simp_all
 obtain ⟨rfl,rfl⟩ := trodVars_none hV
 obtain ⟨a0,len0,cap0,rfl⟩ := okWide_slice Tryz.underlying22 (hval 0 22 v0 rfl rfl)
 have k0 := h0
 have lt0 : ∀ x ∈ p0,x.block < W.heap.size := by obtain ⟨m,hm⟩ := k0; exact DataW.trod_lt m _ _ _ hm
 obtain ⟨fu0,hf0⟩ := h0
 obtain ⟨L0,hn0,hs0,ho0,hm0,hz0⟩ := open_editsB (by simpa [Value.cells] using hf0)
 subst hn0
 obtain ⟨a1,len1,cap1,rfl⟩ := okWide_slice Tryz.underlying22 (hval 1 22 v1 rfl rfl)
 have k1 := h1
 have lt1 : ∀ x ∈ p1,x.block < W.heap.size := by obtain ⟨m,hm⟩ := k1; exact DataW.trod_lt m _ _ _ hm
 obtain ⟨fu1,hf1⟩ := h1
 obtain ⟨L1,hn1,hs1,ho1,hm1,hz1⟩ := open_editsB (by simpa [Value.cells] using hf1)
 subst hn1
 have k2 := h2
 have lt2 : ∀ x ∈ p2,x.block < W.heap.size := by obtain ⟨m,hm⟩ := k2; exact DataW.trod_lt m _ _ _ hm
 obtain ⟨x2,rfl,ho2⟩ := open_pair (hval 2 65 v2 rfl rfl) h2
 clear hA0 hval0
 refine (isomorphismMapping_walk a0 L0 cap0 a1 L1 cap1 x2 W hs0 ho0 hm0 hz0 hs1 ho1 hm1 hz1 ho2).mono fun e W' ⟨he,bel⟩ => ?_
 subst he
 exact ⟨_,rfl,_,_,_,[],_,[],hW',trodAll_mk1 (shut_bool Tryz.underlying4 _),(trodAll_cons_mk (Below.trod laidOut (by kernel_rfl) (of_decide_eq_true (by kernel_rfl)) k0 bel lt0) (trodAll_cons_mk (Below.trod laidOut (by kernel_rfl) (of_decide_eq_true (by kernel_rfl)) k1 bel lt1) (trodAll_cons_mk (Below.trod laidOut (by kernel_rfl) (of_decide_eq_true (by kernel_rfl)) k2 bel lt2) trodAll_mk0))),rfl,bel.frame _,fun h => by cases h⟩
theorem over : Rows.isomorphismMappingRow.holds Tryz.pinned (OpenSpec.ofChange Rows.isomorphismMappingSpec) :=
 OpenClaim.holds_of_wide 8 Tryz.f8 rfl rfl rfl rfl rfl rfl rfl ⟨rfl,rfl,rfl,rfl,rfl⟩ rfl rfl rfl rfl rfl (by kernel_rfl) Tryz.func8 (by kernel_rfl)
  (of_decide_eq_true (by kernel_rfl)) (by unfold Func.isWrapper; first | (rw [if_pos (by decide +kernel)]; kernel_rfl) | (rw [if_neg (by decide +kernel)]; exact ⟨rfl,rfl⟩))
  (fun os started H enc _ => lifted os started H enc)
end Go.Proofs.YtbpeemhfjgcnaaaGreat.isomorphismMappingRow
namespace Go.Proofs.YtbpeemhfjgcnaaaGreat
theorem isomorphismMapping_holds : Rows.IsomorphismMappingSaid := isomorphismMappingRow.over
#print axioms isomorphismMapping_holds
end Go.Proofs.YtbpeemhfjgcnaaaGreat
