/- Parts of a proof, laid together. Each part says its own conditions. -/
import Derived.Test.YtbpeemhfjgcnaaaGreatC24
import Derived.Test.YtbpeemhfjgcnaaaGreatC38
import Derived.Test.YtbpeemhfjgcnaaaGreatC22
import Derived.Test.YtbpeemhfjgcnaaaGreatC15
import Derived.Test.YtbpeemhfjgcnaaaGreatC16
import Derived.Test.YtbpeemhfjgcnaaaGreatC17
namespace Go.Proofs.YtbpeemhfjgcnaaaGreat
open Go Go.RowKit Go.Shelf
attribute [local go_sem] qUpon lUpon
attribute [local irreducible] wpO wpX wpQL
def TakePost (w : World) (V : List (Int × Thing)) (E : List ((Int × Int) × Thing)) (q : Bool) (e : Ending) (w' : World) : Prop :=
 ∃ g bv be A B cA cB,e = .returned (.tuple #[.pointer (some ⟨g,0,none⟩), .agg #[.slice A V.length cA, .slice B E.length cB], .bool q]) ∧ IsG w' g bv be V E ∧ SlAt encV 3 w' A V ∧ SlAt encE 4 w' B E ∧ Ext w w'
set_option maxRecDepth 100000 in
set_option maxHeartbeats 16000000 in
theorem take_any (A : Option Addr) (L : List Ed) (cL : Nat) (most : Int) (w : World) (hL : SlAt encD 5 w A L) :
  Calls Tryz.prog 12 #[.slice A L.length cL, .int .i64 most] w (TakePost w (mdS L).1 (mdS L).2 (decide (((mdS L).1.length : Int) ≤ most))) := by
 have hL' := hide hL
 have hinv := hide (mdS_inv L)
 have hmd := hide (fun (W : World) (hW : Ext w W) => made_any A L cL W (hL.ext hW))
 clear hL
 generalize mdS L = S at *
 obtain ⟨V,E⟩ := S
 try dsimp only at hinv hmd ⊢
 have hP := hide (Sp.new w)
 refine callsIn_wide.1 (callsIn_of_wp_marks (n := 0) Tryz.func12 rfl trivial (wpIn_wide.2 ?_))
 simp only [Tryz.ntmps12,List.size_toArray,List.length_cons,List.length_nil,Nat.reduceAdd,Nat.reduceSub,Array.replicate_succ,Array.replicate_zero,List.push_toArray,List.append_toArray,List.nil_append,List.cons_append]
 try dsimp only
 repeat ((fail_if_success (with_reducible refine wp_reg (id := 0) ?_)); (first | go_values | go_skip | go_step | go_guarded | go_upon | go_in | go_back | fail))
 with_reducible refine wp_reg (id := 0) ?_
 refine wpO_want rfl ?_
 go_simp
 refine (unhide hP).allocO 28 #[.slice none 0 0, .slice none 0 0] rfl (by go_simp) ?_
 intro r5 y1 hQ
 replace hP : Hid (Sp w [] w [] [(r5,28, #[.slice none 0 0, .slice none 0 0])] [] y1) := hide hQ
 clear hQ
 refine wpO_want rfl ?_
 go_simp
 refine wpO_done ?_
 try go_frame
 try dsimp only
 repeat ((fail_if_success (with_reducible refine wp_reg (id := 1) ?_)); (first | go_values | go_skip | go_step | go_guarded | go_upon | go_in | go_back | fail))
 with_reducible refine wp_reg (id := 1) ?_
 iterate 2
  refine wpO_want rfl ?_
  go_simp
 refine (unhide hmd _ (unhide hP).extf).mono ?_
 rintro _ y2 ⟨A1,cA,B1,cB,rfl,hs1,he1,hxc⟩
 try dsimp only at hs1 he1 ⊢
 refine ⟨_,rfl, ?_⟩
 replace hP : Hid (Sp w [] w [] [(r5,28, #[.slice none 0 0, .slice none 0 0])] [] y2) := hide ((unhide hP).ext hxc)
 clear hxc
 refine (unhide hP).allocT 28 #[.slice none 0 0, .slice none 0 0] rfl (by go_simp) ?_
 intro r7 y3 hQ hxa hga
 replace hP : Hid (Sp w [] w [] [(r5,28, #[.slice none 0 0, .slice none 0 0]),(r7,28, #[.slice none 0 0, .slice none 0 0])] [] y3) := hide hQ
 clear hQ
 try go_frame
 refine (unhide hP).setT 1 #[.slice A1 V.length cA, .slice B1 E.length cB] rfl rfl (fun hb => run_store_row (v := .agg #[.slice A1 V.length cA, .slice B1 E.length cB]) rfl (by rfl) (by rfl) (by simp [go_sem]) hb rfl (fun u hu => by simp [Value.cells] at hu; rcases hu with rfl | rfl <;> rfl)) ?_
 intro y4 hQ hkq
 replace hP : Hid (Sp w [] w [] [(r5,28, #[.slice none 0 0, .slice none 0 0]),(r7,28, #[.slice A1 V.length cA, .slice B1 E.length cB])] [] y4) := hide hQ
 have hxs := hxa.of_new hkq (fun x hx => by rw [List.mem_singleton] at hx; rw [hx]; exact hga)
 clear hQ hkq hxa hga
 try go_frame
 refine wpO_done ?_
 try go_frame
 replace hs1 := hide (hs1.ext hxs)
 replace he1 := hide (he1.ext hxs)
 clear hxs
 have q0 := (unhide hP).cell 1 0 (v := .slice A1 V.length cA) rfl rfl
 have q1 := (unhide hP).cell 1 1 (v := .slice B1 E.length cB) rfl rfl
 have hself := Ext.refl y4
 try dsimp only
 repeat ((fail_if_success (with_reducible refine wp_reg (id := 2) ?_)); (first | go_values | go_skip | go_step | go_guarded | go_upon | go_in | go_back | fail))
 with_reducible refine wp_reg (id := 2) ?_
 refine wpO_want rfl ?_
 go_simp
 clear q0 q1 hself
 refine wpO_want rfl ?_
 go_simp
 refine (from_any A1 B1 V E cA cB y4 (unhide hs1) (unhide he1) (unhide hinv)).mono ?_
 rintro _ y5 ⟨g,bv,be,rfl,hg0,hxc,n1,n2,n3⟩
 refine ⟨_,rfl, ?_⟩
 have hr5 := hide (show r5 < y4.heap.size from (unhide hP).lt r5 ((unhide hP).st.mem 0 rfl))
 have hng := hide (show r5 ≠ g ∧ r5 ≠ bv ∧ r5 ≠ be by have := unhide hr5; omega)
 replace hP : Hid (Sp w [] w [] [(r5,28, #[.slice none 0 0, .slice none 0 0]),(r7,28, #[.slice A1 V.length cA, .slice B1 E.length cB])] [] y5) := hide ((unhide hP).ext hxc)
 replace hs1 := hide ((unhide hs1).ext hxc)
 replace he1 := hide ((unhide he1).ext hxc)
 have hg := hide hg0
 have hnV := hide hg0.nV
 have hnE := hide hg0.nE
 clear hxc hg0 n1 n2 n3 hr5
 refine wpO_want rfl ?_
 go_simp
 refine wpO_done ?_
 try go_frame
 go_wp2_with fail
 have hK5 := hide (Keep.refl [r5] y5)
 have hb5 := hide ((unhide hP).get 0 rfl)
 have hsk := hide (fun (W : World) (hW : Keep [r5] y5 W) => SlAt.keep_G (unhide hs1) (unhide hb5) ⟨_,_,_,rfl⟩ ⟨_,_,_,rfl⟩ encV_ns (fun x => ⟨_,rfl⟩) hW)
 have hek := hide (fun (W : World) (hW : Keep [r5] y5 W) => SlAt.keep_G (unhide he1) (unhide hb5) ⟨_,_,_,rfl⟩ ⟨_,_,_,rfl⟩ encE_ns (fun x => ⟨_,rfl⟩) hW)
 have hgk := hide (fun (W : World) (hW : Keep [r5] y5 W) => (unhide hg).keep hW (by have := unhide hng; simp; omega) (by have := unhide hng; simp; omega) (by have := unhide hng; simp; omega))
 clear hs1 he1 hg hb5 hinv
 by_cases hle : (V.length : Int) ≤ most
 ·have hres := hide (show decide ((V.length : Int) ≤ most) = true from decide_eq_true hle)
  have q0 := (unhide hP).cellK (S := [r5]) 1 0 (v := .slice A1 V.length cA) rfl rfl (by rw [List.mem_singleton]; exact (unhide hP).ne 1 0 (by decide) rfl rfl)
  have q1 := (unhide hP).cellK (S := [r5]) 1 1 (v := .slice B1 E.length cB) rfl rfl (by rw [List.mem_singleton]; exact (unhide hP).ne 1 0 (by decide) rfl rfl)
  have hself := Keep.refl [r5] y5
  refine wp_regionK (P := Tryz.prog) [r5] [0,1,2,3,4,5,6,7,8,9,10,11,12,14] [] 6 #[true,true,true,true,true,true,true,true,true,true,true,true,true,false,true,false,false,false,false,false] (by kernel_rfl) (by kernel_rfl) rfl (by rfl) ?_
  iterate 14
   refine ql_want (v := ?_) rfl (by rfl) (fun W hW => ?_) ?_
   rotate_left
   ·go_simp
    first | done | rfl
   go_frame
  refine wpQL_nil (fun y6 hxq => ?_)
  have hK := hide (hxq.keep [r5])
  replace hP : Hid (Sp w [] w [] [(r5,28, #[.slice none 0 0, .slice none 0 0]),(r7,28, #[.slice A1 V.length cA, .slice B1 E.length cB])] [] y6) := hide ((unhide hP).ext hxq)
  clear hxq
  clear q0 q1 hself
  refine lx_one (i := 13) (by kernel_rfl) rfl (by rfl) #[true,true,true,true,true,true,true,true,true,true,true,true,true,true,true,false,false,false,false,false] (by rfl) ?_
  have hca := to_rel g bv be V E _ (unhide hgk _ (unhide hK))
  go_simp
  refine (hca).mono ?_
  rintro _ zy7 ⟨A2,cA2,B2,cB2,rfl,hs2,he2,hxc⟩
  clear hca
  have hcb := hide (fun (W : World) (hW : Ext zy7 W) => same_any A2 B2 A1 B1 V V E E cA2 cB2 cA cB W (hs2.ext hW) (he2.ext hW) (unhide hsk _ (((unhide hK).trans (hxc.keep _)).trans (hW.keep _))) (unhide hek _ (((unhide hK).trans (hxc.keep _)).trans (hW.keep _))) (unhide hnV) (unhide hnE))
  simp only [decide_true,Bool.and_self] at hcb
  clear hs2 he2
  refine ⟨_,rfl,(unhide hK).trans (hxc.keep _),fun y7 hxd => ?_⟩
  replace hP : Hid (Sp w [] w [] [(r5,28, #[.slice none 0 0, .slice none 0 0]),(r7,28, #[.slice A1 V.length cA, .slice B1 E.length cB])] [] y7) := hide ((unhide hP).ext (hxc.trans hxd))
  replace hK := hide ((unhide hK).trans ((hxc.trans hxd).keep _))
  replace hcb := hide (unhide hcb y7 hxd)
  clear hxc hxd
  try go_frame
  have hcc := unhide hcb
  clear hcb
  refine lx_one (i := 15) (by kernel_rfl) rfl (by rfl) #[true,true,true,true,true,true,true,true,true,true,true,true,true,true,true,true,false,false,false,false] (by rfl) ?_
  go_simp
  refine (hcc).mono ?_
  rintro _ zy8 ⟨rfl,hxc⟩
  clear hcc
  refine ⟨_,rfl,(unhide hK).trans (hxc.keep _),fun y8 hxd => ?_⟩
  replace hP : Hid (Sp w [] w [] [(r5,28, #[.slice none 0 0, .slice none 0 0]),(r7,28, #[.slice A1 V.length cA, .slice B1 E.length cB])] [] y8) := hide ((unhide hP).ext (hxc.trans hxd))
  replace hK := hide ((unhide hK).trans ((hxc.trans hxd).keep _))
  clear hxc hxd
  try go_frame
  have hKa := hK
  refine lx_rekeep (unhide hK) [16,17] [] 2 4 #[true,true,true,true,true,true,true,true,true,true,true,true,true,true,true,true,false,false,false,false] #[true,true,true,true,true,true,true,true,true,true,true,true,true,true,true,true,true,true,false,false] (by kernel_rfl) rfl (by rfl) ?_
  clear hK
  iterate 2
   refine ql_want (v := ?_) rfl (by rfl) (fun W hW => ?_) ?_
   rotate_left
   ·go_simp
    first | done | rfl
   go_frame
  refine wpQL_nil (fun y9 hxq => ?_)
  have hK := hide (hxq.keep [r5])
  replace hP : Hid (Sp w [] w [] [(r5,28, #[.slice none 0 0, .slice none 0 0]),(r7,28, #[.slice A1 V.length cA, .slice B1 E.length cB])] [] y9) := hide ((unhide hP).ext hxq)
  clear hxq
  refine lx_one (i := 18) (by kernel_rfl) rfl (by rfl) #[true,true,true,true,true,true,true,true,true,true,true,true,true,true,true,true,true,true,true,false] (by rfl) ?_
  refine (unhide hP).setL (unhide hK) 0 #[.slice A1 V.length cA, .slice B1 E.length cB] rfl (by simp) (fun hb => run_store_row (v := .agg #[.slice A1 V.length cA, .slice B1 E.length cB]) rfl (by rfl) (by rfl) (by simp [go_sem]) hb rfl (fun u hu => by simp [Value.cells] at hu; rcases hu with rfl | rfl <;> rfl)) ?_
  intro y10 hQ hK2
  replace hP : Hid (Sp w [] w [] [(r5,28, #[.slice A1 V.length cA, .slice B1 E.length cB]),(r7,28, #[.slice A1 V.length cA, .slice B1 E.length cB])] [] y10) := hide hQ
  replace hK := hide hK2
  clear hQ hK2
  try go_frame
  have hKb := hide ((unhide hKa).trans (unhide hK))
  refine lx_rekeep (unhide hK) [19] [] 0 1 #[true,true,true,true,true,true,true,true,true,true,true,true,true,true,true,true,true,true,true,false] #[true,true,true,true,true,true,true,true,true,true,true,true,true,true,true,true,true,true,true,true] (by kernel_rfl) rfl (by rfl) ?_
  clear hK
  iterate 1
   refine ql_want (v := ?_) rfl (by rfl) (fun W hW => ?_) ?_
   rotate_left
   ·go_simp
    first | done | rfl
   go_frame
  refine wpQL_nil (fun y11 hxq => ?_)
  have hK := hide (hxq.keep [r5])
  replace hP : Hid (Sp w [] w [] [(r5,28, #[.slice A1 V.length cA, .slice B1 E.length cB]),(r7,28, #[.slice A1 V.length cA, .slice B1 E.length cB])] [] y11) := hide ((unhide hP).ext hxq)
  clear hxq
  refine wpX_done (by kernel_rfl) ?_
  try go_frame
  go_wp2_with fail
  have hKe := hide ((unhide hKb).trans (unhide hK))
  refine Sp.leaves0 ?_
  have h5 := (unhide hP).get 0 rfl
  refine ⟨_,ret_tct24 rfl rfl (load_G _ r5 _ _ (h5.cell 0) (h5.cell 1)), ?_⟩
  rw [unhide hres]
  exact ⟨g,bv,be,A1,B1,cA,cB,rfl,unhide hgk _ (unhide hKe),unhide hsk _ (unhide hKe),unhide hek _ (unhide hKe),(unhide hP).extf⟩
 ·have hres := hide (show decide ((V.length : Int) ≤ most) = false from decide_eq_false hle)
  have q0 := (unhide hP).cellK (S := [r5]) 1 0 (v := .slice A1 V.length cA) rfl rfl (by rw [List.mem_singleton]; exact (unhide hP).ne 1 0 (by decide) rfl rfl)
  have q1 := (unhide hP).cellK (S := [r5]) 1 1 (v := .slice B1 E.length cB) rfl rfl (by rw [List.mem_singleton]; exact (unhide hP).ne 1 0 (by decide) rfl rfl)
  have hself := Keep.refl [r5] y5
  have hle2 := unhide hres
  refine wp_regionK (P := Tryz.prog) [r5] [0,1,2,3,4,5,6,7,8,9,10,11,12,13,14,15,16,17] [] 2 #[true,true,true,true,true,true,true,true,true,true,true,true,true,true,true,true,true,true,false,false] (by kernel_rfl) (by kernel_rfl) rfl (by rfl) ?_
  iterate 18
   first
   | (refine ql_skip rfl (by rfl) ?_)
   | (refine ql_want (v := ?_) rfl (by rfl) (fun W hW => ?_) ?_; rotate_left; (go_simp; (first | done | rfl)))
   try go_frame
  refine wpQL_nil (fun y6 hxq => ?_)
  have hK := hide (hxq.keep [r5])
  replace hP : Hid (Sp w [] w [] [(r5,28, #[.slice none 0 0, .slice none 0 0]),(r7,28, #[.slice A1 V.length cA, .slice B1 E.length cB])] [] y6) := hide ((unhide hP).ext hxq)
  clear hxq
  clear q0 q1 hself hle2
  have hKa := hide (Keep.refl [r5] y5)
  refine lx_one (i := 18) (by kernel_rfl) rfl (by rfl) #[true,true,true,true,true,true,true,true,true,true,true,true,true,true,true,true,true,true,true,false] (by rfl) ?_
  refine (unhide hP).setL (unhide hK) 0 #[.slice A1 V.length cA, .slice B1 E.length cB] rfl (by simp) (fun hb => run_store_row (v := .agg #[.slice A1 V.length cA, .slice B1 E.length cB]) rfl (by rfl) (by rfl) (by simp [go_sem]) hb rfl (fun u hu => by simp [Value.cells] at hu; rcases hu with rfl | rfl <;> rfl)) ?_
  intro y7 hQ hK2
  replace hP : Hid (Sp w [] w [] [(r5,28, #[.slice A1 V.length cA, .slice B1 E.length cB]),(r7,28, #[.slice A1 V.length cA, .slice B1 E.length cB])] [] y7) := hide hQ
  replace hK := hide hK2
  clear hQ hK2
  try go_frame
  have hKb := hide ((unhide hKa).trans (unhide hK))
  refine lx_rekeep (unhide hK) [19] [] 0 1 #[true,true,true,true,true,true,true,true,true,true,true,true,true,true,true,true,true,true,true,false] #[true,true,true,true,true,true,true,true,true,true,true,true,true,true,true,true,true,true,true,true] (by kernel_rfl) rfl (by rfl) ?_
  clear hK
  iterate 1
   refine ql_want (v := ?_) rfl (by rfl) (fun W hW => ?_) ?_
   rotate_left
   ·go_simp
    first | done | rfl
   go_frame
  refine wpQL_nil (fun y8 hxq => ?_)
  have hK := hide (hxq.keep [r5])
  replace hP : Hid (Sp w [] w [] [(r5,28, #[.slice A1 V.length cA, .slice B1 E.length cB]),(r7,28, #[.slice A1 V.length cA, .slice B1 E.length cB])] [] y8) := hide ((unhide hP).ext hxq)
  clear hxq
  refine wpX_done (by kernel_rfl) ?_
  try go_frame
  go_wp2_with fail
  have hKe := hide ((unhide hKb).trans (unhide hK))
  refine Sp.leaves0 ?_
  have h5 := (unhide hP).get 0 rfl
  refine ⟨_,ret_tct24 rfl rfl (load_G _ r5 _ _ (h5.cell 0) (h5.cell 1)), ?_⟩
  rw [unhide hres]
  exact ⟨g,bv,be,A1,B1,cA,cB,rfl,unhide hgk _ (unhide hKe),unhide hsk _ (unhide hKe),unhide hek _ (unhide hKe),(unhide hP).extf⟩
theorem Sp.buildT {P : Program} {wf : World} {T0 : List Nat} {w W : World} {ds : List Deferred} {L : List Cl} {Rs : List Rw} {l : List Oper} {K : Act → World → Prop} {r : List Oper} {o : Oper} {a : Act} (h : Sp wf T0 w ds L Rs W) (n : Nat) (t : TypeId) (cs : Array Value) (hw : Region.wanted o (yielded l.toArray a.tmps) = true) (hrun : (execOp a.eval o).run P W = .ok (.value (.slice (some ⟨W.heap.size,0,none⟩) n n)) (W.alloc (.cells cs t)))
  (hk : ∀ b W',Sp wf T0 w ds (L ++ [(b,t,cs)]) Rs W' → Ext W W' → wpO P l K r (a.put o.dst (.slice (some ⟨b,0,none⟩) n n)) W') : wpO P l K (o :: r) a W :=
 wpO_val hw hrun (hk _ _ (h.alloc t cs) (ext_self1 W _))
def k8V : List (Int × Thing) := [((5 : Int),((0 : Int),(0 : Int))),(6,(0,0)),(7,(0,0))]
def k8E : List ((Int × Int) × Thing) := [(((5 : Int),(7 : Int)),((0 : Int),(0 : Int))),((6,7),(0,0))]
set_option maxRecDepth 100000 in
theorem k8_err : bErr k8V k8E = 0 := by decide +kernel
set_option maxRecDepth 100000 in
theorem k8_bs : bS k8V k8E = (k8V,k8E) := by decide +kernel
set_option maxRecDepth 100000 in
theorem k8_form : formP k8V k8E (idsV k8V) = [5,6,7] := by decide +kernel
set_option maxRecDepth 100000 in
theorem k8_maps : mapsP k8V k8E (idsV k8V) k8V k8E (idsV k8V) = [[5,6,7],[6,5,7]] := by decide +kernel
theorem k8_lab : LabB k8V k8E := by
 unfold LabB k8V k8E
 constructor <;> (intro p hp; simp at hp; rcases hp with rfl | rfl | rfl <;> simp) <;> omega
theorem edge_rel (g bv be : Nat) (V : List (Int × Thing)) (E : List ((Int × Int) × Thing)) (u v : Int) (w : World) (hg : IsG w g bv be V E) : Calls Tryz.prog 37 #[.pointer (some ⟨g,0,none⟩), .int .i64 u, .int .i64 v] w fun e w' => ∃ (x0 x1 x2 x3 k : Int),e = .returned (.tuple #[.agg #[.int .i64 x0, .int .i64 x1, .int .u8 x2, .int .i64 x3], .int .i64 k, .bool (betE E u v).isSome]) ∧ Ext w w' := by
 have n1 := hg.nE
 obtain ⟨V',E',h1,hV,hE,hi⟩ := hg
 rcases posX_find (u := u) (v := v) hi.lo with ⟨hp,hb⟩ | ⟨k,hk,hp,hb⟩
 ·rw [hb]
  exact (gedge_miss g bv be V' E' E u v w h1 hE hi.se (by rw [← hE.length_eq]; exact n1) hp).mono fun e w' h => ⟨_,_,_,_,_,h.1,h.2⟩
 ·rw [hb]
  exact (gedge_hit g bv be V' E' E u v w h1 hE hi.se (by rw [← hE.length_eq]; exact n1) k hk hp).mono fun e w' h => ⟨_,_,_,_,_,h.1,h.2⟩
theorem k8_edge {V2 : List (Int × Thing)} {E2 : List ((Int × Int) × Thing)} (hi : GInv k8V k8E) (h : IsCan k8V k8E V2 E2) : (betE E2 0 2).isSome = true := by
 have h1 := h.ren
 rw [k8_form] at h1
 have ho : OkTo k8V (atP [5,6,7] (idsV k8V)) := atP_ok hi (by rw [← k8_form]; exact (formP_is k8V k8E hi.idsS).perm) (by decide)
 have h2 := h1.bet hi ho (u := 5) (v := 7) (by decide) (by decide)
 rw [show tr (idsV k8V) (atP [5,6,7] (idsV k8V)) 5 = 0 by decide,show tr (idsV k8V) (atP [5,6,7] (idsV k8V)) 7 = 2 by decide] at h2
 rw [h2]
 decide
set_option maxRecDepth 100000 in
set_option maxHeartbeats 16000000 in
theorem known08_any (w : World) :
  Calls Tryz.prog 11 #[] w fun e w' => e = .returned (.bool true) ∧ Ext w w' := by
 have hP := hide (Sp.new w)
 refine callsIn_wide.1 (callsIn_of_wp_marks (n := 0) Tryz.func11 rfl trivial (wpIn_wide.2 ?_))
 simp only [Tryz.ntmps11,List.size_toArray,List.length_nil,Nat.reduceSub,Array.replicate_succ,Array.replicate_zero,List.push_toArray,List.append_toArray,List.nil_append,List.cons_append]
 try dsimp only
 repeat ((fail_if_success (with_reducible refine wp_reg (id := 0) ?_)); (first | go_values | go_skip | go_step | go_guarded | go_upon | go_in | go_back | fail))
 with_reducible refine wp_reg (id := 0) ?_
 refine wpO_want rfl ?_
 go_simp
 refine wpO_done ?_
 try go_frame
 try dsimp only
 repeat ((fail_if_success (with_reducible refine wp_reg (id := 1) ?_)); (first | go_values | go_skip | go_step | go_guarded | go_upon | go_in | go_back | fail))
 with_reducible refine wp_reg (id := 1) ?_
 iterate 3
  refine wpO_want rfl ?_
  go_simp
 refine (unhide hP).buildO 3 81 #[.int .i64 5, .int .u8 0, .int .i64 0, .int .i64 6, .int .u8 0, .int .i64 0, .int .i64 7, .int .u8 0, .int .i64 0] rfl (by go_simp) ?_
 intro bv y1 hQ
 replace hP : Hid (Sp w [] w [] [(bv,81, #[.int .i64 5, .int .u8 0, .int .i64 0, .int .i64 6, .int .u8 0, .int .i64 0, .int .i64 7, .int .u8 0, .int .i64 0])] [] y1) := hide hQ
 clear hQ
 try go_frame
 iterate 2
  refine wpO_want rfl ?_
  go_simp
 refine (unhide hP).buildO 2 84 #[.int .i64 5, .int .i64 7, .int .u8 0, .int .i64 0, .int .i64 6, .int .i64 7, .int .u8 0, .int .i64 0] rfl (by go_simp) ?_
 intro be y2 hQ
 replace hP : Hid (Sp w [] w [] [(bv,81, #[.int .i64 5, .int .u8 0, .int .i64 0, .int .i64 6, .int .u8 0, .int .i64 0, .int .i64 7, .int .u8 0, .int .i64 0]),(be,84, #[.int .i64 5, .int .i64 7, .int .u8 0, .int .i64 0, .int .i64 6, .int .i64 7, .int .u8 0, .int .i64 0])] [] y2) := hide hQ
 clear hQ
 try go_frame
 refine wpO_want rfl ?_
 go_simp
 have hca := build_any (some ⟨bv,0,none⟩) (some ⟨be,0,none⟩) k8V k8E 3 2 y2 (slat_blk (enc := encV) (k := 3) k8V ((unhide hP).get 0 rfl) rfl (fun _ => rfl) (by decide)) (slat_blk (enc := encE) (k := 4) k8E ((unhide hP).get 1 rfl) rfl (fun _ => rfl) (by decide)) (fun d hd => by
  simp [k8V] at hd
  rcases hd with rfl | rfl | rfl <;> (unfold okV i64ok; decide)) (fun d hd => by
  simp [k8E] at hd
  rcases hd with rfl | rfl <;> (unfold okEd i64ok; decide)) (by decide) (by decide)
 refine hca.mono ?_
 clear hca
 rintro _ y3 h3
 unfold BuildPost at h3
 rw [k8_err,k8_bs] at h3
 obtain ⟨_,g,bw,bx,rfl,hg3,hxc,_,_,_⟩ := h3.resolve_right (fun h => h.1 rfl)
 refine ⟨_,rfl, ?_⟩
 replace hP : Hid (Sp w [] w [] [(bv,81, #[.int .i64 5, .int .u8 0, .int .i64 0, .int .i64 6, .int .u8 0, .int .i64 0, .int .i64 7, .int .u8 0, .int .i64 0]),(be,84, #[.int .i64 5, .int .i64 7, .int .u8 0, .int .i64 0, .int .i64 6, .int .i64 7, .int .u8 0, .int .i64 0])] [] y3) := hide ((unhide hP).ext hxc)
 have hg := hide hg3
 clear hg3 h3 hxc
 generalize htu0 : Value.tuple _ = tu
 have htu := hide htu0
 clear htu0
 refine wpO_val rfl (run_move rfl rfl) ?_
 go_frame
 refine wpO_val rfl (run_extract (i := 0) (v := .pointer (some ⟨g,0,none⟩)) rfl (unhide htu).symm rfl) ?_
 go_frame
 refine wpO_val rfl (run_extract (i := 1) (v := .int .i64 0) rfl (unhide htu).symm rfl) ?_
 go_frame
 iterate 2
  refine wpO_want rfl ?_
  go_simp
 refine wpO_done ?_
 try go_frame
 clear htu
 try dsimp only
 repeat ((fail_if_success (with_reducible refine wp_reg (id := 2) ?_)); (first | go_values | go_skip | go_step | go_guarded | go_upon | go_in | go_back | fail))
 with_reducible refine wp_reg (id := 2) ?_
 refine wpO_want rfl ?_
 go_simp
 refine wpO_want rfl ?_
 go_simp
 have hca := canon_any g bw bx k8V k8E y3 (unhide hg) (by decide) k8_lab
 refine hca.mono ?_
 clear hca
 rintro _ y4 ⟨f,bf1,bf2,V2,E2,Al,nl,cl,rfl,hnl,hgf0,hcan,ho,hxc,_,_,_⟩
 obtain rfl : nl = 3 := hnl
 rw [k8_form] at ho
 have hsl := hide (own_at (enc := encI) (xs := [5,6,7]) ho (fun _ => rfl))
 have hgf := hide hgf0
 have hed := hide (k8_edge (unhide hg).inv hcan)
 refine ⟨_,rfl, ?_⟩
 replace hP : Hid (Sp w [] w [] [(bv,81, #[.int .i64 5, .int .u8 0, .int .i64 0, .int .i64 6, .int .u8 0, .int .i64 0, .int .i64 7, .int .u8 0, .int .i64 0]),(be,84, #[.int .i64 5, .int .i64 7, .int .u8 0, .int .i64 0, .int .i64 6, .int .i64 7, .int .u8 0, .int .i64 0])] [] y4) := hide ((unhide hP).ext hxc)
 replace hg := hide ((unhide hg).ext (hxc))
 clear hxc ho hgf0 hcan
 generalize htu0 : Value.tuple _ = tu
 have htu := hide htu0
 clear htu0
 refine wpO_val rfl (run_move rfl rfl) ?_
 go_frame
 refine wpO_val rfl (run_extract (i := 0) (v := .pointer (some ⟨f,0,none⟩)) rfl (unhide htu).symm rfl) ?_
 go_frame
 refine wpO_val rfl (run_extract (i := 1) (v := .slice Al 3 cl) rfl (unhide htu).symm rfl) ?_
 go_frame
 refine wpO_val rfl (run_extract (i := 2) (v := .int .i64 0) rfl (unhide htu).symm rfl) ?_
 go_frame
 iterate 3
  refine wpO_want rfl ?_
  go_simp
 refine wpO_done ?_
 try go_frame
 clear htu
 try dsimp only
 repeat ((fail_if_success (with_reducible refine wp_reg (id := 3) ?_)); (first | go_values | go_skip | go_step | go_guarded | go_upon | go_in | go_back | fail))
 with_reducible refine wp_reg (id := 3) ?_
 refine wpO_want rfl ?_
 go_simp
 refine wpO_want rfl ?_
 go_simp
 have hca := autos_any g bw bx k8V k8E y4 (unhide hg) (by decide) k8_lab
 refine hca.mono ?_
 clear hca
 rintro _ y5 ⟨At,nt,ct,Jt,rfl,hos,hxc⟩
 rw [k8_maps] at hos
 obtain rfl : nt = 2 := hos.at.2
 have hss := hide hos.at.1
 refine ⟨_,rfl, ?_⟩
 replace hP : Hid (Sp w [] w [] [(bv,81, #[.int .i64 5, .int .u8 0, .int .i64 0, .int .i64 6, .int .u8 0, .int .i64 0, .int .i64 7, .int .u8 0, .int .i64 0]),(be,84, #[.int .i64 5, .int .i64 7, .int .u8 0, .int .i64 0, .int .i64 6, .int .i64 7, .int .u8 0, .int .i64 0])] [] y5) := hide ((unhide hP).ext hxc)
 replace hg := hide ((unhide hg).ext (hxc))
 replace hsl := hide ((unhide hsl).ext (hxc))
 replace hgf := hide ((unhide hgf).ext (hxc))
 clear hxc hos
 generalize htu0 : Value.tuple _ = tu
 have htu := hide htu0
 clear htu0
 refine wpO_val rfl (run_move rfl rfl) ?_
 go_frame
 refine wpO_val rfl (run_extract (i := 0) (v := .slice At 2 ct) rfl (unhide htu).symm rfl) ?_
 go_frame
 refine wpO_val rfl (run_extract (i := 1) (v := .int .i64 0) rfl (unhide htu).symm rfl) ?_
 go_frame
 iterate 2
  refine wpO_want rfl ?_
  go_simp
 refine wpO_done ?_
 try go_frame
 clear htu
 try dsimp only
 repeat ((fail_if_success (with_reducible refine wp_reg (id := 4) ?_)); (first | go_values | go_skip | go_step | go_guarded | go_upon | go_in | go_back | fail))
 with_reducible refine wp_reg (id := 4) ?_
 iterate 17
  refine wpO_want rfl ?_
  go_simp
 refine (unhide hP).buildT 3 3 #[.int .i64 5, .int .i64 6, .int .i64 7] rfl (by go_simp) ?_
 intro b5 y6 hQ hxc
 replace hP : Hid (Sp w [] w [] [(bv,81, #[.int .i64 5, .int .u8 0, .int .i64 0, .int .i64 6, .int .u8 0, .int .i64 0, .int .i64 7, .int .u8 0, .int .i64 0]),(be,84, #[.int .i64 5, .int .i64 7, .int .u8 0, .int .i64 0, .int .i64 6, .int .i64 7, .int .u8 0, .int .i64 0]),(b5,3, #[.int .i64 5, .int .i64 6, .int .i64 7])] [] y6) := hide hQ
 replace hg := hide ((unhide hg).ext (hxc))
 replace hsl := hide ((unhide hsl).ext (hxc))
 replace hgf := hide ((unhide hgf).ext (hxc))
 replace hss := hide ((unhide hss).ext (hxc))
 clear hQ hxc
 try go_frame
 refine wpO_want rfl ?_
 go_simp
 have hca := cmp08_any Al (some ⟨b5,0,none⟩) ([5,6,7] : List Int) ([5,6,7] : List Int) 3 3 cl 3 y6 (unhide hsl) (slat_blk (enc := encI) (k := 1) ([5,6,7] : List Int) ((unhide hP).get 2 rfl) rfl (fun _ => rfl) (by decide)) rfl rfl (by decide) (by decide)
 rw [lcmp_self] at hca
 refine hca.mono ?_
 clear hca
 rintro _ y7 ⟨rfl,hxc⟩
 refine ⟨_,rfl, ?_⟩
 replace hP : Hid (Sp w [] w [] [(bv,81, #[.int .i64 5, .int .u8 0, .int .i64 0, .int .i64 6, .int .u8 0, .int .i64 0, .int .i64 7, .int .u8 0, .int .i64 0]),(be,84, #[.int .i64 5, .int .i64 7, .int .u8 0, .int .i64 0, .int .i64 6, .int .i64 7, .int .u8 0, .int .i64 0]),(b5,3, #[.int .i64 5, .int .i64 6, .int .i64 7])] [] y7) := hide ((unhide hP).ext hxc)
 replace hg := hide ((unhide hg).ext (hxc))
 replace hsl := hide ((unhide hsl).ext (hxc))
 replace hgf := hide ((unhide hgf).ext (hxc))
 replace hss := hide ((unhide hss).ext (hxc))
 clear hxc
 iterate 4
  refine wpO_want rfl ?_
  go_simp
 obtain ⟨bt,ot,rfl,hget⟩ := (unhide hss).get (by decide)
 obtain ⟨a1,c1,hcell,hs1⟩ := hget 1 (by decide)
 have q1 := hcell [] y7 (Keep.refl _ _) (by simp)
 simp only [List.getElem_cons_succ,List.getElem_cons_zero,List.length_cons,List.length_nil] at q1 hs1
 have hs6 := hide hs1
 clear hget hcell hs1 hss
 iterate 2
  refine wpO_want rfl ?_
  go_simp
 clear q1
 refine (unhide hP).buildT 3 3 #[.int .i64 6, .int .i64 5, .int .i64 7] rfl (by go_simp) ?_
 intro b6 y8 hQ hxc
 replace hP : Hid (Sp w [] w [] [(bv,81, #[.int .i64 5, .int .u8 0, .int .i64 0, .int .i64 6, .int .u8 0, .int .i64 0, .int .i64 7, .int .u8 0, .int .i64 0]),(be,84, #[.int .i64 5, .int .i64 7, .int .u8 0, .int .i64 0, .int .i64 6, .int .i64 7, .int .u8 0, .int .i64 0]),(b5,3, #[.int .i64 5, .int .i64 6, .int .i64 7]),(b6,3, #[.int .i64 6, .int .i64 5, .int .i64 7])] [] y8) := hide hQ
 replace hg := hide ((unhide hg).ext (hxc))
 replace hsl := hide ((unhide hsl).ext (hxc))
 replace hgf := hide ((unhide hgf).ext (hxc))
 replace hs6 := hide ((unhide hs6).ext (hxc))
 clear hQ hxc
 try go_frame
 refine wpO_want rfl ?_
 go_simp
 have hca := cmp08_any a1 (some ⟨b6,0,none⟩) ([6,5,7] : List Int) ([6,5,7] : List Int) 3 3 c1 3 y8 (unhide hs6) (slat_blk (enc := encI) (k := 1) ([6,5,7] : List Int) ((unhide hP).get 3 rfl) rfl (fun _ => rfl) (by decide)) rfl rfl (by decide) (by decide)
 rw [lcmp_self] at hca
 refine hca.mono ?_
 clear hca
 rintro _ y9 ⟨rfl,hxc⟩
 refine ⟨_,rfl, ?_⟩
 replace hP : Hid (Sp w [] w [] [(bv,81, #[.int .i64 5, .int .u8 0, .int .i64 0, .int .i64 6, .int .u8 0, .int .i64 0, .int .i64 7, .int .u8 0, .int .i64 0]),(be,84, #[.int .i64 5, .int .i64 7, .int .u8 0, .int .i64 0, .int .i64 6, .int .i64 7, .int .u8 0, .int .i64 0]),(b5,3, #[.int .i64 5, .int .i64 6, .int .i64 7]),(b6,3, #[.int .i64 6, .int .i64 5, .int .i64 7])] [] y9) := hide ((unhide hP).ext hxc)
 replace hg := hide ((unhide hg).ext (hxc))
 replace hsl := hide ((unhide hsl).ext (hxc))
 replace hgf := hide ((unhide hgf).ext (hxc))
 replace hs6 := hide ((unhide hs6).ext (hxc))
 clear hxc
 iterate 2
  refine wpO_want rfl ?_
  go_simp
 refine wpO_done ?_
 try go_frame
 try dsimp only
 repeat ((fail_if_success (with_reducible refine wp_reg (id := 6) ?_)); (first | go_values | go_skip | go_step | go_guarded | go_upon | go_in | go_back | fail))
 with_reducible refine wp_reg (id := 6) ?_
 refine wpO_want rfl ?_
 go_simp
 refine wpO_want rfl ?_
 go_simp
 have hca := edge_rel f bf1 bf2 V2 E2 0 2 y9 (unhide hgf)
 rw [unhide hed] at hca
 refine hca.mono ?_
 clear hca
 rintro _ y10 ⟨x0,x1,x2,x3,k,rfl,hxc⟩
 refine ⟨_,rfl, ?_⟩
 replace hP : Hid (Sp w [] w [] [(bv,81, #[.int .i64 5, .int .u8 0, .int .i64 0, .int .i64 6, .int .u8 0, .int .i64 0, .int .i64 7, .int .u8 0, .int .i64 0]),(be,84, #[.int .i64 5, .int .i64 7, .int .u8 0, .int .i64 0, .int .i64 6, .int .i64 7, .int .u8 0, .int .i64 0]),(b5,3, #[.int .i64 5, .int .i64 6, .int .i64 7]),(b6,3, #[.int .i64 6, .int .i64 5, .int .i64 7])] [] y10) := hide ((unhide hP).ext hxc)
 clear hxc
 generalize htu0 : Value.tuple _ = tu
 have htu := hide htu0
 clear htu0
 refine wpO_val rfl (run_move rfl rfl) ?_
 go_frame
 refine wpO_val rfl (run_extract (i := 0) (v := .agg #[.int .i64 x0, .int .i64 x1, .int .u8 x2, .int .i64 x3]) rfl (unhide htu).symm rfl) ?_
 go_frame
 refine wpO_val rfl (run_extract (i := 1) (v := .int .i64 k) rfl (unhide htu).symm rfl) ?_
 go_frame
 refine wpO_val rfl (run_extract (i := 2) (v := .bool true) rfl (unhide htu).symm rfl) ?_
 go_frame
 refine (unhide hP).allocO 84 #[.int .i64 0, .int .i64 0, .int .u8 0, .int .i64 0] rfl (by go_simp) ?_
 intro r8 y11 hQ
 replace hP : Hid (Sp w [] w [] [(bv,81, #[.int .i64 5, .int .u8 0, .int .i64 0, .int .i64 6, .int .u8 0, .int .i64 0, .int .i64 7, .int .u8 0, .int .i64 0]),(be,84, #[.int .i64 5, .int .i64 7, .int .u8 0, .int .i64 0, .int .i64 6, .int .i64 7, .int .u8 0, .int .i64 0]),(b5,3, #[.int .i64 5, .int .i64 6, .int .i64 7]),(b6,3, #[.int .i64 6, .int .i64 5, .int .i64 7]),(r8,84, #[.int .i64 0, .int .i64 0, .int .u8 0, .int .i64 0])] [] y11) := hide hQ
 clear hQ
 refine (unhide hP).setO 4 #[.int .i64 x0, .int .i64 x1, .int .u8 x2, .int .i64 x3] rfl rfl (fun hb => run_store_row (v := .agg #[.int .i64 x0, .int .i64 x1, .int .u8 x2, .int .i64 x3]) rfl (by rfl) (by rfl) (by simp [go_sem]) hb rfl (fun u hu => by simp [Value.cells] at hu; rcases hu with rfl | rfl | rfl | rfl <;> rfl)) ?_
 intro y12 hQ
 replace hP : Hid (Sp w [] w [] [(bv,81, #[.int .i64 5, .int .u8 0, .int .i64 0, .int .i64 6, .int .u8 0, .int .i64 0, .int .i64 7, .int .u8 0, .int .i64 0]),(be,84, #[.int .i64 5, .int .i64 7, .int .u8 0, .int .i64 0, .int .i64 6, .int .i64 7, .int .u8 0, .int .i64 0]),(b5,3, #[.int .i64 5, .int .i64 6, .int .i64 7]),(b6,3, #[.int .i64 6, .int .i64 5, .int .i64 7]),(r8,84, #[.int .i64 x0, .int .i64 x1, .int .u8 x2, .int .i64 x3])] [] y12) := hide hQ
 clear hQ
 iterate 2
  refine wpO_want rfl ?_
  go_simp
 refine wpO_done ?_
 try go_frame
 clear htu
 try dsimp only
 repeat ((fail_if_success (with_reducible refine wp_reg (id := 7) ?_)); (first | go_values | go_skip | go_step | go_guarded | go_upon | go_in | go_back | fail))
 with_reducible refine wp_reg (id := 7) ?_
 iterate 2
  refine wpO_want rfl ?_
  go_simp
 refine wpO_done ?_
 try go_frame
 go_wp2_with fail
 refine Sp.leaves0 ?_
 exact ⟨_,results_tmp (t := 0) rfl _ _ _,rfl,(unhide hP).extf⟩
end Go.Proofs.YtbpeemhfjgcnaaaGreat
