/- Parts of a proof, laid together. Each part says its own conditions. -/
import Derived.Test.YtbpeemhfjgcnaaaGreatC30
import Derived.WalkMore
import Derived.Test.YtbpeemhfjgcnaaaGreatC36
namespace Go.Proofs.YtbpeemhfjgcnaaaGreat
open Go Go.RowKit Go.Shelf
attribute [local go_sem] qUpon lUpon
attribute [local irreducible] wpO wpX wpQL
def MapPost (J : List (List Int) → List Nat → World → Prop) (T : List Nat) (w : World) (told : List (List Int)) (e : Ending) (w' : World) : Prop := e = .returned (.tuple #[]) ∧ ∃ T' : List Nat,J told T' w' ∧ Keep T w w' ∧ ∀ x ∈ T',x ∈ T ∨ w.heap.size ≤ x
theorem idsV_n {V : List (Int × Thing)} {n : Nat} (h : n = V.length) : (idsV V).length = n := by rw [idsV_len,h]
set_option maxRecDepth 100000 in
set_option maxHeartbeats 16000000 in
theorem maps_any {fd N nv : Nat} {caps : Array Value} {q : Bool} {J : List (List Int) → List Nat → World → Prop} (hC : TellN N fd caps q nv J) (ga bva bea gb bvb beb : Nat) (V V' : List (Int × Thing)) (E E' : List ((Int × Int) × Thing)) (w : World) (told : List (List Int)) (T : List Nat) (ha : IsG w ga bva bea V E) (hb : IsG w gb bvb beb V' E') (hnv : nv = V.length) (hl : nv ≤ 8) (hl2 : V'.length ≤ 8) (hlb : LabB V E) (hlb2 : LabB V' E') (hj : J told T w) (hgT : ∀ x ∈ [ga,bva,bea,gb,bvb,beb],x ∉ T) (hN : told.length + (mapsP V E (idsV V) V' E' (idsV V')).length ≤ N) :
  Calls Tryz.prog 52 #[.pointer (some ⟨ga,0,none⟩), .pointer (some ⟨gb,0,none⟩), .func (.func fd) #[] caps] w (MapPost J T w (told ++ outT q (mapsP V E (idsV V) V' E' (idsV V')))) := by
 have hC' := hide hC
 have ha' := hide ha
 have hb' := hide hb
 have hnv' := hide hnv
 have hl' := hide hl
 have hl2' := hide hl2
 have hlb' := hide hlb
 have hlb2' := hide hlb2
 have hj' := hide hj
 have hgT' := hide hgT
 have hN' := hide hN
 have hTw := hide (hC.lt _ _ _ hj)
 have hiu := hide (hb.inv).idsS
 obtain ⟨nu,hnu0⟩ : ∃ nu,nu = V'.length := ⟨_,rfl⟩
 have hnu := hide hnu0
 have hlu := hide (show nu ≤ 8 by rw [hnu0]; exact hl2)
 obtain ⟨MP,hMP0⟩ : ∃ MP,MP = mapsP V E (idsV V) V' E' (idsV V') := ⟨_,rfl⟩
 rw [← hMP0] at hN' ⊢
 have hMP := hide hMP0
 clear hC ha hb hnv hl hl2 hlb hlb2 hj hgT hN hnu0 hMP0
 have hP := hide (Sp.new w)
 refine callsIn_wide.1 (callsIn_of_wp_marks (n := 0) Tryz.func52 rfl trivial (wpIn_wide.2 ?_))
 simp only [Tryz.ntmps52,List.size_toArray,List.length_cons,List.length_nil,Nat.reduceAdd,Nat.reduceSub,Array.replicate_succ,Array.replicate_zero,List.push_toArray,List.append_toArray,List.nil_append,List.cons_append]
 try dsimp only
 repeat ((fail_if_success (with_reducible refine wp_reg (id := 0) ?_)); (first | go_values | go_skip | go_step | go_guarded | go_upon | go_in | go_back | fail))
 with_reducible refine wp_reg (id := 0) ?_
 refine (unhide hP).allocO 24 #[.pointer (some ⟨ga,0,none⟩)] rfl (run_box (v := .pointer (some ⟨ga,0,none⟩)) rfl rfl) ?_
 intro b4 y1 hQ
 replace hP : Hid (Sp w [] w [] [(b4,24, #[.pointer (some ⟨ga,0,none⟩)])] [] y1) := hide hQ
 clear hQ
 refine (unhide hP).allocO 24 #[.pointer (some ⟨gb,0,none⟩)] rfl (run_box (v := .pointer (some ⟨gb,0,none⟩)) rfl rfl) ?_
 intro b5 y2 hQ
 replace hP : Hid (Sp w [] w [] [(b4,24, #[.pointer (some ⟨ga,0,none⟩)]),(b5,24, #[.pointer (some ⟨gb,0,none⟩)])] [] y2) := hide hQ
 clear hQ
 refine (unhide hP).allocO 103 #[.func (.func fd) #[] caps] rfl (run_box (v := .func (.func fd) #[] caps) rfl rfl) ?_
 intro b2 y3 hQ
 replace hP : Hid (Sp w [] w [] [(b4,24, #[.pointer (some ⟨ga,0,none⟩)]),(b5,24, #[.pointer (some ⟨gb,0,none⟩)]),(b2,103, #[.func (.func fd) #[] caps])] [] y3) := hide hQ
 clear hQ
 refine wpO_done ?_
 try go_frame
 go_wp2_with fail
 obtain ⟨M,hM0⟩ : ∃ M : Act → World → Prop,M = (fun a' W => ∃ (b1 b3 : Nat) (A1 : Option Addr) (c1 : Nat) (A2 : Option Addr) (c2 : Nat),a'.tmps.size = 21 ∧ a'.defers = [] ∧ a'.tmps.getD 3 undef = .pointer (some ⟨b4,0,none⟩) ∧ a'.tmps.getD 4 undef = .pointer (some ⟨b5,0,none⟩) ∧ a'.tmps.getD 5 undef = .pointer (some ⟨b2,0,none⟩) ∧ a'.tmps.getD 6 undef = .pointer (some ⟨b1,0,none⟩) ∧ a'.tmps.getD 7 undef = .pointer (some ⟨b3,0,none⟩) ∧ Sp w [] w [] [(b4,24, #[.pointer (some ⟨ga,0,none⟩)]),(b5,24, #[.pointer (some ⟨gb,0,none⟩)]),(b2,103, #[.func (.func fd) #[] caps]),(b1,82, #[.slice A1 nv c1]),(b3,82, #[.slice A2 nu c2])] [(81,3, .slice A1 nv c1,nv,V.flatMap encV),(81,3, .slice A2 nu c2,nu,V'.flatMap encV)] W) := ⟨_,rfl⟩
 have hM := hide hM0
 clear hM0
 refine wp_regionKM (P := Tryz.prog) M [] [0,2] [] 6 #[true,false,true,false,false,false,false,false] (by kernel_rfl) (by kernel_rfl) rfl (by rfl) ?_ ?_
 ·skip
  refine ql_want (v := .pointer (some ⟨ga,0,none⟩)) rfl (by rfl) (fun W hW => qUpon_ofX (load_V rfl rfl (by simp [go_sem]) ((unhide hP).cellK 0 0 rfl rfl (by simp) W hW))) ?_
  go_frame
  refine ql_want (v := .pointer (some ⟨gb,0,none⟩)) rfl (by rfl) (fun W hW => qUpon_ofX (load_V rfl rfl (by simp [go_sem]) ((unhide hP).cellK 1 0 rfl rfl (by simp) W hW))) ?_
  go_frame
  refine wpQL_nil (fun y4 hxq => ?_)
  have hK := hide (hxq.keep [])
  replace hP : Hid (Sp w [] w [] [(b4,24, #[.pointer (some ⟨ga,0,none⟩)]),(b5,24, #[.pointer (some ⟨gb,0,none⟩)]),(b2,103, #[.func (.func fd) #[] caps])] [] y4) := hide ((unhide hP).ext hxq)
  clear hxq
  refine lx_three (i := 1) (j := 4) (k := 5) (by kernel_rfl) rfl (by rfl) #[true,true,true,false,false,false,false,false] (by rfl) rfl (by rfl) #[true,false,true,false,true,false,false,false] (by rfl) rfl (by rfl) #[true,false,true,false,false,true,false,false] (by rfl) ?_ ?_ ?_
  ·skip
   have hca := vertices_rel ga bva bea V E y4 ((unhide ha').ext (unhide hP).extf)
   rw [← unhide hnv'] at hca
   go_simp
   refine (hca).mono ?_
   clear hca
   rintro _ zy5 ⟨A1,c1,rfl,ho1,hxc⟩
   refine ⟨_,rfl,(unhide hK).trans (hxc.keep _),fun y5 hxd => ?_⟩
   replace hP : Hid (Sp w [] w [] [(b4,24, #[.pointer (some ⟨ga,0,none⟩)]),(b5,24, #[.pointer (some ⟨gb,0,none⟩)]),(b2,103, #[.func (.func fd) #[] caps])] [(81,3, .slice A1 nv c1,nv,V.flatMap encV)] y5) := hide (((unhide hP).addRow hxc ho1).ext hxd)
   replace hK := hide ((unhide hK).trans ((hxc.trans hxd).keep _))
   clear ho1
   clear hxc hxd
   try go_frame
   refine lx_three (i := 3) (j := 4) (k := 5) (by kernel_rfl) rfl (by rfl) #[true,true,true,true,false,false,false,false] (by rfl) rfl (by rfl) #[true,true,true,false,true,false,false,false] (by rfl) rfl (by rfl) #[true,true,true,false,false,true,false,false] (by rfl) ?_ ?_ ?_
   ·skip
    have hca := vertices_rel gb bvb beb V' E' y5 ((unhide hb').ext (unhide hP).extf)
    rw [← unhide hnu] at hca
    go_simp
    refine (hca).mono ?_
    clear hca
    rintro _ zy6 ⟨A2,c2,rfl,ho1,hxc⟩
    refine ⟨_,rfl,(unhide hK).trans (hxc.keep _),fun y6 hxd => ?_⟩
    replace hP : Hid (Sp w [] w [] [(b4,24, #[.pointer (some ⟨ga,0,none⟩)]),(b5,24, #[.pointer (some ⟨gb,0,none⟩)]),(b2,103, #[.func (.func fd) #[] caps])] [(81,3, .slice A1 nv c1,nv,V.flatMap encV),(81,3, .slice A2 nu c2,nu,V'.flatMap encV)] y6) := hide (((unhide hP).addRow hxc ho1).ext hxd)
    replace hK := hide ((unhide hK).trans ((hxc.trans hxd).keep _))
    clear ho1
    clear hxc hxd
    try go_frame
    refine lx_two (i := 4) (k := 5) (by kernel_rfl) rfl (by rfl) #[true,true,true,true,true,false,false,false] (by rfl) rfl (by rfl) #[true,true,true,true,false,true,false,false] (by rfl) ?_ ?_
    ·skip
     refine (unhide hP).allocL (unhide hK) (v := fun b => .pointer (some ⟨b,0,none⟩)) 82 #[.slice none 0 0] ?_ ?_
     ·go_simp
     intro b1 y7 hQ hK2 hg2
     replace hP : Hid (Sp w [] w [] [(b4,24, #[.pointer (some ⟨ga,0,none⟩)]),(b5,24, #[.pointer (some ⟨gb,0,none⟩)]),(b2,103, #[.func (.func fd) #[] caps]),(b1,82, #[.slice none 0 0])] [(81,3, .slice A1 nv c1,nv,V.flatMap encV),(81,3, .slice A2 nu c2,nu,V'.flatMap encV)] y7) := hide hQ
     replace hK := hide hK2
     have hge_b1 := hide hg2
     clear hQ hK2 hg2
     try go_frame
     refine lx_one (i := 5) (by kernel_rfl) rfl (by rfl) #[true,true,true,true,true,true,false,false] (by rfl) ?_
     refine (unhide hP).allocL (unhide hK) (v := fun b => .pointer (some ⟨b,0,none⟩)) 82 #[.slice none 0 0] ?_ ?_
     ·go_simp
     intro b3 y8 hQ hK2 hg2
     replace hP : Hid (Sp w [] w [] [(b4,24, #[.pointer (some ⟨ga,0,none⟩)]),(b5,24, #[.pointer (some ⟨gb,0,none⟩)]),(b2,103, #[.func (.func fd) #[] caps]),(b1,82, #[.slice none 0 0]),(b3,82, #[.slice none 0 0])] [(81,3, .slice A1 nv c1,nv,V.flatMap encV),(81,3, .slice A2 nu c2,nu,V'.flatMap encV)] y8) := hide hQ
     replace hK := hide hK2
     have hge_b3 := hide hg2
     clear hQ hK2 hg2
     try go_frame
     refine lx_one (i := 6) (by kernel_rfl) rfl (by rfl) #[true,true,true,true,true,true,true,false] (by rfl) ?_
     refine (unhide hP).setNL (unhide hK) 3 #[.slice A1 nv c1] rfl (unhide hge_b1) (fun hb => run_store_row (v := .slice A1 nv c1) rfl (by rfl) (by rfl) (by simp [go_sem]) hb rfl (by simp [Value.cells,Value.oneCell'])) ?_
     intro y9 hQ hK2
     replace hP : Hid (Sp w [] w [] [(b4,24, #[.pointer (some ⟨ga,0,none⟩)]),(b5,24, #[.pointer (some ⟨gb,0,none⟩)]),(b2,103, #[.func (.func fd) #[] caps]),(b1,82, #[.slice A1 nv c1]),(b3,82, #[.slice none 0 0])] [(81,3, .slice A1 nv c1,nv,V.flatMap encV),(81,3, .slice A2 nu c2,nu,V'.flatMap encV)] y9) := hide hQ
     replace hK := hide hK2
     clear hQ hK2
     try go_frame
     refine lx_one (i := 7) (by kernel_rfl) rfl (by rfl) #[true,true,true,true,true,true,true,true] (by rfl) ?_
     refine (unhide hP).setNL (unhide hK) 4 #[.slice A2 nu c2] rfl (unhide hge_b3) (fun hb => run_store_row (v := .slice A2 nu c2) rfl (by rfl) (by rfl) (by simp [go_sem]) hb rfl (by simp [Value.cells,Value.oneCell'])) ?_
     intro y10 hQ hK2
     replace hP : Hid (Sp w [] w [] [(b4,24, #[.pointer (some ⟨ga,0,none⟩)]),(b5,24, #[.pointer (some ⟨gb,0,none⟩)]),(b2,103, #[.func (.func fd) #[] caps]),(b1,82, #[.slice A1 nv c1]),(b3,82, #[.slice A2 nu c2])] [(81,3, .slice A1 nv c1,nv,V.flatMap encV),(81,3, .slice A2 nu c2,nu,V'.flatMap encV)] y10) := hide hQ
     replace hK := hide hK2
     clear hQ hK2
     try go_frame
     refine wpX_done (by kernel_rfl) ?_
     try go_frame
     clear hK
     rw [unhide hM]
     exact ⟨b1,b3,A1,c1,A2,c2,rfl,rfl,rfl,rfl,rfl,rfl,rfl,unhide hP⟩
    ·skip
     refine (unhide hP).allocL (unhide hK) (v := fun b => .pointer (some ⟨b,0,none⟩)) 82 #[.slice none 0 0] ?_ ?_
     ·go_simp
     intro b3 y7 hQ hK2 hg2
     replace hP : Hid (Sp w [] w [] [(b4,24, #[.pointer (some ⟨ga,0,none⟩)]),(b5,24, #[.pointer (some ⟨gb,0,none⟩)]),(b2,103, #[.func (.func fd) #[] caps]),(b3,82, #[.slice none 0 0])] [(81,3, .slice A1 nv c1,nv,V.flatMap encV),(81,3, .slice A2 nu c2,nu,V'.flatMap encV)] y7) := hide hQ
     replace hK := hide hK2
     have hge_b3 := hide hg2
     clear hQ hK2 hg2
     try go_frame
     refine lx_one (i := 4) (by kernel_rfl) rfl (by rfl) #[true,true,true,true,true,true,false,false] (by rfl) ?_
     refine (unhide hP).allocL (unhide hK) (v := fun b => .pointer (some ⟨b,0,none⟩)) 82 #[.slice none 0 0] ?_ ?_
     ·go_simp
     intro b1 y8 hQ hK2 hg2
     replace hP : Hid (Sp w [] w [] [(b4,24, #[.pointer (some ⟨ga,0,none⟩)]),(b5,24, #[.pointer (some ⟨gb,0,none⟩)]),(b2,103, #[.func (.func fd) #[] caps]),(b3,82, #[.slice none 0 0]),(b1,82, #[.slice none 0 0])] [(81,3, .slice A1 nv c1,nv,V.flatMap encV),(81,3, .slice A2 nu c2,nu,V'.flatMap encV)] y8) := hide hQ
     replace hK := hide hK2
     have hge_b1 := hide hg2
     clear hQ hK2 hg2
     try go_frame
     refine lx_one (i := 6) (by kernel_rfl) rfl (by rfl) #[true,true,true,true,true,true,true,false] (by rfl) ?_
     refine (unhide hP).setNL (unhide hK) 4 #[.slice A1 nv c1] rfl (unhide hge_b1) (fun hb => run_store_row (v := .slice A1 nv c1) rfl (by rfl) (by rfl) (by simp [go_sem]) hb rfl (by simp [Value.cells,Value.oneCell'])) ?_
     intro y9 hQ hK2
     replace hP : Hid (Sp w [] w [] [(b4,24, #[.pointer (some ⟨ga,0,none⟩)]),(b5,24, #[.pointer (some ⟨gb,0,none⟩)]),(b2,103, #[.func (.func fd) #[] caps]),(b3,82, #[.slice none 0 0]),(b1,82, #[.slice A1 nv c1])] [(81,3, .slice A1 nv c1,nv,V.flatMap encV),(81,3, .slice A2 nu c2,nu,V'.flatMap encV)] y9) := hide hQ
     replace hK := hide hK2
     clear hQ hK2
     try go_frame
     refine lx_one (i := 7) (by kernel_rfl) rfl (by rfl) #[true,true,true,true,true,true,true,true] (by rfl) ?_
     refine (unhide hP).setNL (unhide hK) 3 #[.slice A2 nu c2] rfl (unhide hge_b3) (fun hb => run_store_row (v := .slice A2 nu c2) rfl (by rfl) (by rfl) (by simp [go_sem]) hb rfl (by simp [Value.cells,Value.oneCell'])) ?_
     intro y10 hQ hK2
     replace hP : Hid (Sp w [] w [] [(b4,24, #[.pointer (some ⟨ga,0,none⟩)]),(b5,24, #[.pointer (some ⟨gb,0,none⟩)]),(b2,103, #[.func (.func fd) #[] caps]),(b3,82, #[.slice A2 nu c2]),(b1,82, #[.slice A1 nv c1])] [(81,3, .slice A1 nv c1,nv,V.flatMap encV),(81,3, .slice A2 nu c2,nu,V'.flatMap encV)] y10) := hide hQ
     replace hK := hide hK2
     clear hQ hK2
     try go_frame
     refine wpX_done (by kernel_rfl) ?_
     try go_frame
     clear hK
     rw [unhide hM]
     exact ⟨b1,b3,A1,c1,A2,c2,rfl,rfl,rfl,rfl,rfl,rfl,rfl,Sp.swapL (L := [(b4,24, #[.pointer (some ⟨ga,0,none⟩)]),(b5,24, #[.pointer (some ⟨gb,0,none⟩)]),(b2,103, #[.func (.func fd) #[] caps])]) (y := (b3,82, #[.slice A2 nu c2])) (x := (b1,82, #[.slice A1 nv c1])) (unhide hP)⟩
   ·skip
    refine (unhide hP).allocL (unhide hK) (v := fun b => .pointer (some ⟨b,0,none⟩)) 82 #[.slice none 0 0] ?_ ?_
    ·go_simp
    intro b1 y6 hQ hK2 hg2
    replace hP : Hid (Sp w [] w [] [(b4,24, #[.pointer (some ⟨ga,0,none⟩)]),(b5,24, #[.pointer (some ⟨gb,0,none⟩)]),(b2,103, #[.func (.func fd) #[] caps]),(b1,82, #[.slice none 0 0])] [(81,3, .slice A1 nv c1,nv,V.flatMap encV)] y6) := hide hQ
    replace hK := hide hK2
    have hge_b1 := hide hg2
    clear hQ hK2 hg2
    try go_frame
    refine lx_two (i := 3) (k := 5) (by kernel_rfl) rfl (by rfl) #[true,true,true,true,true,false,false,false] (by rfl) rfl (by rfl) #[true,true,true,false,true,true,false,false] (by rfl) ?_ ?_
    ·skip
     have hca := vertices_rel gb bvb beb V' E' y6 ((unhide hb').ext (unhide hP).extf)
     rw [← unhide hnu] at hca
     go_simp
     refine (hca).mono ?_
     clear hca
     rintro _ zy7 ⟨A2,c2,rfl,ho1,hxc⟩
     refine ⟨_,rfl,(unhide hK).trans (hxc.keep _),fun y7 hxd => ?_⟩
     replace hP : Hid (Sp w [] w [] [(b4,24, #[.pointer (some ⟨ga,0,none⟩)]),(b5,24, #[.pointer (some ⟨gb,0,none⟩)]),(b2,103, #[.func (.func fd) #[] caps]),(b1,82, #[.slice none 0 0])] [(81,3, .slice A1 nv c1,nv,V.flatMap encV),(81,3, .slice A2 nu c2,nu,V'.flatMap encV)] y7) := hide (((unhide hP).addRow hxc ho1).ext hxd)
     replace hK := hide ((unhide hK).trans ((hxc.trans hxd).keep _))
     clear ho1
     clear hxc hxd
     try go_frame
     refine lx_one (i := 5) (by kernel_rfl) rfl (by rfl) #[true,true,true,true,true,true,false,false] (by rfl) ?_
     refine (unhide hP).allocL (unhide hK) (v := fun b => .pointer (some ⟨b,0,none⟩)) 82 #[.slice none 0 0] ?_ ?_
     ·go_simp
     intro b3 y8 hQ hK2 hg2
     replace hP : Hid (Sp w [] w [] [(b4,24, #[.pointer (some ⟨ga,0,none⟩)]),(b5,24, #[.pointer (some ⟨gb,0,none⟩)]),(b2,103, #[.func (.func fd) #[] caps]),(b1,82, #[.slice none 0 0]),(b3,82, #[.slice none 0 0])] [(81,3, .slice A1 nv c1,nv,V.flatMap encV),(81,3, .slice A2 nu c2,nu,V'.flatMap encV)] y8) := hide hQ
     replace hK := hide hK2
     have hge_b3 := hide hg2
     clear hQ hK2 hg2
     try go_frame
     refine lx_one (i := 6) (by kernel_rfl) rfl (by rfl) #[true,true,true,true,true,true,true,false] (by rfl) ?_
     refine (unhide hP).setNL (unhide hK) 3 #[.slice A1 nv c1] rfl (unhide hge_b1) (fun hb => run_store_row (v := .slice A1 nv c1) rfl (by rfl) (by rfl) (by simp [go_sem]) hb rfl (by simp [Value.cells,Value.oneCell'])) ?_
     intro y9 hQ hK2
     replace hP : Hid (Sp w [] w [] [(b4,24, #[.pointer (some ⟨ga,0,none⟩)]),(b5,24, #[.pointer (some ⟨gb,0,none⟩)]),(b2,103, #[.func (.func fd) #[] caps]),(b1,82, #[.slice A1 nv c1]),(b3,82, #[.slice none 0 0])] [(81,3, .slice A1 nv c1,nv,V.flatMap encV),(81,3, .slice A2 nu c2,nu,V'.flatMap encV)] y9) := hide hQ
     replace hK := hide hK2
     clear hQ hK2
     try go_frame
     refine lx_one (i := 7) (by kernel_rfl) rfl (by rfl) #[true,true,true,true,true,true,true,true] (by rfl) ?_
     refine (unhide hP).setNL (unhide hK) 4 #[.slice A2 nu c2] rfl (unhide hge_b3) (fun hb => run_store_row (v := .slice A2 nu c2) rfl (by rfl) (by rfl) (by simp [go_sem]) hb rfl (by simp [Value.cells,Value.oneCell'])) ?_
     intro y10 hQ hK2
     replace hP : Hid (Sp w [] w [] [(b4,24, #[.pointer (some ⟨ga,0,none⟩)]),(b5,24, #[.pointer (some ⟨gb,0,none⟩)]),(b2,103, #[.func (.func fd) #[] caps]),(b1,82, #[.slice A1 nv c1]),(b3,82, #[.slice A2 nu c2])] [(81,3, .slice A1 nv c1,nv,V.flatMap encV),(81,3, .slice A2 nu c2,nu,V'.flatMap encV)] y10) := hide hQ
     replace hK := hide hK2
     clear hQ hK2
     try go_frame
     refine wpX_done (by kernel_rfl) ?_
     try go_frame
     clear hK
     rw [unhide hM]
     exact ⟨b1,b3,A1,c1,A2,c2,rfl,rfl,rfl,rfl,rfl,rfl,rfl,unhide hP⟩
    ·skip
     refine (unhide hP).allocL (unhide hK) (v := fun b => .pointer (some ⟨b,0,none⟩)) 82 #[.slice none 0 0] ?_ ?_
     ·go_simp
     intro b3 y7 hQ hK2 hg2
     replace hP : Hid (Sp w [] w [] [(b4,24, #[.pointer (some ⟨ga,0,none⟩)]),(b5,24, #[.pointer (some ⟨gb,0,none⟩)]),(b2,103, #[.func (.func fd) #[] caps]),(b1,82, #[.slice none 0 0]),(b3,82, #[.slice none 0 0])] [(81,3, .slice A1 nv c1,nv,V.flatMap encV)] y7) := hide hQ
     replace hK := hide hK2
     have hge_b3 := hide hg2
     clear hQ hK2 hg2
     try go_frame
     refine lx_one (i := 3) (by kernel_rfl) rfl (by rfl) #[true,true,true,true,true,true,false,false] (by rfl) ?_
     have hca := vertices_rel gb bvb beb V' E' y7 ((unhide hb').ext (unhide hP).extf)
     rw [← unhide hnu] at hca
     go_simp
     refine (hca).mono ?_
     clear hca
     rintro _ zy8 ⟨A2,c2,rfl,ho1,hxc⟩
     refine ⟨_,rfl,(unhide hK).trans (hxc.keep _),fun y8 hxd => ?_⟩
     replace hP : Hid (Sp w [] w [] [(b4,24, #[.pointer (some ⟨ga,0,none⟩)]),(b5,24, #[.pointer (some ⟨gb,0,none⟩)]),(b2,103, #[.func (.func fd) #[] caps]),(b1,82, #[.slice none 0 0]),(b3,82, #[.slice none 0 0])] [(81,3, .slice A1 nv c1,nv,V.flatMap encV),(81,3, .slice A2 nu c2,nu,V'.flatMap encV)] y8) := hide (((unhide hP).addRow hxc ho1).ext hxd)
     replace hK := hide ((unhide hK).trans ((hxc.trans hxd).keep _))
     clear ho1
     clear hxc hxd
     try go_frame
     refine lx_one (i := 6) (by kernel_rfl) rfl (by rfl) #[true,true,true,true,true,true,true,false] (by rfl) ?_
     refine (unhide hP).setNL (unhide hK) 3 #[.slice A1 nv c1] rfl (unhide hge_b1) (fun hb => run_store_row (v := .slice A1 nv c1) rfl (by rfl) (by rfl) (by simp [go_sem]) hb rfl (by simp [Value.cells,Value.oneCell'])) ?_
     intro y9 hQ hK2
     replace hP : Hid (Sp w [] w [] [(b4,24, #[.pointer (some ⟨ga,0,none⟩)]),(b5,24, #[.pointer (some ⟨gb,0,none⟩)]),(b2,103, #[.func (.func fd) #[] caps]),(b1,82, #[.slice A1 nv c1]),(b3,82, #[.slice none 0 0])] [(81,3, .slice A1 nv c1,nv,V.flatMap encV),(81,3, .slice A2 nu c2,nu,V'.flatMap encV)] y9) := hide hQ
     replace hK := hide hK2
     clear hQ hK2
     try go_frame
     refine lx_one (i := 7) (by kernel_rfl) rfl (by rfl) #[true,true,true,true,true,true,true,true] (by rfl) ?_
     refine (unhide hP).setNL (unhide hK) 4 #[.slice A2 nu c2] rfl (unhide hge_b3) (fun hb => run_store_row (v := .slice A2 nu c2) rfl (by rfl) (by rfl) (by simp [go_sem]) hb rfl (by simp [Value.cells,Value.oneCell'])) ?_
     intro y10 hQ hK2
     replace hP : Hid (Sp w [] w [] [(b4,24, #[.pointer (some ⟨ga,0,none⟩)]),(b5,24, #[.pointer (some ⟨gb,0,none⟩)]),(b2,103, #[.func (.func fd) #[] caps]),(b1,82, #[.slice A1 nv c1]),(b3,82, #[.slice A2 nu c2])] [(81,3, .slice A1 nv c1,nv,V.flatMap encV),(81,3, .slice A2 nu c2,nu,V'.flatMap encV)] y10) := hide hQ
     replace hK := hide hK2
     clear hQ hK2
     try go_frame
     refine wpX_done (by kernel_rfl) ?_
     try go_frame
     clear hK
     rw [unhide hM]
     exact ⟨b1,b3,A1,c1,A2,c2,rfl,rfl,rfl,rfl,rfl,rfl,rfl,unhide hP⟩
   ·skip
    refine (unhide hP).allocL (unhide hK) (v := fun b => .pointer (some ⟨b,0,none⟩)) 82 #[.slice none 0 0] ?_ ?_
    ·go_simp
    intro b3 y6 hQ hK2 hg2
    replace hP : Hid (Sp w [] w [] [(b4,24, #[.pointer (some ⟨ga,0,none⟩)]),(b5,24, #[.pointer (some ⟨gb,0,none⟩)]),(b2,103, #[.func (.func fd) #[] caps]),(b3,82, #[.slice none 0 0])] [(81,3, .slice A1 nv c1,nv,V.flatMap encV)] y6) := hide hQ
    replace hK := hide hK2
    have hge_b3 := hide hg2
    clear hQ hK2 hg2
    try go_frame
    refine lx_two (i := 3) (k := 4) (by kernel_rfl) rfl (by rfl) #[true,true,true,true,false,true,false,false] (by rfl) rfl (by rfl) #[true,true,true,false,true,true,false,false] (by rfl) ?_ ?_
    ·skip
     have hca := vertices_rel gb bvb beb V' E' y6 ((unhide hb').ext (unhide hP).extf)
     rw [← unhide hnu] at hca
     go_simp
     refine (hca).mono ?_
     clear hca
     rintro _ zy7 ⟨A2,c2,rfl,ho1,hxc⟩
     refine ⟨_,rfl,(unhide hK).trans (hxc.keep _),fun y7 hxd => ?_⟩
     replace hP : Hid (Sp w [] w [] [(b4,24, #[.pointer (some ⟨ga,0,none⟩)]),(b5,24, #[.pointer (some ⟨gb,0,none⟩)]),(b2,103, #[.func (.func fd) #[] caps]),(b3,82, #[.slice none 0 0])] [(81,3, .slice A1 nv c1,nv,V.flatMap encV),(81,3, .slice A2 nu c2,nu,V'.flatMap encV)] y7) := hide (((unhide hP).addRow hxc ho1).ext hxd)
     replace hK := hide ((unhide hK).trans ((hxc.trans hxd).keep _))
     clear ho1
     clear hxc hxd
     try go_frame
     refine lx_one (i := 4) (by kernel_rfl) rfl (by rfl) #[true,true,true,true,true,true,false,false] (by rfl) ?_
     refine (unhide hP).allocL (unhide hK) (v := fun b => .pointer (some ⟨b,0,none⟩)) 82 #[.slice none 0 0] ?_ ?_
     ·go_simp
     intro b1 y8 hQ hK2 hg2
     replace hP : Hid (Sp w [] w [] [(b4,24, #[.pointer (some ⟨ga,0,none⟩)]),(b5,24, #[.pointer (some ⟨gb,0,none⟩)]),(b2,103, #[.func (.func fd) #[] caps]),(b3,82, #[.slice none 0 0]),(b1,82, #[.slice none 0 0])] [(81,3, .slice A1 nv c1,nv,V.flatMap encV),(81,3, .slice A2 nu c2,nu,V'.flatMap encV)] y8) := hide hQ
     replace hK := hide hK2
     have hge_b1 := hide hg2
     clear hQ hK2 hg2
     try go_frame
     refine lx_one (i := 6) (by kernel_rfl) rfl (by rfl) #[true,true,true,true,true,true,true,false] (by rfl) ?_
     refine (unhide hP).setNL (unhide hK) 4 #[.slice A1 nv c1] rfl (unhide hge_b1) (fun hb => run_store_row (v := .slice A1 nv c1) rfl (by rfl) (by rfl) (by simp [go_sem]) hb rfl (by simp [Value.cells,Value.oneCell'])) ?_
     intro y9 hQ hK2
     replace hP : Hid (Sp w [] w [] [(b4,24, #[.pointer (some ⟨ga,0,none⟩)]),(b5,24, #[.pointer (some ⟨gb,0,none⟩)]),(b2,103, #[.func (.func fd) #[] caps]),(b3,82, #[.slice none 0 0]),(b1,82, #[.slice A1 nv c1])] [(81,3, .slice A1 nv c1,nv,V.flatMap encV),(81,3, .slice A2 nu c2,nu,V'.flatMap encV)] y9) := hide hQ
     replace hK := hide hK2
     clear hQ hK2
     try go_frame
     refine lx_one (i := 7) (by kernel_rfl) rfl (by rfl) #[true,true,true,true,true,true,true,true] (by rfl) ?_
     refine (unhide hP).setNL (unhide hK) 3 #[.slice A2 nu c2] rfl (unhide hge_b3) (fun hb => run_store_row (v := .slice A2 nu c2) rfl (by rfl) (by rfl) (by simp [go_sem]) hb rfl (by simp [Value.cells,Value.oneCell'])) ?_
     intro y10 hQ hK2
     replace hP : Hid (Sp w [] w [] [(b4,24, #[.pointer (some ⟨ga,0,none⟩)]),(b5,24, #[.pointer (some ⟨gb,0,none⟩)]),(b2,103, #[.func (.func fd) #[] caps]),(b3,82, #[.slice A2 nu c2]),(b1,82, #[.slice A1 nv c1])] [(81,3, .slice A1 nv c1,nv,V.flatMap encV),(81,3, .slice A2 nu c2,nu,V'.flatMap encV)] y10) := hide hQ
     replace hK := hide hK2
     clear hQ hK2
     try go_frame
     refine wpX_done (by kernel_rfl) ?_
     try go_frame
     clear hK
     rw [unhide hM]
     exact ⟨b1,b3,A1,c1,A2,c2,rfl,rfl,rfl,rfl,rfl,rfl,rfl,Sp.swapL (L := [(b4,24, #[.pointer (some ⟨ga,0,none⟩)]),(b5,24, #[.pointer (some ⟨gb,0,none⟩)]),(b2,103, #[.func (.func fd) #[] caps])]) (y := (b3,82, #[.slice A2 nu c2])) (x := (b1,82, #[.slice A1 nv c1])) (unhide hP)⟩
    ·skip
     refine (unhide hP).allocL (unhide hK) (v := fun b => .pointer (some ⟨b,0,none⟩)) 82 #[.slice none 0 0] ?_ ?_
     ·go_simp
     intro b1 y7 hQ hK2 hg2
     replace hP : Hid (Sp w [] w [] [(b4,24, #[.pointer (some ⟨ga,0,none⟩)]),(b5,24, #[.pointer (some ⟨gb,0,none⟩)]),(b2,103, #[.func (.func fd) #[] caps]),(b3,82, #[.slice none 0 0]),(b1,82, #[.slice none 0 0])] [(81,3, .slice A1 nv c1,nv,V.flatMap encV)] y7) := hide hQ
     replace hK := hide hK2
     have hge_b1 := hide hg2
     clear hQ hK2 hg2
     try go_frame
     refine lx_one (i := 3) (by kernel_rfl) rfl (by rfl) #[true,true,true,true,true,true,false,false] (by rfl) ?_
     have hca := vertices_rel gb bvb beb V' E' y7 ((unhide hb').ext (unhide hP).extf)
     rw [← unhide hnu] at hca
     go_simp
     refine (hca).mono ?_
     clear hca
     rintro _ zy8 ⟨A2,c2,rfl,ho1,hxc⟩
     refine ⟨_,rfl,(unhide hK).trans (hxc.keep _),fun y8 hxd => ?_⟩
     replace hP : Hid (Sp w [] w [] [(b4,24, #[.pointer (some ⟨ga,0,none⟩)]),(b5,24, #[.pointer (some ⟨gb,0,none⟩)]),(b2,103, #[.func (.func fd) #[] caps]),(b3,82, #[.slice none 0 0]),(b1,82, #[.slice none 0 0])] [(81,3, .slice A1 nv c1,nv,V.flatMap encV),(81,3, .slice A2 nu c2,nu,V'.flatMap encV)] y8) := hide (((unhide hP).addRow hxc ho1).ext hxd)
     replace hK := hide ((unhide hK).trans ((hxc.trans hxd).keep _))
     clear ho1
     clear hxc hxd
     try go_frame
     refine lx_one (i := 6) (by kernel_rfl) rfl (by rfl) #[true,true,true,true,true,true,true,false] (by rfl) ?_
     refine (unhide hP).setNL (unhide hK) 4 #[.slice A1 nv c1] rfl (unhide hge_b1) (fun hb => run_store_row (v := .slice A1 nv c1) rfl (by rfl) (by rfl) (by simp [go_sem]) hb rfl (by simp [Value.cells,Value.oneCell'])) ?_
     intro y9 hQ hK2
     replace hP : Hid (Sp w [] w [] [(b4,24, #[.pointer (some ⟨ga,0,none⟩)]),(b5,24, #[.pointer (some ⟨gb,0,none⟩)]),(b2,103, #[.func (.func fd) #[] caps]),(b3,82, #[.slice none 0 0]),(b1,82, #[.slice A1 nv c1])] [(81,3, .slice A1 nv c1,nv,V.flatMap encV),(81,3, .slice A2 nu c2,nu,V'.flatMap encV)] y9) := hide hQ
     replace hK := hide hK2
     clear hQ hK2
     try go_frame
     refine lx_one (i := 7) (by kernel_rfl) rfl (by rfl) #[true,true,true,true,true,true,true,true] (by rfl) ?_
     refine (unhide hP).setNL (unhide hK) 3 #[.slice A2 nu c2] rfl (unhide hge_b3) (fun hb => run_store_row (v := .slice A2 nu c2) rfl (by rfl) (by rfl) (by simp [go_sem]) hb rfl (by simp [Value.cells,Value.oneCell'])) ?_
     intro y10 hQ hK2
     replace hP : Hid (Sp w [] w [] [(b4,24, #[.pointer (some ⟨ga,0,none⟩)]),(b5,24, #[.pointer (some ⟨gb,0,none⟩)]),(b2,103, #[.func (.func fd) #[] caps]),(b3,82, #[.slice A2 nu c2]),(b1,82, #[.slice A1 nv c1])] [(81,3, .slice A1 nv c1,nv,V.flatMap encV),(81,3, .slice A2 nu c2,nu,V'.flatMap encV)] y10) := hide hQ
     replace hK := hide hK2
     clear hQ hK2
     try go_frame
     refine wpX_done (by kernel_rfl) ?_
     try go_frame
     clear hK
     rw [unhide hM]
     exact ⟨b1,b3,A1,c1,A2,c2,rfl,rfl,rfl,rfl,rfl,rfl,rfl,Sp.swapL (L := [(b4,24, #[.pointer (some ⟨ga,0,none⟩)]),(b5,24, #[.pointer (some ⟨gb,0,none⟩)]),(b2,103, #[.func (.func fd) #[] caps])]) (y := (b3,82, #[.slice A2 nu c2])) (x := (b1,82, #[.slice A1 nv c1])) (unhide hP)⟩
  ·skip
   refine (unhide hP).allocL (unhide hK) (v := fun b => .pointer (some ⟨b,0,none⟩)) 82 #[.slice none 0 0] ?_ ?_
   ·go_simp
   intro b1 y5 hQ hK2 hg2
   replace hP : Hid (Sp w [] w [] [(b4,24, #[.pointer (some ⟨ga,0,none⟩)]),(b5,24, #[.pointer (some ⟨gb,0,none⟩)]),(b2,103, #[.func (.func fd) #[] caps]),(b1,82, #[.slice none 0 0])] [] y5) := hide hQ
   replace hK := hide hK2
   have hge_b1 := hide hg2
   clear hQ hK2 hg2
   try go_frame
   refine lx_two (i := 1) (k := 5) (by kernel_rfl) rfl (by rfl) #[true,true,true,false,true,false,false,false] (by rfl) rfl (by rfl) #[true,false,true,false,true,true,false,false] (by rfl) ?_ ?_
   ·skip
    have hca := vertices_rel ga bva bea V E y5 ((unhide ha').ext (unhide hP).extf)
    rw [← unhide hnv'] at hca
    go_simp
    refine (hca).mono ?_
    clear hca
    rintro _ zy6 ⟨A1,c1,rfl,ho1,hxc⟩
    refine ⟨_,rfl,(unhide hK).trans (hxc.keep _),fun y6 hxd => ?_⟩
    replace hP : Hid (Sp w [] w [] [(b4,24, #[.pointer (some ⟨ga,0,none⟩)]),(b5,24, #[.pointer (some ⟨gb,0,none⟩)]),(b2,103, #[.func (.func fd) #[] caps]),(b1,82, #[.slice none 0 0])] [(81,3, .slice A1 nv c1,nv,V.flatMap encV)] y6) := hide (((unhide hP).addRow hxc ho1).ext hxd)
    replace hK := hide ((unhide hK).trans ((hxc.trans hxd).keep _))
    clear ho1
    clear hxc hxd
    try go_frame
    refine lx_two (i := 3) (k := 5) (by kernel_rfl) rfl (by rfl) #[true,true,true,true,true,false,false,false] (by rfl) rfl (by rfl) #[true,true,true,false,true,true,false,false] (by rfl) ?_ ?_
    ·skip
     have hca := vertices_rel gb bvb beb V' E' y6 ((unhide hb').ext (unhide hP).extf)
     rw [← unhide hnu] at hca
     go_simp
     refine (hca).mono ?_
     clear hca
     rintro _ zy7 ⟨A2,c2,rfl,ho1,hxc⟩
     refine ⟨_,rfl,(unhide hK).trans (hxc.keep _),fun y7 hxd => ?_⟩
     replace hP : Hid (Sp w [] w [] [(b4,24, #[.pointer (some ⟨ga,0,none⟩)]),(b5,24, #[.pointer (some ⟨gb,0,none⟩)]),(b2,103, #[.func (.func fd) #[] caps]),(b1,82, #[.slice none 0 0])] [(81,3, .slice A1 nv c1,nv,V.flatMap encV),(81,3, .slice A2 nu c2,nu,V'.flatMap encV)] y7) := hide (((unhide hP).addRow hxc ho1).ext hxd)
     replace hK := hide ((unhide hK).trans ((hxc.trans hxd).keep _))
     clear ho1
     clear hxc hxd
     try go_frame
     refine lx_one (i := 5) (by kernel_rfl) rfl (by rfl) #[true,true,true,true,true,true,false,false] (by rfl) ?_
     refine (unhide hP).allocL (unhide hK) (v := fun b => .pointer (some ⟨b,0,none⟩)) 82 #[.slice none 0 0] ?_ ?_
     ·go_simp
     intro b3 y8 hQ hK2 hg2
     replace hP : Hid (Sp w [] w [] [(b4,24, #[.pointer (some ⟨ga,0,none⟩)]),(b5,24, #[.pointer (some ⟨gb,0,none⟩)]),(b2,103, #[.func (.func fd) #[] caps]),(b1,82, #[.slice none 0 0]),(b3,82, #[.slice none 0 0])] [(81,3, .slice A1 nv c1,nv,V.flatMap encV),(81,3, .slice A2 nu c2,nu,V'.flatMap encV)] y8) := hide hQ
     replace hK := hide hK2
     have hge_b3 := hide hg2
     clear hQ hK2 hg2
     try go_frame
     refine lx_one (i := 6) (by kernel_rfl) rfl (by rfl) #[true,true,true,true,true,true,true,false] (by rfl) ?_
     refine (unhide hP).setNL (unhide hK) 3 #[.slice A1 nv c1] rfl (unhide hge_b1) (fun hb => run_store_row (v := .slice A1 nv c1) rfl (by rfl) (by rfl) (by simp [go_sem]) hb rfl (by simp [Value.cells,Value.oneCell'])) ?_
     intro y9 hQ hK2
     replace hP : Hid (Sp w [] w [] [(b4,24, #[.pointer (some ⟨ga,0,none⟩)]),(b5,24, #[.pointer (some ⟨gb,0,none⟩)]),(b2,103, #[.func (.func fd) #[] caps]),(b1,82, #[.slice A1 nv c1]),(b3,82, #[.slice none 0 0])] [(81,3, .slice A1 nv c1,nv,V.flatMap encV),(81,3, .slice A2 nu c2,nu,V'.flatMap encV)] y9) := hide hQ
     replace hK := hide hK2
     clear hQ hK2
     try go_frame
     refine lx_one (i := 7) (by kernel_rfl) rfl (by rfl) #[true,true,true,true,true,true,true,true] (by rfl) ?_
     refine (unhide hP).setNL (unhide hK) 4 #[.slice A2 nu c2] rfl (unhide hge_b3) (fun hb => run_store_row (v := .slice A2 nu c2) rfl (by rfl) (by rfl) (by simp [go_sem]) hb rfl (by simp [Value.cells,Value.oneCell'])) ?_
     intro y10 hQ hK2
     replace hP : Hid (Sp w [] w [] [(b4,24, #[.pointer (some ⟨ga,0,none⟩)]),(b5,24, #[.pointer (some ⟨gb,0,none⟩)]),(b2,103, #[.func (.func fd) #[] caps]),(b1,82, #[.slice A1 nv c1]),(b3,82, #[.slice A2 nu c2])] [(81,3, .slice A1 nv c1,nv,V.flatMap encV),(81,3, .slice A2 nu c2,nu,V'.flatMap encV)] y10) := hide hQ
     replace hK := hide hK2
     clear hQ hK2
     try go_frame
     refine wpX_done (by kernel_rfl) ?_
     try go_frame
     clear hK
     rw [unhide hM]
     exact ⟨b1,b3,A1,c1,A2,c2,rfl,rfl,rfl,rfl,rfl,rfl,rfl,unhide hP⟩
    ·skip
     refine (unhide hP).allocL (unhide hK) (v := fun b => .pointer (some ⟨b,0,none⟩)) 82 #[.slice none 0 0] ?_ ?_
     ·go_simp
     intro b3 y7 hQ hK2 hg2
     replace hP : Hid (Sp w [] w [] [(b4,24, #[.pointer (some ⟨ga,0,none⟩)]),(b5,24, #[.pointer (some ⟨gb,0,none⟩)]),(b2,103, #[.func (.func fd) #[] caps]),(b1,82, #[.slice none 0 0]),(b3,82, #[.slice none 0 0])] [(81,3, .slice A1 nv c1,nv,V.flatMap encV)] y7) := hide hQ
     replace hK := hide hK2
     have hge_b3 := hide hg2
     clear hQ hK2 hg2
     try go_frame
     refine lx_one (i := 3) (by kernel_rfl) rfl (by rfl) #[true,true,true,true,true,true,false,false] (by rfl) ?_
     have hca := vertices_rel gb bvb beb V' E' y7 ((unhide hb').ext (unhide hP).extf)
     rw [← unhide hnu] at hca
     go_simp
     refine (hca).mono ?_
     clear hca
     rintro _ zy8 ⟨A2,c2,rfl,ho1,hxc⟩
     refine ⟨_,rfl,(unhide hK).trans (hxc.keep _),fun y8 hxd => ?_⟩
     replace hP : Hid (Sp w [] w [] [(b4,24, #[.pointer (some ⟨ga,0,none⟩)]),(b5,24, #[.pointer (some ⟨gb,0,none⟩)]),(b2,103, #[.func (.func fd) #[] caps]),(b1,82, #[.slice none 0 0]),(b3,82, #[.slice none 0 0])] [(81,3, .slice A1 nv c1,nv,V.flatMap encV),(81,3, .slice A2 nu c2,nu,V'.flatMap encV)] y8) := hide (((unhide hP).addRow hxc ho1).ext hxd)
     replace hK := hide ((unhide hK).trans ((hxc.trans hxd).keep _))
     clear ho1
     clear hxc hxd
     try go_frame
     refine lx_one (i := 6) (by kernel_rfl) rfl (by rfl) #[true,true,true,true,true,true,true,false] (by rfl) ?_
     refine (unhide hP).setNL (unhide hK) 3 #[.slice A1 nv c1] rfl (unhide hge_b1) (fun hb => run_store_row (v := .slice A1 nv c1) rfl (by rfl) (by rfl) (by simp [go_sem]) hb rfl (by simp [Value.cells,Value.oneCell'])) ?_
     intro y9 hQ hK2
     replace hP : Hid (Sp w [] w [] [(b4,24, #[.pointer (some ⟨ga,0,none⟩)]),(b5,24, #[.pointer (some ⟨gb,0,none⟩)]),(b2,103, #[.func (.func fd) #[] caps]),(b1,82, #[.slice A1 nv c1]),(b3,82, #[.slice none 0 0])] [(81,3, .slice A1 nv c1,nv,V.flatMap encV),(81,3, .slice A2 nu c2,nu,V'.flatMap encV)] y9) := hide hQ
     replace hK := hide hK2
     clear hQ hK2
     try go_frame
     refine lx_one (i := 7) (by kernel_rfl) rfl (by rfl) #[true,true,true,true,true,true,true,true] (by rfl) ?_
     refine (unhide hP).setNL (unhide hK) 4 #[.slice A2 nu c2] rfl (unhide hge_b3) (fun hb => run_store_row (v := .slice A2 nu c2) rfl (by rfl) (by rfl) (by simp [go_sem]) hb rfl (by simp [Value.cells,Value.oneCell'])) ?_
     intro y10 hQ hK2
     replace hP : Hid (Sp w [] w [] [(b4,24, #[.pointer (some ⟨ga,0,none⟩)]),(b5,24, #[.pointer (some ⟨gb,0,none⟩)]),(b2,103, #[.func (.func fd) #[] caps]),(b1,82, #[.slice A1 nv c1]),(b3,82, #[.slice A2 nu c2])] [(81,3, .slice A1 nv c1,nv,V.flatMap encV),(81,3, .slice A2 nu c2,nu,V'.flatMap encV)] y10) := hide hQ
     replace hK := hide hK2
     clear hQ hK2
     try go_frame
     refine wpX_done (by kernel_rfl) ?_
     try go_frame
     clear hK
     rw [unhide hM]
     exact ⟨b1,b3,A1,c1,A2,c2,rfl,rfl,rfl,rfl,rfl,rfl,rfl,unhide hP⟩
   ·skip
    refine (unhide hP).allocL (unhide hK) (v := fun b => .pointer (some ⟨b,0,none⟩)) 82 #[.slice none 0 0] ?_ ?_
    ·go_simp
    intro b3 y6 hQ hK2 hg2
    replace hP : Hid (Sp w [] w [] [(b4,24, #[.pointer (some ⟨ga,0,none⟩)]),(b5,24, #[.pointer (some ⟨gb,0,none⟩)]),(b2,103, #[.func (.func fd) #[] caps]),(b1,82, #[.slice none 0 0]),(b3,82, #[.slice none 0 0])] [] y6) := hide hQ
    replace hK := hide hK2
    have hge_b3 := hide hg2
    clear hQ hK2 hg2
    try go_frame
    refine lx_one (i := 1) (by kernel_rfl) rfl (by rfl) #[true,true,true,false,true,true,false,false] (by rfl) ?_
    have hca := vertices_rel ga bva bea V E y6 ((unhide ha').ext (unhide hP).extf)
    rw [← unhide hnv'] at hca
    go_simp
    refine (hca).mono ?_
    clear hca
    rintro _ zy7 ⟨A1,c1,rfl,ho1,hxc⟩
    refine ⟨_,rfl,(unhide hK).trans (hxc.keep _),fun y7 hxd => ?_⟩
    replace hP : Hid (Sp w [] w [] [(b4,24, #[.pointer (some ⟨ga,0,none⟩)]),(b5,24, #[.pointer (some ⟨gb,0,none⟩)]),(b2,103, #[.func (.func fd) #[] caps]),(b1,82, #[.slice none 0 0]),(b3,82, #[.slice none 0 0])] [(81,3, .slice A1 nv c1,nv,V.flatMap encV)] y7) := hide (((unhide hP).addRow hxc ho1).ext hxd)
    replace hK := hide ((unhide hK).trans ((hxc.trans hxd).keep _))
    clear ho1
    clear hxc hxd
    try go_frame
    refine lx_one (i := 3) (by kernel_rfl) rfl (by rfl) #[true,true,true,true,true,true,false,false] (by rfl) ?_
    have hca := vertices_rel gb bvb beb V' E' y7 ((unhide hb').ext (unhide hP).extf)
    rw [← unhide hnu] at hca
    go_simp
    refine (hca).mono ?_
    clear hca
    rintro _ zy8 ⟨A2,c2,rfl,ho1,hxc⟩
    refine ⟨_,rfl,(unhide hK).trans (hxc.keep _),fun y8 hxd => ?_⟩
    replace hP : Hid (Sp w [] w [] [(b4,24, #[.pointer (some ⟨ga,0,none⟩)]),(b5,24, #[.pointer (some ⟨gb,0,none⟩)]),(b2,103, #[.func (.func fd) #[] caps]),(b1,82, #[.slice none 0 0]),(b3,82, #[.slice none 0 0])] [(81,3, .slice A1 nv c1,nv,V.flatMap encV),(81,3, .slice A2 nu c2,nu,V'.flatMap encV)] y8) := hide (((unhide hP).addRow hxc ho1).ext hxd)
    replace hK := hide ((unhide hK).trans ((hxc.trans hxd).keep _))
    clear ho1
    clear hxc hxd
    try go_frame
    refine lx_one (i := 6) (by kernel_rfl) rfl (by rfl) #[true,true,true,true,true,true,true,false] (by rfl) ?_
    refine (unhide hP).setNL (unhide hK) 3 #[.slice A1 nv c1] rfl (unhide hge_b1) (fun hb => run_store_row (v := .slice A1 nv c1) rfl (by rfl) (by rfl) (by simp [go_sem]) hb rfl (by simp [Value.cells,Value.oneCell'])) ?_
    intro y9 hQ hK2
    replace hP : Hid (Sp w [] w [] [(b4,24, #[.pointer (some ⟨ga,0,none⟩)]),(b5,24, #[.pointer (some ⟨gb,0,none⟩)]),(b2,103, #[.func (.func fd) #[] caps]),(b1,82, #[.slice A1 nv c1]),(b3,82, #[.slice none 0 0])] [(81,3, .slice A1 nv c1,nv,V.flatMap encV),(81,3, .slice A2 nu c2,nu,V'.flatMap encV)] y9) := hide hQ
    replace hK := hide hK2
    clear hQ hK2
    try go_frame
    refine lx_one (i := 7) (by kernel_rfl) rfl (by rfl) #[true,true,true,true,true,true,true,true] (by rfl) ?_
    refine (unhide hP).setNL (unhide hK) 4 #[.slice A2 nu c2] rfl (unhide hge_b3) (fun hb => run_store_row (v := .slice A2 nu c2) rfl (by rfl) (by rfl) (by simp [go_sem]) hb rfl (by simp [Value.cells,Value.oneCell'])) ?_
    intro y10 hQ hK2
    replace hP : Hid (Sp w [] w [] [(b4,24, #[.pointer (some ⟨ga,0,none⟩)]),(b5,24, #[.pointer (some ⟨gb,0,none⟩)]),(b2,103, #[.func (.func fd) #[] caps]),(b1,82, #[.slice A1 nv c1]),(b3,82, #[.slice A2 nu c2])] [(81,3, .slice A1 nv c1,nv,V.flatMap encV),(81,3, .slice A2 nu c2,nu,V'.flatMap encV)] y10) := hide hQ
    replace hK := hide hK2
    clear hQ hK2
    try go_frame
    refine wpX_done (by kernel_rfl) ?_
    try go_frame
    clear hK
    rw [unhide hM]
    exact ⟨b1,b3,A1,c1,A2,c2,rfl,rfl,rfl,rfl,rfl,rfl,rfl,unhide hP⟩
  ·skip
   refine (unhide hP).allocL (unhide hK) (v := fun b => .pointer (some ⟨b,0,none⟩)) 82 #[.slice none 0 0] ?_ ?_
   ·go_simp
   intro b3 y5 hQ hK2 hg2
   replace hP : Hid (Sp w [] w [] [(b4,24, #[.pointer (some ⟨ga,0,none⟩)]),(b5,24, #[.pointer (some ⟨gb,0,none⟩)]),(b2,103, #[.func (.func fd) #[] caps]),(b3,82, #[.slice none 0 0])] [] y5) := hide hQ
   replace hK := hide hK2
   have hge_b3 := hide hg2
   clear hQ hK2 hg2
   try go_frame
   refine lx_two (i := 1) (k := 4) (by kernel_rfl) rfl (by rfl) #[true,true,true,false,false,true,false,false] (by rfl) rfl (by rfl) #[true,false,true,false,true,true,false,false] (by rfl) ?_ ?_
   ·skip
    have hca := vertices_rel ga bva bea V E y5 ((unhide ha').ext (unhide hP).extf)
    rw [← unhide hnv'] at hca
    go_simp
    refine (hca).mono ?_
    clear hca
    rintro _ zy6 ⟨A1,c1,rfl,ho1,hxc⟩
    refine ⟨_,rfl,(unhide hK).trans (hxc.keep _),fun y6 hxd => ?_⟩
    replace hP : Hid (Sp w [] w [] [(b4,24, #[.pointer (some ⟨ga,0,none⟩)]),(b5,24, #[.pointer (some ⟨gb,0,none⟩)]),(b2,103, #[.func (.func fd) #[] caps]),(b3,82, #[.slice none 0 0])] [(81,3, .slice A1 nv c1,nv,V.flatMap encV)] y6) := hide (((unhide hP).addRow hxc ho1).ext hxd)
    replace hK := hide ((unhide hK).trans ((hxc.trans hxd).keep _))
    clear ho1
    clear hxc hxd
    try go_frame
    refine lx_two (i := 3) (k := 4) (by kernel_rfl) rfl (by rfl) #[true,true,true,true,false,true,false,false] (by rfl) rfl (by rfl) #[true,true,true,false,true,true,false,false] (by rfl) ?_ ?_
    ·skip
     have hca := vertices_rel gb bvb beb V' E' y6 ((unhide hb').ext (unhide hP).extf)
     rw [← unhide hnu] at hca
     go_simp
     refine (hca).mono ?_
     clear hca
     rintro _ zy7 ⟨A2,c2,rfl,ho1,hxc⟩
     refine ⟨_,rfl,(unhide hK).trans (hxc.keep _),fun y7 hxd => ?_⟩
     replace hP : Hid (Sp w [] w [] [(b4,24, #[.pointer (some ⟨ga,0,none⟩)]),(b5,24, #[.pointer (some ⟨gb,0,none⟩)]),(b2,103, #[.func (.func fd) #[] caps]),(b3,82, #[.slice none 0 0])] [(81,3, .slice A1 nv c1,nv,V.flatMap encV),(81,3, .slice A2 nu c2,nu,V'.flatMap encV)] y7) := hide (((unhide hP).addRow hxc ho1).ext hxd)
     replace hK := hide ((unhide hK).trans ((hxc.trans hxd).keep _))
     clear ho1
     clear hxc hxd
     try go_frame
     refine lx_one (i := 4) (by kernel_rfl) rfl (by rfl) #[true,true,true,true,true,true,false,false] (by rfl) ?_
     refine (unhide hP).allocL (unhide hK) (v := fun b => .pointer (some ⟨b,0,none⟩)) 82 #[.slice none 0 0] ?_ ?_
     ·go_simp
     intro b1 y8 hQ hK2 hg2
     replace hP : Hid (Sp w [] w [] [(b4,24, #[.pointer (some ⟨ga,0,none⟩)]),(b5,24, #[.pointer (some ⟨gb,0,none⟩)]),(b2,103, #[.func (.func fd) #[] caps]),(b3,82, #[.slice none 0 0]),(b1,82, #[.slice none 0 0])] [(81,3, .slice A1 nv c1,nv,V.flatMap encV),(81,3, .slice A2 nu c2,nu,V'.flatMap encV)] y8) := hide hQ
     replace hK := hide hK2
     have hge_b1 := hide hg2
     clear hQ hK2 hg2
     try go_frame
     refine lx_one (i := 6) (by kernel_rfl) rfl (by rfl) #[true,true,true,true,true,true,true,false] (by rfl) ?_
     refine (unhide hP).setNL (unhide hK) 4 #[.slice A1 nv c1] rfl (unhide hge_b1) (fun hb => run_store_row (v := .slice A1 nv c1) rfl (by rfl) (by rfl) (by simp [go_sem]) hb rfl (by simp [Value.cells,Value.oneCell'])) ?_
     intro y9 hQ hK2
     replace hP : Hid (Sp w [] w [] [(b4,24, #[.pointer (some ⟨ga,0,none⟩)]),(b5,24, #[.pointer (some ⟨gb,0,none⟩)]),(b2,103, #[.func (.func fd) #[] caps]),(b3,82, #[.slice none 0 0]),(b1,82, #[.slice A1 nv c1])] [(81,3, .slice A1 nv c1,nv,V.flatMap encV),(81,3, .slice A2 nu c2,nu,V'.flatMap encV)] y9) := hide hQ
     replace hK := hide hK2
     clear hQ hK2
     try go_frame
     refine lx_one (i := 7) (by kernel_rfl) rfl (by rfl) #[true,true,true,true,true,true,true,true] (by rfl) ?_
     refine (unhide hP).setNL (unhide hK) 3 #[.slice A2 nu c2] rfl (unhide hge_b3) (fun hb => run_store_row (v := .slice A2 nu c2) rfl (by rfl) (by rfl) (by simp [go_sem]) hb rfl (by simp [Value.cells,Value.oneCell'])) ?_
     intro y10 hQ hK2
     replace hP : Hid (Sp w [] w [] [(b4,24, #[.pointer (some ⟨ga,0,none⟩)]),(b5,24, #[.pointer (some ⟨gb,0,none⟩)]),(b2,103, #[.func (.func fd) #[] caps]),(b3,82, #[.slice A2 nu c2]),(b1,82, #[.slice A1 nv c1])] [(81,3, .slice A1 nv c1,nv,V.flatMap encV),(81,3, .slice A2 nu c2,nu,V'.flatMap encV)] y10) := hide hQ
     replace hK := hide hK2
     clear hQ hK2
     try go_frame
     refine wpX_done (by kernel_rfl) ?_
     try go_frame
     clear hK
     rw [unhide hM]
     exact ⟨b1,b3,A1,c1,A2,c2,rfl,rfl,rfl,rfl,rfl,rfl,rfl,Sp.swapL (L := [(b4,24, #[.pointer (some ⟨ga,0,none⟩)]),(b5,24, #[.pointer (some ⟨gb,0,none⟩)]),(b2,103, #[.func (.func fd) #[] caps])]) (y := (b3,82, #[.slice A2 nu c2])) (x := (b1,82, #[.slice A1 nv c1])) (unhide hP)⟩
    ·skip
     refine (unhide hP).allocL (unhide hK) (v := fun b => .pointer (some ⟨b,0,none⟩)) 82 #[.slice none 0 0] ?_ ?_
     ·go_simp
     intro b1 y7 hQ hK2 hg2
     replace hP : Hid (Sp w [] w [] [(b4,24, #[.pointer (some ⟨ga,0,none⟩)]),(b5,24, #[.pointer (some ⟨gb,0,none⟩)]),(b2,103, #[.func (.func fd) #[] caps]),(b3,82, #[.slice none 0 0]),(b1,82, #[.slice none 0 0])] [(81,3, .slice A1 nv c1,nv,V.flatMap encV)] y7) := hide hQ
     replace hK := hide hK2
     have hge_b1 := hide hg2
     clear hQ hK2 hg2
     try go_frame
     refine lx_one (i := 3) (by kernel_rfl) rfl (by rfl) #[true,true,true,true,true,true,false,false] (by rfl) ?_
     have hca := vertices_rel gb bvb beb V' E' y7 ((unhide hb').ext (unhide hP).extf)
     rw [← unhide hnu] at hca
     go_simp
     refine (hca).mono ?_
     clear hca
     rintro _ zy8 ⟨A2,c2,rfl,ho1,hxc⟩
     refine ⟨_,rfl,(unhide hK).trans (hxc.keep _),fun y8 hxd => ?_⟩
     replace hP : Hid (Sp w [] w [] [(b4,24, #[.pointer (some ⟨ga,0,none⟩)]),(b5,24, #[.pointer (some ⟨gb,0,none⟩)]),(b2,103, #[.func (.func fd) #[] caps]),(b3,82, #[.slice none 0 0]),(b1,82, #[.slice none 0 0])] [(81,3, .slice A1 nv c1,nv,V.flatMap encV),(81,3, .slice A2 nu c2,nu,V'.flatMap encV)] y8) := hide (((unhide hP).addRow hxc ho1).ext hxd)
     replace hK := hide ((unhide hK).trans ((hxc.trans hxd).keep _))
     clear ho1
     clear hxc hxd
     try go_frame
     refine lx_one (i := 6) (by kernel_rfl) rfl (by rfl) #[true,true,true,true,true,true,true,false] (by rfl) ?_
     refine (unhide hP).setNL (unhide hK) 4 #[.slice A1 nv c1] rfl (unhide hge_b1) (fun hb => run_store_row (v := .slice A1 nv c1) rfl (by rfl) (by rfl) (by simp [go_sem]) hb rfl (by simp [Value.cells,Value.oneCell'])) ?_
     intro y9 hQ hK2
     replace hP : Hid (Sp w [] w [] [(b4,24, #[.pointer (some ⟨ga,0,none⟩)]),(b5,24, #[.pointer (some ⟨gb,0,none⟩)]),(b2,103, #[.func (.func fd) #[] caps]),(b3,82, #[.slice none 0 0]),(b1,82, #[.slice A1 nv c1])] [(81,3, .slice A1 nv c1,nv,V.flatMap encV),(81,3, .slice A2 nu c2,nu,V'.flatMap encV)] y9) := hide hQ
     replace hK := hide hK2
     clear hQ hK2
     try go_frame
     refine lx_one (i := 7) (by kernel_rfl) rfl (by rfl) #[true,true,true,true,true,true,true,true] (by rfl) ?_
     refine (unhide hP).setNL (unhide hK) 3 #[.slice A2 nu c2] rfl (unhide hge_b3) (fun hb => run_store_row (v := .slice A2 nu c2) rfl (by rfl) (by rfl) (by simp [go_sem]) hb rfl (by simp [Value.cells,Value.oneCell'])) ?_
     intro y10 hQ hK2
     replace hP : Hid (Sp w [] w [] [(b4,24, #[.pointer (some ⟨ga,0,none⟩)]),(b5,24, #[.pointer (some ⟨gb,0,none⟩)]),(b2,103, #[.func (.func fd) #[] caps]),(b3,82, #[.slice A2 nu c2]),(b1,82, #[.slice A1 nv c1])] [(81,3, .slice A1 nv c1,nv,V.flatMap encV),(81,3, .slice A2 nu c2,nu,V'.flatMap encV)] y10) := hide hQ
     replace hK := hide hK2
     clear hQ hK2
     try go_frame
     refine wpX_done (by kernel_rfl) ?_
     try go_frame
     clear hK
     rw [unhide hM]
     exact ⟨b1,b3,A1,c1,A2,c2,rfl,rfl,rfl,rfl,rfl,rfl,rfl,Sp.swapL (L := [(b4,24, #[.pointer (some ⟨ga,0,none⟩)]),(b5,24, #[.pointer (some ⟨gb,0,none⟩)]),(b2,103, #[.func (.func fd) #[] caps])]) (y := (b3,82, #[.slice A2 nu c2])) (x := (b1,82, #[.slice A1 nv c1])) (unhide hP)⟩
   ·skip
    refine (unhide hP).allocL (unhide hK) (v := fun b => .pointer (some ⟨b,0,none⟩)) 82 #[.slice none 0 0] ?_ ?_
    ·go_simp
    intro b1 y6 hQ hK2 hg2
    replace hP : Hid (Sp w [] w [] [(b4,24, #[.pointer (some ⟨ga,0,none⟩)]),(b5,24, #[.pointer (some ⟨gb,0,none⟩)]),(b2,103, #[.func (.func fd) #[] caps]),(b3,82, #[.slice none 0 0]),(b1,82, #[.slice none 0 0])] [] y6) := hide hQ
    replace hK := hide hK2
    have hge_b1 := hide hg2
    clear hQ hK2 hg2
    try go_frame
    refine lx_one (i := 1) (by kernel_rfl) rfl (by rfl) #[true,true,true,false,true,true,false,false] (by rfl) ?_
    have hca := vertices_rel ga bva bea V E y6 ((unhide ha').ext (unhide hP).extf)
    rw [← unhide hnv'] at hca
    go_simp
    refine (hca).mono ?_
    clear hca
    rintro _ zy7 ⟨A1,c1,rfl,ho1,hxc⟩
    refine ⟨_,rfl,(unhide hK).trans (hxc.keep _),fun y7 hxd => ?_⟩
    replace hP : Hid (Sp w [] w [] [(b4,24, #[.pointer (some ⟨ga,0,none⟩)]),(b5,24, #[.pointer (some ⟨gb,0,none⟩)]),(b2,103, #[.func (.func fd) #[] caps]),(b3,82, #[.slice none 0 0]),(b1,82, #[.slice none 0 0])] [(81,3, .slice A1 nv c1,nv,V.flatMap encV)] y7) := hide (((unhide hP).addRow hxc ho1).ext hxd)
    replace hK := hide ((unhide hK).trans ((hxc.trans hxd).keep _))
    clear ho1
    clear hxc hxd
    try go_frame
    refine lx_one (i := 3) (by kernel_rfl) rfl (by rfl) #[true,true,true,true,true,true,false,false] (by rfl) ?_
    have hca := vertices_rel gb bvb beb V' E' y7 ((unhide hb').ext (unhide hP).extf)
    rw [← unhide hnu] at hca
    go_simp
    refine (hca).mono ?_
    clear hca
    rintro _ zy8 ⟨A2,c2,rfl,ho1,hxc⟩
    refine ⟨_,rfl,(unhide hK).trans (hxc.keep _),fun y8 hxd => ?_⟩
    replace hP : Hid (Sp w [] w [] [(b4,24, #[.pointer (some ⟨ga,0,none⟩)]),(b5,24, #[.pointer (some ⟨gb,0,none⟩)]),(b2,103, #[.func (.func fd) #[] caps]),(b3,82, #[.slice none 0 0]),(b1,82, #[.slice none 0 0])] [(81,3, .slice A1 nv c1,nv,V.flatMap encV),(81,3, .slice A2 nu c2,nu,V'.flatMap encV)] y8) := hide (((unhide hP).addRow hxc ho1).ext hxd)
    replace hK := hide ((unhide hK).trans ((hxc.trans hxd).keep _))
    clear ho1
    clear hxc hxd
    try go_frame
    refine lx_one (i := 6) (by kernel_rfl) rfl (by rfl) #[true,true,true,true,true,true,true,false] (by rfl) ?_
    refine (unhide hP).setNL (unhide hK) 4 #[.slice A1 nv c1] rfl (unhide hge_b1) (fun hb => run_store_row (v := .slice A1 nv c1) rfl (by rfl) (by rfl) (by simp [go_sem]) hb rfl (by simp [Value.cells,Value.oneCell'])) ?_
    intro y9 hQ hK2
    replace hP : Hid (Sp w [] w [] [(b4,24, #[.pointer (some ⟨ga,0,none⟩)]),(b5,24, #[.pointer (some ⟨gb,0,none⟩)]),(b2,103, #[.func (.func fd) #[] caps]),(b3,82, #[.slice none 0 0]),(b1,82, #[.slice A1 nv c1])] [(81,3, .slice A1 nv c1,nv,V.flatMap encV),(81,3, .slice A2 nu c2,nu,V'.flatMap encV)] y9) := hide hQ
    replace hK := hide hK2
    clear hQ hK2
    try go_frame
    refine lx_one (i := 7) (by kernel_rfl) rfl (by rfl) #[true,true,true,true,true,true,true,true] (by rfl) ?_
    refine (unhide hP).setNL (unhide hK) 3 #[.slice A2 nu c2] rfl (unhide hge_b3) (fun hb => run_store_row (v := .slice A2 nu c2) rfl (by rfl) (by rfl) (by simp [go_sem]) hb rfl (by simp [Value.cells,Value.oneCell'])) ?_
    intro y10 hQ hK2
    replace hP : Hid (Sp w [] w [] [(b4,24, #[.pointer (some ⟨ga,0,none⟩)]),(b5,24, #[.pointer (some ⟨gb,0,none⟩)]),(b2,103, #[.func (.func fd) #[] caps]),(b3,82, #[.slice A2 nu c2]),(b1,82, #[.slice A1 nv c1])] [(81,3, .slice A1 nv c1,nv,V.flatMap encV),(81,3, .slice A2 nu c2,nu,V'.flatMap encV)] y10) := hide hQ
    replace hK := hide hK2
    clear hQ hK2
    try go_frame
    refine wpX_done (by kernel_rfl) ?_
    try go_frame
    clear hK
    rw [unhide hM]
    exact ⟨b1,b3,A1,c1,A2,c2,rfl,rfl,rfl,rfl,rfl,rfl,rfl,Sp.swapL (L := [(b4,24, #[.pointer (some ⟨ga,0,none⟩)]),(b5,24, #[.pointer (some ⟨gb,0,none⟩)]),(b2,103, #[.func (.func fd) #[] caps])]) (y := (b3,82, #[.slice A2 nu c2])) (x := (b1,82, #[.slice A1 nv c1])) (unhide hP)⟩
 ·skip
  rintro ⟨tm,dfs⟩ W8 hm
  rw [unhide hM] at hm
  obtain ⟨b1,b3,A1,c1,A2,c2,hsz,hdf,e3,e4,e5,e6,e7,hP8⟩ := hm
  obtain ⟨us,rfl⟩ : ∃ us : Nat → Value,tm = #[us 0,us 1,us 2,us 3,us 4,us 5,us 6,us 7,us 8,us 9,us 10,us 11,us 12,us 13,us 14,us 15,us 16,us 17,us 18,us 19,us 20] := ⟨fun i => tm.getD i undef,arr_fn hsz⟩
  have h3 : us 3 = .pointer (some ⟨b4,0,none⟩) := e3
  have h4 : us 4 = .pointer (some ⟨b5,0,none⟩) := e4
  have h5 : us 5 = .pointer (some ⟨b2,0,none⟩) := e5
  have h6 : us 6 = .pointer (some ⟨b1,0,none⟩) := e6
  have h7 : us 7 = .pointer (some ⟨b3,0,none⟩) := e7
  have hdf2 : dfs = [] := hdf
  subst hdf2
  clear hdf hsz e3 e4 e5 e6 e7
  simp only [h3,h4,h5,h6,h7]
  clear h3 h4 h5 h6 h7 hP hM M
  have hP := hide hP8
  clear hP8
  by_cases hlen : nv = nu
  ·skip
   subst hlen
   have hq : ((nv : Int) != (nv : Int)) = false := by simp
   try dsimp only
   repeat ((fail_if_success (with_reducible refine wp_reg (id := 2) ?_)); (first | go_values | go_skip | go_step | go_guarded | go_upon | go_in | go_back | fail))
   with_reducible refine wp_reg (id := 2) ?_
   refine wpO_val rfl (load_V (v := .slice A1 nv c1) rfl rfl (by simp [go_sem]) (((unhide hP).get 3 rfl).cell 0)) ?_
   go_frame
   refine wpO_want rfl ?_
   go_simp
   refine wpO_val rfl (load_V (v := .slice A2 nv c2) rfl rfl (by simp [go_sem]) (((unhide hP).get 4 rfl).cell 0)) ?_
   go_frame
   iterate 2
    refine wpO_want rfl ?_
    go_simp
   refine wpO_done ?_
   try go_frame
   clear hq
   try dsimp only
   repeat ((fail_if_success (with_reducible refine wp_reg (id := 3) ?_)); (first | go_values | go_skip | go_step | go_guarded | go_upon | go_in | go_back | fail))
   with_reducible refine wp_reg (id := 3) ?_
   refine (unhide hP).allocO 103 #[.nilFunc] rfl (by go_simp) ?_
   intro b6 y21 hQ
   replace hP : Hid (Sp w [] w [] [(b4,24, #[.pointer (some ⟨ga,0,none⟩)]),(b5,24, #[.pointer (some ⟨gb,0,none⟩)]),(b2,103, #[.func (.func fd) #[] caps]),(b1,82, #[.slice A1 nv c1]),(b3,82, #[.slice A2 nv c2]),(b6,103, #[.nilFunc])] [(81,3, .slice A1 nv c1,nv,V.flatMap encV),(81,3, .slice A2 nv c2,nv,V'.flatMap encV)] y21) := hide hQ
   clear hQ
   refine wpO_done ?_
   try go_frame
   try dsimp only
   repeat ((fail_if_success (with_reducible refine wp_reg (id := 4) ?_)); (first | go_values | go_skip | go_step | go_guarded | go_upon | go_in | go_back | fail))
   with_reducible refine wp_reg (id := 4) ?_
   refine wpO_want rfl ?_
   go_simp
   refine (unhide hP).setO 5 #[.func (.func 82) #[] #[.pointer (some ⟨b1,0,none⟩), .pointer (some ⟨b2,0,none⟩), .pointer (some ⟨b3,0,none⟩), .pointer (some ⟨b4,0,none⟩), .pointer (some ⟨b5,0,none⟩), .pointer (some ⟨b6,0,none⟩)]] rfl rfl (fun hb => run_store_row (v := .func (.func 82) #[] #[.pointer (some ⟨b1,0,none⟩), .pointer (some ⟨b2,0,none⟩), .pointer (some ⟨b3,0,none⟩), .pointer (some ⟨b4,0,none⟩), .pointer (some ⟨b5,0,none⟩), .pointer (some ⟨b6,0,none⟩)]) rfl rfl rfl (by simp [go_sem]) hb rfl (by simp [Value.cells,Value.oneCell'])) ?_
   intro y22 hQ
   replace hP : Hid (Sp w [] w [] [(b4,24, #[.pointer (some ⟨ga,0,none⟩)]),(b5,24, #[.pointer (some ⟨gb,0,none⟩)]),(b2,103, #[.func (.func fd) #[] caps]),(b1,82, #[.slice A1 nv c1]),(b3,82, #[.slice A2 nv c2]),(b6,103, #[.func (.func 82) #[] #[.pointer (some ⟨b1,0,none⟩), .pointer (some ⟨b2,0,none⟩), .pointer (some ⟨b3,0,none⟩), .pointer (some ⟨b4,0,none⟩), .pointer (some ⟨b5,0,none⟩), .pointer (some ⟨b6,0,none⟩)]])] [(81,3, .slice A1 nv c1,nv,V.flatMap encV),(81,3, .slice A2 nv c2,nv,V'.flatMap encV)] y22) := hide hQ
   clear hQ
   refine wpO_done ?_
   try go_frame
   try dsimp only
   repeat ((fail_if_success (with_reducible refine wp_reg (id := 5) ?_)); (first | go_values | go_skip | go_step | go_guarded | go_upon | go_in | go_back | fail))
   with_reducible refine wp_reg (id := 5) ?_
   refine wpO_val rfl (load_V (v := .func (.func 82) #[] #[.pointer (some ⟨b1,0,none⟩), .pointer (some ⟨b2,0,none⟩), .pointer (some ⟨b3,0,none⟩), .pointer (some ⟨b4,0,none⟩), .pointer (some ⟨b5,0,none⟩), .pointer (some ⟨b6,0,none⟩)]) rfl rfl (by simp [go_sem]) (((unhide hP).get 5 rfl).cell 0)) ?_
   go_frame
   refine wpO_want rfl ?_
   go_simp
   have hx := hide (unhide hP).extf
   have hge : ∀ x,x ∈ [b1,b2,b3,b4,b5,b6] ++ (blkA A1 ++ blkA A2) → w.heap.size ≤ x ∧ x < y22.heap.size := fun x hm => by
    have hmem : x ∈ stT [(b4,24, #[.pointer (some ⟨ga,0,none⟩)]),(b5,24, #[.pointer (some ⟨gb,0,none⟩)]),(b2,103, #[.func (.func fd) #[] caps]),(b1,82, #[.slice A1 nv c1]),(b3,82, #[.slice A2 nv c2]),(b6,103, #[.func (.func 82) #[] #[.pointer (some ⟨b1,0,none⟩), .pointer (some ⟨b2,0,none⟩), .pointer (some ⟨b3,0,none⟩), .pointer (some ⟨b4,0,none⟩), .pointer (some ⟨b5,0,none⟩), .pointer (some ⟨b6,0,none⟩)]])] [(81,3, .slice A1 nv c1,nv,V.flatMap encV),(81,3, .slice A2 nv c2,nv,V'.flatMap encV)] := by
     rcases List.mem_append.1 hm with hm | hm
     ·refine List.mem_append.2 (.inl ?_)
      simp at hm ⊢
      omega
     ·refine List.mem_append.2 (.inr ?_)
      rcases List.mem_append.1 hm with hm | hm
      ·cases A1 with
       | none => simp [blkA] at hm
       | some a => simp [blkA] at hm; subst hm; simp [rwT,rwB,Value.ownBlock]
      ·cases A2 with
       | none => simp [blkA] at hm
       | some a => simp [blkA] at hm; subst hm; simp [rwT,rwB,Value.ownBlock]
    exact ⟨(unhide hP).st.ge x hmem,(unhide hP).st.lt x hmem⟩
   have hge' := hide hge
   have hH := hide (show PlH J (FxM b1 b2 b3 b4 b5 b6 A1 nv c1 A2 nv c2 ga bva bea gb bvb beb V E V' E' fd caps) (tfM b1 b2 b3 b4 b5 b6 A1 A2 ga bva bea gb bvb beb) told T (.slice none 0 0) 0 [] y22 from
    ⟨⟨(unhide hP).get 3 rfl,(unhide hP).get 2 rfl,(unhide hP).get 4 rfl,(unhide hP).get 0 rfl,(unhide hP).get 1 rfl,(unhide hP).get 5 rfl,own_at (by have h := (unhide hP).row 0 rfl; rw [unhide hnv'] at h; exact h) (fun _ => rfl),own_at (by have h := (unhide hP).row 1 rfl; rw [unhide hnu] at h; exact h) (fun _ => rfl),(unhide ha').ext (unhide hx),(unhide hb').ext (unhide hx)⟩,
     (unhide hC').keep _ _ _ _ [] (unhide hj') ((unhide hx).keep []) (by simp),World.ownsRow_nil _ _ _ _,
     fun x hm => by
      unfold tfM at hm
      have hsz := Below.size (unhide hx)
      have hlt1 := (unhide ha').lt
      have hlt2 := (unhide hb').lt
      have key : x ∈ [b1,b2,b3,b4,b5,b6] ++ (blkA A1 ++ blkA A2) ∨ x ∈ [ga,bva,bea,gb,bvb,beb] := by
       simp only [List.mem_append,List.mem_cons,List.not_mem_nil,or_false] at hm ⊢
       rcases hm with (h | h | h | h | h | h | h | h | h | h | h | h) | h | h <;> simp [h]
      rcases key with hk | hk
      ·exact ⟨(unhide hge' x hk).2,fun hT => by have := unhide hTw x hT; have := (unhide hge' x hk).1; omega⟩
      ·refine ⟨?_,unhide hgT' x hk⟩
       simp only [List.mem_cons,List.not_mem_nil,or_false] at hk
       rcases hk with rfl | rfl | rfl | rfl | rfl | rfl <;> omega,
     fun x hm => by cases hm⟩)
   have hME := hide (show extL V E (idsV V) V' E' (idsV V') nv [] = MP by
    have h := ext_maps (V := V) (E := E) (V' := V') (E' := E') (ids := idsV V) (us := idsV V') (unhide hiu) (by rw [idsV_n (unhide hnv'),idsV_n (unhide hnu)])
    rw [idsV_n (unhide hnu)] at h
    rw [h,unhide hMP])
   have hca := extend_any (unhide hC') (unhide hnv') (unhide hnu) (unhide hl') (unhide hlu) (unhide hlb') (unhide hlb2') nv 0 (Nat.zero_add _) told T y22 none 0 [] (unhide hH) rfl (by rw [unhide hME]; exact unhide hN')
   rw [unhide hME] at hca
   refine Calls.mono hca ?_
   clear hca
   rintro _ W9 ⟨rfl,hp9⟩
   refine ⟨_,rfl, ?_⟩
   have hfin : MapPost J T w (told ++ outT q MP) (.returned (.tuple #[])) W9 := by
    obtain ⟨T',h1,h2⟩ := hp9.j
    refine ⟨rfl,T',h1, ?_,fun x hm => ?_⟩
    ·have hk := hp9.keep
     simp only [Value.ownBlock,Option.toList,List.append_nil] at hk
     exact ((unhide hx).keep T).trans hk
    ·rcases h2 x hm with h3 | h3
     ·exact .inl h3
     ·exact .inr (Nat.le_trans (Below.size (unhide hx)) h3)
   have hfin' := hide hfin
   clear hfin hp9 hH hge hge'
   refine wpO_done ?_
   try go_frame
   go_wp2_with fail
   refine Sp.leaves0 ?_
   exact ⟨_,results_none rfl _ _ _,unhide hfin'⟩
  ·skip
   have hq : ((nv : Int) != (nu : Int)) = true := by simp; omega
   have hM0 := hide (show MP = [] by rw [unhide hMP]; unfold mapsP; rw [if_neg (by rw [idsV_n (unhide hnv'),idsV_n (unhide hnu)]; exact hlen)])
   clear hlen
   try dsimp only
   repeat ((fail_if_success (with_reducible refine wp_reg (id := 2) ?_)); (first | go_values | go_skip | go_step | go_guarded | go_upon | go_in | go_back | fail))
   with_reducible refine wp_reg (id := 2) ?_
   refine wpO_val rfl (load_V (v := .slice A1 nv c1) rfl rfl (by simp [go_sem]) (((unhide hP).get 3 rfl).cell 0)) ?_
   go_frame
   refine wpO_want rfl ?_
   go_simp
   refine wpO_val rfl (load_V (v := .slice A2 nu c2) rfl rfl (by simp [go_sem]) (((unhide hP).get 4 rfl).cell 0)) ?_
   go_frame
   iterate 2
    refine wpO_want rfl ?_
    go_simp
   refine wpO_done ?_
   try go_frame
   clear hq
   go_wp2_with fail
   have hx9 := (unhide hP).extf
   refine Sp.leaves0 ?_
   refine ⟨_,results_none rfl _ _ _,rfl,T, ?_,hx9.keep T,fun x hx => .inl hx⟩
   rw [unhide hM0,show outT q ([] : List (List Int)) = [] by cases q <;> rfl,List.append_nil]
   exact (unhide hC').keep _ _ _ _ [] (unhide hj') (hx9.keep []) (by simp)
end Go.Proofs.YtbpeemhfjgcnaaaGreat
