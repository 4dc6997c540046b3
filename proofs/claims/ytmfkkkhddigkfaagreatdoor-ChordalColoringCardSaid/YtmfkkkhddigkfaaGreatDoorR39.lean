/- Parts of a proof, laid together. Each part says its own conditions. -/
import Derived.Test.YtmfkkkhddigkfaaGreatDoorR33
import Derived.Test.YtmfkkkhddigkfaaGreatDoorR38
import Derived.Test.YtmfkkkhddigkfaaGreatDoorR27
import Derived.Test.YtmfkkkhddigkfaaGreatDoorR16
import Derived.Test.YtmfkkkhddigkfaaGreatDoorR17
namespace Go.Proofs.YtmfkkkhddigkfaaGreatDoor
open Go Go.RowKit Go.Shelf
attribute [local go_sem] qUpon lUpon
attribute [local irreducible] wpO wpX wpQL
theorem cellI {w : World} {A : Option Addr} {L : List Int} (h : SlAt encI 1 w A L) {k : Nat} (hk : k < L.length) : ∃ b off,A = some ⟨b,off,none⟩ ∧ ∀ W,Ext w W → W.cell? ⟨b,off + k,none⟩ = some (.int .i64 L[k]) := by
 obtain ⟨b,off,rfl,hc⟩ := atI h hk
 exact ⟨b,off,rfl,hc⟩
set_option maxRecDepth 100000 in
set_option maxHeartbeats 4000000 in
theorem same_ints (A B : Option Addr) (L M : List Int) (n m cA cB : Nat) (w : World) (hA : SlAt encI 1 w A L) (hB : SlAt encI 1 w B M) (hn : n = L.length) (hm : m = M.length) (hl : n ≤ 100000) (hl2 : m ≤ 100000) :
  Calls Tryz.prog 16 #[.slice A n cA, .slice B m cB] w fun e w' => e = .returned (.bool (decide (L = M))) ∧ Ext w w' := by
 have hA' := hide hA
 have hB' := hide hB
 clear hA hB
 go_enter Tryz.func16,Tryz.ntmps16
 by_cases hnm : (n : Int) = (m : Int)
 ·have hnm2 : n = m := by omega
  subst hnm2
  have hn' := hide hn
  have hm' := hide hm
  clear hn hm hnm
  go_wp2_with fail
  go_loopw [5] (fun iv wr => ∃ k : Nat,k ≤ n ∧ iv = .int .i64 k ∧ L.take k = M.take k ∧ Ext w wr) (fun iv _ => n - (intOf iv).toNat)
  case atStart => exact ⟨0,Nat.zero_le _,rfl,by simp,Ext.refl _⟩
  case round =>
   obtain ⟨k,hk,rfl,htk,hx⟩ := hrel
   have htk' := hide htk
   have hx' := hide hx
   clear htk hx
   by_cases hlt : k < n
   ·have hkL : k < L.length := by have := unhide hn'; omega
    have hkM : k < M.length := by have := unhide hm'; omega
    obtain ⟨b,off,rfl,c0⟩ := cellI ((unhide hA').ext (unhide hx')) hkL
    obtain ⟨b2,off2,rfl,d0⟩ := cellI ((unhide hB').ext (unhide hx')) hkM
    have t1 := hide (List.take_succ_eq_append_getElem hkL)
    have t2 := hide (List.take_succ_eq_append_getElem hkM)
    have hne := hide (show L[k] ≠ M[k] → L ≠ M from fun h e => h (by subst e; rfl))
    generalize L[k] = x at *
    generalize M[k] = y at *
    have hself := Ext.refl wr
    go_wp2_with fail
    obtain ⟨q,hq⟩ : ∃ q : Bool,q = !decide (x = y) := ⟨_,rfl⟩
    have hq' := hide hq
    clear hq
    refine wp_region_ext (P := Tryz.prog) [0,1,2,3,4,5,6,7,8] [] 0 #[true,true,true,true,true,true,true,true,true] (by kernel_rfl) (by kernel_rfl) rfl (by rfl) ?_
    iterate 8
     refine ql_want (v := ?_) rfl (by rfl) (fun W hW => ?_) ?_
     rotate_left
     ·go_simp
      first | done | rfl
     go_frame
    refine ql_want (v := .bool q) rfl (by rfl) (fun W hW => ?_) ?_
    ·go_simp
     rw [unhide hq']
     by_cases h1 : x = y <;> simp [h1]
    go_frame
    refine wpQL_nil (fun w2 hx2 => ?_)
    refine wpX_done (by kernel_rfl) ?_
    try go_frame
    have hx2' := hide ((unhide hx').trans hx2)
    clear c0 d0 hself hx2
    cases q
    ·have hxy : x = y := by
      have h := unhide hq'
      by_cases h1 : x = y
      ·exact h1
      ·simp [h1] at h
     have hnx := hide (show L.take (k + 1) = M.take (k + 1) by rw [unhide t1,unhide t2,unhide htk',hxy])
     clear hxy hq'
     go_wp2_with fail
     go_roundw
     case rel => exact ⟨k + 1,by omega,by go_num,unhide hnx,unhide hx2'⟩
     case measure => simp [intOf]; omega
    ·have hxy : x ≠ y := by
      have h := unhide hq'
      by_cases h1 : x = y
      ·simp [h1] at h
      ·exact h1
     have hres := hide (decide_eq_false (unhide hne hxy))
     clear hxy hq'
     go_wp2_with fail
     go_ret
     exact ⟨by rw [unhide hres]; rfl,unhide hx2'⟩
   ·have hke : k = n := by omega
    have hres := hide (show decide (L = M) = true from decide_eq_true (by have h := unhide htk'; rw [hke] at h; rw [unhide hn',List.take_length, ← unhide hn',unhide hm',List.take_length] at h; exact h))
    go_wp2_with fail
    go_ret
    exact ⟨by rw [unhide hres]; rfl,unhide hx'⟩
 ·have hres := hide (show decide (L = M) = false from decide_eq_false (fun e => hnm (by rw [hn,hm,e])))
  clear hn hm
  go_wp2_with fail
  go_ret
  exact ⟨by rw [unhide hres]; rfl,Ext.refl _⟩
def TakePost (w : World) (V : List (Int × Thing)) (E : List ((Int × Int) × Thing)) (q : Bool) (e : Ending) (w' : World) : Prop :=
 ∃ g bv be A B cA cB,e = .returned (.tuple #[.pointer (some ⟨g,0,none⟩), .agg #[.slice A V.length cA, .slice B E.length cB], .bool q]) ∧ IsG w' g bv be V E ∧ SlAt encV 3 w' A V ∧ SlAt encE 4 w' B E ∧ Ext w w'
set_option maxRecDepth 100000 in
set_option maxHeartbeats 16000000 in
theorem take_any (A : Option Addr) (L : List Ed) (cL : Nat) (most : Int) (w : World) (hL : SlAt encD 5 w A L) :
  Calls Tryz.prog 13 #[.slice A L.length cL, .int .i64 most] w (TakePost w (mdS L).1 (mdS L).2 (decide (((mdS L).1.length : Int) ≤ most))) := by
 have hL' := hide hL
 have hinv := hide (mdS_inv L)
 have hmd := hide (fun (W : World) (hW : Ext w W) => made_any A L cL W (hL.ext hW))
 clear hL
 generalize mdS L = S at *
 obtain ⟨V,E⟩ := S
 try dsimp only at hinv hmd ⊢
 have hP := hide (Sp.new w)
 refine callsIn_wide.1 (callsIn_of_wp_marks (n := 0) Tryz.func13 rfl trivial (wpIn_wide.2 ?_))
 simp only [Tryz.ntmps13,List.size_toArray,List.length_cons,List.length_nil,Nat.reduceAdd,Nat.reduceSub,Array.replicate_succ,Array.replicate_zero,List.push_toArray,List.append_toArray,List.nil_append,List.cons_append]
 try dsimp only
 repeat ((fail_if_success (with_reducible refine wp_reg (id := 0) ?_)); (first | go_values | go_skip | go_step | go_guarded | go_upon | go_in | go_back | fail))
 with_reducible refine wp_reg (id := 0) ?_
 refine wpO_want rfl ?_
 go_simp
 refine (unhide hP).allocO 28 #[.slice none 0 0, .slice none 0 0] rfl (by go_simp) ?_
 intro r5 y1 hQ
 replace hP : Hid (Sp w [] w [] [(r5,28, #[.slice none 0 0, .slice none 0 0])] [] y1) := hide hQ
 clear hQ
 refine wpO_want rfl ?_
 go_simp
 refine wpO_done ?_
 try go_frame
 try dsimp only
 repeat ((fail_if_success (with_reducible refine wp_reg (id := 1) ?_)); (first | go_values | go_skip | go_step | go_guarded | go_upon | go_in | go_back | fail))
 with_reducible refine wp_reg (id := 1) ?_
 iterate 2
  refine wpO_want rfl ?_
  go_simp
 refine (unhide hmd _ (unhide hP).extf).mono ?_
 rintro _ y2 ⟨A1,cA,B1,cB,rfl,hs1,he1,hxc⟩
 try dsimp only at hs1 he1 ⊢
 refine ⟨_,rfl, ?_⟩
 replace hP : Hid (Sp w [] w [] [(r5,28, #[.slice none 0 0, .slice none 0 0])] [] y2) := hide ((unhide hP).ext hxc)
 clear hxc
 refine (unhide hP).allocT 28 #[.slice none 0 0, .slice none 0 0] rfl (by go_simp) ?_
 intro r7 y3 hQ hxa hga
 replace hP : Hid (Sp w [] w [] [(r5,28, #[.slice none 0 0, .slice none 0 0]),(r7,28, #[.slice none 0 0, .slice none 0 0])] [] y3) := hide hQ
 clear hQ
 try go_frame
 refine (unhide hP).setT 1 #[.slice A1 V.length cA, .slice B1 E.length cB] rfl rfl (fun hb => run_store_row (v := .agg #[.slice A1 V.length cA, .slice B1 E.length cB]) rfl (by rfl) (by rfl) (by simp [go_sem]) hb rfl (fun u hu => by simp [Value.cells] at hu; rcases hu with rfl | rfl <;> rfl)) ?_
 intro y4 hQ hkq
 replace hP : Hid (Sp w [] w [] [(r5,28, #[.slice none 0 0, .slice none 0 0]),(r7,28, #[.slice A1 V.length cA, .slice B1 E.length cB])] [] y4) := hide hQ
 have hxs := hxa.of_new hkq (fun x hx => by rw [List.mem_singleton] at hx; rw [hx]; exact hga)
 clear hQ hkq hxa hga
 try go_frame
 refine wpO_done ?_
 try go_frame
 replace hs1 := hide (hs1.ext hxs)
 replace he1 := hide (he1.ext hxs)
 clear hxs
 have q0 := (unhide hP).cell 1 0 (v := .slice A1 V.length cA) rfl rfl
 have q1 := (unhide hP).cell 1 1 (v := .slice B1 E.length cB) rfl rfl
 have hself := Ext.refl y4
 try dsimp only
 repeat ((fail_if_success (with_reducible refine wp_reg (id := 2) ?_)); (first | go_values | go_skip | go_step | go_guarded | go_upon | go_in | go_back | fail))
 with_reducible refine wp_reg (id := 2) ?_
 refine wpO_want rfl ?_
 go_simp
 clear q0 q1 hself
 refine wpO_want rfl ?_
 go_simp
 refine (from_any A1 B1 V E cA cB y4 (unhide hs1) (unhide he1) (unhide hinv)).mono ?_
 rintro _ y5 ⟨g,bv,be,rfl,hg0,hxc,n1,n2,n3⟩
 refine ⟨_,rfl, ?_⟩
 have hr5 := hide (show r5 < y4.heap.size from (unhide hP).lt r5 ((unhide hP).st.mem 0 rfl))
 have hng := hide (show r5 ≠ g ∧ r5 ≠ bv ∧ r5 ≠ be by have := unhide hr5; omega)
 replace hP : Hid (Sp w [] w [] [(r5,28, #[.slice none 0 0, .slice none 0 0]),(r7,28, #[.slice A1 V.length cA, .slice B1 E.length cB])] [] y5) := hide ((unhide hP).ext hxc)
 replace hs1 := hide ((unhide hs1).ext hxc)
 replace he1 := hide ((unhide he1).ext hxc)
 have hg := hide hg0
 have hnV := hide hg0.nV
 have hnE := hide hg0.nE
 clear hxc hg0 n1 n2 n3 hr5
 refine wpO_want rfl ?_
 go_simp
 refine wpO_done ?_
 try go_frame
 go_wp2_with fail
 have hK5 := hide (Keep.refl [r5] y5)
 have hb5 := hide ((unhide hP).get 0 rfl)
 have hsk := hide (fun (W : World) (hW : Keep [r5] y5 W) => SlAt.keep_G (unhide hs1) (unhide hb5) ⟨_,_,_,rfl⟩ ⟨_,_,_,rfl⟩ encV_ns (fun x => ⟨_,rfl⟩) hW)
 have hek := hide (fun (W : World) (hW : Keep [r5] y5 W) => SlAt.keep_G (unhide he1) (unhide hb5) ⟨_,_,_,rfl⟩ ⟨_,_,_,rfl⟩ encE_ns (fun x => ⟨_,rfl⟩) hW)
 have hgk := hide (fun (W : World) (hW : Keep [r5] y5 W) => (unhide hg).keep hW (by have := unhide hng; simp; omega) (by have := unhide hng; simp; omega) (by have := unhide hng; simp; omega))
 clear hs1 he1 hg hb5 hinv
 by_cases hle : (V.length : Int) ≤ most
 ·have hres := hide (show decide ((V.length : Int) ≤ most) = true from decide_eq_true hle)
  have q0 := (unhide hP).cellK (S := [r5]) 1 0 (v := .slice A1 V.length cA) rfl rfl (by rw [List.mem_singleton]; exact (unhide hP).ne 1 0 (by decide) rfl rfl)
  have q1 := (unhide hP).cellK (S := [r5]) 1 1 (v := .slice B1 E.length cB) rfl rfl (by rw [List.mem_singleton]; exact (unhide hP).ne 1 0 (by decide) rfl rfl)
  have hself := Keep.refl [r5] y5
  refine wp_regionK (P := Tryz.prog) [r5] [0,1,2,3,4,5,6,7,8,9,10,11,12,14] [] 6 #[true,true,true,true,true,true,true,true,true,true,true,true,true,false,true,false,false,false,false,false] (by kernel_rfl) (by kernel_rfl) rfl (by rfl) ?_
  iterate 14
   refine ql_want (v := ?_) rfl (by rfl) (fun W hW => ?_) ?_
   rotate_left
   ·go_simp
    first | done | rfl
   go_frame
  refine wpQL_nil (fun y6 hxq => ?_)
  have hK := hide (hxq.keep [r5])
  replace hP : Hid (Sp w [] w [] [(r5,28, #[.slice none 0 0, .slice none 0 0]),(r7,28, #[.slice A1 V.length cA, .slice B1 E.length cB])] [] y6) := hide ((unhide hP).ext hxq)
  clear hxq
  clear q0 q1 hself
  refine lx_one (i := 13) (by kernel_rfl) rfl (by rfl) #[true,true,true,true,true,true,true,true,true,true,true,true,true,true,true,false,false,false,false,false] (by rfl) ?_
  have hca := to_rel g bv be V E _ (unhide hgk _ (unhide hK))
  go_simp
  refine (hca).mono ?_
  rintro _ zy7 ⟨A2,cA2,B2,cB2,rfl,hs2,he2,hxc⟩
  clear hca
  have hcb := hide (fun (W : World) (hW : Ext zy7 W) => same_any A2 B2 A1 B1 V V E E cA2 cB2 cA cB W (hs2.ext hW) (he2.ext hW) (unhide hsk _ (((unhide hK).trans (hxc.keep _)).trans (hW.keep _))) (unhide hek _ (((unhide hK).trans (hxc.keep _)).trans (hW.keep _))) (unhide hnV) (unhide hnE))
  simp only [decide_true,Bool.and_self] at hcb
  clear hs2 he2
  refine ⟨_,rfl,(unhide hK).trans (hxc.keep _),fun y7 hxd => ?_⟩
  replace hP : Hid (Sp w [] w [] [(r5,28, #[.slice none 0 0, .slice none 0 0]),(r7,28, #[.slice A1 V.length cA, .slice B1 E.length cB])] [] y7) := hide ((unhide hP).ext (hxc.trans hxd))
  replace hK := hide ((unhide hK).trans ((hxc.trans hxd).keep _))
  replace hcb := hide (unhide hcb y7 hxd)
  clear hxc hxd
  try go_frame
  have hcc := unhide hcb
  clear hcb
  refine lx_one (i := 15) (by kernel_rfl) rfl (by rfl) #[true,true,true,true,true,true,true,true,true,true,true,true,true,true,true,true,false,false,false,false] (by rfl) ?_
  go_simp
  refine (hcc).mono ?_
  rintro _ zy8 ⟨rfl,hxc⟩
  clear hcc
  refine ⟨_,rfl,(unhide hK).trans (hxc.keep _),fun y8 hxd => ?_⟩
  replace hP : Hid (Sp w [] w [] [(r5,28, #[.slice none 0 0, .slice none 0 0]),(r7,28, #[.slice A1 V.length cA, .slice B1 E.length cB])] [] y8) := hide ((unhide hP).ext (hxc.trans hxd))
  replace hK := hide ((unhide hK).trans ((hxc.trans hxd).keep _))
  clear hxc hxd
  try go_frame
  have hKa := hK
  refine lx_rekeep (unhide hK) [16,17] [] 2 4 #[true,true,true,true,true,true,true,true,true,true,true,true,true,true,true,true,false,false,false,false] #[true,true,true,true,true,true,true,true,true,true,true,true,true,true,true,true,true,true,false,false] (by kernel_rfl) rfl (by rfl) ?_
  clear hK
  iterate 2
   refine ql_want (v := ?_) rfl (by rfl) (fun W hW => ?_) ?_
   rotate_left
   ·go_simp
    first | done | rfl
   go_frame
  refine wpQL_nil (fun y9 hxq => ?_)
  have hK := hide (hxq.keep [r5])
  replace hP : Hid (Sp w [] w [] [(r5,28, #[.slice none 0 0, .slice none 0 0]),(r7,28, #[.slice A1 V.length cA, .slice B1 E.length cB])] [] y9) := hide ((unhide hP).ext hxq)
  clear hxq
  refine lx_one (i := 18) (by kernel_rfl) rfl (by rfl) #[true,true,true,true,true,true,true,true,true,true,true,true,true,true,true,true,true,true,true,false] (by rfl) ?_
  refine (unhide hP).setL (unhide hK) 0 #[.slice A1 V.length cA, .slice B1 E.length cB] rfl (by simp) (fun hb => run_store_row (v := .agg #[.slice A1 V.length cA, .slice B1 E.length cB]) rfl (by rfl) (by rfl) (by simp [go_sem]) hb rfl (fun u hu => by simp [Value.cells] at hu; rcases hu with rfl | rfl <;> rfl)) ?_
  intro y10 hQ hK2
  replace hP : Hid (Sp w [] w [] [(r5,28, #[.slice A1 V.length cA, .slice B1 E.length cB]),(r7,28, #[.slice A1 V.length cA, .slice B1 E.length cB])] [] y10) := hide hQ
  replace hK := hide hK2
  clear hQ hK2
  try go_frame
  have hKb := hide ((unhide hKa).trans (unhide hK))
  refine lx_rekeep (unhide hK) [19] [] 0 1 #[true,true,true,true,true,true,true,true,true,true,true,true,true,true,true,true,true,true,true,false] #[true,true,true,true,true,true,true,true,true,true,true,true,true,true,true,true,true,true,true,true] (by kernel_rfl) rfl (by rfl) ?_
  clear hK
  iterate 1
   refine ql_want (v := ?_) rfl (by rfl) (fun W hW => ?_) ?_
   rotate_left
   ·go_simp
    first | done | rfl
   go_frame
  refine wpQL_nil (fun y11 hxq => ?_)
  have hK := hide (hxq.keep [r5])
  replace hP : Hid (Sp w [] w [] [(r5,28, #[.slice A1 V.length cA, .slice B1 E.length cB]),(r7,28, #[.slice A1 V.length cA, .slice B1 E.length cB])] [] y11) := hide ((unhide hP).ext hxq)
  clear hxq
  refine wpX_done (by kernel_rfl) ?_
  try go_frame
  go_wp2_with fail
  have hKe := hide ((unhide hKb).trans (unhide hK))
  refine Sp.leaves0 ?_
  have h5 := (unhide hP).get 0 rfl
  refine ⟨_,ret_tct24 rfl rfl (load_G _ r5 _ _ (h5.cell 0) (h5.cell 1)), ?_⟩
  rw [unhide hres]
  exact ⟨g,bv,be,A1,B1,cA,cB,rfl,unhide hgk _ (unhide hKe),unhide hsk _ (unhide hKe),unhide hek _ (unhide hKe),(unhide hP).extf⟩
 ·have hres := hide (show decide ((V.length : Int) ≤ most) = false from decide_eq_false hle)
  have q0 := (unhide hP).cellK (S := [r5]) 1 0 (v := .slice A1 V.length cA) rfl rfl (by rw [List.mem_singleton]; exact (unhide hP).ne 1 0 (by decide) rfl rfl)
  have q1 := (unhide hP).cellK (S := [r5]) 1 1 (v := .slice B1 E.length cB) rfl rfl (by rw [List.mem_singleton]; exact (unhide hP).ne 1 0 (by decide) rfl rfl)
  have hself := Keep.refl [r5] y5
  have hle2 := unhide hres
  refine wp_regionK (P := Tryz.prog) [r5] [0,1,2,3,4,5,6,7,8,9,10,11,12,13,14,15,16,17] [] 2 #[true,true,true,true,true,true,true,true,true,true,true,true,true,true,true,true,true,true,false,false] (by kernel_rfl) (by kernel_rfl) rfl (by rfl) ?_
  iterate 18
   first
   | (refine ql_skip rfl (by rfl) ?_)
   | (refine ql_want (v := ?_) rfl (by rfl) (fun W hW => ?_) ?_; rotate_left; (go_simp; (first | done | rfl)))
   try go_frame
  refine wpQL_nil (fun y6 hxq => ?_)
  have hK := hide (hxq.keep [r5])
  replace hP : Hid (Sp w [] w [] [(r5,28, #[.slice none 0 0, .slice none 0 0]),(r7,28, #[.slice A1 V.length cA, .slice B1 E.length cB])] [] y6) := hide ((unhide hP).ext hxq)
  clear hxq
  clear q0 q1 hself hle2
  have hKa := hide (Keep.refl [r5] y5)
  refine lx_one (i := 18) (by kernel_rfl) rfl (by rfl) #[true,true,true,true,true,true,true,true,true,true,true,true,true,true,true,true,true,true,true,false] (by rfl) ?_
  refine (unhide hP).setL (unhide hK) 0 #[.slice A1 V.length cA, .slice B1 E.length cB] rfl (by simp) (fun hb => run_store_row (v := .agg #[.slice A1 V.length cA, .slice B1 E.length cB]) rfl (by rfl) (by rfl) (by simp [go_sem]) hb rfl (fun u hu => by simp [Value.cells] at hu; rcases hu with rfl | rfl <;> rfl)) ?_
  intro y7 hQ hK2
  replace hP : Hid (Sp w [] w [] [(r5,28, #[.slice A1 V.length cA, .slice B1 E.length cB]),(r7,28, #[.slice A1 V.length cA, .slice B1 E.length cB])] [] y7) := hide hQ
  replace hK := hide hK2
  clear hQ hK2
  try go_frame
  have hKb := hide ((unhide hKa).trans (unhide hK))
  refine lx_rekeep (unhide hK) [19] [] 0 1 #[true,true,true,true,true,true,true,true,true,true,true,true,true,true,true,true,true,true,true,false] #[true,true,true,true,true,true,true,true,true,true,true,true,true,true,true,true,true,true,true,true] (by kernel_rfl) rfl (by rfl) ?_
  clear hK
  iterate 1
   refine ql_want (v := ?_) rfl (by rfl) (fun W hW => ?_) ?_
   rotate_left
   ·go_simp
    first | done | rfl
   go_frame
  refine wpQL_nil (fun y8 hxq => ?_)
  have hK := hide (hxq.keep [r5])
  replace hP : Hid (Sp w [] w [] [(r5,28, #[.slice A1 V.length cA, .slice B1 E.length cB]),(r7,28, #[.slice A1 V.length cA, .slice B1 E.length cB])] [] y8) := hide ((unhide hP).ext hxq)
  clear hxq
  refine wpX_done (by kernel_rfl) ?_
  try go_frame
  go_wp2_with fail
  have hKe := hide ((unhide hKb).trans (unhide hK))
  refine Sp.leaves0 ?_
  have h5 := (unhide hP).get 0 rfl
  refine ⟨_,ret_tct24 rfl rfl (load_G _ r5 _ _ (h5.cell 0) (h5.cell 1)), ?_⟩
  rw [unhide hres]
  exact ⟨g,bv,be,A1,B1,cA,cB,rfl,unhide hgk _ (unhide hKe),unhide hsk _ (unhide hKe),unhide hek _ (unhide hKe),(unhide hP).extf⟩
def k4V : List (Int × Thing) := [((0 : Int),((0 : Int),(0 : Int))),(1,(0,0)),(2,(0,0)),(3,(0,0))]
def k4E0 : List ((Int × Int) × Thing) := [(((0 : Int),(1 : Int)),((0 : Int),(0 : Int))),((1,2),(0,0)),((2,3),(0,0)),((0,3),(0,0))]
def k4E : List ((Int × Int) × Thing) := [(((0 : Int),(1 : Int)),((0 : Int),(0 : Int))),((0,3),(0,0)),((1,2),(0,0)),((2,3),(0,0))]
def k3V : List (Int × Thing) := [((0 : Int),((0 : Int),(0 : Int))),(1,(0,0)),(2,(0,0))]
def k3E : List ((Int × Int) × Thing) := [(((0 : Int),(1 : Int)),((0 : Int),(0 : Int))),((1,2),(0,0))]
set_option maxRecDepth 100000 in
theorem k4_err : bErr k4V k4E0 = 0 := by decide +kernel
set_option maxRecDepth 100000 in
theorem k4_bs : bS k4V k4E0 = (k4V,k4E) := by decide +kernel
set_option maxRecDepth 100000 in
theorem k3_err : bErr k3V k3E = 0 := by decide +kernel
set_option maxRecDepth 100000 in
theorem k3_bs : bS k3V k3E = (k3V,k3E) := by decide +kernel
set_option maxRecDepth 100000 in
theorem k3_peo : peoS k3V k3E = some [0,1,2] := by kernel_rfl
set_option maxRecDepth 100000 in
theorem k4_peo : peoS k4V k4E = none := by kernel_rfl
set_option maxRecDepth 100000 in
theorem k4_hole : holeS k4V k4E = ([0,1,2,3],true) := by kernel_rfl
set_option maxRecDepth 100000 in
theorem k3_col : (colS k3E [0,1,2]).2 = 2 := by kernel_rfl
set_option maxRecDepth 100000 in
theorem k3_out : colOut k3V k3E [0,1,2] = [0,1,0] := by kernel_rfl
set_option maxRecDepth 100000 in
set_option maxHeartbeats 16000000 in
theorem known24_any (w : World) (hT : Tab w) : Calls Tryz.prog 12 #[] w fun e w' => e = .returned (.bool true) ∧ Ext w w' := by
 have hT' := hide hT
 clear hT
 have hP := hide (Sp.new w)
 refine callsIn_wide.1 (callsIn_of_wp_marks (n := 0) Tryz.func12 rfl trivial (wpIn_wide.2 ?_))
 simp only [Tryz.ntmps12,List.size_toArray,List.length_nil,Nat.reduceSub,Array.replicate_succ,Array.replicate_zero,List.push_toArray,List.append_toArray,List.nil_append,List.cons_append]
 try dsimp only
 repeat ((fail_if_success (with_reducible refine wp_reg (id := 0) ?_)); (first | go_values | go_skip | go_step | go_guarded | go_upon | go_in | go_back | fail))
 with_reducible refine wp_reg (id := 0) ?_
 refine wpO_want rfl ?_
 go_simp
 refine wpO_done ?_
 try go_frame
 try dsimp only
 repeat ((fail_if_success (with_reducible refine wp_reg (id := 1) ?_)); (first | go_values | go_skip | go_step | go_guarded | go_upon | go_in | go_back | fail))
 with_reducible refine wp_reg (id := 1) ?_
 iterate 3
  refine wpO_want rfl ?_
  go_simp
 refine wpO_val (v := .slice (some ⟨w.heap.size,0,none⟩) 3 3) rfl (w' := w.alloc (.cells (k3V.flatMap encV).toArray 78)) (by go_simp; rfl) ?_
 have hQ := (unhide hP).alloc 78 (k3V.flatMap encV).toArray
 generalize w.alloc (.cells (k3V.flatMap encV).toArray 78) = zw at *
 generalize w.heap.size = bv3 at *
 replace hP : Hid (Sp w [] w [] [(bv3,78,(k3V.flatMap encV).toArray)] [] zw) := hide hQ
 clear hQ
 go_frame
 iterate 2
  refine wpO_want rfl ?_
  go_simp
 refine wpO_val (v := .slice (some ⟨zw.heap.size,0,none⟩) 2 2) rfl (w' := zw.alloc (.cells (k3E.flatMap encE).toArray 80)) (by go_simp; rfl) ?_
 have hQ := (unhide hP).alloc 80 (k3E.flatMap encE).toArray
 generalize zw.alloc (.cells (k3E.flatMap encE).toArray 80) = zzw at *
 generalize zw.heap.size = be3 at *
 replace hP : Hid (Sp w [] w [] [(bv3,78,(k3V.flatMap encV).toArray),(be3,80,(k3E.flatMap encE).toArray)] [] zzw) := hide hQ
 clear hQ
 go_frame
 refine wpO_want rfl ?_
 go_simp
 have hQv := slat_blk (enc := encV) (k := 3) k3V ((unhide hP).get 0 rfl) rfl (fun _ => rfl) (by decide)
 have hQe := slat_blk (enc := encE) (k := 4) k3E ((unhide hP).get 1 rfl) rfl (fun _ => rfl) (by decide)
 refine (build_any (some ⟨bv3,0,none⟩) (some ⟨be3,0,none⟩) k3V k3E 3 2 _ hQv hQe (fun d hd => by
  simp [k3V] at hd
  rcases hd with rfl | rfl | rfl <;> (unfold okV i64ok; decide)) (fun d hd => by
  simp [k3E] at hd
  rcases hd with rfl | rfl <;> (unfold okEd i64ok; decide)) (by decide) (by decide)).mono ?_
 clear hQv hQe
 rintro _ y1 h3
 unfold BuildPost at h3
 rw [k3_err,k3_bs] at h3
 obtain ⟨_,g3,bw3,bx3,rfl,hg3,hxc,_,_,_⟩ := h3.resolve_right (fun h => h.1 rfl)
 refine ⟨_,rfl, ?_⟩
 replace hP : Hid (Sp w [] w [] [(bv3,78,(k3V.flatMap encV).toArray),(be3,80,(k3E.flatMap encE).toArray)] [] y1) := hide ((unhide hP).ext hxc)
 have hgN := hide (GL.of hg3)
 clear hg3 h3
 have hg3 := hgN
 clear hxc hgN
 generalize htu0 : Value.tuple _ = tu3
 have htu := hide htu0
 clear htu0
 refine wpO_val rfl (run_move rfl rfl) ?_
 go_frame
 refine wpO_val rfl (run_extract (i := 0) (v := .pointer (some ⟨g3,0,none⟩)) rfl (unhide htu).symm rfl) ?_
 go_frame
 refine wpO_val rfl (run_extract (i := 1) (v := .int .i64 0) rfl (unhide htu).symm rfl) ?_
 go_frame
 iterate 2
  refine wpO_want rfl ?_
  go_simp
 refine wpO_done ?_
 try go_frame
 clear htu
 try dsimp only
 repeat ((fail_if_success (with_reducible refine wp_reg (id := 2) ?_)); (first | go_values | go_skip | go_step | go_guarded | go_upon | go_in | go_back | fail))
 with_reducible refine wp_reg (id := 2) ?_
 iterate 4
  refine wpO_want rfl ?_
  go_simp
 refine wpO_val (v := .slice (some ⟨y1.heap.size,0,none⟩) 4 4) rfl (w' := y1.alloc (.cells (k4V.flatMap encV).toArray 78)) (by go_simp; rfl) ?_
 replace hg3 := hide ((unhide hg3).ext (ext_self1 y1 (.cells (k4V.flatMap encV).toArray 78)))
 have hQ := (unhide hP).alloc 78 (k4V.flatMap encV).toArray
 generalize y1.alloc (.cells (k4V.flatMap encV).toArray 78) = zy1 at *
 generalize y1.heap.size = bv4 at *
 replace hP : Hid (Sp w [] w [] [(bv3,78,(k3V.flatMap encV).toArray),(be3,80,(k3E.flatMap encE).toArray),(bv4,78,(k4V.flatMap encV).toArray)] [] zy1) := hide hQ
 clear hQ
 go_frame
 iterate 4
  refine wpO_want rfl ?_
  go_simp
 refine wpO_val (v := .slice (some ⟨zy1.heap.size,0,none⟩) 4 4) rfl (w' := zy1.alloc (.cells (k4E0.flatMap encE).toArray 80)) (by go_simp; rfl) ?_
 replace hg3 := hide ((unhide hg3).ext (ext_self1 zy1 (.cells (k4E0.flatMap encE).toArray 80)))
 have hQ := (unhide hP).alloc 80 (k4E0.flatMap encE).toArray
 generalize zy1.alloc (.cells (k4E0.flatMap encE).toArray 80) = zzy1 at *
 generalize zy1.heap.size = be4 at *
 replace hP : Hid (Sp w [] w [] [(bv3,78,(k3V.flatMap encV).toArray),(be3,80,(k3E.flatMap encE).toArray),(bv4,78,(k4V.flatMap encV).toArray),(be4,80,(k4E0.flatMap encE).toArray)] [] zzy1) := hide hQ
 clear hQ
 go_frame
 refine wpO_want rfl ?_
 go_simp
 have hQv := slat_blk (enc := encV) (k := 3) k4V ((unhide hP).get 2 rfl) rfl (fun _ => rfl) (by decide)
 have hQe := slat_blk (enc := encE) (k := 4) k4E0 ((unhide hP).get 3 rfl) rfl (fun _ => rfl) (by decide)
 refine (build_any (some ⟨bv4,0,none⟩) (some ⟨be4,0,none⟩) k4V k4E0 4 4 _ hQv hQe (fun d hd => by
  simp [k4V] at hd
  rcases hd with rfl | rfl | rfl | rfl <;> (unfold okV i64ok; decide)) (fun d hd => by
  simp [k4E0] at hd
  rcases hd with rfl | rfl | rfl | rfl <;> (unfold okEd i64ok; decide)) (by decide) (by decide)).mono ?_
 clear hQv hQe
 rintro _ y2 h3
 unfold BuildPost at h3
 rw [k4_err,k4_bs] at h3
 obtain ⟨_,g4,bw4,bx4,rfl,hg3,hxc,_,_,_⟩ := h3.resolve_right (fun h => h.1 rfl)
 refine ⟨_,rfl, ?_⟩
 replace hP : Hid (Sp w [] w [] [(bv3,78,(k3V.flatMap encV).toArray),(be3,80,(k3E.flatMap encE).toArray),(bv4,78,(k4V.flatMap encV).toArray),(be4,80,(k4E0.flatMap encE).toArray)] [] y2) := hide ((unhide hP).ext hxc)
 have hgN := hide (GL.of hg3)
 clear hg3 h3
 replace hg3 := hide ((unhide hg3).ext hxc)
 have hg4 := hgN
 clear hxc hgN
 generalize htu0 : Value.tuple _ = tu4
 have htu := hide htu0
 clear htu0
 refine wpO_val rfl (run_move rfl rfl) ?_
 go_frame
 refine wpO_val rfl (run_extract (i := 0) (v := .pointer (some ⟨g4,0,none⟩)) rfl (unhide htu).symm rfl) ?_
 go_frame
 refine wpO_val rfl (run_extract (i := 1) (v := .int .i64 0) rfl (unhide htu).symm rfl) ?_
 go_frame
 iterate 2
  refine wpO_want rfl ?_
  go_simp
 refine wpO_done ?_
 try go_frame
 clear htu
 try dsimp only
 repeat ((fail_if_success (with_reducible refine wp_reg (id := 3) ?_)); (first | go_values | go_skip | go_step | go_guarded | go_upon | go_in | go_back | fail))
 with_reducible refine wp_reg (id := 3) ?_
 refine wpO_val rfl (run_move rfl rfl) ?_
 go_frame
 refine wpO_want rfl ?_
 go_simp
 refine (perfect_any (some ⟨g3,0,none⟩) k3V k3E _ (unhide hg3) ((unhide hT').ext (unhide hP).extf)).mono ?_
 rw [k3_peo]
 rintro _ y3 ⟨Ap,cp,rfl,ho,hxc⟩
 refine ⟨_,rfl, ?_⟩
 simp only [Option.getD_some,Option.isSome_some,List.length_cons,List.length_nil,Nat.zero_add,Nat.reduceAdd] at ho ⊢
 replace hP : Hid (Sp w [] w [] [(bv3,78,(k3V.flatMap encV).toArray),(be3,80,(k3E.flatMap encE).toArray),(bv4,78,(k4V.flatMap encV).toArray),(be4,80,(k4E0.flatMap encE).toArray)] [] y3) := hide ((unhide hP).ext hxc)
 replace hg3 := hide ((unhide hg3).ext (hxc))
 replace hg4 := hide ((unhide hg4).ext (hxc))
 have hsp := hide (own_at (enc := encI) (xs := [0,1,2]) ho (fun _ => rfl))
 clear hxc ho
 generalize htu0 : Value.tuple _ = tup
 have htu := hide htu0
 clear htu0
 refine wpO_val rfl (run_move rfl rfl) ?_
 go_frame
 refine wpO_val rfl (run_extract (i := 0) (v := .slice Ap 3 cp) rfl (unhide htu).symm rfl) ?_
 go_frame
 refine wpO_val rfl (run_extract (i := 1) (v := .bool true) rfl (unhide htu).symm rfl) ?_
 go_frame
 iterate 2
  refine wpO_want rfl ?_
  go_simp
 refine wpO_done ?_
 try go_frame
 clear htu
 try dsimp only
 repeat ((fail_if_success (with_reducible refine wp_reg (id := 4) ?_)); (first | go_values | go_skip | go_step | go_guarded | go_upon | go_in | go_back | fail))
 with_reducible refine wp_reg (id := 4) ?_
 refine wpO_val rfl (run_move rfl rfl) ?_
 go_frame
 refine wpO_want rfl ?_
 go_simp
 refine (perfect_any (some ⟨g4,0,none⟩) k4V k4E _ (unhide hg4) ((unhide hT').ext (unhide hP).extf)).mono ?_
 rw [k4_peo]
 rintro _ y4 ⟨Aq,cq,rfl,ho,hxc⟩
 refine ⟨_,rfl, ?_⟩
 simp only [Option.getD_none,Option.isSome_none,List.length_nil] at ho ⊢
 replace hP : Hid (Sp w [] w [] [(bv3,78,(k3V.flatMap encV).toArray),(be3,80,(k3E.flatMap encE).toArray),(bv4,78,(k4V.flatMap encV).toArray),(be4,80,(k4E0.flatMap encE).toArray)] [] y4) := hide ((unhide hP).ext hxc)
 replace hg3 := hide ((unhide hg3).ext (hxc))
 replace hg4 := hide ((unhide hg4).ext (hxc))
 replace hsp := hide ((unhide hsp).ext (hxc))
 clear hxc ho
 generalize htu0 : Value.tuple _ = tuq
 have htu := hide htu0
 clear htu0
 refine wpO_val rfl (run_move rfl rfl) ?_
 go_frame
 refine wpO_val rfl (run_extract (i := 0) (v := .slice Aq 0 cq) rfl (unhide htu).symm rfl) ?_
 go_frame
 refine wpO_val rfl (run_extract (i := 1) (v := .bool false) rfl (unhide htu).symm rfl) ?_
 go_frame
 iterate 2
  refine wpO_want rfl ?_
  go_simp
 refine wpO_done ?_
 try go_frame
 clear htu
 try dsimp only
 repeat ((fail_if_success (with_reducible refine wp_reg (id := 5) ?_)); (first | go_values | go_skip | go_step | go_guarded | go_upon | go_in | go_back | fail))
 with_reducible refine wp_reg (id := 5) ?_
 refine wpO_val rfl (run_move rfl rfl) ?_
 go_frame
 refine wpO_want rfl ?_
 go_simp
 refine (hole_any (some ⟨g4,0,none⟩) k4V k4E _ (unhide hg4) ((unhide hT').ext (unhide hP).extf)).mono ?_
 rw [k4_hole]
 rintro _ y5 ⟨Ah,ch,rfl,ho,hxc⟩
 refine ⟨_,rfl, ?_⟩
 simp only [List.length_cons,List.length_nil,Nat.zero_add,Nat.reduceAdd] at ho ⊢
 replace hP : Hid (Sp w [] w [] [(bv3,78,(k3V.flatMap encV).toArray),(be3,80,(k3E.flatMap encE).toArray),(bv4,78,(k4V.flatMap encV).toArray),(be4,80,(k4E0.flatMap encE).toArray)] [] y5) := hide ((unhide hP).ext hxc)
 replace hg3 := hide ((unhide hg3).ext (hxc))
 replace hg4 := hide ((unhide hg4).ext (hxc))
 replace hsp := hide ((unhide hsp).ext (hxc))
 have hsh := hide ho
 clear hxc ho
 generalize htu0 : Value.tuple _ = tuh
 have htu := hide htu0
 clear htu0
 refine wpO_val rfl (run_move rfl rfl) ?_
 go_frame
 refine wpO_val rfl (run_extract (i := 0) (v := .slice Ah 4 ch) rfl (unhide htu).symm rfl) ?_
 go_frame
 refine wpO_val rfl (run_extract (i := 1) (v := .bool true) rfl (unhide htu).symm rfl) ?_
 go_frame
 iterate 2
  refine wpO_want rfl ?_
  go_simp
 refine wpO_done ?_
 try go_frame
 clear htu
 try dsimp only
 repeat ((fail_if_success (with_reducible refine wp_reg (id := 6) ?_)); (first | go_values | go_skip | go_step | go_guarded | go_upon | go_in | go_back | fail))
 with_reducible refine wp_reg (id := 6) ?_
 refine wpO_val rfl (run_move rfl rfl) ?_
 go_frame
 refine wpO_want rfl ?_
 go_simp
 have hcall := coloring_any (some ⟨g3,0,none⟩) k3V k3E _ (unhide hg3) ((unhide hT').ext (unhide hP).extf)
 rw [k3_peo,Option.getD_some,k3_col,k3_out] at hcall
 refine hcall.mono ?_
 rintro _ y6 ⟨Ac,cc,rfl,ho,hxc⟩
 refine ⟨_,rfl, ?_⟩
 simp only [List.length_cons,List.length_nil,Nat.zero_add,Nat.reduceAdd] at ho ⊢
 replace hP : Hid (Sp w [] w [] [(bv3,78,(k3V.flatMap encV).toArray),(be3,80,(k3E.flatMap encE).toArray),(bv4,78,(k4V.flatMap encV).toArray),(be4,80,(k4E0.flatMap encE).toArray)] [] y6) := hide ((unhide hP).ext hxc)
 replace hg3 := hide ((unhide hg3).ext (hxc))
 replace hg4 := hide ((unhide hg4).ext (hxc))
 replace hsp := hide ((unhide hsp).ext (hxc))
 replace hsh := hide ((unhide hsh).ext (hxc))
 have hsc := hide ho
 clear hxc ho hcall hg3 hg4
 generalize htu0 : Value.tuple _ = tuc
 have htu := hide htu0
 clear htu0
 refine wpO_val rfl (run_move rfl rfl) ?_
 go_frame
 refine wpO_val rfl (run_extract (i := 0) (v := .int .i64 2) rfl (unhide htu).symm rfl) ?_
 go_frame
 refine wpO_val rfl (run_extract (i := 1) (v := .slice Ac 3 cc) rfl (unhide htu).symm rfl) ?_
 go_frame
 refine wpO_val rfl (run_extract (i := 2) (v := .int .i64 0) rfl (unhide htu).symm rfl) ?_
 go_frame
 iterate 3
  refine wpO_want rfl ?_
  go_simp
 refine wpO_done ?_
 try go_frame
 clear htu
 try dsimp only
 repeat ((fail_if_success (with_reducible refine wp_reg (id := 7) ?_)); (first | go_values | go_skip | go_step | go_guarded | go_upon | go_in | go_back | fail))
 with_reducible refine wp_reg (id := 7) ?_
 iterate 10
  refine wpO_want rfl ?_
  go_simp
 refine wpO_val (v := .slice (some ⟨y6.heap.size,0,none⟩) 3 3) rfl (w' := y6.alloc (.cells (([0,1,2] : List Int).flatMap encI).toArray 3)) (by go_simp; rfl) ?_
 replace hsp := hide ((unhide hsp).ext (ext_self1 y6 (.cells (([0,1,2] : List Int).flatMap encI).toArray 3)))
 replace hsh := hide ((unhide hsh).ext (ext_self1 y6 (.cells (([0,1,2] : List Int).flatMap encI).toArray 3)))
 replace hsc := hide ((unhide hsc).ext (ext_self1 y6 (.cells (([0,1,2] : List Int).flatMap encI).toArray 3)))
 have hQ := (unhide hP).alloc 3 (([0,1,2] : List Int).flatMap encI).toArray
 generalize y6.alloc (.cells (([0,1,2] : List Int).flatMap encI).toArray 3) = zy6 at *
 generalize y6.heap.size = blhsp at *
 replace hP : Hid (Sp w [] w [] [(bv3,78,(k3V.flatMap encV).toArray),(be3,80,(k3E.flatMap encE).toArray),(bv4,78,(k4V.flatMap encV).toArray),(be4,80,(k4E0.flatMap encE).toArray),(blhsp,3,(([0,1,2] : List Int).flatMap encI).toArray)] [] zy6) := hide hQ
 clear hQ
 go_frame
 refine wpO_want rfl ?_
 go_simp
 have hQl := slat_blk (enc := encI) (k := 1) ([0,1,2] : List Int) ((unhide hP).get 4 rfl) rfl (fun _ => rfl) (by decide)
 refine (same_ints Ap (some ⟨blhsp,0,none⟩) ([0,1,2] : List Int) ([0,1,2] : List Int) 3 3 cp 3 _ (unhide hsp) hQl rfl rfl (by decide) (by decide)).mono ?_
 clear hQl
 rintro _ y7 ⟨rfl,hxc⟩
 refine ⟨_,rfl, ?_⟩
 simp only [decide_true]
 replace hP : Hid (Sp w [] w [] [(bv3,78,(k3V.flatMap encV).toArray),(be3,80,(k3E.flatMap encE).toArray),(bv4,78,(k4V.flatMap encV).toArray),(be4,80,(k4E0.flatMap encE).toArray),(blhsp,3,(([0,1,2] : List Int).flatMap encI).toArray)] [] y7) := hide ((unhide hP).ext hxc)
 replace hsp := hide ((unhide hsp).ext (hxc))
 replace hsh := hide ((unhide hsh).ext (hxc))
 replace hsc := hide ((unhide hsc).ext (hxc))
 clear hxc
 iterate 3
  refine wpO_want rfl ?_
  go_simp
 refine wpO_val (v := .slice (some ⟨y7.heap.size,0,none⟩) 4 4) rfl (w' := y7.alloc (.cells (([0,1,2,3] : List Int).flatMap encI).toArray 3)) (by go_simp; rfl) ?_
 replace hsp := hide ((unhide hsp).ext (ext_self1 y7 (.cells (([0,1,2,3] : List Int).flatMap encI).toArray 3)))
 replace hsh := hide ((unhide hsh).ext (ext_self1 y7 (.cells (([0,1,2,3] : List Int).flatMap encI).toArray 3)))
 replace hsc := hide ((unhide hsc).ext (ext_self1 y7 (.cells (([0,1,2,3] : List Int).flatMap encI).toArray 3)))
 have hQ := (unhide hP).alloc 3 (([0,1,2,3] : List Int).flatMap encI).toArray
 generalize y7.alloc (.cells (([0,1,2,3] : List Int).flatMap encI).toArray 3) = zy7 at *
 generalize y7.heap.size = blhsh at *
 replace hP : Hid (Sp w [] w [] [(bv3,78,(k3V.flatMap encV).toArray),(be3,80,(k3E.flatMap encE).toArray),(bv4,78,(k4V.flatMap encV).toArray),(be4,80,(k4E0.flatMap encE).toArray),(blhsp,3,(([0,1,2] : List Int).flatMap encI).toArray),(blhsh,3,(([0,1,2,3] : List Int).flatMap encI).toArray)] [] zy7) := hide hQ
 clear hQ
 go_frame
 refine wpO_want rfl ?_
 go_simp
 have hQl := slat_blk (enc := encI) (k := 1) ([0,1,2,3] : List Int) ((unhide hP).get 5 rfl) rfl (fun _ => rfl) (by decide)
 refine (same_ints Ah (some ⟨blhsh,0,none⟩) ([0,1,2,3] : List Int) ([0,1,2,3] : List Int) 4 4 ch 4 _ (unhide hsh) hQl rfl rfl (by decide) (by decide)).mono ?_
 clear hQl
 rintro _ y8 ⟨rfl,hxc⟩
 refine ⟨_,rfl, ?_⟩
 simp only [decide_true]
 replace hP : Hid (Sp w [] w [] [(bv3,78,(k3V.flatMap encV).toArray),(be3,80,(k3E.flatMap encE).toArray),(bv4,78,(k4V.flatMap encV).toArray),(be4,80,(k4E0.flatMap encE).toArray),(blhsp,3,(([0,1,2] : List Int).flatMap encI).toArray),(blhsh,3,(([0,1,2,3] : List Int).flatMap encI).toArray)] [] y8) := hide ((unhide hP).ext hxc)
 replace hsp := hide ((unhide hsp).ext (hxc))
 replace hsh := hide ((unhide hsh).ext (hxc))
 replace hsc := hide ((unhide hsc).ext (hxc))
 clear hxc
 iterate 11
  refine wpO_want rfl ?_
  go_simp
 refine wpO_val (v := .slice (some ⟨y8.heap.size,0,none⟩) 3 3) rfl (w' := y8.alloc (.cells (([0,1,0] : List Int).flatMap encI).toArray 3)) (by go_simp; rfl) ?_
 replace hsp := hide ((unhide hsp).ext (ext_self1 y8 (.cells (([0,1,0] : List Int).flatMap encI).toArray 3)))
 replace hsh := hide ((unhide hsh).ext (ext_self1 y8 (.cells (([0,1,0] : List Int).flatMap encI).toArray 3)))
 replace hsc := hide ((unhide hsc).ext (ext_self1 y8 (.cells (([0,1,0] : List Int).flatMap encI).toArray 3)))
 have hQ := (unhide hP).alloc 3 (([0,1,0] : List Int).flatMap encI).toArray
 generalize y8.alloc (.cells (([0,1,0] : List Int).flatMap encI).toArray 3) = zy8 at *
 generalize y8.heap.size = blhsc at *
 replace hP : Hid (Sp w [] w [] [(bv3,78,(k3V.flatMap encV).toArray),(be3,80,(k3E.flatMap encE).toArray),(bv4,78,(k4V.flatMap encV).toArray),(be4,80,(k4E0.flatMap encE).toArray),(blhsp,3,(([0,1,2] : List Int).flatMap encI).toArray),(blhsh,3,(([0,1,2,3] : List Int).flatMap encI).toArray),(blhsc,3,(([0,1,0] : List Int).flatMap encI).toArray)] [] zy8) := hide hQ
 clear hQ
 go_frame
 refine wpO_want rfl ?_
 go_simp
 have hQl := slat_blk (enc := encI) (k := 1) ([0,1,0] : List Int) ((unhide hP).get 6 rfl) rfl (fun _ => rfl) (by decide)
 refine (same_ints Ac (some ⟨blhsc,0,none⟩) ([0,1,0] : List Int) ([0,1,0] : List Int) 3 3 cc 3 _ (unhide hsc) hQl rfl rfl (by decide) (by decide)).mono ?_
 clear hQl
 rintro _ y9 ⟨rfl,hxc⟩
 refine ⟨_,rfl, ?_⟩
 simp only [decide_true]
 replace hP : Hid (Sp w [] w [] [(bv3,78,(k3V.flatMap encV).toArray),(be3,80,(k3E.flatMap encE).toArray),(bv4,78,(k4V.flatMap encV).toArray),(be4,80,(k4E0.flatMap encE).toArray),(blhsp,3,(([0,1,2] : List Int).flatMap encI).toArray),(blhsh,3,(([0,1,2,3] : List Int).flatMap encI).toArray),(blhsc,3,(([0,1,0] : List Int).flatMap encI).toArray)] [] y9) := hide ((unhide hP).ext hxc)
 replace hsp := hide ((unhide hsp).ext (hxc))
 replace hsh := hide ((unhide hsh).ext (hxc))
 replace hsc := hide ((unhide hsc).ext (hxc))
 clear hxc
 iterate 2
  refine wpO_want rfl ?_
  go_simp
 refine wpO_done ?_
 try go_frame
 go_wp2_with fail
 refine Sp.leaves0 ?_
 exact ⟨_,results_tmp rfl _ _ _,rfl,(unhide hP).extf⟩
end Go.Proofs.YtmfkkkhddigkfaaGreatDoor
