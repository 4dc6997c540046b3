/- Every input makes the law GraphInduced answer true, and each argument reads behind the call as it read before: the given statement. No condition. -/
import Derived.Test.YtdkhondfahebnaaGreatGk
import Derived.Test.YtdkhondfahebnaaGreatP1
import Derived.Test.YtdkhondfahebnaaGreatOp
import Derived.Test.YtdkhondfahebnaaGreatBt
import Derived.WalkKit
import Derived.ProofKit
import Derived.WideShapes
import Derived.OpenShut
import Derived.ShutString
import Derived.ChangeOld
import Derived.Below
/- graph.Vertices, graph.Edges by a graph's sorted lists. Conditions: see each theorem. -/
namespace Go.Proofs.YtdkhondfahebnaaGreat
open Go Go.RowKit

theorem vertices_rel (g bv be : Nat) (V : List (Int × Thing)) (E : List ((Int × Int) × Thing)) (w : World) (hg : IsG w g bv be V E) :
    Calls Tryz.prog 20 #[.pointer (some ⟨g, 0, none⟩)] w fun e w' => ∃ A c, e = .returned (.slice A V.length c) ∧ w'.ownsRow w.heap.size 57 3 (.slice A V.length c) V.length (V.flatMap encV) ∧ Ext w w' := by
  have n1 := hg.nV
  obtain ⟨V', E', h1, hV, hE, hi⟩ := hg
  refine (vertices_any g bv be V' E' V w h1 hV hi.sv (by rw [← hV.length_eq]; exact n1)).mono fun e w' ⟨v, he, ho, hx⟩ => ?_
  obtain ⟨A, c, rfl⟩ := own_slice ho
  exact ⟨A, c, he, ho, hx⟩
theorem edges_rel (g bv be : Nat) (V : List (Int × Thing)) (E : List ((Int × Int) × Thing)) (w : World) (hg : IsG w g bv be V E) :
    Calls Tryz.prog 21 #[.pointer (some ⟨g, 0, none⟩)] w fun e w' => ∃ A c, e = .returned (.slice A E.length c) ∧ w'.ownsRow w.heap.size 60 4 (.slice A E.length c) E.length (E.flatMap encE) ∧ Ext w w' := by
  have n1 := hg.nE
  obtain ⟨V', E', h1, hV, hE, hi⟩ := hg
  refine (edges_any g bv be V' E' E w h1 hE hi.se (by rw [← hE.length_eq]; exact n1)).mono fun e w' ⟨v, he, ho, hx⟩ => ?_
  obtain ⟨A, c, rfl⟩ := own_slice ho
  exact ⟨A, c, he, ho, hx⟩

end Go.Proofs.YtdkhondfahebnaaGreat
/- LAW GraphInduced, the walk. Conditions: see each theorem. -/
namespace Go.Proofs.YtdkhondfahebnaaGreat
open Go Go.RowKit
attribute [local go_sem] qUpon lUpon

theorem vset_rel (g bv be : Nat) (V : List (Int × Thing)) (E : List ((Int × Int) × Thing)) (w : World) (hg : IsG w g bv be V E) : Calls Tryz.prog 12 #[.pointer (some ⟨g, 0, none⟩)] w fun e w' => e = .returned (.agg (setC (vS V))) ∧ Ext w w' :=
  vset_gen _ V w hg.nV fun W hW => (vertices_rel g bv be V E W (hg.ext hW)).mono fun e w' h => by
    obtain ⟨A, c, he, ho, hx⟩ := h
    exact ⟨A, c, he, own_at ho (fun _ => rfl), hx⟩
/-- a set stored in a variable of the call's own -/
theorem set_new (w : World) (N : Nat) : ∃ W, (storeCells ⟨w.heap.size, 0, none⟩ (setC N).toList).run Tryz.prog (w.alloc (.cells #[.int .u64 0, .int .u64 0, .int .u64 0, .int .u64 0, .int .u64 0, .int .u64 0, .int .u64 0, .int .u64 0, .int .u64 0, .int .u64 0, .int .u64 0, .int .u64 0, .int .u64 0, .int .u64 0, .int .u64 0, .int .u64 0] 25)) = .ok () W ∧ Blk W w.heap.size 25 (setC N) ∧ Ext w W := by
  have hB := Blk.new w 25 (setC 0)
  exact ⟨_, store_Set N hB, Blk.putS N hB, (ext_self1 w (.cells (setC 0) 25)).of_new (Keep.putS _ _ _) (by simp)⟩
theorem IsG.off_S {w : World} {g bv be : Nat} {V : List (Int × Thing)} {E : List ((Int × Int) × Thing)} (h : IsG w g bv be V E) {b : Nat} {T : TypeId} {N : Nat} (hb : Blk w b T (setC N)) : b ≠ bv ∧ b ≠ be := by
  obtain ⟨V', E', h1, _⟩ := h
  obtain ⟨es, c1, e1, _⟩ := h1.vs
  obtain ⟨es', c2, e2, _⟩ := h1.es
  unfold Blk at hb
  refine ⟨?_, ?_⟩
  · rintro rfl; rw [hb] at e1; simp at e1
  · rintro rfl; rw [hb] at e2; simp at e2

set_option maxRecDepth 100000 in
set_option maxHeartbeats 16000000 in
theorem graphInduced_walk (A : Option Addr) (L : List Ed) (cL : Nat) (N : Nat) (u : Int) (w : World) (hL : SlAt encD 5 w A L) (_hok : ∀ d ∈ L, okD d) (_hl : L.length ≤ 9223372036854775807) (_hc : L.length ≤ cL) (_hN : N < 2 ^ (64 * 16)) (hu : i64ok u) :
    Calls Tryz.prog 3 #[.slice A L.length cL, .agg (setC N), .int .i64 u] w fun e w' => e = .returned (.bool true) ∧ Ext w w' := by
  have hu' := hide hu
  have hL' := hide (hL.ext (ext_self1 w (.cells (setC N) 25)))
  have hbd := hide (Blk.new w 25 (setC N))
  clear hL hu
  go_enter Tryz.func3, Tryz.ntmps3
  go_wp2_with fail
  refine (made_any A L cL _ (unhide hL')).mono ?_
  rintro e w1 ⟨A1, cA, B1, cB, rfl, hs1, he1, hx1⟩
  have hinv := mdS_inv L
  generalize mdS L = S at *
  obtain ⟨V, E⟩ := S
  simp only at hs1 he1 hinv
  have hs1' := hide hs1
  have he1' := hide he1
  have hx1' := hide ((ext_self1 w _).trans hx1)
  have hi' := hide hinv
  have nV := hinv.nv
  have nE := hinv.ne
  have hx1q := hx1
  clear hs1 he1 hx1 hinv
  go_wp2_with fail
  have hbd1 := hide (((unhide hbd).ext hx1q).ext (ext_self1 _ (.cells #[.slice A1 V.length cA, .slice B1 E.length cB] 29)))
  refine (from_any A1 B1 V E cA cB _ ((unhide hs1').ext (ext_self1 _ _)) ((unhide he1').ext (ext_self1 _ _)) (unhide hi')).mono ?_
  rintro e wr ⟨g, bv, be, rfl, hg0, hx0, n1, n2, n3⟩
  have hbd2 := hide ((unhide hbd1).ext hx0)
  clear hbd hbd1 hx1q
  have hR : ApRel w wr g bv be w1.heap.size V E A1 B1 cA cB := by
    have h1 := Below.size (unhide hx1')
    simp at n1 n2 n3
    exact ⟨hg0, (Blk.new w1 _ _).ext hx0, ((unhide hs1').ext (ext_self1 _ _)).ext hx0, ((unhide he1').ext (ext_self1 _ _)).ext hx0, ((unhide hx1').trans (ext_self1 _ _)).trans hx0, by omega, by omega, by omega, h1⟩
  have hR' := hide hR
  clear hR hg0 hx0 n1 n2 n3 hs1' he1' hx1'
  generalize w1.heap.size = gw at *
  clear w1

  have e0 := (unhide hbd2).cells 0 (v := .int .u64 (wd N 0)) rfl
  have e1 := (unhide hbd2).cells 1 (v := .int .u64 (wd N 1)) rfl
  have e2 := (unhide hbd2).cells 2 (v := .int .u64 (wd N 2)) rfl
  have e3 := (unhide hbd2).cells 3 (v := .int .u64 (wd N 3)) rfl
  have e4 := (unhide hbd2).cells 4 (v := .int .u64 (wd N 4)) rfl
  have e5 := (unhide hbd2).cells 5 (v := .int .u64 (wd N 5)) rfl
  have e6 := (unhide hbd2).cells 6 (v := .int .u64 (wd N 6)) rfl
  have e7 := (unhide hbd2).cells 7 (v := .int .u64 (wd N 7)) rfl
  have e8 := (unhide hbd2).cells 8 (v := .int .u64 (wd N 8)) rfl
  have e9 := (unhide hbd2).cells 9 (v := .int .u64 (wd N 9)) rfl
  have e10 := (unhide hbd2).cells 10 (v := .int .u64 (wd N 10)) rfl
  have e11 := (unhide hbd2).cells 11 (v := .int .u64 (wd N 11)) rfl
  have e12 := (unhide hbd2).cells 12 (v := .int .u64 (wd N 12)) rfl
  have e13 := (unhide hbd2).cells 13 (v := .int .u64 (wd N 13)) rfl
  have e14 := (unhide hbd2).cells 14 (v := .int .u64 (wd N 14)) rfl
  have e15 := (unhide hbd2).cells 15 (v := .int .u64 (wd N 15)) rfl
  have q0 := (unhide hR').blk.cells 0 (v := .slice A1 V.length cA) rfl
  have q1 := (unhide hR').blk.cells 1 (v := .slice B1 E.length cB) rfl
  have hself := Ext.refl wr
  go_wp2_with fail
  refine wp_region_ext (P := Tryz.prog) [0,1,2,3,4,7,8] [] 14 #[true,true,true,true,true,false,false,true,true,false,false,false,false,false,false,false,false,false,false,false,false] (by kernel_rfl) (by kernel_rfl) rfl (by rfl) ?_
  iterate 7
    first
    | (refine ql_skip rfl (by rfl) ?_)
    | (refine ql_want (v := ?_) rfl (by rfl) (fun W hW => ?_) ?_; rotate_left; (go_simp; (first | done | rfl)))
    try go_frame
  refine wpQL_nil (fun w3 hx3 => ?_)
  have hR0 := hide ((unhide hR').go hx3)
  have hX0 := hide hx3
  clear hR' hx3 q0 q1 hself e0 e1 e2 e3 e4 e5 e6 e7 e8 e9 e10 e11 e12 e13 e14 e15
  refine lx_one (i := 5) (by kernel_rfl) rfl (by rfl) #[true,true,true,true,true,true,false,true,true,false,false,false,false,false,false,false,false,false,false,false,false] (by rfl) ?_
  go_simp
  refine (induced_rel g bv be V E N _ (unhide hR0).isg).mono ?_
  rintro e wx0 ⟨o, ov, oe, rfl, hgo, hxx, _, _, _⟩
  refine ⟨_, rfl, (unhide hX0).trans hxx, fun wy0 hxy => ?_⟩
  have hkk := hxx.trans hxy
  have hO1 := hide (hgo.ext hxy)
  have hR1 := hide ((unhide hR0).go hkk)
  clear hR0
  have hX1 := hide ((unhide hX0).trans hkk)
  clear hX0 hxx hxy hkk hgo
  refine lx_one (i := 6) (by kernel_rfl) rfl (by rfl) #[true,true,true,true,true,true,true,true,true,false,false,false,false,false,false,false,false,false,false,false,false] (by rfl) ?_
  go_simp
  refine (to_rel o ov oe (subV N V) (subE N E) _ (unhide hO1)).mono ?_
  rintro e wx1 ⟨A4, c4, B4, d4, rfl, hz1, hz2, hxx⟩
  refine ⟨_, rfl, (unhide hX1).trans hxx, fun wy1 hxy => ?_⟩
  have hkk := hxx.trans hxy
  have hs42 := hide (hz1.ext hxy)
  have he42 := hide (hz2.ext hxy)
  have hR2 := hide ((unhide hR1).go hkk)
  have hO2 := hide ((unhide hO1).ext hkk)
  clear hR1 hO1
  have hX2 := hide ((unhide hX1).trans hkk)
  clear hX1 hxx hxy hkk hz1 hz2
  refine lx_one (i := 9) (by kernel_rfl) rfl (by rfl) #[true,true,true,true,true,true,true,true,true,true,false,false,false,false,false,false,false,false,false,false,false] (by rfl) ?_
  go_simp
  refine (to01_any N _).mono ?_
  rintro e wx2 ⟨A5, c5, rfl, hz0, hxx⟩
  refine ⟨_, rfl, (unhide hX2).trans hxx, fun wy2 hxy => ?_⟩
  have hkk := hxx.trans hxy
  have hs53 := hide ((own_at hz0 (fun _ => rfl)).ext hxy)
  have hR3 := hide ((unhide hR2).go hkk)
  have hO3 := hide ((unhide hO2).ext hkk)
  have hs43 := hide ((unhide hs42).ext hkk)
  have he43 := hide ((unhide he42).ext hkk)
  clear hR2 hO2 hs42 he42
  have hX3 := hide ((unhide hX2).trans hkk)
  clear hX2 hxx hxy hkk  hz0
  refine lx_one (i := 10) (by kernel_rfl) rfl (by rfl) #[true,true,true,true,true,true,true,true,true,true,true,false,false,false,false,false,false,false,false,false,false] (by rfl) ?_
  go_simp
  refine (rpart_any A1 B1 A5 V E (toL N) cA cB c5 _ (unhide hR3).sv (unhide hR3).se (unhide hs53) (by omega) (by omega) (by have := toK_le N 1024; unfold toL; omega)).mono ?_
  unfold PtPost
  rw [(part_sub N V E).1, (part_sub N V E).2]
  rintro e wx3 ⟨A6, c6, B6, d6, rfl, hz3, hz4, hxx⟩
  refine ⟨_, rfl, (unhide hX3).trans hxx, fun wy3 hxy => ?_⟩
  have hkk := hxx.trans hxy
  have hs64 := hide (hz3.ext hxy)
  have he64 := hide (hz4.ext hxy)
  have hR4 := hide ((unhide hR3).go hkk)
  have hO4 := hide ((unhide hO3).ext hkk)
  have hs44 := hide ((unhide hs43).ext hkk)
  have he44 := hide ((unhide he43).ext hkk)
  have hs54 := hide ((unhide hs53).ext hkk)
  clear hR3 hO3 hs43 he43 hs53
  have hX4 := hide ((unhide hX3).trans hkk)
  clear hX3 hxx hxy hkk hz3 hz4
  have hls := hide (show (subV N V).length ≤ 4096 ∧ (subE N E).length ≤ 4096 from ⟨Nat.le_trans (List.length_filter_le _ _) (by omega), Nat.le_trans (List.length_filter_le _ _) (by omega)⟩)
  have q0 := (unhide hR4).blk.cells 0 (v := .slice A1 V.length cA) rfl
  have q1 := (unhide hR4).blk.cells 1 (v := .slice B1 E.length cB) rfl
  have hself := Ext.refl wy3
  refine lx_ext [11, 12, 13, 14, 15, 17] [] 4 10 #[true,true,true,true,true,true,true,true,true,true,true,false,false,false,false,false,false,false,false,false,false] #[true,true,true,true,true,true,true,true,true,true,true,true,true,true,true,true,false,true,false,false,false] (by kernel_rfl) rfl (by rfl) (unhide hX4) ?_
  iterate 6
    first
    | (refine ql_skip rfl (by rfl) ?_)
    | (refine ql_want (v := ?_) rfl (by rfl) (fun W hW => ?_) ?_; rotate_left; (go_simp; (first | done | rfl | (go_at_call 6; refine (same_refl A4 B4 A6 B6 (subV N V) (subE N E) _ _ _ _ _ ((unhide hs44).ext (by assumption)) ((unhide he44).ext (by assumption)) ((unhide hs64).ext (by assumption)) ((unhide he64).ext (by assumption)) (by first | omega | exact (unhide hls).1) (by first | omega | exact (unhide hls).2)).mono ?_; rintro _ _ ⟨h1, h2⟩; refine ⟨_, h1, ?_, h2⟩; rfl))))
    try go_frame
  refine wpQL_nil (fun wa hxa => ?_)
  have hRa := hide ((unhide hR4).go hxa)
  clear q0 q1 hself hls hs44 he44 hs54 hs64 he64 hO4
  refine lx_one (i := 16) (by kernel_rfl) rfl (by rfl) #[true,true,true,true,true,true,true,true,true,true,true,true,true,true,true,true,true,true,false,false,false] (by rfl) ?_
  go_simp
  refine (to_rel g bv be V E _ (unhide hRa).isg).mono ?_
  rintro e wb ⟨A7, c7, B7, d7, rfl, hs7, he7, hxb⟩
  refine ⟨_, rfl, hxa.trans hxb, fun wc hxc => ?_⟩
  have hs8 := hide (hs7.ext hxc)
  have he8 := hide (he7.ext hxc)
  have hxd := (hxa.trans hxb).trans hxc
  have hRc := hide ((unhide hR4).go hxd)
  clear hs7 he7 hRa
  have hRs := hide (unhide hRc).sv
  have hRe := hide (unhide hRc).se
  have hls := hide (show V.length ≤ 4096 ∧ E.length ≤ 4096 by omega)
  refine lx_ext [18,19,20] [] 0 3 #[true,true,true,true,true,true,true,true,true,true,true,true,true,true,true,true,true,true,false,false,false] #[true,true,true,true,true,true,true,true,true,true,true,true,true,true,true,true,true,true,true,true,true] (by kernel_rfl) rfl (by rfl) hxd ?_
  clear hxa hxb hxc hxd
  iterate 3
    first
    | (refine ql_skip rfl (by rfl) ?_)
    | (refine ql_want (v := ?_) rfl (by rfl) (fun W hW => ?_) ?_; rotate_left; (go_simp; (first | done | rfl | (go_at_call 6; refine (same_refl A7 B7 A1 B1 V E _ _ _ _ _ ((unhide hs8).ext (by assumption)) ((unhide he8).ext (by assumption)) ((unhide hRs).ext (by assumption)) ((unhide hRe).ext (by assumption)) (by first | omega | exact (unhide hls).1) (by first | omega | exact (unhide hls).2)).mono ?_; rintro _ _ ⟨h1, h2⟩; refine ⟨_, h1, ?_, h2⟩; rfl))))
    try go_frame
  refine wpQL_nil (fun wz hxe => ?_)
  refine wpX_done (by kernel_rfl) ?_
  try go_frame
  have hRd := hide ((unhide hRc).go hxe)
  clear hRc hxe hRs hRe hls hs8 he8
  clear hbd2
  go_wp2_with fail
  refine (clone_any g bv be V E _ (unhide hRd).isg).mono ?_
  rintro e w2 ⟨o, ov, oe, rfl, hg0, hx0, n1, n2, n3⟩
  have hlt := (unhide hRd).isg.lt
  have hR2 := hide ((unhide hRd).go hx0)
  have hO := hide hg0
  have hlo := (unhide hRd).lo
  have hsz := Below.size (unhide hRd).ext
  have hov' := hide (show ov ≠ g ∧ ov ≠ bv ∧ ov ≠ be ∧ w.heap.size ≤ ov by omega)
  have hoe' := hide (show oe ≠ g ∧ oe ≠ bv ∧ oe ≠ be ∧ w.heap.size ≤ oe by omega)
  clear hRd hg0 hx0 n1 n2 n3 hlt hlo hsz
  go_wp2_with fail
  refine (vset_rel g bv be V E _ (unhide hR2).isg).mono ?_
  rintro e w3 ⟨rfl, hx3⟩
  have hR3 := hide ((unhide hR2).go hx3)
  have hO3 := hide ((unhide hO).ext hx3)
  clear hR2 hO hx3
  obtain ⟨M, hM⟩ : ∃ M, M = vS V := ⟨_, rfl⟩
  rw [← hM]
  have hM' := hide hM
  clear hM
  obtain ⟨w4, hst, hB4, hx4⟩ := set_new w3 M
  have hsz := setC_size M
  have hR4 := hide ((unhide hR3).go hx4)
  have hO4 := hide ((unhide hO3).ext hx4)
  have hB4' := hide hB4
  have hoff := (unhide hO4).off_S hB4
  have hoff' := hide hoff
  clear hR3 hO3 hx4 hB4 hoff
  go_wp2_with fail
  clear hst hsz
  generalize w3.heap.size = b10 at *
  refine (apply_any o ov oe V E 1 u 0 0 0 _ (unhide hO4) (unhide hu') (by unfold i64ok; decide)).mono ?_
  rintro e w5 ⟨rfl, hg5, hk5⟩
  have hR5 := hide ((unhide hR4).other (unhide hO4) hk5 (unhide hov') (unhide hoe'))
  have hB5 := hide ((unhide hB4').keep hk5 (by have := unhide hoff'; simp; omega))
  clear hR4 hO4 hB4' hk5 hov' hoe' hoff'
  by_cases h0 : wrongR 1 u 0 0 V E = 0
  · have hrm := rm_sub (unhide hi') h0 (lab := 0)
    rw [hrm.1, hrm.2] at hg5
    have hO5 := hide hg5
    rw [h0]
    clear hrm hg5 h0
    have hself := Ext.refl w5
    have e0 := (unhide hB5).cells 0 (v := .int .u64 (wd M 0)) rfl
    have e1 := (unhide hB5).cells 1 (v := .int .u64 (wd M 1)) rfl
    have e2 := (unhide hB5).cells 2 (v := .int .u64 (wd M 2)) rfl
    have e3 := (unhide hB5).cells 3 (v := .int .u64 (wd M 3)) rfl
    have e4 := (unhide hB5).cells 4 (v := .int .u64 (wd M 4)) rfl
    have e5 := (unhide hB5).cells 5 (v := .int .u64 (wd M 5)) rfl
    have e6 := (unhide hB5).cells 6 (v := .int .u64 (wd M 6)) rfl
    have e7 := (unhide hB5).cells 7 (v := .int .u64 (wd M 7)) rfl
    have e8 := (unhide hB5).cells 8 (v := .int .u64 (wd M 8)) rfl
    have e9 := (unhide hB5).cells 9 (v := .int .u64 (wd M 9)) rfl
    have e10 := (unhide hB5).cells 10 (v := .int .u64 (wd M 10)) rfl
    have e11 := (unhide hB5).cells 11 (v := .int .u64 (wd M 11)) rfl
    have e12 := (unhide hB5).cells 12 (v := .int .u64 (wd M 12)) rfl
    have e13 := (unhide hB5).cells 13 (v := .int .u64 (wd M 13)) rfl
    have e14 := (unhide hB5).cells 14 (v := .int .u64 (wd M 14)) rfl
    have e15 := (unhide hB5).cells 15 (v := .int .u64 (wd M 15)) rfl
    go_wp2_with fail
    refine (known_any _).mono ?_
    rintro e w6 ⟨rfl, hx6⟩
    have hB6 := hide ((unhide hB5).ext hx6)
    clear e0 e1 e2 e3 e4 e5 e6 e7 e8 e9 e10 e11 e12 e13 e14 e15
    have e0 := (unhide hB6).cells 0 (v := .int .u64 (wd M 0)) rfl
    have e1 := (unhide hB6).cells 1 (v := .int .u64 (wd M 1)) rfl
    have e2 := (unhide hB6).cells 2 (v := .int .u64 (wd M 2)) rfl
    have e3 := (unhide hB6).cells 3 (v := .int .u64 (wd M 3)) rfl
    have e4 := (unhide hB6).cells 4 (v := .int .u64 (wd M 4)) rfl
    have e5 := (unhide hB6).cells 5 (v := .int .u64 (wd M 5)) rfl
    have e6 := (unhide hB6).cells 6 (v := .int .u64 (wd M 6)) rfl
    have e7 := (unhide hB6).cells 7 (v := .int .u64 (wd M 7)) rfl
    have e8 := (unhide hB6).cells 8 (v := .int .u64 (wd M 8)) rfl
    have e9 := (unhide hB6).cells 9 (v := .int .u64 (wd M 9)) rfl
    have e10 := (unhide hB6).cells 10 (v := .int .u64 (wd M 10)) rfl
    have e11 := (unhide hB6).cells 11 (v := .int .u64 (wd M 11)) rfl
    have e12 := (unhide hB6).cells 12 (v := .int .u64 (wd M 12)) rfl
    have e13 := (unhide hB6).cells 13 (v := .int .u64 (wd M 13)) rfl
    have e14 := (unhide hB6).cells 14 (v := .int .u64 (wd M 14)) rfl
    have e15 := (unhide hB6).cells 15 (v := .int .u64 (wd M 15)) rfl
    have hR6 := hide ((unhide hR5).go hx6)
    have hO6 := hide ((unhide hO5).ext hx6)
    clear hself hR5 hO5 hB5 hx6
    have hself := Ext.refl w6
    go_wp2_with fail
    refine (to01_any M _).mono ?_
    rintro e w7 ⟨A5, c5, rfl, hz0, hx7⟩
    have hR7 := hide ((unhide hR6).go hx7)
    have hO7 := hide ((unhide hO6).ext hx7)
    have hs7 := hide (own_at hz0 (fun _ => rfl))
    clear e0 e1 e2 e3 e4 e5 e6 e7 e8 e9 e10 e11 e12 e13 e14 e15
    clear hself hR6 hO6 hB6 hx7 hz0
    have hlM := hide (show (toL M).length ≤ 4096 by have := toK_le M 1024; unfold toL; omega)
    go_wp2_with fail
    refine (without_any A5 (toL M) c5 u _ (unhide hs7) (unhide hlM)).mono ?_
    rintro e w8 ⟨A6, c6, rfl, hs8, hx8⟩
    have hR8 := hide ((unhide hR7).go hx8)
    have hO8 := hide ((unhide hO7).ext hx8)
    have hs8' := hide hs8
    clear hR7 hO7 hs7 hx8 hs8
    go_wp2_with fail
    refine (from01_any A6 (woL u (toL M)) c6 _ (unhide hs8') (Nat.le_trans (woL_le _ _) (unhide hlM))).mono ?_
    rintro e w9 ⟨rfl, hx9⟩
    rw [show fromS (woL u (toL M)) = butS u V by rw [unhide hM']; rfl]
    generalize hK : butS u V = K at *
    have hK' := hide hK
    clear hK
    have hR9 := hide ((unhide hR8).go hx9)
    have hO9 := hide ((unhide hO8).ext hx9)
    clear hR8 hO8 hs8' hx9
    go_wp2_with fail
    refine (induced_rel g bv be V E K _ (unhide hR9).isg).mono ?_
    rintro e wa ⟨p, pv, pe, rfl, hP, hx10, _, _, _⟩
    have hR10 := hide ((unhide hR9).go hx10)
    have hO10 := hide ((unhide hO9).ext hx10)
    have hP' := hide hP
    clear hR9 hO9 hP hx10
    go_wp2_with fail
    refine (equal_self o ov oe p pv pe (subV K V) (subE K E) _ (unhide hO10) (unhide hP')).mono ?_
    rintro e wb ⟨rfl, hx11⟩
    have hR11 := hide ((unhide hR10).go hx11)
    clear hR10 hO10 hP' hx11
    go_wp2_with fail
    go_ret
    exact ⟨rfl, (unhide hR11).ext⟩
  · have hnx : nxV 1 u 0 0 0 V E = V ∧ nxE 1 u 0 0 0 V E = E := ⟨if_neg h0, if_neg h0⟩
    rw [hnx.1, hnx.2] at hg5
    have hO5 := hide hg5
    have hb0 := bne0 h0
    generalize wrongR 1 u 0 0 V E = no at *
    clear hnx hg5 h0
    go_wp2_with fail
    refine (known_any _).mono ?_
    rintro e w6 ⟨rfl, hx6⟩
    have hR6 := hide ((unhide hR5).go hx6)
    have hO6 := hide ((unhide hO5).ext hx6)
    clear hR5 hO5 hB5 hx6
    go_wp2_with fail
    refine (equal_self o ov oe g bv be V E _ (unhide hO6) (unhide hR6).isg).mono ?_
    rintro e wb ⟨rfl, hx11⟩
    have hR11 := hide ((unhide hR6).go hx11)
    clear hR6 hO6 hx11
    go_wp2_with fail
    go_ret
    exact ⟨rfl, (unhide hR11).ext⟩
end Go.Proofs.YtdkhondfahebnaaGreat
/- ARGUMENTS OPENED, further: a set by value. Conditions: see each theorem. -/
namespace Go.Proofs.YtdkhondfahebnaaGreat
open Go Go.RowKit Go.ChangeShapes Go.WideShapes Go.Deep

/-- the number whose words are given -/
def packN (s : Nat → Nat) : Nat → Nat
  | 0 => 0
  | k + 1 => packN s k + s k * 2 ^ (64 * k)
theorem packN_lt (s : Nat → Nat) (h : ∀ i, s i < 18446744073709551616) : ∀ k, packN s k < 2 ^ (64 * k)
  | 0 => by simp [packN]
  | k + 1 => by
    have ih := packN_lt s h k
    have hk := h k
    have e : 2 ^ (64 * (k + 1)) = 18446744073709551616 * 2 ^ (64 * k) := by rw [show 64 * (k + 1) = 64 + 64 * k by omega, Nat.pow_add]
    rw [packN, e]
    have : (s k + 1) * 2 ^ (64 * k) ≤ 18446744073709551616 * 2 ^ (64 * k) := Nat.mul_le_mul_right _ hk
    rw [Nat.add_mul, Nat.one_mul] at this
    omega
theorem packN_word (s : Nat → Nat) (h : ∀ i, s i < 18446744073709551616) : ∀ k i, i < k → wdN (packN s k) i = s i
  | 0, i, hi => by omega
  | k + 1, i, hi => by
    have hlt := packN_lt s h k
    by_cases he : i = k
    · subst he
      unfold wdN
      rw [packN, Nat.shiftRight_eq_div_pow, Nat.add_mul_div_right _ _ (Nat.pow_pos (by decide)), Nat.div_eq_of_lt hlt, Nat.zero_add]
      exact Nat.mod_eq_of_lt (h i)
    · have ih := packN_word s h k i (by omega)
      rw [← ih]
      apply Nat.eq_of_testBit_eq
      intro j
      rw [wdN_bit, wdN_bit]
      by_cases hj : j < 64
      · simp only [hj, decide_true, Bool.true_and]
        rw [packN, Nat.add_comm, Nat.mul_comm, Nat.testBit_two_pow_mul_add _ hlt]
        rw [if_pos (by omega)]
      · simp [hj]
section
variable {H : Type} {enc : TypeId × Value → H} {w : World} {base : Nat} {spare : Nat → Bool} {held : Bool}
set_option maxRecDepth 100000 in
theorem open_set {v : Value} {d : DataW H} {p : List MemPlace} {r : Reach} {b0 : Nat} (hv : Value.okWide Tryz.prog w r b0 25 v) (h : DataW.Trod enc Tryz.prog w base spare held 25 v d p) :
    ∃ N : Nat, v = .agg (setC N) ∧ N < 2 ^ (64 * 16) := by
  have hv2 := hv
  unfold Value.okWide at hv2
  rw [Tryz.underlying25] at hv2
  obtain ⟨cs, rfl, hsz, _⟩ := hv2
  have h16 : cs.size = 16 := hsz.trans (by kernel_rfl)
  obtain ⟨fuel, hf⟩ := h
  obtain ⟨xs, m, _, _, _, hlen, hg⟩ := DataW.trod_array Tryz.underlying25 hf
  have hce : Program.cellsOf Tryz.prog 23 = 1 := by kernel_rfl
  have hall : ∀ i, i < 16 → ∃ n : Nat, cs[i]? = some (.int .u64 (n : Int)) ∧ n < 18446744073709551616 := by
    intro i hi
    have h1 := hg i hi
    rw [hce, Nat.mul_one] at h1
    have hc : cs[i]? = some (cs[i]'(by omega)) := Array.getElem?_eq_getElem (by omega)
    have hd : (cs.toList.drop i).take 1 = [cs[i]'(by omega)] := by
      rw [List.drop_eq_getElem_cons (by simpa using (show i < cs.size by omega))]
      simp
    have h2 : DataW.trod enc Tryz.prog w base spare held m 23 [cs[i]'(by omega)] = some (xs[i]'(by omega)) := by
      rw [← hd]
      exact h1.trans (List.getElem?_eq_getElem (by omega))
    obtain ⟨z, ez, _, wz⟩ := DataW.trod_int Tryz.underlying23 h2
    simp only [List.cons.injEq, and_true] at ez
    have hb := Go.bounds_u64 wz
    refine ⟨z.toNat, ?_, by omega⟩
    rw [hc, ez, show ((z.toNat : Nat) : Int) = z by omega]
  obtain ⟨f, hf2⟩ := choose_lt hall
  have hN : ∀ i, (if i < 16 then f i else 0) < 18446744073709551616 := by
    intro i
    split
    · exact (hf2 i (by omega)).2
    · decide
  refine ⟨packN (fun i => if i < 16 then f i else 0) 16, ?_, packN_lt _ hN 16⟩
  congr 1
  apply Array.ext_getElem?
  intro i
  by_cases hi : i < 16
  · rw [setC_get _ hi, (hf2 i hi).1]
    unfold wd
    rw [packN_word _ hN 16 i hi, if_pos hi]
  · have h1 : ∀ a : Array Value, a.size = 16 → a[i]? = none := fun a h => Array.getElem?_eq_none (by omega)
    rw [h1 _ h16, h1 _ (setC_size _)]
end
end Go.Proofs.YtdkhondfahebnaaGreat
/- Every input makes the law GraphInduced answer true, and each argument reads behind the call as it read before: the given statement. No condition. -/
namespace Go.Proofs.YtdkhondfahebnaaGreat.graphInducedRow
open Go.ChangeShapes Go.WideShapes Go.ChangeAt Go.RowKit
set_option linter.unusedVariables false

theorem own : ownKnob Tryz.prog.godebug = none := by kernel_rfl
theorem laidOut : laidOutB Tryz.prog = true := by kernel_rfl

set_option maxRecDepth 100000 in
theorem lifted (os : Os) (started : os.Started) (H : Type) (enc : TypeId × Value → H) :
    ReturnsInHanded {} Tryz.checked os 3 .any (Rows.graphInducedSpec.pre6 enc Tryz.prog Tryz.f3 Rows.graphInducedRow.domain false) (Rows.graphInducedSpec.post enc Tryz.prog Tryz.f3 false true false false) := by
  refine returnsInHanded_of_change (C := Tryz.checked) own started (by kernel_rfl) Tryz.func3
    (ChangeSpec.witness6 (enc := enc) (C := Tryz.checked) false ⟨#[], #[.slice none 0 0, .agg #[.int .u64 0, .int .u64 0, .int .u64 0, .int .u64 0, .int .u64 0, .int .u64 0, .int .u64 0, .int .u64 0, .int .u64 0, .int .u64 0, .int .u64 0, .int .u64 0, .int .u64 0, .int .u64 0, .int .u64 0, .int .u64 0], .int .i64 0], []⟩ 8 (by kernel_rfl) (by kernel_rfl) (by kernel_rfl) (by kernel_rfl)) ?_
  intro W base args ds gs before hval0 hW hcnd _
  have hval : ∀ (j : Nat) t v, Tryz.f3.params[j]? = some t → args[j]? = some v → Value.okWide Tryz.prog W .any base t v := hval0
  have hW' := hW
  obtain ⟨p, q, hA0, hV, rfl, hfz, hnd⟩ := hW
  have hA : DataW.TrodAll enc Tryz.prog W 0 (fun _ => true) true Tryz.f3.params.toList args.toList ds p := hA0
  rw [Tryz.params3] at hA hval
  obtain ⟨v0, vs0, d0, ds0, p0, q0, hargs, rfl, rfl, h0, r0⟩ := trodAll_cons hA
  obtain ⟨v1, vs1, d1, ds1, p1, q1, rfl, rfl, rfl, h1, r1⟩ := trodAll_cons r0
  obtain ⟨v2, vs2, d2, ds2, p2, q2, rfl, rfl, rfl, h2, r2⟩ := trodAll_cons r1
  obtain ⟨rfl, rfl, rfl⟩ := trodAll_nil r2
  obtain rfl : args = #[v0, v1, v2] := by cases args; simp_all
  obtain ⟨rfl, rfl⟩ := trodVars_none hV
  obtain ⟨a0, len0, cap0, rfl⟩ := okWide_slice Tryz.underlying22 (hval 0 22 v0 rfl rfl)
  have k0 := h0
  have lt0 : ∀ x ∈ p0, x.block < W.heap.size := by obtain ⟨m, hm⟩ := k0; exact DataW.trod_lt m _ _ _ hm
  obtain ⟨fu0, hf0⟩ := h0
  obtain ⟨L0, hn0, hs0, ho0, hm0, hz0⟩ := open_edits (by simpa [Value.cells] using hf0)
  subst hn0
  have k1 := h1
  have lt1 : ∀ x ∈ p1, x.block < W.heap.size := by obtain ⟨m, hm⟩ := k1; exact DataW.trod_lt m _ _ _ hm
  obtain ⟨x1, rfl, ho1⟩ := open_set (hval 1 25 v1 rfl rfl) h1
  obtain ⟨a2, rfl, rfl, rfl, w2⟩ := open_int Tryz.underlying3 (hval 2 3 v2 rfl rfl) h2
  clear hA0 hval0
  refine (graphInduced_walk a0 L0 cap0 x1 a2 W hs0 ho0 hm0 hz0 ho1 (i64_of_wf w2)).mono fun e W' ⟨he, bel⟩ => ?_
  subst he
  exact ⟨_, rfl, _, _, _, [], _, [], hW', trodAll_mk1 (shut_bool Tryz.underlying4 _), (trodAll_cons_mk (Below.trod laidOut (by kernel_rfl) (of_decide_eq_true (by kernel_rfl)) k0 bel lt0) (trodAll_cons_mk (Below.trod laidOut (by kernel_rfl) (of_decide_eq_true (by kernel_rfl)) k1 bel lt1) (trodAll_cons_mk (shut_int Tryz.underlying3 w2) trodAll_mk0))), rfl, bel.frame _, fun h => by cases h⟩

theorem over : Rows.graphInducedRow.holds Tryz.pinned (OpenSpec.ofChange Rows.graphInducedSpec) :=
  OpenClaim.holds_of_wide 3 Tryz.f3 rfl rfl rfl rfl rfl rfl rfl ⟨rfl, rfl, rfl, rfl, rfl⟩ rfl rfl rfl rfl rfl (by kernel_rfl) Tryz.func3 (by kernel_rfl)
    (of_decide_eq_true (by kernel_rfl)) (by unfold Func.isWrapper; first | (rw [if_pos (by decide +kernel)]; kernel_rfl) | (rw [if_neg (by decide +kernel)]; exact ⟨rfl, rfl⟩))
    (fun os started H enc _ => lifted os started H enc)
end Go.Proofs.YtdkhondfahebnaaGreat.graphInducedRow
namespace Go.Proofs.YtdkhondfahebnaaGreat
/-- the given statement -/
theorem graphInduced_holds : Rows.GraphInducedSaid := graphInducedRow.over
#print axioms graphInduced_holds
end Go.Proofs.YtdkhondfahebnaaGreat
