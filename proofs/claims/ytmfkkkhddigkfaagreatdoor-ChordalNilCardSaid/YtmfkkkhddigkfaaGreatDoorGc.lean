/- WHAT EACH EDIT DOES TO A GRAPH. Conditions: see each theorem. -/
import Derived.Test.YtmfkkkhddigkfaaGreatDoorGb
namespace Go.Proofs.YtmfkkkhddigkfaaGreatDoor
open Go Go.RowKit
attribute [local go_sem] qUpon lUpon
theorem field0 (a b : Int) (W : World) : (Instr.field 138 (.agg #[.int .u8 a, .int .i64 b]) 0).run Tryz.prog W = .ok (.int .u8 a) W := by kernel_rfl
theorem field1 (a b : Int) (W : World) : (Instr.field 138 (.agg #[.int .u8 a, .int .i64 b]) 1).run Tryz.prog W = .ok (.int .i64 b) W := by kernel_rfl
attribute [local go_sem] field0 field1

theorem GraphAt.ptr0 {w : World} {g bv be : Nat} {V : List (Int × Thing)} {E : List ((Int × Int) × Thing)} (h : GraphAt w g bv be V E) : ∀ W, Ext w W → W.cell? ⟨g, 0, none⟩ = some (.map (some bv)) := h.blk.cells 0 rfl
theorem GraphAt.ptr1 {w : World} {g bv be : Nat} {V : List (Int × Thing)} {E : List ((Int × Int) × Thing)} (h : GraphAt w g bv be V E) : ∀ W, Ext w W → W.cell? ⟨g, 1, none⟩ = some (.map (some be)) := h.blk.cells 1 rfl
theorem GraphAt.gv {w : World} {g bv be : Nat} {V : List (Int × Thing)} {E : List ((Int × Int) × Thing)} (h : GraphAt w g bv be V E) : g ≠ bv ∧ g ≠ be := by
  have h1 := h.blk
  obtain ⟨es, ck, h2, _⟩ := h.vs
  obtain ⟨es', ck', h3, _⟩ := h.es
  unfold Blk at h1
  constructor
  · rintro rfl; rw [h1] at h2; cases h2
  · rintro rfl; rw [h1] at h3; cases h3
/-- the vertices have turned -/
theorem GraphAt.setV {w w' : World} {g bv be : Nat} {V V' : List (Int × Thing)} {E : List ((Int × Int) × Thing)} (h : GraphAt w g bv be V E) (hv : MapIs ekV evT i64ok w' bv V') (k : Keep [bv] w w') : GraphAt w' g bv be V' E :=
  ⟨h.blk.keep k (by simpa using h.gv.1), hv, h.es.keep k (by simpa using h.ne.symm), h.ne⟩
theorem GraphAt.setE {w w' : World} {g bv be : Nat} {V : List (Int × Thing)} {E E' : List ((Int × Int) × Thing)} (h : GraphAt w g bv be V E) (he : MapIs ekE evT okE w' be E') (k : Keep [be] w w') : GraphAt w' g bv be V E' :=
  ⟨h.blk.keep k (by simpa using h.gv.2), h.vs.keep k (by simpa using h.ne), he, h.ne⟩
theorem Keep.of_ext {S : List Nat} {a b c : World} (h : Ext a b) (k : Keep S b c) : Keep S a c := (h.keep S).trans k
theorem box_edit (w : World) (op u v lab wt : Int) : EditAt (w.alloc (.cells #[.int .i64 op, .int .i64 u, .int .i64 v, .int .u8 lab, .int .i64 wt] 121)) w.heap.size op u v lab wt := EditAt.of (Blk.new w _ _)
theorem mm_ok {u v : Int} (hu : i64ok u) (hv : i64ok v) : okE (min u v, max u v) := ⟨by unfold i64ok at *; omega, by unfold i64ok at *; omega⟩

set_option maxHeartbeats 1000000 in
theorem add_any (g bv be : Nat) (V : List (Int × Thing)) (E : List ((Int × Int) × Thing)) (op u v lab wt : Int) (w : World) (hg : GraphAt w g bv be V E) (hu : i64ok u) (hv : i64ok v) :
    Calls Tryz.prog 129 #[.pointer (some ⟨g, 0, none⟩), .agg #[.int .i64 op, .int .i64 u, .int .i64 v, .int .u8 lab, .int .i64 wt]] w fun e w' => e = .returned (.tuple #[]) ∧ GraphAt w' g bv be (putM V u (lab, wt)) E ∧ Keep [bv] w w' := by
  have hmm := mm_ok hu hv
  go_enter Tryz.func129, Tryz.ntmps129
  go_wp2
  refine wp_abs (fun W => Ext w W ∧ EditAt W w.heap.size op u v lab wt) ⟨(Ext.refl w).alloc _, box_edit w op u v lab wt⟩ ?_
  rintro w1 ⟨hx1, c0, c1, c2, c3, c4⟩
  have G1 := hg.ext hx1
  have d0 := G1.ptr0
  have d1 := G1.ptr1
  clear hg
  refine wp_region_still (P := Tryz.prog) [0,1,2,3,4,5,6,7,8,9,10] [11] 1 #[true,true,true,true,true,true,true,true,true,true,true,false] (by kernel_rfl) (by kernel_rfl) rfl (by rfl) ?_
  iterate 11
    refine ql_want (v := ?_) rfl (by rfl) (fun W hW => ?_) ?_
    rotate_left
    · go_simp
      first | done | rfl | (fail)
    go_frame
  refine wpQL_nil (fun w2 hx2 => ?_)
  obtain ⟨w3, hrun, hm3, hk3, hs3⟩ := (G1.vs.ext hx2).update keV Tryz.underlying133 hu (lab, wt)
  simp only [ekV, evT] at hrun
  refine lx_one (i := 11) (by kernel_rfl) rfl (by rfl) #[true,true,true,true,true,true,true,true,true,true,true,true] (by rfl) ?_
  go_simp
  refine wpX_done (by kernel_rfl) ?_
  try go_frame
  go_wp2
  go_end0
  exact ⟨rfl, (G1.ext hx2).setV hm3 hk3, Keep.of_ext (hx1.trans hx2) hk3⟩

set_option maxHeartbeats 1000000 in
theorem mark_any (g bv be : Nat) (V : List (Int × Thing)) (E : List ((Int × Int) × Thing)) (op u v lab wt : Int) (w : World) (hg : GraphAt w g bv be V E) (hu : i64ok u) (hv : i64ok v) :
    Calls Tryz.prog 133 #[.pointer (some ⟨g, 0, none⟩), .agg #[.int .i64 op, .int .i64 u, .int .i64 v, .int .u8 lab, .int .i64 wt]] w fun e w' => e = .returned (.tuple #[]) ∧ GraphAt w' g bv be (putM V u (lab, ((lookM V u).getD (0, 0)).2)) E ∧ Keep [bv] w w' := by
  have hmm := mm_ok hu hv
  go_enter Tryz.func133, Tryz.ntmps133
  go_wp2
  refine wp_abs (fun W => Ext w W ∧ EditAt W w.heap.size op u v lab wt) ⟨(Ext.refl w).alloc _, box_edit w op u v lab wt⟩ ?_
  rintro w1 ⟨hx1, c0, c1, c2, c3, c4⟩
  have G1 := hg.ext hx1
  have d0 := G1.ptr0
  have d1 := G1.ptr1
  have d2 := fun (W : World) (hW : Ext w1 W) => (G1.vs.ext hW).lookup1 keV Tryz.underlying133 (zeroT W) hu
  simp only [ekV, evT] at d2
  clear hg
  refine wp_region_still (P := Tryz.prog) [0,1,2,3,4,5,6,7,8,9,10,11,12,13,14,15,16] [17] 1 #[true,true,true,true,true,true,true,true,true,true,true,true,true,true,true,true,true,false] (by kernel_rfl) (by kernel_rfl) rfl (by rfl) ?_
  iterate 17
    refine ql_want (v := ?_) rfl (by rfl) (fun W hW => ?_) ?_
    rotate_left
    · go_simp
      first | done | rfl | (fail)
    go_frame
  refine wpQL_nil (fun w2 hx2 => ?_)
  obtain ⟨w3, hrun, hm3, hk3, hs3⟩ := (G1.vs.ext hx2).update keV Tryz.underlying133 hu (lab, ((lookM V u).getD (0, 0)).2)
  simp only [ekV, evT] at hrun
  refine lx_one (i := 17) (by kernel_rfl) rfl (by rfl) #[true,true,true,true,true,true,true,true,true,true,true,true,true,true,true,true,true,true] (by rfl) ?_
  go_simp
  refine wpX_done (by kernel_rfl) ?_
  try go_frame
  go_wp2
  go_end0
  exact ⟨rfl, (G1.ext hx2).setV hm3 hk3, Keep.of_ext (hx1.trans hx2) hk3⟩

set_option maxHeartbeats 1000000 in
theorem weigh_any (g bv be : Nat) (V : List (Int × Thing)) (E : List ((Int × Int) × Thing)) (op u v lab wt : Int) (w : World) (hg : GraphAt w g bv be V E) (hu : i64ok u) (hv : i64ok v) :
    Calls Tryz.prog 134 #[.pointer (some ⟨g, 0, none⟩), .agg #[.int .i64 op, .int .i64 u, .int .i64 v, .int .u8 lab, .int .i64 wt]] w fun e w' => e = .returned (.tuple #[]) ∧ GraphAt w' g bv be (putM V u (((lookM V u).getD (0, 0)).1, wt)) E ∧ Keep [bv] w w' := by
  have hmm := mm_ok hu hv
  go_enter Tryz.func134, Tryz.ntmps134
  go_wp2
  refine wp_abs (fun W => Ext w W ∧ EditAt W w.heap.size op u v lab wt) ⟨(Ext.refl w).alloc _, box_edit w op u v lab wt⟩ ?_
  rintro w1 ⟨hx1, c0, c1, c2, c3, c4⟩
  have G1 := hg.ext hx1
  have d0 := G1.ptr0
  have d1 := G1.ptr1
  have d2 := fun (W : World) (hW : Ext w1 W) => (G1.vs.ext hW).lookup1 keV Tryz.underlying133 (zeroT W) hu
  simp only [ekV, evT] at d2
  clear hg
  refine wp_region_still (P := Tryz.prog) [0,1,2,3,4,5,6,7,8,9,10,11,12,13,14,15,16] [17] 1 #[true,true,true,true,true,true,true,true,true,true,true,true,true,true,true,true,true,false] (by kernel_rfl) (by kernel_rfl) rfl (by rfl) ?_
  iterate 17
    refine ql_want (v := ?_) rfl (by rfl) (fun W hW => ?_) ?_
    rotate_left
    · go_simp
      first | done | rfl | (fail)
    go_frame
  refine wpQL_nil (fun w2 hx2 => ?_)
  obtain ⟨w3, hrun, hm3, hk3, hs3⟩ := (G1.vs.ext hx2).update keV Tryz.underlying133 hu (((lookM V u).getD (0, 0)).1, wt)
  simp only [ekV, evT] at hrun
  refine lx_one (i := 17) (by kernel_rfl) rfl (by rfl) #[true,true,true,true,true,true,true,true,true,true,true,true,true,true,true,true,true,true] (by rfl) ?_
  go_simp
  refine wpX_done (by kernel_rfl) ?_
  try go_frame
  go_wp2
  go_end0
  exact ⟨rfl, (G1.ext hx2).setV hm3 hk3, Keep.of_ext (hx1.trans hx2) hk3⟩

set_option maxHeartbeats 1000000 in
theorem join_any (g bv be : Nat) (V : List (Int × Thing)) (E : List ((Int × Int) × Thing)) (op u v lab wt : Int) (w : World) (hg : GraphAt w g bv be V E) (hu : i64ok u) (hv : i64ok v) :
    Calls Tryz.prog 131 #[.pointer (some ⟨g, 0, none⟩), .agg #[.int .i64 op, .int .i64 u, .int .i64 v, .int .u8 lab, .int .i64 wt]] w fun e w' => e = .returned (.tuple #[]) ∧ GraphAt w' g bv be V (putM E (min u v, max u v) (lab, wt)) ∧ Keep [be] w w' := by
  have hmm := mm_ok hu hv
  go_enter Tryz.func131, Tryz.ntmps131
  go_wp2
  refine wp_abs (fun W => Ext w W ∧ EditAt W w.heap.size op u v lab wt) ⟨(Ext.refl w).alloc _, box_edit w op u v lab wt⟩ ?_
  rintro w1 ⟨hx1, c0, c1, c2, c3, c4⟩
  have G1 := hg.ext hx1
  have d0 := G1.ptr0
  have d1 := G1.ptr1
  clear hg
  refine wp_region_ext (P := Tryz.prog) [0,1,2,3,4,5,6,7,8,9,10,11,12,13] [14] 1 #[true,true,true,true,true,true,true,true,true,true,true,true,true,true,false] (by kernel_rfl) (by kernel_rfl) rfl (by rfl) ?_
  iterate 14
    refine ql_want (v := ?_) rfl (by rfl) (fun W hW => ?_) ?_
    rotate_left
    · go_simp
      first | done | rfl | ((go_at_call 116; refine (between_any _ _ _).mono ?_; rintro _ _ ⟨h1, h2⟩; refine ⟨_, h1, ?_, h2⟩; rfl))
    go_frame
  refine wpQL_nil (fun w2 hx2 => ?_)
  obtain ⟨w3, hrun, hm3, hk3, hs3⟩ := (G1.es.ext hx2).update keE Tryz.underlying134 hmm (lab, wt)
  simp only [ekE, evT] at hrun
  refine lx_one (i := 14) (by kernel_rfl) rfl (by rfl) #[true,true,true,true,true,true,true,true,true,true,true,true,true,true,true] (by rfl) ?_
  go_simp
  intro w4 e4
  refine wpX_done (by kernel_rfl) ?_
  try go_frame
  go_wp2
  go_end0
  exact ⟨rfl, (G1.ext hx2).setE (hm3.ext e4) (hk3.trans (e4.keep _)), Keep.of_ext (hx1.trans hx2) (hk3.trans (e4.keep _))⟩

set_option maxHeartbeats 1000000 in
theorem part_any (g bv be : Nat) (V : List (Int × Thing)) (E : List ((Int × Int) × Thing)) (op u v lab wt : Int) (w : World) (hg : GraphAt w g bv be V E) (hu : i64ok u) (hv : i64ok v) :
    Calls Tryz.prog 132 #[.pointer (some ⟨g, 0, none⟩), .agg #[.int .i64 op, .int .i64 u, .int .i64 v, .int .u8 lab, .int .i64 wt]] w fun e w' => e = .returned (.tuple #[]) ∧ GraphAt w' g bv be V (delM E (min u v, max u v)) ∧ Keep [be] w w' := by
  have hmm := mm_ok hu hv
  go_enter Tryz.func132, Tryz.ntmps132
  go_wp2
  refine wp_abs (fun W => Ext w W ∧ EditAt W w.heap.size op u v lab wt) ⟨(Ext.refl w).alloc _, box_edit w op u v lab wt⟩ ?_
  rintro w1 ⟨hx1, c0, c1, c2, c3, c4⟩
  have G1 := hg.ext hx1
  have d0 := G1.ptr0
  have d1 := G1.ptr1
  clear hg
  refine wp_region_ext (P := Tryz.prog) [0,1,2,3,4,5,6,7,8] [9] 1 #[true,true,true,true,true,true,true,true,true,false] (by kernel_rfl) (by kernel_rfl) rfl (by rfl) ?_
  iterate 9
    refine ql_want (v := ?_) rfl (by rfl) (fun W hW => ?_) ?_
    rotate_left
    · go_simp
      first | done | rfl | ((go_at_call 116; refine (between_any _ _ _).mono ?_; rintro _ _ ⟨h1, h2⟩; refine ⟨_, h1, ?_, h2⟩; rfl))
    go_frame
  refine wpQL_nil (fun w2 hx2 => ?_)
  obtain ⟨w3, hrun, hm3, hk3, hs3⟩ := (G1.es.ext hx2).delete keE Tryz.underlying134 hmm 0
  simp only [ekE] at hrun
  refine lx_one (i := 9) (by kernel_rfl) rfl (by rfl) #[true,true,true,true,true,true,true,true,true,true] (by rfl) ?_
  go_simp
  intro w4 e4
  refine wpX_done (by kernel_rfl) ?_
  try go_frame
  go_wp2
  go_end0
  exact ⟨rfl, (G1.ext hx2).setE (hm3.ext e4) (hk3.trans (e4.keep _)), Keep.of_ext (hx1.trans hx2) (hk3.trans (e4.keep _))⟩

set_option maxHeartbeats 1000000 in
theorem markEdge_any (g bv be : Nat) (V : List (Int × Thing)) (E : List ((Int × Int) × Thing)) (op u v lab wt : Int) (w : World) (hg : GraphAt w g bv be V E) (hu : i64ok u) (hv : i64ok v) :
    Calls Tryz.prog 135 #[.pointer (some ⟨g, 0, none⟩), .agg #[.int .i64 op, .int .i64 u, .int .i64 v, .int .u8 lab, .int .i64 wt]] w fun e w' => e = .returned (.tuple #[]) ∧ GraphAt w' g bv be V (putM E (min u v, max u v) (lab, ((lookM E (min u v, max u v)).getD (0, 0)).2)) ∧ Keep [be] w w' := by
  have hmm := mm_ok hu hv
  have c := box_edit w op u v lab wt
  go_enter Tryz.func135, Tryz.ntmps135
  go_wp2_with (go_at_call 116; refine (between_any _ _ _).mono ?_; rintro e w0 ⟨rfl, hx0⟩)
  refine wp_abs (fun W => Ext w W ∧ EditAt W w.heap.size op u v lab wt ∧ Blk W w0.heap.size 155 #[.int .i64 (min u v), .int .i64 (max u v)]) ⟨(((Ext.refl w).alloc _).trans hx0).alloc _, (c.ext hx0).ext ((Ext.refl _).alloc _), Blk.new w0 _ _⟩ ?_
  rintro w1 ⟨hx1, ⟨c0, c1, c2, c3, c4⟩, hbx⟩
  have G1 := hg.ext hx1
  have d0 := G1.ptr0
  have d1 := G1.ptr1
  have d3 : ∀ W, Ext w1 W → W.cell? ⟨w0.heap.size, 0, none⟩ = some (.int .i64 (min u v)) := hbx.cells 0 rfl
  have d4 : ∀ W, Ext w1 W → W.cell? ⟨w0.heap.size, 1, none⟩ = some (.int .i64 (max u v)) := hbx.cells 1 rfl
  have d5 := fun (W : World) (hW : Ext w1 W) => (G1.es.ext hW).lookup1 keE Tryz.underlying134 (zeroT W) hmm
  simp only [ekE, evT] at d5
  clear hg c hbx hx0
  refine wp_region_still (P := Tryz.prog) [0,1,2,3,4,5,6,7,8,9,10,11,12,13,14] [15] 1 #[true,true,true,true,true,true,true,true,true,true,true,true,true,true,true,false] (by kernel_rfl) (by kernel_rfl) rfl (by rfl) ?_
  iterate 15
    refine ql_want (v := ?_) rfl (by rfl) (fun W hW => ?_) ?_
    rotate_left
    · go_simp
      first | done | rfl | (fail)
    go_frame
  refine wpQL_nil (fun w2 hx2 => ?_)
  obtain ⟨w3, hrun, hm3, hk3, hs3⟩ := (G1.es.ext hx2).update keE Tryz.underlying134 hmm (lab, ((lookM E (min u v, max u v)).getD (0, 0)).2)
  simp only [ekE, evT] at hrun
  refine lx_one (i := 15) (by kernel_rfl) rfl (by rfl) #[true,true,true,true,true,true,true,true,true,true,true,true,true,true,true,true] (by rfl) ?_
  go_simp
  refine wpX_done (by kernel_rfl) ?_
  try go_frame
  go_wp2
  go_end0
  exact ⟨rfl, (G1.ext hx2).setE hm3 hk3, Keep.of_ext (hx1.trans hx2) hk3⟩

set_option maxHeartbeats 1000000 in
theorem weighEdge_any (g bv be : Nat) (V : List (Int × Thing)) (E : List ((Int × Int) × Thing)) (op u v lab wt : Int) (w : World) (hg : GraphAt w g bv be V E) (hu : i64ok u) (hv : i64ok v) :
    Calls Tryz.prog 136 #[.pointer (some ⟨g, 0, none⟩), .agg #[.int .i64 op, .int .i64 u, .int .i64 v, .int .u8 lab, .int .i64 wt]] w fun e w' => e = .returned (.tuple #[]) ∧ GraphAt w' g bv be V (putM E (min u v, max u v) (((lookM E (min u v, max u v)).getD (0, 0)).1, wt)) ∧ Keep [be] w w' := by
  have hmm := mm_ok hu hv
  have c := box_edit w op u v lab wt
  go_enter Tryz.func136, Tryz.ntmps136
  go_wp2_with (go_at_call 116; refine (between_any _ _ _).mono ?_; rintro e w0 ⟨rfl, hx0⟩)
  refine wp_abs (fun W => Ext w W ∧ EditAt W w.heap.size op u v lab wt ∧ Blk W w0.heap.size 155 #[.int .i64 (min u v), .int .i64 (max u v)]) ⟨(((Ext.refl w).alloc _).trans hx0).alloc _, (c.ext hx0).ext ((Ext.refl _).alloc _), Blk.new w0 _ _⟩ ?_
  rintro w1 ⟨hx1, ⟨c0, c1, c2, c3, c4⟩, hbx⟩
  have G1 := hg.ext hx1
  have d0 := G1.ptr0
  have d1 := G1.ptr1
  have d3 : ∀ W, Ext w1 W → W.cell? ⟨w0.heap.size, 0, none⟩ = some (.int .i64 (min u v)) := hbx.cells 0 rfl
  have d4 : ∀ W, Ext w1 W → W.cell? ⟨w0.heap.size, 1, none⟩ = some (.int .i64 (max u v)) := hbx.cells 1 rfl
  have d5 := fun (W : World) (hW : Ext w1 W) => (G1.es.ext hW).lookup1 keE Tryz.underlying134 (zeroT W) hmm
  simp only [ekE, evT] at d5
  clear hg c hbx hx0
  refine wp_region_still (P := Tryz.prog) [0,1,2,3,4,5,6,7,8,9,10,11,12,13,14] [15] 1 #[true,true,true,true,true,true,true,true,true,true,true,true,true,true,true,false] (by kernel_rfl) (by kernel_rfl) rfl (by rfl) ?_
  iterate 15
    refine ql_want (v := ?_) rfl (by rfl) (fun W hW => ?_) ?_
    rotate_left
    · go_simp
      first | done | rfl | (fail)
    go_frame
  refine wpQL_nil (fun w2 hx2 => ?_)
  obtain ⟨w3, hrun, hm3, hk3, hs3⟩ := (G1.es.ext hx2).update keE Tryz.underlying134 hmm (((lookM E (min u v, max u v)).getD (0, 0)).1, wt)
  simp only [ekE, evT] at hrun
  refine lx_one (i := 15) (by kernel_rfl) rfl (by rfl) #[true,true,true,true,true,true,true,true,true,true,true,true,true,true,true,true] (by rfl) ?_
  go_simp
  refine wpX_done (by kernel_rfl) ?_
  try go_frame
  go_wp2
  go_end0
  exact ⟨rfl, (G1.ext hx2).setE hm3 hk3, Keep.of_ext (hx1.trans hx2) hk3⟩

end Go.Proofs.YtmfkkkhddigkfaaGreatDoor
