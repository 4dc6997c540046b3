/- Parts of a proof, laid together. Each part says its own conditions. -/
import Derived.Test.YtmokciekndllpaaGreatDoorC3
namespace Go.Proofs.YtmokciekndllpaaGreatDoor
open Go Go.RowKit
attribute [local go_sem] qUpon lUpon
theorem field0 (a b : Int) (W : World) : (Instr.field 173 (.agg #[.int .u8 a, .int .i64 b]) 0).run Tryz.prog W = .ok (.int .u8 a) W := by kernel_rfl
theorem field1 (a b : Int) (W : World) : (Instr.field 173 (.agg #[.int .u8 a, .int .i64 b]) 1).run Tryz.prog W = .ok (.int .i64 b) W := by kernel_rfl
attribute [local go_sem] field0 field1
theorem GraphAt.ptr0 {w : World} {g bv be : Nat} {V : List (Int × Thing)} {E : List ((Int × Int) × Thing)} (h : GraphAt w g bv be V E) : ∀ W,Ext w W → W.cell? ⟨g,0,none⟩ = some (.map (some bv)) := h.blk.cells 0 rfl
theorem GraphAt.ptr1 {w : World} {g bv be : Nat} {V : List (Int × Thing)} {E : List ((Int × Int) × Thing)} (h : GraphAt w g bv be V E) : ∀ W,Ext w W → W.cell? ⟨g,1,none⟩ = some (.map (some be)) := h.blk.cells 1 rfl
theorem GraphAt.gv {w : World} {g bv be : Nat} {V : List (Int × Thing)} {E : List ((Int × Int) × Thing)} (h : GraphAt w g bv be V E) : g ≠ bv ∧ g ≠ be := by
 have h1 := h.blk
 obtain ⟨es,ck,h2,_⟩ := h.vs
 obtain ⟨es',ck',h3,_⟩ := h.es
 unfold Blk at h1
 constructor
 ·rintro rfl; rw [h1] at h2; cases h2
 ·rintro rfl; rw [h1] at h3; cases h3
theorem GraphAt.setV {w w' : World} {g bv be : Nat} {V V' : List (Int × Thing)} {E : List ((Int × Int) × Thing)} (h : GraphAt w g bv be V E) (hv : MapIs ekV evT i64ok w' bv V') (k : Keep [bv] w w') : GraphAt w' g bv be V' E :=
 ⟨h.blk.keep k (by simpa using h.gv.1),hv,h.es.keep k (by simpa using h.ne.symm),h.ne⟩
theorem GraphAt.setE {w w' : World} {g bv be : Nat} {V : List (Int × Thing)} {E E' : List ((Int × Int) × Thing)} (h : GraphAt w g bv be V E) (he : MapIs ekE evT okE w' be E') (k : Keep [be] w w') : GraphAt w' g bv be V E' :=
 ⟨h.blk.keep k (by simpa using h.gv.2),h.vs.keep k (by simpa using h.ne),he,h.ne⟩
theorem Keep.of_ext {S : List Nat} {a b c : World} (h : Ext a b) (k : Keep S b c) : Keep S a c := (h.keep S).trans k
theorem box_edit (w : World) (op u v lab wt : Int) : EditAt (w.alloc (.cells #[.int .i64 op, .int .i64 u, .int .i64 v, .int .u8 lab, .int .i64 wt] 63)) w.heap.size op u v lab wt := EditAt.of (Blk.new w _ _)
theorem mm_ok {u v : Int} (hu : i64ok u) (hv : i64ok v) : okE (min u v,max u v) := ⟨by unfold i64ok at *; omega,by unfold i64ok at *; omega⟩
set_option maxHeartbeats 1000000 in
theorem add_any (g bv be : Nat) (V : List (Int × Thing)) (E : List ((Int × Int) × Thing)) (op u v lab wt : Int) (w : World) (hg : GraphAt w g bv be V E) (hu : i64ok u) (hv : i64ok v) :
  Calls Tryz.prog 138 #[.pointer (some ⟨g,0,none⟩), .agg #[.int .i64 op, .int .i64 u, .int .i64 v, .int .u8 lab, .int .i64 wt]] w fun e w' => e = .returned (.tuple #[]) ∧ GraphAt w' g bv be (putM V u (lab,wt)) E ∧ Keep [bv] w w' := by
 have hmm := mm_ok hu hv
 go_enter Tryz.func138,Tryz.ntmps138
 go_wp2
 refine wp_abs (fun W => Ext w W ∧ EditAt W w.heap.size op u v lab wt) ⟨(Ext.refl w).alloc _,box_edit w op u v lab wt⟩ ?_
 rintro w1 ⟨hx1,c0,c1,c2,c3,c4⟩
 have G1 := hg.ext hx1
 have d0 := G1.ptr0
 have d1 := G1.ptr1
 clear hg
 refine wp_region_still (P := Tryz.prog) [0,1,2,3,4,5,6,7,8,9,10] [11] 1 #[true,true,true,true,true,true,true,true,true,true,true,false] (by kernel_rfl) (by kernel_rfl) rfl (by rfl) ?_
 iterate 11
  refine ql_want (v := ?_) rfl (by rfl) (fun W hW => ?_) ?_
  rotate_left
  ·go_simp
   first | done | rfl | (fail)
  go_frame
 refine wpQL_nil (fun w2 hx2 => ?_)
 obtain ⟨w3,hrun,hm3,hk3,hs3⟩ := (G1.vs.ext hx2).update keV Tryz.underlying154 hu (lab,wt)
 simp only [ekV,evT] at hrun
 refine lx_one (i := 11) (by kernel_rfl) rfl (by rfl) #[true,true,true,true,true,true,true,true,true,true,true,true] (by rfl) ?_
 go_simp
 refine wpX_done (by kernel_rfl) ?_
 try go_frame
 go_wp2
 go_end0
 exact ⟨rfl,(G1.ext hx2).setV hm3 hk3,Keep.of_ext (hx1.trans hx2) hk3⟩
set_option maxHeartbeats 1000000 in
theorem mark_any (g bv be : Nat) (V : List (Int × Thing)) (E : List ((Int × Int) × Thing)) (op u v lab wt : Int) (w : World) (hg : GraphAt w g bv be V E) (hu : i64ok u) (hv : i64ok v) :
  Calls Tryz.prog 142 #[.pointer (some ⟨g,0,none⟩), .agg #[.int .i64 op, .int .i64 u, .int .i64 v, .int .u8 lab, .int .i64 wt]] w fun e w' => e = .returned (.tuple #[]) ∧ GraphAt w' g bv be (putM V u (lab,((lookM V u).getD (0,0)).2)) E ∧ Keep [bv] w w' := by
 have hmm := mm_ok hu hv
 go_enter Tryz.func142,Tryz.ntmps142
 go_wp2
 refine wp_abs (fun W => Ext w W ∧ EditAt W w.heap.size op u v lab wt) ⟨(Ext.refl w).alloc _,box_edit w op u v lab wt⟩ ?_
 rintro w1 ⟨hx1,c0,c1,c2,c3,c4⟩
 have G1 := hg.ext hx1
 have d0 := G1.ptr0
 have d1 := G1.ptr1
 have d2 := fun (W : World) (hW : Ext w1 W) => (G1.vs.ext hW).lookup1 keV Tryz.underlying154 (zeroT W) hu
 simp only [ekV,evT] at d2
 clear hg
 refine wp_region_still (P := Tryz.prog) [0,1,2,3,4,5,6,7,8,9,10,11,12,13,14,15,16] [17] 1 #[true,true,true,true,true,true,true,true,true,true,true,true,true,true,true,true,true,false] (by kernel_rfl) (by kernel_rfl) rfl (by rfl) ?_
 iterate 17
  refine ql_want (v := ?_) rfl (by rfl) (fun W hW => ?_) ?_
  rotate_left
  ·go_simp
   first | done | rfl | (fail)
  go_frame
 refine wpQL_nil (fun w2 hx2 => ?_)
 obtain ⟨w3,hrun,hm3,hk3,hs3⟩ := (G1.vs.ext hx2).update keV Tryz.underlying154 hu (lab,((lookM V u).getD (0,0)).2)
 simp only [ekV,evT] at hrun
 refine lx_one (i := 17) (by kernel_rfl) rfl (by rfl) #[true,true,true,true,true,true,true,true,true,true,true,true,true,true,true,true,true,true] (by rfl) ?_
 go_simp
 refine wpX_done (by kernel_rfl) ?_
 try go_frame
 go_wp2
 go_end0
 exact ⟨rfl,(G1.ext hx2).setV hm3 hk3,Keep.of_ext (hx1.trans hx2) hk3⟩
set_option maxHeartbeats 1000000 in
theorem weigh_any (g bv be : Nat) (V : List (Int × Thing)) (E : List ((Int × Int) × Thing)) (op u v lab wt : Int) (w : World) (hg : GraphAt w g bv be V E) (hu : i64ok u) (hv : i64ok v) :
  Calls Tryz.prog 143 #[.pointer (some ⟨g,0,none⟩), .agg #[.int .i64 op, .int .i64 u, .int .i64 v, .int .u8 lab, .int .i64 wt]] w fun e w' => e = .returned (.tuple #[]) ∧ GraphAt w' g bv be (putM V u (((lookM V u).getD (0,0)).1,wt)) E ∧ Keep [bv] w w' := by
 have hmm := mm_ok hu hv
 go_enter Tryz.func143,Tryz.ntmps143
 go_wp2
 refine wp_abs (fun W => Ext w W ∧ EditAt W w.heap.size op u v lab wt) ⟨(Ext.refl w).alloc _,box_edit w op u v lab wt⟩ ?_
 rintro w1 ⟨hx1,c0,c1,c2,c3,c4⟩
 have G1 := hg.ext hx1
 have d0 := G1.ptr0
 have d1 := G1.ptr1
 have d2 := fun (W : World) (hW : Ext w1 W) => (G1.vs.ext hW).lookup1 keV Tryz.underlying154 (zeroT W) hu
 simp only [ekV,evT] at d2
 clear hg
 refine wp_region_still (P := Tryz.prog) [0,1,2,3,4,5,6,7,8,9,10,11,12,13,14,15,16] [17] 1 #[true,true,true,true,true,true,true,true,true,true,true,true,true,true,true,true,true,false] (by kernel_rfl) (by kernel_rfl) rfl (by rfl) ?_
 iterate 17
  refine ql_want (v := ?_) rfl (by rfl) (fun W hW => ?_) ?_
  rotate_left
  ·go_simp
   first | done | rfl | (fail)
  go_frame
 refine wpQL_nil (fun w2 hx2 => ?_)
 obtain ⟨w3,hrun,hm3,hk3,hs3⟩ := (G1.vs.ext hx2).update keV Tryz.underlying154 hu (((lookM V u).getD (0,0)).1,wt)
 simp only [ekV,evT] at hrun
 refine lx_one (i := 17) (by kernel_rfl) rfl (by rfl) #[true,true,true,true,true,true,true,true,true,true,true,true,true,true,true,true,true,true] (by rfl) ?_
 go_simp
 refine wpX_done (by kernel_rfl) ?_
 try go_frame
 go_wp2
 go_end0
 exact ⟨rfl,(G1.ext hx2).setV hm3 hk3,Keep.of_ext (hx1.trans hx2) hk3⟩
set_option maxHeartbeats 1000000 in
theorem join_any (g bv be : Nat) (V : List (Int × Thing)) (E : List ((Int × Int) × Thing)) (op u v lab wt : Int) (w : World) (hg : GraphAt w g bv be V E) (hu : i64ok u) (hv : i64ok v) :
  Calls Tryz.prog 140 #[.pointer (some ⟨g,0,none⟩), .agg #[.int .i64 op, .int .i64 u, .int .i64 v, .int .u8 lab, .int .i64 wt]] w fun e w' => e = .returned (.tuple #[]) ∧ GraphAt w' g bv be V (putM E (min u v,max u v) (lab,wt)) ∧ Keep [be] w w' := by
 have hmm := mm_ok hu hv
 go_enter Tryz.func140,Tryz.ntmps140
 go_wp2
 refine wp_abs (fun W => Ext w W ∧ EditAt W w.heap.size op u v lab wt) ⟨(Ext.refl w).alloc _,box_edit w op u v lab wt⟩ ?_
 rintro w1 ⟨hx1,c0,c1,c2,c3,c4⟩
 have G1 := hg.ext hx1
 have d0 := G1.ptr0
 have d1 := G1.ptr1
 clear hg
 refine wp_region_ext (P := Tryz.prog) [0,1,2,3,4,5,6,7,8,9,10,11,12,13] [14] 1 #[true,true,true,true,true,true,true,true,true,true,true,true,true,true,false] (by kernel_rfl) (by kernel_rfl) rfl (by rfl) ?_
 iterate 14
  refine ql_want (v := ?_) rfl (by rfl) (fun W hW => ?_) ?_
  rotate_left
  ·go_simp
   first | done | rfl | ((go_at_call 125; refine (between_any _ _ _).mono ?_; rintro _ _ ⟨h1,h2⟩; refine ⟨_,h1, ?_,h2⟩; rfl))
  go_frame
 refine wpQL_nil (fun w2 hx2 => ?_)
 obtain ⟨w3,hrun,hm3,hk3,hs3⟩ := (G1.es.ext hx2).update keE Tryz.underlying155 hmm (lab,wt)
 simp only [ekE,evT] at hrun
 refine lx_one (i := 14) (by kernel_rfl) rfl (by rfl) #[true,true,true,true,true,true,true,true,true,true,true,true,true,true,true] (by rfl) ?_
 go_simp
 intro w4 e4
 refine wpX_done (by kernel_rfl) ?_
 try go_frame
 go_wp2
 go_end0
 exact ⟨rfl,(G1.ext hx2).setE (hm3.ext e4) (hk3.trans (e4.keep _)),Keep.of_ext (hx1.trans hx2) (hk3.trans (e4.keep _))⟩
set_option maxHeartbeats 1000000 in
theorem part_any (g bv be : Nat) (V : List (Int × Thing)) (E : List ((Int × Int) × Thing)) (op u v lab wt : Int) (w : World) (hg : GraphAt w g bv be V E) (hu : i64ok u) (hv : i64ok v) :
  Calls Tryz.prog 141 #[.pointer (some ⟨g,0,none⟩), .agg #[.int .i64 op, .int .i64 u, .int .i64 v, .int .u8 lab, .int .i64 wt]] w fun e w' => e = .returned (.tuple #[]) ∧ GraphAt w' g bv be V (delM E (min u v,max u v)) ∧ Keep [be] w w' := by
 have hmm := mm_ok hu hv
 go_enter Tryz.func141,Tryz.ntmps141
 go_wp2
 refine wp_abs (fun W => Ext w W ∧ EditAt W w.heap.size op u v lab wt) ⟨(Ext.refl w).alloc _,box_edit w op u v lab wt⟩ ?_
 rintro w1 ⟨hx1,c0,c1,c2,c3,c4⟩
 have G1 := hg.ext hx1
 have d0 := G1.ptr0
 have d1 := G1.ptr1
 clear hg
 refine wp_region_ext (P := Tryz.prog) [0,1,2,3,4,5,6,7,8] [9] 1 #[true,true,true,true,true,true,true,true,true,false] (by kernel_rfl) (by kernel_rfl) rfl (by rfl) ?_
 iterate 9
  refine ql_want (v := ?_) rfl (by rfl) (fun W hW => ?_) ?_
  rotate_left
  ·go_simp
   first | done | rfl | ((go_at_call 125; refine (between_any _ _ _).mono ?_; rintro _ _ ⟨h1,h2⟩; refine ⟨_,h1, ?_,h2⟩; rfl))
  go_frame
 refine wpQL_nil (fun w2 hx2 => ?_)
 obtain ⟨w3,hrun,hm3,hk3,hs3⟩ := (G1.es.ext hx2).delete keE Tryz.underlying155 hmm 0
 simp only [ekE] at hrun
 refine lx_one (i := 9) (by kernel_rfl) rfl (by rfl) #[true,true,true,true,true,true,true,true,true,true] (by rfl) ?_
 go_simp
 intro w4 e4
 refine wpX_done (by kernel_rfl) ?_
 try go_frame
 go_wp2
 go_end0
 exact ⟨rfl,(G1.ext hx2).setE (hm3.ext e4) (hk3.trans (e4.keep _)),Keep.of_ext (hx1.trans hx2) (hk3.trans (e4.keep _))⟩
set_option maxHeartbeats 1000000 in
theorem markEdge_any (g bv be : Nat) (V : List (Int × Thing)) (E : List ((Int × Int) × Thing)) (op u v lab wt : Int) (w : World) (hg : GraphAt w g bv be V E) (hu : i64ok u) (hv : i64ok v) :
  Calls Tryz.prog 144 #[.pointer (some ⟨g,0,none⟩), .agg #[.int .i64 op, .int .i64 u, .int .i64 v, .int .u8 lab, .int .i64 wt]] w fun e w' => e = .returned (.tuple #[]) ∧ GraphAt w' g bv be V (putM E (min u v,max u v) (lab,((lookM E (min u v,max u v)).getD (0,0)).2)) ∧ Keep [be] w w' := by
 have hmm := mm_ok hu hv
 have c := box_edit w op u v lab wt
 go_enter Tryz.func144,Tryz.ntmps144
 go_wp2_with (go_at_call 125; refine (between_any _ _ _).mono ?_; rintro e w0 ⟨rfl,hx0⟩)
 refine wp_abs (fun W => Ext w W ∧ EditAt W w.heap.size op u v lab wt ∧ Blk W w0.heap.size 176 #[.int .i64 (min u v), .int .i64 (max u v)]) ⟨(((Ext.refl w).alloc _).trans hx0).alloc _,(c.ext hx0).ext ((Ext.refl _).alloc _),Blk.new w0 _ _⟩ ?_
 rintro w1 ⟨hx1,⟨c0,c1,c2,c3,c4⟩,hbx⟩
 have G1 := hg.ext hx1
 have d0 := G1.ptr0
 have d1 := G1.ptr1
 have d3 : ∀ W,Ext w1 W → W.cell? ⟨w0.heap.size,0,none⟩ = some (.int .i64 (min u v)) := hbx.cells 0 rfl
 have d4 : ∀ W,Ext w1 W → W.cell? ⟨w0.heap.size,1,none⟩ = some (.int .i64 (max u v)) := hbx.cells 1 rfl
 have d5 := fun (W : World) (hW : Ext w1 W) => (G1.es.ext hW).lookup1 keE Tryz.underlying155 (zeroT W) hmm
 simp only [ekE,evT] at d5
 clear hg c hbx hx0
 refine wp_region_still (P := Tryz.prog) [0,1,2,3,4,5,6,7,8,9,10,11,12,13,14] [15] 1 #[true,true,true,true,true,true,true,true,true,true,true,true,true,true,true,false] (by kernel_rfl) (by kernel_rfl) rfl (by rfl) ?_
 iterate 15
  refine ql_want (v := ?_) rfl (by rfl) (fun W hW => ?_) ?_
  rotate_left
  ·go_simp
   first | done | rfl | (fail)
  go_frame
 refine wpQL_nil (fun w2 hx2 => ?_)
 obtain ⟨w3,hrun,hm3,hk3,hs3⟩ := (G1.es.ext hx2).update keE Tryz.underlying155 hmm (lab,((lookM E (min u v,max u v)).getD (0,0)).2)
 simp only [ekE,evT] at hrun
 refine lx_one (i := 15) (by kernel_rfl) rfl (by rfl) #[true,true,true,true,true,true,true,true,true,true,true,true,true,true,true,true] (by rfl) ?_
 go_simp
 refine wpX_done (by kernel_rfl) ?_
 try go_frame
 go_wp2
 go_end0
 exact ⟨rfl,(G1.ext hx2).setE hm3 hk3,Keep.of_ext (hx1.trans hx2) hk3⟩
set_option maxHeartbeats 1000000 in
theorem weighEdge_any (g bv be : Nat) (V : List (Int × Thing)) (E : List ((Int × Int) × Thing)) (op u v lab wt : Int) (w : World) (hg : GraphAt w g bv be V E) (hu : i64ok u) (hv : i64ok v) :
  Calls Tryz.prog 145 #[.pointer (some ⟨g,0,none⟩), .agg #[.int .i64 op, .int .i64 u, .int .i64 v, .int .u8 lab, .int .i64 wt]] w fun e w' => e = .returned (.tuple #[]) ∧ GraphAt w' g bv be V (putM E (min u v,max u v) (((lookM E (min u v,max u v)).getD (0,0)).1,wt)) ∧ Keep [be] w w' := by
 have hmm := mm_ok hu hv
 have c := box_edit w op u v lab wt
 go_enter Tryz.func145,Tryz.ntmps145
 go_wp2_with (go_at_call 125; refine (between_any _ _ _).mono ?_; rintro e w0 ⟨rfl,hx0⟩)
 refine wp_abs (fun W => Ext w W ∧ EditAt W w.heap.size op u v lab wt ∧ Blk W w0.heap.size 176 #[.int .i64 (min u v), .int .i64 (max u v)]) ⟨(((Ext.refl w).alloc _).trans hx0).alloc _,(c.ext hx0).ext ((Ext.refl _).alloc _),Blk.new w0 _ _⟩ ?_
 rintro w1 ⟨hx1,⟨c0,c1,c2,c3,c4⟩,hbx⟩
 have G1 := hg.ext hx1
 have d0 := G1.ptr0
 have d1 := G1.ptr1
 have d3 : ∀ W,Ext w1 W → W.cell? ⟨w0.heap.size,0,none⟩ = some (.int .i64 (min u v)) := hbx.cells 0 rfl
 have d4 : ∀ W,Ext w1 W → W.cell? ⟨w0.heap.size,1,none⟩ = some (.int .i64 (max u v)) := hbx.cells 1 rfl
 have d5 := fun (W : World) (hW : Ext w1 W) => (G1.es.ext hW).lookup1 keE Tryz.underlying155 (zeroT W) hmm
 simp only [ekE,evT] at d5
 clear hg c hbx hx0
 refine wp_region_still (P := Tryz.prog) [0,1,2,3,4,5,6,7,8,9,10,11,12,13,14] [15] 1 #[true,true,true,true,true,true,true,true,true,true,true,true,true,true,true,false] (by kernel_rfl) (by kernel_rfl) rfl (by rfl) ?_
 iterate 15
  refine ql_want (v := ?_) rfl (by rfl) (fun W hW => ?_) ?_
  rotate_left
  ·go_simp
   first | done | rfl | (fail)
  go_frame
 refine wpQL_nil (fun w2 hx2 => ?_)
 obtain ⟨w3,hrun,hm3,hk3,hs3⟩ := (G1.es.ext hx2).update keE Tryz.underlying155 hmm (((lookM E (min u v,max u v)).getD (0,0)).1,wt)
 simp only [ekE,evT] at hrun
 refine lx_one (i := 15) (by kernel_rfl) rfl (by rfl) #[true,true,true,true,true,true,true,true,true,true,true,true,true,true,true,true] (by rfl) ?_
 go_simp
 refine wpX_done (by kernel_rfl) ?_
 try go_frame
 go_wp2
 go_end0
 exact ⟨rfl,(G1.ext hx2).setE hm3 hk3,Keep.of_ext (hx1.trans hx2) hk3⟩
end Go.Proofs.YtmokciekndllpaaGreatDoor
namespace Go.Proofs.YtmokciekndllpaaGreatDoor
open Go Go.RowKit
theorem ext_self1 (a : World) (o : Obj) : Ext a (a.alloc o) := (Ext.refl a).alloc o
theorem ext_self2 (a : World) (o p : Obj) : Ext a ((a.alloc o).alloc p) := (ext_self1 a o).alloc p
theorem ext_self3 (a : World) (o p q : Obj) : Ext a (((a.alloc o).alloc p).alloc q) := (ext_self2 a o p).alloc q
theorem ext_self4 (a : World) (o p q r : Obj) : Ext a ((((a.alloc o).alloc p).alloc q).alloc r) := (ext_self3 a o p q).alloc r
theorem ext_drew1 (a : World) : Ext a a.drew := (Ext.refl a).drew
theorem ext_alloc2 {a b : World} (o p : Obj) (h : Ext a b) : Ext a ((b.alloc o).alloc p) := (h.alloc o).alloc p
theorem ext_alloc3 {a b : World} (o p q : Obj) (h : Ext a b) : Ext a (((b.alloc o).alloc p).alloc q) := ((h.alloc o).alloc p).alloc q
theorem ext_alloc4 {a b : World} (o p q r : Obj) (h : Ext a b) : Ext a ((((b.alloc o).alloc p).alloc q).alloc r) := (((h.alloc o).alloc p).alloc q).alloc r
attribute [go_sem] ext_self1 ext_self2 ext_self3 ext_self4 ext_drew1 ext_alloc2 ext_alloc3 ext_alloc4
end Go.Proofs.YtmokciekndllpaaGreatDoor
namespace Go.Proofs.YtmokciekndllpaaGreatDoor
open Go Go.RowKit
attribute [local go_sem] qUpon lUpon
def atB (u : Int) (p : Int × Int) : Bool := p.1 == u || p.2 == u
theorem drop1_any (a b lab0 wt0 op u v lab wt : Int) (g : Nat) (w : World) (he : EditAt w g op u v lab wt) :
  Calls Tryz.prog 184 #[.agg #[.int .i64 a, .int .i64 b], .agg #[.int .u8 lab0, .int .i64 wt0], .pointer (some ⟨g,0,none⟩)] w fun e w' => e = .returned (.bool (atB u (a,b))) ∧ Ext w w' := by
 obtain ⟨c0,c1,c2,c3,c4⟩ := he
 go_enter Tryz.func184,Tryz.ntmps184
 go_wp2
 all_goals (go_ret; exact ⟨ret_bool (by unfold atB; simp [*]),ext_self2 _ _ _⟩)
theorem IterIs.left_ok {κ τ : Type} {P : Program} {kt : TypeId} {ek : κ → Value} {ev : τ → Value} {ok : κ → Prop} {w : World} {r b : Nat} {m left : List (κ × τ)} (K : KE P kt ek ok) (h : IterIs ek ev ok w r b m left) : ∀ p ∈ left,ok p.1 := by
 obtain ⟨es,clock,since,seen,c0,hb,_,hm,ho,hr,_,_,_,hl⟩ := h
 intro p hp
 have h1 : (ek p.1,ev p.2) ∈ (leftOf es seen).toList.map kv := hl ▸ List.mem_map.2 ⟨p,hp,rfl⟩
 obtain ⟨e,he,hee⟩ := List.mem_map.1 h1
 have he' : e ∈ es.toList := by
  unfold leftOf at he
  simp only [Array.toList_filter,List.mem_filter] at he
  exact he.1
 have h2 : kv e ∈ m.map (fun p => (ek p.1,ev p.2)) := hm ▸ List.mem_map.2 ⟨e,he',rfl⟩
 obtain ⟨q,hq,hqe⟩ := List.mem_map.1 h2
 rw [← hqe] at hee
 simp only [Prod.mk.injEq] at hee
 have := K.inj _ _ hee.1
 rw [← this]
 exact ho q hq
theorem keepEnds {E : List ((Int × Int) × Thing)} {u : Int} {p : (Int × Int) × Thing} {l1 l2 : List ((Int × Int) × Thing)} (hn : ((l1 ++ p :: l2).map (·.1)).Nodup) :
  (atB u p.1 = true → delM (E.filter fun q => !atB u q.1 || decide (q.1 ∈ (l1 ++ p :: l2).map (·.1))) p.1 = E.filter fun q => !atB u q.1 || decide (q.1 ∈ (l1 ++ l2).map (·.1))) ∧
  (atB u p.1 = false → (E.filter fun q => !atB u q.1 || decide (q.1 ∈ (l1 ++ p :: l2).map (·.1))) = E.filter fun q => !atB u q.1 || decide (q.1 ∈ (l1 ++ l2).map (·.1))) ∧
  ((l1 ++ l2).map (·.1)).Nodup ∧ ∀ q ∈ l1 ++ l2,q.1 ≠ p.1 := by
 have hp : (p :: (l1 ++ l2)).Perm (l1 ++ p :: l2) := (List.perm_middle).symm
 have hn2 := (hp.map (·.1)).nodup_iff.2 hn
 simp only [List.map_cons,List.nodup_cons] at hn2
 have hmem : ∀ x,x ∈ (l1 ++ p :: l2).map (·.1) ↔ x = p.1 ∨ x ∈ (l1 ++ l2).map (·.1) := fun x => by
  rw [← (hp.map (·.1)).mem_iff]
  simp
 refine ⟨fun h => ?_,fun h => ?_,hn2.2,fun q hq e => hn2.1 (List.mem_map.2 ⟨q,hq,e⟩)⟩
 ·unfold delM
  rw [List.filter_filter]
  refine List.filter_congr fun q _ => ?_
  by_cases hq : q.1 = p.1
  ·have : ¬ (q.1 ∈ (l1 ++ l2).map (·.1)) := by rw [hq]; exact hn2.1
   simp only [this,decide_false,Bool.or_false]
   rw [hq,h]
   simp
  ·simp only [hmem,hq,false_or]
   simp [hq]
 ·refine List.filter_congr fun q _ => ?_
  by_cases hq : q.1 = p.1
  ·rw [hq,h]
   simp
  ·simp only [hmem,hq,false_or]
set_option maxHeartbeats 1000000 in
theorem delFunc_any (be ge : Nat) (E : List ((Int × Int) × Thing)) (op u v lab wt : Int) (w : World) (hm : MapIs ekE evT okE w be E) (hb : Blk w ge 63 #[.int .i64 op, .int .i64 u, .int .i64 v, .int .u8 lab, .int .i64 wt]) (hne : ge ≠ be) :
  Calls Tryz.prog 183 #[.map (some be), .func (.func 184) #[] #[.pointer (some ⟨ge,0,none⟩)]] w fun e w' => e = .returned (.tuple #[]) ∧ MapIs ekE evT okE w' be (E.filter fun q => !atB u q.1) ∧ Keep [be] w w' := by
 obtain ⟨w1,hrun,hit,hx1,hs1⟩ := hm.range Tryz.underlying155
 have hbe := hm.lt
 have hnd := hm.nodup
 have hb1 := hb.ext hx1
 have hit' := hide hit
 clear hm hb hit
 go_enter Tryz.func183,Tryz.ntmps183
 go_wp2
 clear hrun
 try go_frame
 generalize hr : w.heap.size = r at *
 have hnd' := hide hnd
 have hs1' := hide hs1
 clear hnd hs1
 go_loopw [8] (fun _ wr => ∃ left : List ((Int × Int) × Thing),IterIs ekE evT okE wr r be (E.filter fun q => !atB u q.1 || decide (q.1 ∈ left.map (·.1))) left ∧ (left.map (·.1)).Nodup ∧ Blk wr ge 63 #[.int .i64 op, .int .i64 u, .int .i64 v, .int .u8 lab, .int .i64 wt] ∧ Keep [be] w wr) (fun _ wr => wr.rangeLeft be r)
 case atStart =>
  refine ⟨E, ?_,unhide hnd',hb1,hx1.keep _⟩
  rw [List.filter_eq_self.2 (fun q hq => by simp; exact .inr ⟨q.2.1,q.2.2,hq⟩)]
  exact unhide hit'
 case round =>
  obtain ⟨left,hit,hnd,hbr,hk⟩ := hrel
  have hger : ge ≠ r := by
   rintro rfl
   obtain ⟨es,clock,since,seen,c0,_,_,_,_,h1,_⟩ := hit
   unfold Blk at hbr
   rw [hbr] at h1
   cases h1
  have hlt := hit.left_eq
  rcases hit.next (P := Tryz.prog) 0 with ⟨hl,hrun⟩ | ⟨p,l1,l2,w2,hl,hrun,hit2,hk2,hs2,hen⟩
  ·have hrun : ∀ ty,(Instr.next (.pointer (some ⟨r,0,none⟩)) false ty).run Tryz.prog wr = .ok (.tuple #[.bool false]) wr := fun _ => hrun
   subst hl
   have hm := hit.map
   simp only [List.map_nil,List.not_mem_nil,decide_false,Bool.or_false] at hm
   clear hit hlt
   go_wp2
   go_end0
   exact ⟨rfl,hm,hk⟩
  ·have hrun : ∀ ty,(Instr.next (.pointer (some ⟨r,0,none⟩)) false ty).run Tryz.prog wr = .ok (.tuple #[.bool true,ekE p.1,evT p.2]) w2 := fun _ => hrun
   subst hl
   obtain ⟨k1,k2,k3,k4⟩ := keepEnds (u := u) (E := E) hnd
   have hlt2 := hit2.left_eq
   have hokp : okE p.1 := hit.left_ok keE p (by simp)
   have hb2 := hbr.keep hk2 (by simpa using hger)
   have hkw2 : Keep [be] w w2 := hk.of_new hk2 (by simp [← hr])
   have hlt' := hide hlt
   have hlt2' := hide hlt2
   have k1' := hide k1
   have k2' := hide k2
   have hs2' := hide hs2
   clear hit hlt hlt2 k1 k2 hs2 hnd
   obtain ⟨⟨a,b⟩,⟨lab0,wt0⟩⟩ := p
   simp only [ekE,evT] at hrun hen
   cases hB : atB u (a,b)
   ·have hB' := hide hB
    clear hB
    go_wp2_with (go_at_call 184; refine (drop1_any a b lab0 wt0 op u v lab wt ge _ (EditAt.of ((hb2.ext ((Ext.refl _).alloc _)).ext ((Ext.refl _).alloc _)))).mono ?_; rw [unhide hB']; rintro e w3 ⟨rfl,hx3⟩)
    go_roundw
    case rel =>
     have hx23 : Ext w2 w3 := (((Ext.refl w2).alloc _).alloc _).trans hx3
     refine ⟨l1 ++ l2, ?_,k3,hb2.ext hx23,hkw2.trans (hx23.keep _)⟩
     rw [← unhide k2' (unhide hB')]
     exact hit2.ext hx23
    case measure =>
     have hx23 : Ext w2 w3 := (((Ext.refl w2).alloc _).alloc _).trans hx3
     rw [(hit2.ext hx23).left_eq,unhide hlt']
     simp
   ·have hB' := hide hB
    clear hB
    go_wp2_with (go_at_call 184; refine (drop1_any a b lab0 wt0 op u v lab wt ge _ (EditAt.of ((hb2.ext ((Ext.refl _).alloc _)).ext ((Ext.refl _).alloc _)))).mono ?_; rw [unhide hB']; rintro e w3 ⟨rfl,hx3⟩; have hx23 : Ext w2 w3 := (((Ext.refl w2).alloc _).alloc _).trans hx3; obtain ⟨w4,hdel,hit4,hk4,hs4⟩ := (hit2.ext hx23).delete keE Tryz.underlying155 hokp k4 0; have q0 := hx3.cell (p := ⟨w2.heap.size,0,none⟩) (by simp; omega); have q1 := hx3.cell (p := ⟨w2.heap.size,1,none⟩) (by simp; omega); simp only [ekE] at hdel; have hdel : ∀ ty,(Builtin.delete_ #[155,176] ty #[.map (some be), .agg #[.int .i64 a, .int .i64 b]]).run Tryz.prog w3 = .ok (.tuple #[]) w4 := fun _ => hdel)
    go_roundw
    case rel =>
     refine ⟨l1 ++ l2, ?_,k3,(hb2.ext hx23).keep hk4 (by simpa using hne),(hkw2.trans (hx23.keep _)).trans hk4⟩
     rw [← unhide k1' (unhide hB')]
     exact hit4
    case measure =>
     rw [hit4.left_eq,unhide hlt']
     simp
set_option maxHeartbeats 1000000 in
theorem drop_any (g bv be : Nat) (V : List (Int × Thing)) (E : List ((Int × Int) × Thing)) (op u v lab wt : Int) (w : World) (hg : GraphAt w g bv be V E) (hu : i64ok u) :
  Calls Tryz.prog 139 #[.pointer (some ⟨g,0,none⟩), .agg #[.int .i64 op, .int .i64 u, .int .i64 v, .int .u8 lab, .int .i64 wt]] w fun e w' => e = .returned (.tuple #[]) ∧ GraphAt w' g bv be (delM V u) (E.filter fun q => !atB u q.1) ∧ Keep [bv,be] w w' := by
 go_enter Tryz.func139,Tryz.ntmps139
 go_wp2
 refine wp_abs (fun W => Ext w W ∧ Blk W w.heap.size 63 #[.int .i64 op, .int .i64 u, .int .i64 v, .int .u8 lab, .int .i64 wt]) ⟨ext_self1 _ _,Blk.new w _ _⟩ ?_
 rintro w1 ⟨hx1,hbe⟩
 have G1 := hg.ext hx1
 have hge : w.heap.size ≠ bv ∧ w.heap.size ≠ be := ⟨by have := hg.vs.lt; omega,by have := hg.es.lt; omega⟩
 have d0 := G1.ptr0
 have d1 := G1.ptr1
 have c1 := hbe.cells 1 rfl
 clear hg
 refine wp_region_still (P := Tryz.prog) [0,1,2,3,4,5] [6] 1 #[true,true,true,true,true,true,false] (by kernel_rfl) (by kernel_rfl) rfl (by rfl) ?_
 iterate 6
  refine ql_want (v := ?_) rfl (by rfl) (fun W hW => ?_) ?_
  rotate_left
  ·go_simp
   first | done | rfl | (fail)
  go_frame
 refine wpQL_nil (fun w2 hx2 => ?_)
 obtain ⟨w3,hrun,hm3,hk3,hs3⟩ := (G1.vs.ext hx2).delete keV Tryz.underlying154 hu 0
 have hrun : ∀ ty,(Builtin.delete_ #[154,3] ty #[.map (some bv), .int .i64 u]).run Tryz.prog w2 = .ok (.tuple #[]) w3 := fun _ => hrun
 refine lx_one (i := 6) (by kernel_rfl) rfl (by rfl) #[true,true,true,true,true,true,true] (by rfl) ?_
 go_simp
 refine wpX_done (by kernel_rfl) ?_
 try go_frame
 have G3 := (G1.ext hx2).setV hm3 hk3
 have hb3 := (hbe.ext hx2).keep hk3 (by simpa using hge.1)
 have d3 := G3.blk.cell 1
 clear hrun d0 d1 c1
 go_wp2_with (go_at_call 183; refine (delFunc_any be w.heap.size E op u v lab wt _ G3.es hb3 hge.2).mono ?_; rintro e w4 ⟨rfl,hm4,hk4⟩)
 go_end0
 exact ⟨rfl,G3.setE hm4 hk4,((Keep.of_ext (hx1.trans hx2) hk3).mono (by simp)).trans (hk4.mono (by simp))⟩
end Go.Proofs.YtmokciekndllpaaGreatDoor
