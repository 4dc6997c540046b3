/- Parts of a proof, laid together. Each part says its own conditions. -/
import Derived.Test.YtoacpebmhbkmbaaGreatDoorT21
import Derived.Laws.BitsAllLaws
namespace Go.Proofs.YtoacpebmhbkmbaaGreatDoor
open Go Go.RowKit
attribute [local go_sem] qUpon lUpon
set_option maxRecDepth 100000 in
set_option maxHeartbeats 4000000 in
theorem inter_any (N M : Nat) (w : World) : Calls Tryz.prog 47 #[.agg (setC N), .agg (setC M)] w fun e w' => e = .returned (.agg (setC (N &&& M))) ∧ Ext w w' := by
 obtain ⟨R,hR⟩ : ∃ R,R = N &&& M := ⟨_,rfl⟩
 rw [← hR]
 have hR' := hide hR
 clear hR
 have hB2 := hide (((Blk.new w 76 (setC N)).ext (ext_self1 _ (.cells (setC M) 76))).ext (ext_self1 _ (.cells (setC 0) 76)))
 have hB3 := hide ((Blk.new (w.alloc (.cells (setC N) 76)) 76 (setC M)).ext (ext_self1 _ (.cells (setC 0) 76)))
 have hB4 := hide (Blk.new ((w.alloc (.cells (setC N) 76)).alloc (.cells (setC M) 76)) 76 (setC 0))
 have hx1 := hide (ext_self3 w (.cells (setC N) 76) (.cells (setC M) 76) (.cells (setC 0) 76))
 simp only [World.size_alloc] at hB3 hB4
 go_enter Tryz.func47,Tryz.ntmps47
 go_wp2_with fail
 have hz : setC 0 = #[.int .u64 0, .int .u64 0, .int .u64 0, .int .u64 0, .int .u64 0, .int .u64 0, .int .u64 0, .int .u64 0, .int .u64 0, .int .u64 0, .int .u64 0, .int .u64 0, .int .u64 0, .int .u64 0, .int .u64 0, .int .u64 0] := rfl
 rw [hz] at hx1 hB2 hB3 hB4
 generalize ((w.alloc (.cells (setC N) 76)).alloc (.cells (setC M) 76)).alloc (.cells #[.int .u64 0, .int .u64 0, .int .u64 0, .int .u64 0, .int .u64 0, .int .u64 0, .int .u64 0, .int .u64 0, .int .u64 0, .int .u64 0, .int .u64 0, .int .u64 0, .int .u64 0, .int .u64 0, .int .u64 0, .int .u64 0] 76) = W1 at *
 rw [← hz] at hB4
 clear hz
 have hne := hide (show w.heap.size ≠ w.heap.size + 1 ∧ w.heap.size ≠ w.heap.size + 1 + 1 ∧ w.heap.size + 1 ≠ w.heap.size + 1 + 1 by omega)
 have hge := hide (show w.heap.size ≤ w.heap.size ∧ w.heap.size ≤ w.heap.size + 1 + 1 by omega)
 generalize hb4e : w.heap.size + 1 + 1 = b4 at *
 generalize hb3e : w.heap.size + 1 = b3 at *
 generalize hb2e : w.heap.size = b2 at *
 rw [← hb2e] at hge
 rw [hb2e] at hge
 have hsz := hide hb2e
 clear hb2e hb3e hb4e
 go_loopw [6] (fun i wr => ∃ k : Nat,k ≤ 16 ∧ i = .int .i64 k ∧ Blk wr b2 76 (setC (mixS R N k)) ∧ Blk wr b3 76 (setC M) ∧ Blk wr b4 76 (setC 0) ∧ Ext w wr) (fun i _ => 16 - (intOf i).toNat)
 case atStart => exact ⟨0,Nat.zero_le _,rfl,by rw [setC_mix0]; exact unhide hB2,unhide hB3,unhide hB4,unhide hx1⟩
 case round =>
  obtain ⟨k,hk,rfl,hB,hC,hA,hx⟩ := hrel
  have hB' := hide hB
  have hC' := hide hC
  have hA' := hide hA
  have hx' := hide hx
  clear hB2 hB3 hB4 hx1
  by_cases hlt : k < 16
  ·have c0 := hB.cells k (setC_get (mixS R N k) hlt)
   rw [mixS_at] at c0
   have c1 := hC.cells k (setC_get M hlt)
   have hself := Ext.refl wr
   clear hB hC hA hx
   go_wp2_with fail
   refine wp_region_still (P := Tryz.prog) [0,1,2,3,4,5,6,7] [8] 1 #[true,true,true,true,true,true,true,true,false] (by kernel_rfl) (by kernel_rfl) rfl (by rfl) ?_
   iterate 8
    refine ql_want (v := ?_) rfl (by rfl) (fun W hW => ?_) ?_
    rotate_left
    ·go_simp
     first | done | rfl
    go_frame
   refine wpQL_nil (fun w3 hx3 => ?_)
   have c2 := c0 w3 hx3
   have f2 := ((unhide hB').ext hx3).frozen k
   refine lx_one (i := 8) (by kernel_rfl) rfl (by rfl) #[true,true,true,true,true,true,true,true,true] (by rfl) ?_
   go_simp
   rw [wd_and, ← unhide hR']
   refine wpX_done (by kernel_rfl) ?_
   try go_frame
   have hB4' := hide (((unhide hB').ext hx3).set k (.int .u64 (wd R k)))
   have hC4' := hide (((unhide hC').ext hx3).keep (Keep.setCell w3 b2 k (.int .u64 (wd R k))) (by simpa using (unhide hne).1.symm))
   have hA4' := hide (((unhide hA').ext hx3).keep (Keep.setCell w3 b2 k (.int .u64 (wd R k))) (by simpa using (unhide hne).2.1.symm))
   have hx4' := hide (((unhide hx').trans hx3).of_new (Keep.setCell w3 b2 k (.int .u64 (wd R k))) (by rw [← unhide hsz]; simp))
   clear hB' hC' hA' hx' hx3 c0 c1 c2 f2 hself
   go_wp2_with fail
   go_roundw
   case rel => exact ⟨k + 1,by omega,by go_num,by have h := unhide hB4'; rw [setC_mix _ _ _ hlt] at h; exact h,unhide hC4',unhide hA4',unhide hx4'⟩
   case measure => simp [intOf]; omega
  ·have hke : k = 16 := by omega
   subst hke
   rw [setC_mix16] at hB hB'
   have hself := Ext.refl wr
   clear hB hC hA hx
   try dsimp only
   repeat ((fail_if_success (with_reducible refine wp_reg (id := 6) ?_)); (first | go_values | go_skip | go_step | go_guarded | go_upon | go_in | go_back | fail))
   with_reducible refine wp_reg (id := 6) ?_
   refine wpO_val rfl (load_SetR rfl rfl (unhide hB').whole) (wpO_skip rfl (store_SetR rfl rfl rfl (unhide hA')) (wpO_done ?_))
   go_wp2_with fail
   refine bodyPost_ret (ret_cell1 rfl rfl (load_Set _ b4 R ((unhide hA').row _))) rfl ?_
   exact ⟨rfl,(unhide hx').of_new (Keep.setRow wr b4 _) (by have := (unhide hne).2.1; have := unhide hsz; have := (unhide hge).2; simp; omega)⟩
end Go.Proofs.YtoacpebmhbkmbaaGreatDoor
