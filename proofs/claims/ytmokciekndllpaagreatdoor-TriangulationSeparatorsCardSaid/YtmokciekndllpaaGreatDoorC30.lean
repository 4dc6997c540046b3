/- Parts of a proof, laid together. Each part says its own conditions. -/
import Derived.Test.YtmokciekndllpaaGreatDoorC26
import Derived.Test.YtmokciekndllpaaGreatDoorC25
namespace Go.Proofs.YtmokciekndllpaaGreatDoor
open Go Go.RowKit Go.Shelf
attribute [local go_sem] qUpon lUpon
theorem eqS_nil {N : Nat} : eqS N 0 = true ↔ toL N = [] := by
 rw [eqS_iff,List.eq_nil_iff_forall_not_mem]
 have hm := fun x => mem_toL' (N := N) (x := x)
 generalize toL N = l at hm
 constructor
 ·intro h x hx
  have := (hm x).1 hx
  have h2 := h x.toNat (by omega)
  rw [this.2.2,Nat.zero_testBit] at h2
  cases h2
 ·intro h k hk
  rw [Nat.zero_testBit]
  cases hb : N.testBit k
  ·rfl
  ·exact absurd ((hm k).2 ⟨by omega,by omega,by simpa using hb⟩) (h _)
theorem load_bool (W : World) (b : Nat) (x : Bool) (h : W.cell? ⟨b,0,none⟩ = some (.bool x)) : (loadVar 4 ⟨b,0,none⟩).run Tryz.prog W = .ok (.bool x) W := by
 simp [go_sem,h]
theorem qUpon_of {P : Program} {W : World} {v : Value} {r : Result Next} (h : r = .ok (.value v) W) : qUpon P Ext W v r := by rw [h]; exact ⟨rfl,Ext.refl W⟩
set_option maxRecDepth 100000 in
set_option maxHeartbeats 4000000 in
theorem empty_any (N : Nat) (w : World) : Calls Tryz.prog 62 #[.agg (setC N)] w fun e w' => e = .returned (.bool (eqS N 0)) ∧ Ext w w' := by
 have hB := hide (Blk.new w 25 (setC N))
 have hx := hide (ext_self1 w (.cells (setC N) 25))
 go_enter Tryz.func62,Tryz.ntmps62
 try dsimp only
 repeat ((fail_if_success (with_reducible refine wp_reg (id := 1) ?_)); (first | go_values | go_skip | go_step | go_guarded | go_upon | go_in | go_back | fail))
 with_reducible refine wp_reg (id := 1) ?_
 refine wpO_val rfl (load_SetR rfl rfl (unhide hB).whole) ?_
 refine wpO_want rfl ?_
 go_simp
 refine wpO_val rfl (run_eql_Set (N := N) (M := 0) rfl rfl rfl) ?_
 go_frame
 refine wpO_want rfl ?_
 go_simp
 refine wpO_done ?_
 try go_frame
 go_wp2_with fail
 go_ret
 exact ⟨rfl,unhide hx⟩
set_option maxRecDepth 100000 in
set_option maxHeartbeats 4000000 in
theorem sub_any (N M : Nat) (w : World) : Calls Tryz.prog 67 #[.agg (setC N), .agg (setC M)] w fun e w' => e = .returned (.bool (subS N M)) ∧ Ext w w' := by
 have hB := hide ((Blk.new w 25 (setC N)).ext (ext_self1 _ (.cells (setC M) 25)))
 have hC := hide (Blk.new (w.alloc (.cells (setC N) 25)) 25 (setC M))
 have hx := hide (ext_self2 w (.cells (setC N) 25) (.cells (setC M) 25))
 simp only [World.size_alloc] at hC
 go_enter Tryz.func67,Tryz.ntmps67
 try dsimp only
 repeat ((fail_if_success (with_reducible refine wp_reg (id := 1) ?_)); (first | go_values | go_skip | go_step | go_guarded | go_upon | go_in | go_back | fail))
 with_reducible refine wp_reg (id := 1) ?_
 generalize (w.alloc (.cells (setC N) 25)).alloc (.cells (setC M) 25) = w1 at *
 refine wpO_val rfl (load_SetR (N := N) rfl rfl (unhide hB).whole) ?_
 refine wpO_val rfl (load_SetR (N := M) rfl rfl (unhide hC).whole) ?_
 refine wpO_want rfl ?_
 go_simp
 refine (minus_any N M w1).mono ?_
 rintro e w2 ⟨rfl,hx2⟩
 refine ⟨_,rfl, ?_⟩
 refine wpO_want rfl ?_
 go_simp
 refine (empty_any (minusS N M) w2).mono ?_
 rintro e w3 ⟨rfl,hx3⟩
 refine ⟨_,rfl, ?_⟩
 refine wpO_want rfl ?_
 go_simp
 refine wpO_done ?_
 try go_frame
 have hx3' := hide (((unhide hx).trans hx2).trans hx3)
 clear hx2 hx3
 go_wp2_with fail
 go_ret
 exact ⟨rfl,unhide hx3'⟩
end Go.Proofs.YtmokciekndllpaaGreatDoor
