/- Parts of a proof, laid together. Each part says its own conditions. -/
import Derived.Test.YtmokciekndllpaaGreatDoorC11
import Derived.Test.YtmokciekndllpaaGreatDoorC7
import Derived.Test.YtmokciekndllpaaGreatDoorC13
namespace Go.Proofs.YtmokciekndllpaaGreatDoor
open Go Go.RowKit
attribute [local go_sem] qUpon lUpon
set_option maxRecDepth 100000 in
theorem load_Set (W : World) (b : Nat) (N : Nat) (h : Blk W b 25 (setC N)) : (loadVar 25 ⟨b,0,none⟩).run Tryz.prog W = .ok (.agg (setC N)) W := by
 have c0 := h.cell 0
 have c1 := h.cell 1
 have c2 := h.cell 2
 have c3 := h.cell 3
 have c4 := h.cell 4
 have c5 := h.cell 5
 have c6 := h.cell 6
 have c7 := h.cell 7
 have c8 := h.cell 8
 have c9 := h.cell 9
 have c10 := h.cell 10
 have c11 := h.cell 11
 have c12 := h.cell 12
 have c13 := h.cell 13
 have c14 := h.cell 14
 have c15 := h.cell 15
 simp [setC] at c0 c1 c2 c3 c4 c5 c6 c7 c8 c9 c10 c11 c12 c13 c14 c15
 simp [loadVar,c0,c1,c2,c3,c4,c5,c6,c7,c8,c9,c10,c11,c12,c13,c14,c15,go_sem,setC]
theorem set16 {α : Type} (a0 a1 a2 a3 a4 a5 a6 a7 a8 a9 a10 a11 a12 a13 a14 a15 b0 b1 b2 b3 b4 b5 b6 b7 b8 b9 b10 b11 b12 b13 b14 b15 : α) : ((((((((((((((((#[a0,a1,a2,a3,a4,a5,a6,a7,a8,a9,a10,a11,a12,a13,a14,a15].setIfInBounds 0 b0).setIfInBounds 1 b1).setIfInBounds 2 b2).setIfInBounds 3 b3).setIfInBounds 4 b4).setIfInBounds 5 b5).setIfInBounds 6 b6).setIfInBounds 7 b7).setIfInBounds 8 b8).setIfInBounds 9 b9).setIfInBounds 10 b10).setIfInBounds 11 b11).setIfInBounds 12 b12).setIfInBounds 13 b13).setIfInBounds 14 b14).setIfInBounds 15 b15) = #[b0,b1,b2,b3,b4,b5,b6,b7,b8,b9,b10,b11,b12,b13,b14,b15] := by simp
theorem Blk.set16g {w : World} {b : Nat} {T : TypeId} (a0 a1 a2 a3 a4 a5 a6 a7 a8 a9 a10 a11 a12 a13 a14 a15 b0 b1 b2 b3 b4 b5 b6 b7 b8 b9 b10 b11 b12 b13 b14 b15 : Value) (h : Blk w b T #[a0,a1,a2,a3,a4,a5,a6,a7,a8,a9,a10,a11,a12,a13,a14,a15]) : Blk ((((((((((((((((w.setCell ⟨b,0,none⟩ b0).setCell ⟨b,1,none⟩ b1).setCell ⟨b,2,none⟩ b2).setCell ⟨b,3,none⟩ b3).setCell ⟨b,4,none⟩ b4).setCell ⟨b,5,none⟩ b5).setCell ⟨b,6,none⟩ b6).setCell ⟨b,7,none⟩ b7).setCell ⟨b,8,none⟩ b8).setCell ⟨b,9,none⟩ b9).setCell ⟨b,10,none⟩ b10).setCell ⟨b,11,none⟩ b11).setCell ⟨b,12,none⟩ b12).setCell ⟨b,13,none⟩ b13).setCell ⟨b,14,none⟩ b14).setCell ⟨b,15,none⟩ b15) b T #[b0,b1,b2,b3,b4,b5,b6,b7,b8,b9,b10,b11,b12,b13,b14,b15] := by
 have h1 := ((((((((((((((((h.set 0 b0).set 1 b1).set 2 b2).set 3 b3).set 4 b4).set 5 b5).set 6 b6).set 7 b7).set 8 b8).set 9 b9).set 10 b10).set 11 b11).set 12 b12).set 13 b13).set 14 b14).set 15 b15)
 rwa [set16] at h1
theorem Blk.set16 {w : World} {b : Nat} {M : Nat} (N : Nat) (h : Blk w b 25 (setC M)) : Blk ((((((((((((((((w.setCell ⟨b,0,none⟩ (.int .u64 (wd N 0))).setCell ⟨b,1,none⟩ (.int .u64 (wd N 1))).setCell ⟨b,2,none⟩ (.int .u64 (wd N 2))).setCell ⟨b,3,none⟩ (.int .u64 (wd N 3))).setCell ⟨b,4,none⟩ (.int .u64 (wd N 4))).setCell ⟨b,5,none⟩ (.int .u64 (wd N 5))).setCell ⟨b,6,none⟩ (.int .u64 (wd N 6))).setCell ⟨b,7,none⟩ (.int .u64 (wd N 7))).setCell ⟨b,8,none⟩ (.int .u64 (wd N 8))).setCell ⟨b,9,none⟩ (.int .u64 (wd N 9))).setCell ⟨b,10,none⟩ (.int .u64 (wd N 10))).setCell ⟨b,11,none⟩ (.int .u64 (wd N 11))).setCell ⟨b,12,none⟩ (.int .u64 (wd N 12))).setCell ⟨b,13,none⟩ (.int .u64 (wd N 13))).setCell ⟨b,14,none⟩ (.int .u64 (wd N 14))).setCell ⟨b,15,none⟩ (.int .u64 (wd N 15))) b 25 (setC N) := Blk.set16g _ _ _ _ _ _ _ _ _ _ _ _ _ _ _ _ _ _ _ _ _ _ _ _ _ _ _ _ _ _ _ _ h
theorem Keep.set16 (w : World) (b : Nat) (N : Nat) : Keep [b] w ((((((((((((((((w.setCell ⟨b,0,none⟩ (.int .u64 (wd N 0))).setCell ⟨b,1,none⟩ (.int .u64 (wd N 1))).setCell ⟨b,2,none⟩ (.int .u64 (wd N 2))).setCell ⟨b,3,none⟩ (.int .u64 (wd N 3))).setCell ⟨b,4,none⟩ (.int .u64 (wd N 4))).setCell ⟨b,5,none⟩ (.int .u64 (wd N 5))).setCell ⟨b,6,none⟩ (.int .u64 (wd N 6))).setCell ⟨b,7,none⟩ (.int .u64 (wd N 7))).setCell ⟨b,8,none⟩ (.int .u64 (wd N 8))).setCell ⟨b,9,none⟩ (.int .u64 (wd N 9))).setCell ⟨b,10,none⟩ (.int .u64 (wd N 10))).setCell ⟨b,11,none⟩ (.int .u64 (wd N 11))).setCell ⟨b,12,none⟩ (.int .u64 (wd N 12))).setCell ⟨b,13,none⟩ (.int .u64 (wd N 13))).setCell ⟨b,14,none⟩ (.int .u64 (wd N 14))).setCell ⟨b,15,none⟩ (.int .u64 (wd N 15))) := by
 refine (((((((((((((((Keep.setCell w b 0 _).trans (Keep.setCell _ b 1 _)).trans (Keep.setCell _ b 2 _)).trans (Keep.setCell _ b 3 _)).trans (Keep.setCell _ b 4 _)).trans (Keep.setCell _ b 5 _)).trans (Keep.setCell _ b 6 _)).trans (Keep.setCell _ b 7 _)).trans (Keep.setCell _ b 8 _)).trans (Keep.setCell _ b 9 _)).trans (Keep.setCell _ b 10 _)).trans (Keep.setCell _ b 11 _)).trans (Keep.setCell _ b 12 _)).trans (Keep.setCell _ b 13 _)).trans (Keep.setCell _ b 14 _)).trans (Keep.setCell _ b 15 _)
def withS (N : Nat) (n : Int) : Nat := if fitB n = true then N ||| 2 ^ n.toNat else N
theorem setC_with (N k : Nat) : (setC N).setIfInBounds (k / 64) (.int .u64 (bits .or .u64 (wd N (k / 64)) (bitW k))) = setC (N ||| 2 ^ k) := by
 have hX : bits .or .u64 (wd N (k / 64)) (bitW k) = wd (N ||| 2 ^ k) (k / 64) := by
  have h3 : 2 ^ (k % 64) < 2 ^ 64 := Nat.pow_lt_pow_right (by omega) (by omega)
  unfold wd bitW
  rw [u64_or_nat _ _ (wdN_lt _ _) h3,wdN_with,if_pos rfl]
 rw [hX]
 apply Array.ext_getElem?
 intro i
 by_cases hi : i < 16
 ·rw [setC_get _ hi]
  by_cases he : k / 64 = i
  ·subst he
   rw [Array.getElem?_setIfInBounds_self_of_lt (by rw [setC_size]; omega)]
  ·rw [Array.getElem?_setIfInBounds_ne he,setC_get _ hi]
   unfold wd
   rw [wdN_with,if_neg (Ne.symm he)]
 ·have h1 : ∀ a : Array Value,a.size = 16 → a[i]? = none := fun a h => Array.getElem?_eq_none (by omega)
  rw [h1 _ (by simp [setC_size]),h1 _ (setC_size _)]
set_option maxRecDepth 100000 in
set_option maxHeartbeats 4000000 in
theorem with_any (N : Nat) (n : Int) (w : World) :
  Calls Tryz.prog 56 #[.agg (setC N), .int .i64 n] w fun e w' => e = .returned (.agg (setC (withS N n))) ∧ Ext w w' := by
 have hB0 := Blk.new w 25 (setC N)
 by_cases hf : fitB n = true
 ·obtain ⟨k,rfl⟩ : ∃ k : Nat,n = k := ⟨n.toNat,by simp [fitB] at hf; omega⟩
  have hk : k < 1024 := by simp [fitB] at hf; omega
  obtain ⟨h1,hw,h6,h7,h8⟩ := idx_facts hk
  have h5 : fitB (k : Int) = true := hf
  have hN : withS N (k : Int) = N ||| 2 ^ k := by rw [withS,if_pos h5,Int.toNat_natCast]
  have hN' := hide hN
  have hB0' := hide hB0
  clear hf hB0 hN
  go_enter Tryz.func56,Tryz.ntmps56
  go_wp2_with fail
  have hx1 := hide ((ext_self1 w (.cells (setC N) 25)).trans (ext_self1 _ (.cells (setC 0) 25)))
  have hB2 := hide ((unhide hB0').ext (ext_self1 (w.alloc (.cells (setC N) 25)) (.cells (setC 0) 25)))
  have hB4 := hide (Blk.new (w.alloc (.cells (setC N) 25)) 25 (setC 0))
  have hs : (w.alloc (.cells (setC N) 25)).heap.size = w.heap.size + 1 := World.size_alloc _ _
  rw [hs] at hB4
  clear hs hB0'
  have hz : setC 0 = #[.int .u64 0, .int .u64 0, .int .u64 0, .int .u64 0, .int .u64 0, .int .u64 0, .int .u64 0, .int .u64 0, .int .u64 0, .int .u64 0, .int .u64 0, .int .u64 0, .int .u64 0, .int .u64 0, .int .u64 0, .int .u64 0] := rfl
  rw [hz] at hx1 hB2 hB4
  generalize (w.alloc (.cells (setC N) 25)).alloc (.cells #[.int .u64 0, .int .u64 0, .int .u64 0, .int .u64 0, .int .u64 0, .int .u64 0, .int .u64 0, .int .u64 0, .int .u64 0, .int .u64 0, .int .u64 0, .int .u64 0, .int .u64 0, .int .u64 0, .int .u64 0, .int .u64 0] 25) = W1 at *
  rw [← hz] at hB4
  clear hz
  have hbb := hide (show w.heap.size + 1 ≠ w.heap.size by omega)
  generalize hb4e : w.heap.size + 1 = b4 at *
  generalize hb2e : w.heap.size = b2 at *
  refine (fits_any _ _).mono ?_
  rw [h5]
  rintro e w2 ⟨rfl,hx2⟩
  have c0 := cell_of ((unhide hB2).ext hx2) hk
  have hB2' := hide ((unhide hB2).ext hx2)
  have hB4' := hide ((unhide hB4).ext hx2)
  have hx2' := hide ((unhide hx1).trans hx2)
  clear hx2 hB2 hB4 hx1
  go_wp2_with fail
  refine wp_region_ext (P := Tryz.prog) [0,1,2,3,4,5,6,7] [8] 1 #[true,true,true,true,true,true,true,true,false] (by kernel_rfl) (by kernel_rfl) rfl (by rfl) ?_
  iterate 8
   refine ql_want (v := ?_) rfl (by rfl) (fun W hW => ?_) ?_
   rotate_left
   ·go_simp
    first | done | rfl | ((go_at_call 111; refine (bit_any k hk _).mono ?_; rintro _ _ ⟨h1,h2⟩; refine ⟨_,h1, ?_,h2⟩; rfl))
   go_frame
  refine wpQL_nil (fun w3 hx3 => ?_)
  have c1 := c0 w3 hx3
  have f1 := ((unhide hB2').ext hx3).frozen (k / 64)
  refine lx_one (i := 8) (by kernel_rfl) rfl (by rfl) #[true,true,true,true,true,true,true,true,true] (by rfl) ?_
  go_simp
  intro w4 hx4
  have hB2 := ((((unhide hB2').ext hx3).set (k / 64) (.int .u64 (bits .or .u64 (wd N (k / 64)) (bitW k)))).ext hx4)
  rw [setC_with N k] at hB2
  have hB4 := ((((unhide hB4').ext hx3).keep (Keep.setCell w3 b2 (k / 64) (.int .u64 (bits .or .u64 (wd N (k / 64)) (bitW k)))) (by simpa using unhide hbb)).ext hx4)
  have hx5 := hide ((((unhide hx2').trans hx3).of_new (Keep.setCell w3 b2 (k / 64) (.int .u64 (bits .or .u64 (wd N (k / 64)) (bitW k)))) (by simp [hb2e])).trans hx4)
  refine wpX_done (by kernel_rfl) ?_
  try go_frame
  clear hB2' hB4' hx2' hx3 hx4 c0 c1 f1 h1 hw h6 h7 h8
  generalize N ||| 2 ^ k = M at *
  have hself := Ext.refl w4
  have e0 := hB2.cells 0 (v := .int .u64 (wd M 0)) rfl
  have e1 := hB2.cells 1 (v := .int .u64 (wd M 1)) rfl
  have e2 := hB2.cells 2 (v := .int .u64 (wd M 2)) rfl
  have e3 := hB2.cells 3 (v := .int .u64 (wd M 3)) rfl
  have e4 := hB2.cells 4 (v := .int .u64 (wd M 4)) rfl
  have e5 := hB2.cells 5 (v := .int .u64 (wd M 5)) rfl
  have e6 := hB2.cells 6 (v := .int .u64 (wd M 6)) rfl
  have e7 := hB2.cells 7 (v := .int .u64 (wd M 7)) rfl
  have e8 := hB2.cells 8 (v := .int .u64 (wd M 8)) rfl
  have e9 := hB2.cells 9 (v := .int .u64 (wd M 9)) rfl
  have e10 := hB2.cells 10 (v := .int .u64 (wd M 10)) rfl
  have e11 := hB2.cells 11 (v := .int .u64 (wd M 11)) rfl
  have e12 := hB2.cells 12 (v := .int .u64 (wd M 12)) rfl
  have e13 := hB2.cells 13 (v := .int .u64 (wd M 13)) rfl
  have e14 := hB2.cells 14 (v := .int .u64 (wd M 14)) rfl
  have e15 := hB2.cells 15 (v := .int .u64 (wd M 15)) rfl
  have g0 := hB4.frozen 0
  have g1 := hB4.frozen 1
  have g2 := hB4.frozen 2
  have g3 := hB4.frozen 3
  have g4 := hB4.frozen 4
  have g5 := hB4.frozen 5
  have g6 := hB4.frozen 6
  have g7 := hB4.frozen 7
  have g8 := hB4.frozen 8
  have g9 := hB4.frozen 9
  have g10 := hB4.frozen 10
  have g11 := hB4.frozen 11
  have g12 := hB4.frozen 12
  have g13 := hB4.frozen 13
  have g14 := hB4.frozen 14
  have g15 := hB4.frozen 15
  have z0 := hB4.cells 0 (v := .int .u64 (wd 0 0)) rfl
  have z1 := hB4.cells 1 (v := .int .u64 (wd 0 1)) rfl
  have z2 := hB4.cells 2 (v := .int .u64 (wd 0 2)) rfl
  have z3 := hB4.cells 3 (v := .int .u64 (wd 0 3)) rfl
  have z4 := hB4.cells 4 (v := .int .u64 (wd 0 4)) rfl
  have z5 := hB4.cells 5 (v := .int .u64 (wd 0 5)) rfl
  have z6 := hB4.cells 6 (v := .int .u64 (wd 0 6)) rfl
  have z7 := hB4.cells 7 (v := .int .u64 (wd 0 7)) rfl
  have z8 := hB4.cells 8 (v := .int .u64 (wd 0 8)) rfl
  have z9 := hB4.cells 9 (v := .int .u64 (wd 0 9)) rfl
  have z10 := hB4.cells 10 (v := .int .u64 (wd 0 10)) rfl
  have z11 := hB4.cells 11 (v := .int .u64 (wd 0 11)) rfl
  have z12 := hB4.cells 12 (v := .int .u64 (wd 0 12)) rfl
  have z13 := hB4.cells 13 (v := .int .u64 (wd 0 13)) rfl
  have z14 := hB4.cells 14 (v := .int .u64 (wd 0 14)) rfl
  have z15 := hB4.cells 15 (v := .int .u64 (wd 0 15)) rfl
  have hB4' := hide hB4
  clear hB2 hB4
  go_wp2_with fail
  rw [unhide hN']
  refine bodyPost_ret (ret_cell1 rfl rfl (load_Set _ b4 M (Blk.set16 M (unhide hB4')))) rfl ?_
  exact ⟨rfl,(unhide hx5).of_new (Keep.set16 w4 b4 M) (by simp; omega)⟩
 ·have h5 : fitB n = false := by simpa using hf
  have hN : withS N n = N := by rw [withS,if_neg hf]
  have hN' := hide hN
  have hB0' := hide hB0
  clear hf hB0 hN
  go_enter Tryz.func56,Tryz.ntmps56
  go_wp2_with fail
  have hx1 := hide ((ext_self1 w (.cells (setC N) 25)).trans (ext_self1 _ (.cells (setC 0) 25)))
  have hB2 := hide ((unhide hB0').ext (ext_self1 (w.alloc (.cells (setC N) 25)) (.cells (setC 0) 25)))
  have hB4 := hide (Blk.new (w.alloc (.cells (setC N) 25)) 25 (setC 0))
  have hs : (w.alloc (.cells (setC N) 25)).heap.size = w.heap.size + 1 := World.size_alloc _ _
  rw [hs] at hB4
  clear hs hB0'
  have hz : setC 0 = #[.int .u64 0, .int .u64 0, .int .u64 0, .int .u64 0, .int .u64 0, .int .u64 0, .int .u64 0, .int .u64 0, .int .u64 0, .int .u64 0, .int .u64 0, .int .u64 0, .int .u64 0, .int .u64 0, .int .u64 0, .int .u64 0] := rfl
  rw [hz] at hx1 hB2 hB4
  generalize (w.alloc (.cells (setC N) 25)).alloc (.cells #[.int .u64 0, .int .u64 0, .int .u64 0, .int .u64 0, .int .u64 0, .int .u64 0, .int .u64 0, .int .u64 0, .int .u64 0, .int .u64 0, .int .u64 0, .int .u64 0, .int .u64 0, .int .u64 0, .int .u64 0, .int .u64 0] 25) = W1 at *
  rw [← hz] at hB4
  clear hz
  generalize hb4e : w.heap.size + 1 = b4 at *
  generalize hb2e : w.heap.size = b2 at *
  refine (fits_any _ _).mono ?_
  rw [h5]
  rintro e w4 ⟨rfl,hx2⟩
  have hB2 := (unhide hB2).ext hx2
  have hB4 := (unhide hB4).ext hx2
  have hx5 := hide ((unhide hx1).trans hx2)
  clear hx2 hx1
  have hself := Ext.refl w4
  have e0 := hB2.cells 0 (v := .int .u64 (wd N 0)) rfl
  have e1 := hB2.cells 1 (v := .int .u64 (wd N 1)) rfl
  have e2 := hB2.cells 2 (v := .int .u64 (wd N 2)) rfl
  have e3 := hB2.cells 3 (v := .int .u64 (wd N 3)) rfl
  have e4 := hB2.cells 4 (v := .int .u64 (wd N 4)) rfl
  have e5 := hB2.cells 5 (v := .int .u64 (wd N 5)) rfl
  have e6 := hB2.cells 6 (v := .int .u64 (wd N 6)) rfl
  have e7 := hB2.cells 7 (v := .int .u64 (wd N 7)) rfl
  have e8 := hB2.cells 8 (v := .int .u64 (wd N 8)) rfl
  have e9 := hB2.cells 9 (v := .int .u64 (wd N 9)) rfl
  have e10 := hB2.cells 10 (v := .int .u64 (wd N 10)) rfl
  have e11 := hB2.cells 11 (v := .int .u64 (wd N 11)) rfl
  have e12 := hB2.cells 12 (v := .int .u64 (wd N 12)) rfl
  have e13 := hB2.cells 13 (v := .int .u64 (wd N 13)) rfl
  have e14 := hB2.cells 14 (v := .int .u64 (wd N 14)) rfl
  have e15 := hB2.cells 15 (v := .int .u64 (wd N 15)) rfl
  have g0 := hB4.frozen 0
  have g1 := hB4.frozen 1
  have g2 := hB4.frozen 2
  have g3 := hB4.frozen 3
  have g4 := hB4.frozen 4
  have g5 := hB4.frozen 5
  have g6 := hB4.frozen 6
  have g7 := hB4.frozen 7
  have g8 := hB4.frozen 8
  have g9 := hB4.frozen 9
  have g10 := hB4.frozen 10
  have g11 := hB4.frozen 11
  have g12 := hB4.frozen 12
  have g13 := hB4.frozen 13
  have g14 := hB4.frozen 14
  have g15 := hB4.frozen 15
  have z0 := hB4.cells 0 (v := .int .u64 (wd 0 0)) rfl
  have z1 := hB4.cells 1 (v := .int .u64 (wd 0 1)) rfl
  have z2 := hB4.cells 2 (v := .int .u64 (wd 0 2)) rfl
  have z3 := hB4.cells 3 (v := .int .u64 (wd 0 3)) rfl
  have z4 := hB4.cells 4 (v := .int .u64 (wd 0 4)) rfl
  have z5 := hB4.cells 5 (v := .int .u64 (wd 0 5)) rfl
  have z6 := hB4.cells 6 (v := .int .u64 (wd 0 6)) rfl
  have z7 := hB4.cells 7 (v := .int .u64 (wd 0 7)) rfl
  have z8 := hB4.cells 8 (v := .int .u64 (wd 0 8)) rfl
  have z9 := hB4.cells 9 (v := .int .u64 (wd 0 9)) rfl
  have z10 := hB4.cells 10 (v := .int .u64 (wd 0 10)) rfl
  have z11 := hB4.cells 11 (v := .int .u64 (wd 0 11)) rfl
  have z12 := hB4.cells 12 (v := .int .u64 (wd 0 12)) rfl
  have z13 := hB4.cells 13 (v := .int .u64 (wd 0 13)) rfl
  have z14 := hB4.cells 14 (v := .int .u64 (wd 0 14)) rfl
  have z15 := hB4.cells 15 (v := .int .u64 (wd 0 15)) rfl
  have hB4' := hide hB4
  clear hB2 hB4
  go_wp2_with fail
  rw [unhide hN']
  refine bodyPost_ret (ret_cell1 rfl rfl (load_Set _ b4 N (Blk.set16 N (unhide hB4')))) rfl ?_
  exact ⟨rfl,(unhide hx5).of_new (Keep.set16 w4 b4 N) (by simp; omega)⟩
end Go.Proofs.YtmokciekndllpaaGreatDoor
namespace Go.Proofs.YtmokciekndllpaaGreatDoor
open Go Go.RowKit
def putS (w : World) (b : Nat) (N : Nat) : World := ((((((((((((((((w.setCell ⟨b,0,none⟩ (.int .u64 (wd N 0))).setCell ⟨b,1,none⟩ (.int .u64 (wd N 1))).setCell ⟨b,2,none⟩ (.int .u64 (wd N 2))).setCell ⟨b,3,none⟩ (.int .u64 (wd N 3))).setCell ⟨b,4,none⟩ (.int .u64 (wd N 4))).setCell ⟨b,5,none⟩ (.int .u64 (wd N 5))).setCell ⟨b,6,none⟩ (.int .u64 (wd N 6))).setCell ⟨b,7,none⟩ (.int .u64 (wd N 7))).setCell ⟨b,8,none⟩ (.int .u64 (wd N 8))).setCell ⟨b,9,none⟩ (.int .u64 (wd N 9))).setCell ⟨b,10,none⟩ (.int .u64 (wd N 10))).setCell ⟨b,11,none⟩ (.int .u64 (wd N 11))).setCell ⟨b,12,none⟩ (.int .u64 (wd N 12))).setCell ⟨b,13,none⟩ (.int .u64 (wd N 13))).setCell ⟨b,14,none⟩ (.int .u64 (wd N 14))).setCell ⟨b,15,none⟩ (.int .u64 (wd N 15)))
theorem Blk.putS {w : World} {b M : Nat} (N : Nat) (h : Blk w b 25 (setC M)) : Blk (putS w b N) b 25 (setC N) := Blk.set16 N h
theorem Keep.putS (w : World) (b : Nat) (N : Nat) : Keep [b] w (putS w b N) := Keep.set16 w b N
set_option maxRecDepth 100000 in
set_option maxHeartbeats 4000000 in
theorem store_Set {w : World} {b M : Nat} (N : Nat) (h : Blk w b 25 (setC M)) : (storeCells ⟨b,0,none⟩ (setC N).toList).run Tryz.prog w = .ok () (putS w b N) := by
 have c0 := h.cell 0
 have f0 := h.frozen 0
 have c1 := h.cell 1
 have f1 := h.frozen 1
 have c2 := h.cell 2
 have f2 := h.frozen 2
 have c3 := h.cell 3
 have f3 := h.frozen 3
 have c4 := h.cell 4
 have f4 := h.frozen 4
 have c5 := h.cell 5
 have f5 := h.frozen 5
 have c6 := h.cell 6
 have f6 := h.frozen 6
 have c7 := h.cell 7
 have f7 := h.frozen 7
 have c8 := h.cell 8
 have f8 := h.frozen 8
 have c9 := h.cell 9
 have f9 := h.frozen 9
 have c10 := h.cell 10
 have f10 := h.frozen 10
 have c11 := h.cell 11
 have f11 := h.frozen 11
 have c12 := h.cell 12
 have f12 := h.frozen 12
 have c13 := h.cell 13
 have f13 := h.frozen 13
 have c14 := h.cell 14
 have f14 := h.frozen 14
 have c15 := h.cell 15
 have f15 := h.frozen 15
 simp [setC] at c0 c1 c2 c3 c4 c5 c6 c7 c8 c9 c10 c11 c12 c13 c14 c15
 simp [setC,putS,c0,f0,c1,f1,c2,f2,c3,f3,c4,f4,c5,f5,c6,f6,c7,f7,c8,f8,c9,f9,c10,f10,c11,f11,c12,f12,c13,f13,c14,f14,c15,f15,go_sem]
end Go.Proofs.YtmokciekndllpaaGreatDoor
namespace Go.Proofs.YtmokciekndllpaaGreatDoor
open Go Go.RowKit
attribute [local go_sem] qUpon lUpon
def vS (V : List (Int × Thing)) : Nat := V.foldl (fun a v => withS a v.1) 0
theorem vS_next (V : List (Int × Thing)) (k : Nat) (h : k < V.length) : vS (V.take (k + 1)) = withS (vS (V.take k)) V[k].1 := by
 unfold vS
 rw [List.take_succ_eq_append_getElem h,List.foldl_append,List.foldl_cons,List.foldl_nil]
theorem setC_u64 {N i : Nat} {u : Value} (h : (setC N)[i]? = some u) : ∃ m,u = .int .u64 m := by
 have hi : i < 16 := (Array.getElem?_eq_some_iff.1 h).1
 rw [setC_get _ hi] at h
 exact ⟨_,(Option.some.inj h).symm⟩
theorem SlAt.keep_S {α : Type} {enc : α → List Value} {k : Nat} {w w' : World} {A : Option Addr} {xs : List α} {b N : Nat} {T : TypeId} (h : SlAt enc k w A xs) (hb : Blk w b T (setC N))
  (hns : ∀ (x : α) (m : Int),(enc x)[0]? ≠ some (.int .u64 m)) (hen : ∀ x : α, ∃ u : Value,(enc x)[0]? = some u) (hk : Keep [b] w w') : SlAt enc k w' A xs :=
 h.off hb (fun i u hu x => by obtain ⟨m,rfl⟩ := setC_u64 hu; exact hns x _) hen hk.size (fun j hj hlt => hk.block j hlt (by simpa using hj))
theorem encV_nu (x : Int × Thing) (m : Int) : (encV x)[0]? ≠ some (.int .u64 m) := by simp [encV]
theorem encE_nu (x : (Int × Int) × Thing) (m : Int) : (encE x)[0]? ≠ some (.int .u64 m) := by simp [encE]
set_option maxRecDepth 100000 in
set_option maxHeartbeats 8000000 in
theorem vset_gen (g : Value) (V : List (Int × Thing)) (w : World) (hl : V.length ≤ 4096) (hL : ∀ W,Ext w W → Calls Tryz.prog 95 #[g] W fun e w' => ∃ A c,e = .returned (.slice A V.length c) ∧ SlAt encV 3 w' A V ∧ Ext W w') :
  Calls Tryz.prog 53 #[g] w fun e w' => e = .returned (.agg (setC (vS V))) ∧ Ext w w' := by
 have hB0 := hide (Blk.new w 25 (setC 0))
 have hL' := hide hL
 clear hL
 go_enter Tryz.func53,Tryz.ntmps53
 go_wp2_with fail
 have hx1 := hide ((ext_self1 w (.cells (setC 0) 25)).trans (ext_self1 _ (.cells (setC 0) 25)))
 have hB2 := hide ((unhide hB0).ext (ext_self1 (w.alloc (.cells (setC 0) 25)) (.cells (setC 0) 25)))
 have hB4 := hide (Blk.new (w.alloc (.cells (setC 0) 25)) 25 (setC 0))
 have hs : (w.alloc (.cells (setC 0) 25)).heap.size = w.heap.size + 1 := World.size_alloc _ _
 rw [hs] at hB4
 clear hs hB0
 have hz : setC 0 = #[.int .u64 0, .int .u64 0, .int .u64 0, .int .u64 0, .int .u64 0, .int .u64 0, .int .u64 0, .int .u64 0, .int .u64 0, .int .u64 0, .int .u64 0, .int .u64 0, .int .u64 0, .int .u64 0, .int .u64 0, .int .u64 0] := rfl
 rw [hz] at hx1 hB2 hB4
 generalize (w.alloc (.cells #[.int .u64 0, .int .u64 0, .int .u64 0, .int .u64 0, .int .u64 0, .int .u64 0, .int .u64 0, .int .u64 0, .int .u64 0, .int .u64 0, .int .u64 0, .int .u64 0, .int .u64 0, .int .u64 0, .int .u64 0, .int .u64 0] 25)).alloc (.cells #[.int .u64 0, .int .u64 0, .int .u64 0, .int .u64 0, .int .u64 0, .int .u64 0, .int .u64 0, .int .u64 0, .int .u64 0, .int .u64 0, .int .u64 0, .int .u64 0, .int .u64 0, .int .u64 0, .int .u64 0, .int .u64 0] 25) = W1 at *
 rw [← hz] at hB4 hB2
 clear hz
 generalize hb4e : w.heap.size + 1 = b4 at *
 generalize hb2e : w.heap.size = b2 at *
 refine (unhide hL' _ (unhide hx1)).mono ?_
 rintro e w2 ⟨A,c,rfl,hs2,hx2⟩
 have hB2' := hide ((unhide hB2).ext hx2)
 have hB4' := hide ((unhide hB4).ext hx2)
 have hx2' := hide ((unhide hx1).trans hx2)
 have hs2' := hide hs2
 clear hx1 hx2 hB2 hB4 hs2 hL'
 go_wp2_with fail
 go_loopw [9] (fun i wr => ∃ k : Nat,k ≤ V.length ∧ i = .int .i64 k ∧ Blk wr b4 25 (setC (vS (V.take k))) ∧ Blk wr b2 25 (setC 0) ∧ SlAt encV 3 wr A V ∧ Ext w wr) (fun i _ => V.length - (intOf i).toNat)
 case atStart => exact ⟨0,Nat.zero_le _,rfl,unhide hB4',unhide hB2',unhide hs2',unhide hx2'⟩
 case round =>
  obtain ⟨k,hk,rfl,hB,hA,hs,hx⟩ := hrel
  have hB' := hide hB
  have hA' := hide hA
  have hs' := hide hs
  have hx' := hide hx
  clear hB4' hB2' hx2' hs2' hB hA hs hx
  by_cases hlt : k < V.length
  ·have hB := unhide hB'
   obtain ⟨bb,off,rfl,c0,c1,c2⟩ := atV (unhide hs') hlt
   have hn' := hide (vS_next V k hlt)
   generalize V[k] = y at c0 c1 c2 hn'
   obtain ⟨u,lab,wt⟩ := y
   generalize vS (V.take k) = N at hB hB' hn'
   simp only at c0 c1 c2
   have hself := Ext.refl wr
   have e0 := hB.cells 0 (v := .int .u64 (wd N 0)) rfl
   have e1 := hB.cells 1 (v := .int .u64 (wd N 1)) rfl
   have e2 := hB.cells 2 (v := .int .u64 (wd N 2)) rfl
   have e3 := hB.cells 3 (v := .int .u64 (wd N 3)) rfl
   have e4 := hB.cells 4 (v := .int .u64 (wd N 4)) rfl
   have e5 := hB.cells 5 (v := .int .u64 (wd N 5)) rfl
   have e6 := hB.cells 6 (v := .int .u64 (wd N 6)) rfl
   have e7 := hB.cells 7 (v := .int .u64 (wd N 7)) rfl
   have e8 := hB.cells 8 (v := .int .u64 (wd N 8)) rfl
   have e9 := hB.cells 9 (v := .int .u64 (wd N 9)) rfl
   have e10 := hB.cells 10 (v := .int .u64 (wd N 10)) rfl
   have e11 := hB.cells 11 (v := .int .u64 (wd N 11)) rfl
   have e12 := hB.cells 12 (v := .int .u64 (wd N 12)) rfl
   have e13 := hB.cells 13 (v := .int .u64 (wd N 13)) rfl
   have e14 := hB.cells 14 (v := .int .u64 (wd N 14)) rfl
   have e15 := hB.cells 15 (v := .int .u64 (wd N 15)) rfl
   clear hB
   go_wp2_with fail
   refine (with_any N u _).mono ?_
   rintro e w5 ⟨rfl,hx5⟩
   have hxx := hide ((ext_self1 wr (.cells #[.int .i64 u, .int .u8 lab, .int .i64 wt] 93)).trans hx5)
   have hB5 := (unhide hB').ext (unhide hxx)
   have hA5 := hide ((unhide hA').ext (unhide hxx))
   have hs5 := hide ((unhide hs').ext (unhide hxx))
   have hx6 := hide ((unhide hx').trans (unhide hxx))
   have hself5 := Ext.refl w5
   clear hx5 hB' hA' hs' hx' e0 e1 e2 e3 e4 e5 e6 e7 e8 e9 e10 e11 e12 e13 e14 e15 hself hxx c0 c1 c2
   have hst := store_Set (withS N u) hB5
   have hB5' := hide hB5
   clear hB5
   go_wp2_with fail
   go_roundw
   case rel => exact ⟨k + 1,by omega,by go_num,by rw [unhide hn']; exact Blk.putS _ (unhide hB5'),(unhide hA5).keep (Keep.putS w5 b4 _) (by simp; omega),(unhide hs5).keep_S (unhide hB5') encV_nu encV0 (Keep.putS w5 b4 _),(unhide hx6).of_new (Keep.putS w5 b4 _) (by simp; omega)⟩
   case measure => simp [intOf]; omega
  ·have hke : k = V.length := by omega
   have hB := unhide hB'
   have hA := unhide hA'
   rw [hke,List.take_length] at hB hB'
   have hself := Ext.refl wr
   clear hlt
   obtain ⟨N,hN⟩ : ∃ N,vS V = N := ⟨_,rfl⟩
   rw [hN] at hB hB'
   have hN' := hide hN
   clear hN
   have e0 := hB.cells 0 (v := .int .u64 (wd N 0)) rfl
   have e1 := hB.cells 1 (v := .int .u64 (wd N 1)) rfl
   have e2 := hB.cells 2 (v := .int .u64 (wd N 2)) rfl
   have e3 := hB.cells 3 (v := .int .u64 (wd N 3)) rfl
   have e4 := hB.cells 4 (v := .int .u64 (wd N 4)) rfl
   have e5 := hB.cells 5 (v := .int .u64 (wd N 5)) rfl
   have e6 := hB.cells 6 (v := .int .u64 (wd N 6)) rfl
   have e7 := hB.cells 7 (v := .int .u64 (wd N 7)) rfl
   have e8 := hB.cells 8 (v := .int .u64 (wd N 8)) rfl
   have e9 := hB.cells 9 (v := .int .u64 (wd N 9)) rfl
   have e10 := hB.cells 10 (v := .int .u64 (wd N 10)) rfl
   have e11 := hB.cells 11 (v := .int .u64 (wd N 11)) rfl
   have e12 := hB.cells 12 (v := .int .u64 (wd N 12)) rfl
   have e13 := hB.cells 13 (v := .int .u64 (wd N 13)) rfl
   have e14 := hB.cells 14 (v := .int .u64 (wd N 14)) rfl
   have e15 := hB.cells 15 (v := .int .u64 (wd N 15)) rfl
   have g0 := hA.frozen 0
   have g1 := hA.frozen 1
   have g2 := hA.frozen 2
   have g3 := hA.frozen 3
   have g4 := hA.frozen 4
   have g5 := hA.frozen 5
   have g6 := hA.frozen 6
   have g7 := hA.frozen 7
   have g8 := hA.frozen 8
   have g9 := hA.frozen 9
   have g10 := hA.frozen 10
   have g11 := hA.frozen 11
   have g12 := hA.frozen 12
   have g13 := hA.frozen 13
   have g14 := hA.frozen 14
   have g15 := hA.frozen 15
   have z0 := hA.cells 0 (v := .int .u64 (wd 0 0)) rfl
   have z1 := hA.cells 1 (v := .int .u64 (wd 0 1)) rfl
   have z2 := hA.cells 2 (v := .int .u64 (wd 0 2)) rfl
   have z3 := hA.cells 3 (v := .int .u64 (wd 0 3)) rfl
   have z4 := hA.cells 4 (v := .int .u64 (wd 0 4)) rfl
   have z5 := hA.cells 5 (v := .int .u64 (wd 0 5)) rfl
   have z6 := hA.cells 6 (v := .int .u64 (wd 0 6)) rfl
   have z7 := hA.cells 7 (v := .int .u64 (wd 0 7)) rfl
   have z8 := hA.cells 8 (v := .int .u64 (wd 0 8)) rfl
   have z9 := hA.cells 9 (v := .int .u64 (wd 0 9)) rfl
   have z10 := hA.cells 10 (v := .int .u64 (wd 0 10)) rfl
   have z11 := hA.cells 11 (v := .int .u64 (wd 0 11)) rfl
   have z12 := hA.cells 12 (v := .int .u64 (wd 0 12)) rfl
   have z13 := hA.cells 13 (v := .int .u64 (wd 0 13)) rfl
   have z14 := hA.cells 14 (v := .int .u64 (wd 0 14)) rfl
   have z15 := hA.cells 15 (v := .int .u64 (wd 0 15)) rfl
   clear hB hA
   go_wp2_with fail
   refine bodyPost_ret (ret_cell1 rfl rfl (load_Set _ b2 N (Blk.set16 N (unhide hA')))) rfl ?_
   exact ⟨by rw [unhide hN'],(unhide hx').of_new (Keep.set16 wr b2 N) (by simp; omega)⟩
end Go.Proofs.YtmokciekndllpaaGreatDoor
namespace Go.Proofs.YtmokciekndllpaaGreatDoor
open Go Go.RowKit
theorem withS_bit (N : Nat) (x : Int) (k : Nat) : (withS N x).testBit k = (N.testBit k || (decide (k < 1024) && decide (x = (k : Int)))) := by
 unfold withS fitB
 by_cases h : 0 ≤ x ∧ x < 1024
 ·rw [if_pos (by simp [h.1,h.2]),Nat.testBit_or,Nat.testBit_two_pow]
  congr 1
  rw [Bool.eq_iff_iff]
  simp only [Bool.and_eq_true,decide_eq_true_eq]
  omega
 ·rw [if_neg (by simp; omega)]
  have : (decide (k < 1024) && decide (x = (k : Int))) = false := by
   rw [Bool.eq_false_iff]
   simp only [ne_eq,Bool.and_eq_true,decide_eq_true_eq]
   omega
  rw [this,Bool.or_false]
def fromS (L : List Int) : Nat := L.foldl withS 0
theorem fromS_next (L : List Int) (k : Nat) (h : k < L.length) : fromS (L.take (k + 1)) = withS (fromS (L.take k)) L[k] := by
 unfold fromS
 rw [List.take_succ_eq_append_getElem h,List.foldl_append,List.foldl_cons,List.foldl_nil]
theorem fold_bit (L : List Int) : ∀ (a k : Nat),(L.foldl withS a).testBit k = (a.testBit k || (decide (k < 1024) && decide ((k : Int) ∈ L))) := by
 induction L with
 | nil => intro a k; simp
 | cons x r ih =>
  intro a k
  rw [List.foldl_cons,ih,withS_bit,Bool.or_assoc]
  congr 1
  rw [Bool.eq_iff_iff]
  simp only [Bool.or_eq_true,Bool.and_eq_true,decide_eq_true_eq,List.mem_cons]
  constructor
  ·rintro (h | h)
   ·exact ⟨h.1, .inl h.2.symm⟩
   ·exact ⟨h.1, .inr h.2⟩
  ·rintro ⟨h1,h2 | h2⟩
   ·exact .inl ⟨h1,h2.symm⟩
   ·exact .inr ⟨h1,h2⟩
theorem fromS_bit (L : List Int) (k : Nat) : (fromS L).testBit k = (decide (k < 1024) && decide ((k : Int) ∈ L)) := by
 unfold fromS
 rw [fold_bit,Nat.zero_testBit,Bool.false_or]
theorem fromS_congr {L M : List Int} (h : ∀ x : Int,x ∈ L ↔ x ∈ M) : fromS L = fromS M := by
 apply Nat.eq_of_testBit_eq
 intro k
 rw [fromS_bit,fromS_bit]
 simp [h]
theorem vS_eq (V : List (Int × Thing)) : vS V = fromS (V.map (·.1)) := by
 unfold vS fromS
 rw [List.foldl_map]
end Go.Proofs.YtmokciekndllpaaGreatDoor
