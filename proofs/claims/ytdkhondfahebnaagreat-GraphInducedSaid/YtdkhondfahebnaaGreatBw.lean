/- THE SETS OF package bitset: With. Conditions: see each theorem. -/
import Derived.Test.YtdkhondfahebnaaGreatBt
import Derived.Test.YtdkhondfahebnaaGreatAp
import Derived.Test.YtdkhondfahebnaaGreatGk
namespace Go.Proofs.YtdkhondfahebnaaGreat
open Go Go.RowKit
attribute [local go_sem] qUpon lUpon

set_option maxRecDepth 100000 in
theorem load_Set (W : World) (b : Nat) (N : Nat) (h : Blk W b 25 (setC N)) : (loadVar 25 ⟨b, 0, none⟩).run Tryz.prog W = .ok (.agg (setC N)) W := by
  have c0 := h.cell 0
  have c1 := h.cell 1
  have c2 := h.cell 2
  have c3 := h.cell 3
  have c4 := h.cell 4
  have c5 := h.cell 5
  have c6 := h.cell 6
  have c7 := h.cell 7
  have c8 := h.cell 8
  have c9 := h.cell 9
  have c10 := h.cell 10
  have c11 := h.cell 11
  have c12 := h.cell 12
  have c13 := h.cell 13
  have c14 := h.cell 14
  have c15 := h.cell 15
  simp [setC] at c0 c1 c2 c3 c4 c5 c6 c7 c8 c9 c10 c11 c12 c13 c14 c15
  simp [loadVar, c0, c1, c2, c3, c4, c5, c6, c7, c8, c9, c10, c11, c12, c13, c14, c15, go_sem, setC]
theorem set16 {α : Type} (a0 a1 a2 a3 a4 a5 a6 a7 a8 a9 a10 a11 a12 a13 a14 a15 b0 b1 b2 b3 b4 b5 b6 b7 b8 b9 b10 b11 b12 b13 b14 b15 : α) : ((((((((((((((((#[a0, a1, a2, a3, a4, a5, a6, a7, a8, a9, a10, a11, a12, a13, a14, a15].setIfInBounds 0 b0).setIfInBounds 1 b1).setIfInBounds 2 b2).setIfInBounds 3 b3).setIfInBounds 4 b4).setIfInBounds 5 b5).setIfInBounds 6 b6).setIfInBounds 7 b7).setIfInBounds 8 b8).setIfInBounds 9 b9).setIfInBounds 10 b10).setIfInBounds 11 b11).setIfInBounds 12 b12).setIfInBounds 13 b13).setIfInBounds 14 b14).setIfInBounds 15 b15) = #[b0, b1, b2, b3, b4, b5, b6, b7, b8, b9, b10, b11, b12, b13, b14, b15] := by simp
theorem Blk.set16g {w : World} {b : Nat} {T : TypeId} (a0 a1 a2 a3 a4 a5 a6 a7 a8 a9 a10 a11 a12 a13 a14 a15 b0 b1 b2 b3 b4 b5 b6 b7 b8 b9 b10 b11 b12 b13 b14 b15 : Value) (h : Blk w b T #[a0, a1, a2, a3, a4, a5, a6, a7, a8, a9, a10, a11, a12, a13, a14, a15]) : Blk ((((((((((((((((w.setCell ⟨b, 0, none⟩ b0).setCell ⟨b, 1, none⟩ b1).setCell ⟨b, 2, none⟩ b2).setCell ⟨b, 3, none⟩ b3).setCell ⟨b, 4, none⟩ b4).setCell ⟨b, 5, none⟩ b5).setCell ⟨b, 6, none⟩ b6).setCell ⟨b, 7, none⟩ b7).setCell ⟨b, 8, none⟩ b8).setCell ⟨b, 9, none⟩ b9).setCell ⟨b, 10, none⟩ b10).setCell ⟨b, 11, none⟩ b11).setCell ⟨b, 12, none⟩ b12).setCell ⟨b, 13, none⟩ b13).setCell ⟨b, 14, none⟩ b14).setCell ⟨b, 15, none⟩ b15) b T #[b0, b1, b2, b3, b4, b5, b6, b7, b8, b9, b10, b11, b12, b13, b14, b15] := by
  have h1 := ((((((((((((((((h.set 0 b0).set 1 b1).set 2 b2).set 3 b3).set 4 b4).set 5 b5).set 6 b6).set 7 b7).set 8 b8).set 9 b9).set 10 b10).set 11 b11).set 12 b12).set 13 b13).set 14 b14).set 15 b15)
  rwa [set16] at h1
/-- all words written anew -/
theorem Blk.set16 {w : World} {b : Nat} {M : Nat} (N : Nat) (h : Blk w b 25 (setC M)) : Blk ((((((((((((((((w.setCell ⟨b, 0, none⟩ (.int .u64 (wd N 0))).setCell ⟨b, 1, none⟩ (.int .u64 (wd N 1))).setCell ⟨b, 2, none⟩ (.int .u64 (wd N 2))).setCell ⟨b, 3, none⟩ (.int .u64 (wd N 3))).setCell ⟨b, 4, none⟩ (.int .u64 (wd N 4))).setCell ⟨b, 5, none⟩ (.int .u64 (wd N 5))).setCell ⟨b, 6, none⟩ (.int .u64 (wd N 6))).setCell ⟨b, 7, none⟩ (.int .u64 (wd N 7))).setCell ⟨b, 8, none⟩ (.int .u64 (wd N 8))).setCell ⟨b, 9, none⟩ (.int .u64 (wd N 9))).setCell ⟨b, 10, none⟩ (.int .u64 (wd N 10))).setCell ⟨b, 11, none⟩ (.int .u64 (wd N 11))).setCell ⟨b, 12, none⟩ (.int .u64 (wd N 12))).setCell ⟨b, 13, none⟩ (.int .u64 (wd N 13))).setCell ⟨b, 14, none⟩ (.int .u64 (wd N 14))).setCell ⟨b, 15, none⟩ (.int .u64 (wd N 15))) b 25 (setC N) := Blk.set16g _ _ _ _ _ _ _ _ _ _ _ _ _ _ _ _ _ _ _ _ _ _ _ _ _ _ _ _ _ _ _ _ h
theorem Keep.set16 (w : World) (b : Nat) (N : Nat) : Keep [b] w ((((((((((((((((w.setCell ⟨b, 0, none⟩ (.int .u64 (wd N 0))).setCell ⟨b, 1, none⟩ (.int .u64 (wd N 1))).setCell ⟨b, 2, none⟩ (.int .u64 (wd N 2))).setCell ⟨b, 3, none⟩ (.int .u64 (wd N 3))).setCell ⟨b, 4, none⟩ (.int .u64 (wd N 4))).setCell ⟨b, 5, none⟩ (.int .u64 (wd N 5))).setCell ⟨b, 6, none⟩ (.int .u64 (wd N 6))).setCell ⟨b, 7, none⟩ (.int .u64 (wd N 7))).setCell ⟨b, 8, none⟩ (.int .u64 (wd N 8))).setCell ⟨b, 9, none⟩ (.int .u64 (wd N 9))).setCell ⟨b, 10, none⟩ (.int .u64 (wd N 10))).setCell ⟨b, 11, none⟩ (.int .u64 (wd N 11))).setCell ⟨b, 12, none⟩ (.int .u64 (wd N 12))).setCell ⟨b, 13, none⟩ (.int .u64 (wd N 13))).setCell ⟨b, 14, none⟩ (.int .u64 (wd N 14))).setCell ⟨b, 15, none⟩ (.int .u64 (wd N 15))) := by
  refine (((((((((((((((Keep.setCell w b 0 _).trans (Keep.setCell _ b 1 _)).trans (Keep.setCell _ b 2 _)).trans (Keep.setCell _ b 3 _)).trans (Keep.setCell _ b 4 _)).trans (Keep.setCell _ b 5 _)).trans (Keep.setCell _ b 6 _)).trans (Keep.setCell _ b 7 _)).trans (Keep.setCell _ b 8 _)).trans (Keep.setCell _ b 9 _)).trans (Keep.setCell _ b 10 _)).trans (Keep.setCell _ b 11 _)).trans (Keep.setCell _ b 12 _)).trans (Keep.setCell _ b 13 _)).trans (Keep.setCell _ b 14 _)).trans (Keep.setCell _ b 15 _)
/-- a set with one more -/
def withS (N : Nat) (n : Int) : Nat := if fitB n = true then N ||| 2 ^ n.toNat else N
theorem setC_with (N k : Nat) : (setC N).setIfInBounds (k / 64) (.int .u64 (bits .or .u64 (wd N (k / 64)) (bitW k))) = setC (N ||| 2 ^ k) := by
  have hX : bits .or .u64 (wd N (k / 64)) (bitW k) = wd (N ||| 2 ^ k) (k / 64) := by
    have h3 : 2 ^ (k % 64) < 2 ^ 64 := Nat.pow_lt_pow_right (by omega) (by omega)
    unfold wd bitW
    rw [u64_or_nat _ _ (wdN_lt _ _) h3, wdN_with, if_pos rfl]
  rw [hX]
  apply Array.ext_getElem?
  intro i
  by_cases hi : i < 16
  · rw [setC_get _ hi]
    by_cases he : k / 64 = i
    · subst he
      rw [Array.getElem?_setIfInBounds_self_of_lt (by rw [setC_size]; omega)]
    · rw [Array.getElem?_setIfInBounds_ne he, setC_get _ hi]
      unfold wd
      rw [wdN_with, if_neg (Ne.symm he)]
  · have h1 : ∀ a : Array Value, a.size = 16 → a[i]? = none := fun a h => Array.getElem?_eq_none (by omega)
    rw [h1 _ (by simp [setC_size]), h1 _ (setC_size _)]

set_option maxRecDepth 100000 in
set_option maxHeartbeats 4000000 in
theorem with_any (N : Nat) (n : Int) (w : World) :
    Calls Tryz.prog 27 #[.agg (setC N), .int .i64 n] w fun e w' => e = .returned (.agg (setC (withS N n))) ∧ Ext w w' := by
  have hB0 := Blk.new w 25 (setC N)
  by_cases hf : fitB n = true
  · obtain ⟨k, rfl⟩ : ∃ k : Nat, n = k := ⟨n.toNat, by simp [fitB] at hf; omega⟩
    have hk : k < 1024 := by simp [fitB] at hf; omega
    obtain ⟨h1, hw, h6, h7, h8⟩ := idx_facts hk
    have h5 : fitB (k : Int) = true := hf
    have hN : withS N (k : Int) = N ||| 2 ^ k := by rw [withS, if_pos h5, Int.toNat_natCast]
    have hN' := hide hN
    have hB0' := hide hB0
    clear hf hB0 hN
    go_enter Tryz.func27, Tryz.ntmps27
    go_wp2_with fail
    have hx1 := hide ((ext_self1 w (.cells (setC N) 25)).trans (ext_self1 _ (.cells (setC 0) 25)))
    have hB2 := hide ((unhide hB0').ext (ext_self1 (w.alloc (.cells (setC N) 25)) (.cells (setC 0) 25)))
    have hB4 := hide (Blk.new (w.alloc (.cells (setC N) 25)) 25 (setC 0))
    have hs : (w.alloc (.cells (setC N) 25)).heap.size = w.heap.size + 1 := World.size_alloc _ _
    rw [hs] at hB4
    clear hs hB0'
    have hz : setC 0 = #[.int .u64 0, .int .u64 0, .int .u64 0, .int .u64 0, .int .u64 0, .int .u64 0, .int .u64 0, .int .u64 0, .int .u64 0, .int .u64 0, .int .u64 0, .int .u64 0, .int .u64 0, .int .u64 0, .int .u64 0, .int .u64 0] := rfl
    rw [hz] at hx1 hB2 hB4
    generalize (w.alloc (.cells (setC N) 25)).alloc (.cells #[.int .u64 0, .int .u64 0, .int .u64 0, .int .u64 0, .int .u64 0, .int .u64 0, .int .u64 0, .int .u64 0, .int .u64 0, .int .u64 0, .int .u64 0, .int .u64 0, .int .u64 0, .int .u64 0, .int .u64 0, .int .u64 0] 25) = W1 at *
    rw [← hz] at hB4
    clear hz
    have hbb := hide (show w.heap.size + 1 ≠ w.heap.size by omega)
    generalize hb4e : w.heap.size + 1 = b4 at *
    generalize hb2e : w.heap.size = b2 at *
    refine (fits_any _ _).mono ?_
    rw [h5]
    rintro e w2 ⟨rfl, hx2⟩
    have c0 := cell_of ((unhide hB2).ext hx2) hk
    have hB2' := hide ((unhide hB2).ext hx2)
    have hB4' := hide ((unhide hB4).ext hx2)
    have hx2' := hide ((unhide hx1).trans hx2)
    clear hx2 hB2 hB4 hx1
    go_wp2_with fail
    refine wp_region_ext (P := Tryz.prog) [0,1,2,3,4,5,6,7] [8] 1 #[true,true,true,true,true,true,true,true,false] (by kernel_rfl) (by kernel_rfl) rfl (by rfl) ?_
    iterate 8
      refine ql_want (v := ?_) rfl (by rfl) (fun W hW => ?_) ?_
      rotate_left
      · go_simp
        first | done | rfl | ((go_at_call 46; refine (bit_any k hk _).mono ?_; rintro _ _ ⟨h1, h2⟩; refine ⟨_, h1, ?_, h2⟩; rfl))
      go_frame
    refine wpQL_nil (fun w3 hx3 => ?_)
    have c1 := c0 w3 hx3
    have f1 := ((unhide hB2').ext hx3).frozen (k / 64)
    refine lx_one (i := 8) (by kernel_rfl) rfl (by rfl) #[true,true,true,true,true,true,true,true,true] (by rfl) ?_
    go_simp
    intro w4 hx4
    have hB2 := ((((unhide hB2').ext hx3).set (k / 64) (.int .u64 (bits .or .u64 (wd N (k / 64)) (bitW k)))).ext hx4)
    rw [setC_with N k] at hB2
    have hB4 := ((((unhide hB4').ext hx3).keep (Keep.setCell w3 b2 (k / 64) (.int .u64 (bits .or .u64 (wd N (k / 64)) (bitW k)))) (by simpa using unhide hbb)).ext hx4)
    have hx5 := hide ((((unhide hx2').trans hx3).of_new (Keep.setCell w3 b2 (k / 64) (.int .u64 (bits .or .u64 (wd N (k / 64)) (bitW k)))) (by simp [hb2e])).trans hx4)
    refine wpX_done (by kernel_rfl) ?_
    try go_frame
    clear hB2' hB4' hx2' hx3 hx4 c0 c1 f1 h1 hw h6 h7 h8
    generalize N ||| 2 ^ k = M at *
    have hself := Ext.refl w4
    have e0 := hB2.cells 0 (v := .int .u64 (wd M 0)) rfl
    have e1 := hB2.cells 1 (v := .int .u64 (wd M 1)) rfl
    have e2 := hB2.cells 2 (v := .int .u64 (wd M 2)) rfl
    have e3 := hB2.cells 3 (v := .int .u64 (wd M 3)) rfl
    have e4 := hB2.cells 4 (v := .int .u64 (wd M 4)) rfl
    have e5 := hB2.cells 5 (v := .int .u64 (wd M 5)) rfl
    have e6 := hB2.cells 6 (v := .int .u64 (wd M 6)) rfl
    have e7 := hB2.cells 7 (v := .int .u64 (wd M 7)) rfl
    have e8 := hB2.cells 8 (v := .int .u64 (wd M 8)) rfl
    have e9 := hB2.cells 9 (v := .int .u64 (wd M 9)) rfl
    have e10 := hB2.cells 10 (v := .int .u64 (wd M 10)) rfl
    have e11 := hB2.cells 11 (v := .int .u64 (wd M 11)) rfl
    have e12 := hB2.cells 12 (v := .int .u64 (wd M 12)) rfl
    have e13 := hB2.cells 13 (v := .int .u64 (wd M 13)) rfl
    have e14 := hB2.cells 14 (v := .int .u64 (wd M 14)) rfl
    have e15 := hB2.cells 15 (v := .int .u64 (wd M 15)) rfl
    have g0 := hB4.frozen 0
    have g1 := hB4.frozen 1
    have g2 := hB4.frozen 2
    have g3 := hB4.frozen 3
    have g4 := hB4.frozen 4
    have g5 := hB4.frozen 5
    have g6 := hB4.frozen 6
    have g7 := hB4.frozen 7
    have g8 := hB4.frozen 8
    have g9 := hB4.frozen 9
    have g10 := hB4.frozen 10
    have g11 := hB4.frozen 11
    have g12 := hB4.frozen 12
    have g13 := hB4.frozen 13
    have g14 := hB4.frozen 14
    have g15 := hB4.frozen 15
    have z0 := hB4.cells 0 (v := .int .u64 (wd 0 0)) rfl
    have z1 := hB4.cells 1 (v := .int .u64 (wd 0 1)) rfl
    have z2 := hB4.cells 2 (v := .int .u64 (wd 0 2)) rfl
    have z3 := hB4.cells 3 (v := .int .u64 (wd 0 3)) rfl
    have z4 := hB4.cells 4 (v := .int .u64 (wd 0 4)) rfl
    have z5 := hB4.cells 5 (v := .int .u64 (wd 0 5)) rfl
    have z6 := hB4.cells 6 (v := .int .u64 (wd 0 6)) rfl
    have z7 := hB4.cells 7 (v := .int .u64 (wd 0 7)) rfl
    have z8 := hB4.cells 8 (v := .int .u64 (wd 0 8)) rfl
    have z9 := hB4.cells 9 (v := .int .u64 (wd 0 9)) rfl
    have z10 := hB4.cells 10 (v := .int .u64 (wd 0 10)) rfl
    have z11 := hB4.cells 11 (v := .int .u64 (wd 0 11)) rfl
    have z12 := hB4.cells 12 (v := .int .u64 (wd 0 12)) rfl
    have z13 := hB4.cells 13 (v := .int .u64 (wd 0 13)) rfl
    have z14 := hB4.cells 14 (v := .int .u64 (wd 0 14)) rfl
    have z15 := hB4.cells 15 (v := .int .u64 (wd 0 15)) rfl
    have hB4' := hide hB4
    clear hB2 hB4
    go_wp2_with fail
    rw [unhide hN']
    refine bodyPost_ret (ret_cell1 rfl rfl (load_Set _ b4 M (Blk.set16 M (unhide hB4')))) rfl ?_
    exact ⟨rfl, (unhide hx5).of_new (Keep.set16 w4 b4 M) (by simp; omega)⟩
  · have h5 : fitB n = false := by simpa using hf
    have hN : withS N n = N := by rw [withS, if_neg hf]
    have hN' := hide hN
    have hB0' := hide hB0
    clear hf hB0 hN
    go_enter Tryz.func27, Tryz.ntmps27
    go_wp2_with fail
    have hx1 := hide ((ext_self1 w (.cells (setC N) 25)).trans (ext_self1 _ (.cells (setC 0) 25)))
    have hB2 := hide ((unhide hB0').ext (ext_self1 (w.alloc (.cells (setC N) 25)) (.cells (setC 0) 25)))
    have hB4 := hide (Blk.new (w.alloc (.cells (setC N) 25)) 25 (setC 0))
    have hs : (w.alloc (.cells (setC N) 25)).heap.size = w.heap.size + 1 := World.size_alloc _ _
    rw [hs] at hB4
    clear hs hB0'
    have hz : setC 0 = #[.int .u64 0, .int .u64 0, .int .u64 0, .int .u64 0, .int .u64 0, .int .u64 0, .int .u64 0, .int .u64 0, .int .u64 0, .int .u64 0, .int .u64 0, .int .u64 0, .int .u64 0, .int .u64 0, .int .u64 0, .int .u64 0] := rfl
    rw [hz] at hx1 hB2 hB4
    generalize (w.alloc (.cells (setC N) 25)).alloc (.cells #[.int .u64 0, .int .u64 0, .int .u64 0, .int .u64 0, .int .u64 0, .int .u64 0, .int .u64 0, .int .u64 0, .int .u64 0, .int .u64 0, .int .u64 0, .int .u64 0, .int .u64 0, .int .u64 0, .int .u64 0, .int .u64 0] 25) = W1 at *
    rw [← hz] at hB4
    clear hz
    generalize hb4e : w.heap.size + 1 = b4 at *
    generalize hb2e : w.heap.size = b2 at *
    refine (fits_any _ _).mono ?_
    rw [h5]
    rintro e w4 ⟨rfl, hx2⟩
    have hB2 := (unhide hB2).ext hx2
    have hB4 := (unhide hB4).ext hx2
    have hx5 := hide ((unhide hx1).trans hx2)
    clear hx2 hx1
    have hself := Ext.refl w4
    have e0 := hB2.cells 0 (v := .int .u64 (wd N 0)) rfl
    have e1 := hB2.cells 1 (v := .int .u64 (wd N 1)) rfl
    have e2 := hB2.cells 2 (v := .int .u64 (wd N 2)) rfl
    have e3 := hB2.cells 3 (v := .int .u64 (wd N 3)) rfl
    have e4 := hB2.cells 4 (v := .int .u64 (wd N 4)) rfl
    have e5 := hB2.cells 5 (v := .int .u64 (wd N 5)) rfl
    have e6 := hB2.cells 6 (v := .int .u64 (wd N 6)) rfl
    have e7 := hB2.cells 7 (v := .int .u64 (wd N 7)) rfl
    have e8 := hB2.cells 8 (v := .int .u64 (wd N 8)) rfl
    have e9 := hB2.cells 9 (v := .int .u64 (wd N 9)) rfl
    have e10 := hB2.cells 10 (v := .int .u64 (wd N 10)) rfl
    have e11 := hB2.cells 11 (v := .int .u64 (wd N 11)) rfl
    have e12 := hB2.cells 12 (v := .int .u64 (wd N 12)) rfl
    have e13 := hB2.cells 13 (v := .int .u64 (wd N 13)) rfl
    have e14 := hB2.cells 14 (v := .int .u64 (wd N 14)) rfl
    have e15 := hB2.cells 15 (v := .int .u64 (wd N 15)) rfl
    have g0 := hB4.frozen 0
    have g1 := hB4.frozen 1
    have g2 := hB4.frozen 2
    have g3 := hB4.frozen 3
    have g4 := hB4.frozen 4
    have g5 := hB4.frozen 5
    have g6 := hB4.frozen 6
    have g7 := hB4.frozen 7
    have g8 := hB4.frozen 8
    have g9 := hB4.frozen 9
    have g10 := hB4.frozen 10
    have g11 := hB4.frozen 11
    have g12 := hB4.frozen 12
    have g13 := hB4.frozen 13
    have g14 := hB4.frozen 14
    have g15 := hB4.frozen 15
    have z0 := hB4.cells 0 (v := .int .u64 (wd 0 0)) rfl
    have z1 := hB4.cells 1 (v := .int .u64 (wd 0 1)) rfl
    have z2 := hB4.cells 2 (v := .int .u64 (wd 0 2)) rfl
    have z3 := hB4.cells 3 (v := .int .u64 (wd 0 3)) rfl
    have z4 := hB4.cells 4 (v := .int .u64 (wd 0 4)) rfl
    have z5 := hB4.cells 5 (v := .int .u64 (wd 0 5)) rfl
    have z6 := hB4.cells 6 (v := .int .u64 (wd 0 6)) rfl
    have z7 := hB4.cells 7 (v := .int .u64 (wd 0 7)) rfl
    have z8 := hB4.cells 8 (v := .int .u64 (wd 0 8)) rfl
    have z9 := hB4.cells 9 (v := .int .u64 (wd 0 9)) rfl
    have z10 := hB4.cells 10 (v := .int .u64 (wd 0 10)) rfl
    have z11 := hB4.cells 11 (v := .int .u64 (wd 0 11)) rfl
    have z12 := hB4.cells 12 (v := .int .u64 (wd 0 12)) rfl
    have z13 := hB4.cells 13 (v := .int .u64 (wd 0 13)) rfl
    have z14 := hB4.cells 14 (v := .int .u64 (wd 0 14)) rfl
    have z15 := hB4.cells 15 (v := .int .u64 (wd 0 15)) rfl
    have hB4' := hide hB4
    clear hB2 hB4
    go_wp2_with fail
    rw [unhide hN']
    refine bodyPost_ret (ret_cell1 rfl rfl (load_Set _ b4 N (Blk.set16 N (unhide hB4')))) rfl ?_
    exact ⟨rfl, (unhide hx5).of_new (Keep.set16 w4 b4 N) (by simp; omega)⟩
end Go.Proofs.YtdkhondfahebnaaGreat
