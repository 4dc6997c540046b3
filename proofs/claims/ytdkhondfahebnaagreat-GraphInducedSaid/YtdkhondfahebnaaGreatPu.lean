/- A SET IN MEMORY, read and written as one. Conditions: see each theorem. -/
import Derived.Test.YtdkhondfahebnaaGreatBw
namespace Go.Proofs.YtdkhondfahebnaaGreat
open Go Go.RowKit

/-- the world with a set written -/
def putS (w : World) (b : Nat) (N : Nat) : World := ((((((((((((((((w.setCell ⟨b, 0, none⟩ (.int .u64 (wd N 0))).setCell ⟨b, 1, none⟩ (.int .u64 (wd N 1))).setCell ⟨b, 2, none⟩ (.int .u64 (wd N 2))).setCell ⟨b, 3, none⟩ (.int .u64 (wd N 3))).setCell ⟨b, 4, none⟩ (.int .u64 (wd N 4))).setCell ⟨b, 5, none⟩ (.int .u64 (wd N 5))).setCell ⟨b, 6, none⟩ (.int .u64 (wd N 6))).setCell ⟨b, 7, none⟩ (.int .u64 (wd N 7))).setCell ⟨b, 8, none⟩ (.int .u64 (wd N 8))).setCell ⟨b, 9, none⟩ (.int .u64 (wd N 9))).setCell ⟨b, 10, none⟩ (.int .u64 (wd N 10))).setCell ⟨b, 11, none⟩ (.int .u64 (wd N 11))).setCell ⟨b, 12, none⟩ (.int .u64 (wd N 12))).setCell ⟨b, 13, none⟩ (.int .u64 (wd N 13))).setCell ⟨b, 14, none⟩ (.int .u64 (wd N 14))).setCell ⟨b, 15, none⟩ (.int .u64 (wd N 15)))
theorem Blk.putS {w : World} {b M : Nat} (N : Nat) (h : Blk w b 25 (setC M)) : Blk (putS w b N) b 25 (setC N) := Blk.set16 N h
theorem Keep.putS (w : World) (b : Nat) (N : Nat) : Keep [b] w (putS w b N) := Keep.set16 w b N
set_option maxRecDepth 100000 in
set_option maxHeartbeats 4000000 in
theorem store_Set {w : World} {b M : Nat} (N : Nat) (h : Blk w b 25 (setC M)) : (storeCells ⟨b, 0, none⟩ (setC N).toList).run Tryz.prog w = .ok () (putS w b N) := by
  have c0 := h.cell 0
  have f0 := h.frozen 0
  have c1 := h.cell 1
  have f1 := h.frozen 1
  have c2 := h.cell 2
  have f2 := h.frozen 2
  have c3 := h.cell 3
  have f3 := h.frozen 3
  have c4 := h.cell 4
  have f4 := h.frozen 4
  have c5 := h.cell 5
  have f5 := h.frozen 5
  have c6 := h.cell 6
  have f6 := h.frozen 6
  have c7 := h.cell 7
  have f7 := h.frozen 7
  have c8 := h.cell 8
  have f8 := h.frozen 8
  have c9 := h.cell 9
  have f9 := h.frozen 9
  have c10 := h.cell 10
  have f10 := h.frozen 10
  have c11 := h.cell 11
  have f11 := h.frozen 11
  have c12 := h.cell 12
  have f12 := h.frozen 12
  have c13 := h.cell 13
  have f13 := h.frozen 13
  have c14 := h.cell 14
  have f14 := h.frozen 14
  have c15 := h.cell 15
  have f15 := h.frozen 15
  simp [setC] at c0 c1 c2 c3 c4 c5 c6 c7 c8 c9 c10 c11 c12 c13 c14 c15
  simp [setC, putS, c0, f0, c1, f1, c2, f2, c3, f3, c4, f4, c5, f5, c6, f6, c7, f7, c8, f8, c9, f9, c10, f10, c11, f11, c12, f12, c13, f13, c14, f14, c15, f15, go_sem]
end Go.Proofs.YtdkhondfahebnaaGreat
