/- THE COMPARISONS OF Vertices AND Edges. Conditions: see each theorem. -/
import Derived.Test.YtmfkkkhddigkfaaGreatDoorGe
import Derived.Sort.Grow
import Derived.Deep.Draws
namespace Go.Proofs.YtmfkkkhddigkfaaGreatDoor
open Go Go.RowKit Go.Sort
attribute [local go_sem] qUpon lUpon

/-- draws, and new blocks -/
def Gr (w w' : World) : Prop := ∃ q os, w' = grow (w.drewN q) os
theorem Gr.refl (w : World) : Gr w w := ⟨0, #[], by rw [grow_empty]; rfl⟩
theorem Gr.trans {a b c : World} (h : Gr a b) (k : Gr b c) : Gr a c := by
  obtain ⟨q, os, rfl⟩ := h
  obtain ⟨r, os', rfl⟩ := k
  refine ⟨q + r, os ++ os', ?_⟩
  simp [grow, World.drewN, Nat.add_assoc]
theorem Gr.alloc {a b : World} (h : Gr a b) (o : Obj) : Gr a (b.alloc o) := h.trans ⟨0, #[o], alloc_eq_grow b o⟩
theorem Gr.drew {a b : World} (h : Gr a b) : Gr a b.drew := h.trans ⟨1, #[], by rw [grow_empty]; rfl⟩
theorem Gr.ext {a b : World} (h : Gr a b) : Ext a b := by
  obtain ⟨q, os, rfl⟩ := h
  refine ⟨rfl, rfl, rfl, ?_, fun k hk => ?_⟩
  · show a.heap.size ≤ (a.heap ++ os).size
    simp
  · show (a.heap ++ os)[k]? = a.heap[k]?
    rw [Array.getElem?_append_left hk]

def cmpI (a b : Int) : Int := if a < b then -1 else if b < a then 1 else 0

theorem nan_any (a : Int) (w : World) : Calls Tryz.prog 104 #[.int .i64 a] w fun e w' => e = .returned (.bool false) ∧ w' = w := by
  go_enter Tryz.func104, Tryz.ntmps104
  go_wp2
  go_ret
  exact ⟨rfl, rfl⟩

theorem cmp_any (a b : Int) (w : World) : Calls Tryz.prog 88 #[.int .i64 a, .int .i64 b] w fun e w' => e = .returned (.int .i64 (cmpI a b)) ∧ w' = w := by
  go_enter Tryz.func88, Tryz.ntmps88
  go_wp2_with (go_at_call 104; refine (nan_any _ _).mono ?_; rintro e w' ⟨rfl, rfl⟩)
  all_goals (go_ret; exact ⟨ret_int (by unfold cmpI; first | (rw [if_pos (by omega)]) | (rw [if_neg (by omega), if_pos (by omega)]) | (rw [if_neg (by omega), if_neg (by omega)])), rfl⟩)

theorem vert1_any (a la wa b lb wb : Int) (w : World) :
    Calls Tryz.prog 87 #[.agg #[.int .i64 a, .int .u8 la, .int .i64 wa], .agg #[.int .i64 b, .int .u8 lb, .int .i64 wb]] w fun e w' => e = .returned (.int .i64 (cmpI a b)) ∧ Gr w w' := by
  go_enter Tryz.func87, Tryz.ntmps87
  go_wp2_with (go_at_call 88; refine (cmp_any _ _ _).mono ?_; rintro e w' ⟨rfl, rfl⟩)
  go_ret
  exact ⟨rfl, ((Gr.refl w).alloc _).alloc _⟩

def orI (x y : Int) : Int := if x = 0 then y else x
/-- cmp.Or at two numbers -/
theorem or_any (x y : Int) (b c : Nat) (w : World) (h0 : w.cell? ⟨b, 0, none⟩ = some (.int .i64 x)) (h1 : w.cell? ⟨b, 1, none⟩ = some (.int .i64 y)) :
    Calls Tryz.prog 101 #[.slice (some ⟨b, 0, none⟩) 2 c] w fun e w' => e = .returned (.int .i64 (orI x y)) ∧ w' = w := by
  by_cases hx : x = 0
  · subst hx
    by_cases hy : y = 0
    · subst hy
      go_enter Tryz.func101, Tryz.ntmps101
      go_wp2
      refine wp_loop_rounds 3 ?_
      rw [rounds_succ]
      go_wp2
      rw [rounds_succ]
      go_wp2
      rw [rounds_succ]
      go_wp2
      go_ret
      exact ⟨rfl, rfl⟩
    · have hy' : (y != 0) = true := by simpa using hy
      clear hy
      go_enter Tryz.func101, Tryz.ntmps101
      go_wp2
      refine wp_loop_rounds 3 ?_
      rw [rounds_succ]
      go_wp2
      rw [rounds_succ]
      go_wp2
      go_ret
      exact ⟨ret_int (by simp [orI]), rfl⟩
  · have hx' : (x != 0) = true := by simpa using hx
    have hx2 := hide hx
    clear hx
    go_enter Tryz.func101, Tryz.ntmps101
    go_wp2
    refine wp_loop_rounds 3 ?_
    rw [rounds_succ]
    go_wp2
    go_ret
    exact ⟨ret_int (by simp [orI, unhide hx2]), rfl⟩

def cmpE (x y : Int × Int) : Int := orI (cmpI x.1 y.1) (cmpI x.2 y.2)

set_option maxHeartbeats 1000000 in
theorem edge1_any (a b la wa c d lb wb : Int) (w : World) :
    Calls Tryz.prog 100 #[.agg #[.int .i64 a, .int .i64 b, .int .u8 la, .int .i64 wa], .agg #[.int .i64 c, .int .i64 d, .int .u8 lb, .int .i64 wb]] w fun e w' => e = .returned (.int .i64 (cmpE (a, b) (c, d))) ∧ Gr w w' := by
  go_enter Tryz.func100, Tryz.ntmps100
  go_wp2
  refine wp_abs (fun W => Gr w W ∧ Blk W w.heap.size 80 #[.int .i64 a, .int .i64 b, .int .u8 la, .int .i64 wa] ∧ Blk W (w.heap.size + 1) 80 #[.int .i64 c, .int .i64 d, .int .u8 lb, .int .i64 wb]) ⟨((Gr.refl w).alloc _).alloc _, (Blk.new w _ _).ext (ext_self1 _ _), by have := Blk.new (w.alloc (.cells #[.int .i64 a, .int .i64 b, .int .u8 la, .int .i64 wa] 80)) 80 #[.int .i64 c, .int .i64 d, .int .u8 lb, .int .i64 wb]; simpa using this⟩ ?_
  rintro w1 ⟨hx1, hb0, hb1⟩
  have c0 : ∀ W, Gr w1 W → W.cell? ⟨w.heap.size, 0, none⟩ = some (.int .i64 a) := fun W h => hb0.cells 0 rfl W h.ext
  have c1 : ∀ W, Gr w1 W → W.cell? ⟨w.heap.size, 1, none⟩ = some (.int .i64 b) := fun W h => hb0.cells 1 rfl W h.ext
  have c2 : ∀ W, Gr w1 W → W.cell? ⟨w.heap.size + 1, 0, none⟩ = some (.int .i64 c) := fun W h => hb1.cells 0 rfl W h.ext
  have c3 : ∀ W, Gr w1 W → W.cell? ⟨w.heap.size + 1, 1, none⟩ = some (.int .i64 d) := fun W h => hb1.cells 1 rfl W h.ext
  clear hb0 hb1
  refine wp_region_ql (P := Tryz.prog) (fun a b => b = a) (Gr w1) [0, 1, 2, 3, 4, 5, 6, 7, 8, 9] [] 3 #[true, true, true, true, true, true, true, true, true, true, false, false, false] (by kernel_rfl) (by kernel_rfl) rfl (by rfl) (fun _ => rfl) (fun _ _ _ h1 h2 => h2.trans h1) (fun _ _ h e => by rw [e]; exact h) (Gr.refl w1).drew ?_
  iterate 10
    refine ql_want (v := ?_) rfl (by rfl) (fun W hW => ?_) ?_
    rotate_left
    · go_simp
      first | done | rfl | (go_at_call 88; refine (cmp_any _ _ _).mono ?_; rintro _ _ ⟨h1, h2⟩; refine ⟨_, h1, ?_, h2⟩; rfl)
    go_frame
  refine wpQL_nil (fun w2 hx2 => ?_)
  refine lx_one (i := 10) (by kernel_rfl) rfl (by rfl) #[true, true, true, true, true, true, true, true, true, true, true, false, false] (by rfl) ?_
  go_simp
  refine ⟨hx2.alloc _, ?_⟩
  try go_frame
  refine lx_one (i := 11) (by kernel_rfl) rfl (by rfl) #[true, true, true, true, true, true, true, true, true, true, true, true, false] (by rfl) ?_
  go_simp
  refine (or_any (cmpI a c) (cmpI b d) w2.heap.size 2 _ (by go_simp) (by go_simp)).mono ?_
  rintro e w3 ⟨rfl, rfl⟩
  refine ⟨_, rfl, hx2.alloc _, ?_⟩
  try go_frame
  refine lx_one (i := 12) (by kernel_rfl) rfl (by rfl) #[true, true, true, true, true, true, true, true, true, true, true, true, true] (by rfl) ?_
  go_simp
  refine ⟨hx2.alloc _, ?_⟩
  refine wpX_done (by kernel_rfl) ?_
  try go_frame
  go_wp2
  go_ret
  exact ⟨rfl, (hx1.trans hx2).alloc _⟩

end Go.Proofs.YtmfkkkhddigkfaaGreatDoor
