/- graph.New, graph.Apply. Conditions: see each theorem. -/
import Derived.Test.YtmfkkkhddigkfaaGreatDoorGd
import Derived.Shelf.Abstract
namespace Go.Proofs.YtmfkkkhddigkfaaGreatDoor
open Go Go.RowKit
attribute [local go_sem] qUpon lUpon

set_option maxHeartbeats 1000000 in
/-- a new graph: three new blocks -/
theorem new_any (w : World) : Calls Tryz.prog 74 #[] w fun e w' => ∃ g bv be, e = .returned (.pointer (some ⟨g, 0, none⟩)) ∧ GraphAt w' g bv be [] [] ∧ Ext w w' ∧ w.heap.size ≤ g ∧ w.heap.size ≤ bv ∧ w.heap.size ≤ be := by
  have hmm := @run_makeMap Tryz.prog
  go_enter Tryz.func74, Tryz.ntmps74
  go_wp2
  go_ret
  have m1 : MapIs ekV evT i64ok (w.alloc (.map #[] 0)) w.heap.size [] := MapIs.made w
  have m2 : MapIs ekE evT okE ((w.alloc (.map #[] 0)).alloc (.map #[] 0)) (w.heap.size + 1) [] := by
    have := MapIs.made (ek := ekE) (ev := evT) (ok := okE) (w.alloc (.map #[] 0))
    simpa using this
  have m3 : Blk (((w.alloc (.map #[] 0)).alloc (.map #[] 0)).alloc (.cells #[.map (some w.heap.size), .map (some (w.heap.size + 1))] 136)) (w.heap.size + 1 + 1) 136 #[.map (some w.heap.size), .map (some (w.heap.size + 1))] := by
    have := Blk.new ((w.alloc (.map #[] 0)).alloc (.map #[] 0)) 136 #[.map (some w.heap.size), .map (some (w.heap.size + 1))]
    simpa using this
  exact ⟨w.heap.size + 1 + 1, w.heap.size, w.heap.size + 1, rfl, ⟨m3, m1.ext (ext_self2 _ _ _), m2.ext (ext_self1 _ _), by omega⟩, ext_self3 _ _ _ _, by omega, by omega, by omega⟩

def deedsV : Value := .agg #[.func (.func 129) #[] #[], .func (.func 130) #[] #[], .func (.func 131) #[] #[], .func (.func 132) #[] #[], .func (.func 133) #[] #[], .func (.func 134) #[] #[], .func (.func 135) #[] #[], .func (.func 136) #[] #[]]
theorem deeds_any (w : World) : Calls Tryz.prog 94 #[] w fun e w' => e = .returned deedsV ∧ Ext w w' := by
  go_enter Tryz.func94, Tryz.ntmps94
  go_wp2
  exact bodyPost_ret (by simp [results, Tryz.results94, go_sem, deedsV]) rfl ⟨rfl, ext_self1 _ _⟩

def doV (op u lab wt : Int) (V : List (Int × Thing)) : List (Int × Thing) :=
  if op = 0 then putM V u (lab, wt) else if op = 1 then delM V u else if op = 4 then putM V u (lab, ((lookM V u).getD (0, 0)).2) else if op = 5 then putM V u (((lookM V u).getD (0, 0)).1, wt) else V
def doE (op u v lab wt : Int) (E : List ((Int × Int) × Thing)) : List ((Int × Int) × Thing) :=
  if op = 1 then E.filter fun q => !atB u q.1 else if op = 2 then putM E (min u v, max u v) (lab, wt) else if op = 3 then delM E (min u v, max u v) else if op = 6 then putM E (min u v, max u v) (lab, ((lookM E (min u v, max u v)).getD (0, 0)).2)
  else if op = 7 then putM E (min u v, max u v) (((lookM E (min u v, max u v)).getD (0, 0)).1, wt) else E
/-- the error of an edit -/
def errG (op u v wt : Int) (V : List (Int × Thing)) (E : List ((Int × Int) × Thing)) : Int := wrongF op u v wt (lookM V u).isSome (lookM V v).isSome (lookM E (min u v, max u v)).isSome E.length

theorem errG_op {op u v wt : Int} {V : List (Int × Thing)} {E : List ((Int × Int) × Thing)} (h : errG op u v wt V E = 0) : op = 0 ∨ op = 1 ∨ op = 2 ∨ op = 3 ∨ op = 4 ∨ op = 5 ∨ op = 6 ∨ op = 7 := by
  unfold errG wrongF at h
  split at h
  · omega
  · rename_i h1
    simp [w1B] at h1
    omega

def deedN (op : Int) : Nat := if op = 0 then 129 else if op = 1 then 130 else if op = 2 then 131 else if op = 3 then 132 else if op = 4 then 133 else if op = 5 then 134 else if op = 6 then 135 else 136
theorem deedI0 (W : World) : (Instr.index 148 deedsV (.int .i64 0)).run Tryz.prog W = .ok (.func (.func 129) #[] #[]) W := by kernel_rfl
theorem deedI1 (W : World) : (Instr.index 148 deedsV (.int .i64 1)).run Tryz.prog W = .ok (.func (.func 130) #[] #[]) W := by kernel_rfl
theorem deedI2 (W : World) : (Instr.index 148 deedsV (.int .i64 2)).run Tryz.prog W = .ok (.func (.func 131) #[] #[]) W := by kernel_rfl
theorem deedI3 (W : World) : (Instr.index 148 deedsV (.int .i64 3)).run Tryz.prog W = .ok (.func (.func 132) #[] #[]) W := by kernel_rfl
theorem deedI4 (W : World) : (Instr.index 148 deedsV (.int .i64 4)).run Tryz.prog W = .ok (.func (.func 133) #[] #[]) W := by kernel_rfl
theorem deedI5 (W : World) : (Instr.index 148 deedsV (.int .i64 5)).run Tryz.prog W = .ok (.func (.func 134) #[] #[]) W := by kernel_rfl
theorem deedI6 (W : World) : (Instr.index 148 deedsV (.int .i64 6)).run Tryz.prog W = .ok (.func (.func 135) #[] #[]) W := by kernel_rfl
theorem deedI7 (W : World) : (Instr.index 148 deedsV (.int .i64 7)).run Tryz.prog W = .ok (.func (.func 136) #[] #[]) W := by kernel_rfl
theorem deedI (op : Int) (h : op = 0 ∨ op = 1 ∨ op = 2 ∨ op = 3 ∨ op = 4 ∨ op = 5 ∨ op = 6 ∨ op = 7) (W : World) : (Instr.index 148 deedsV (.int .i64 op)).run Tryz.prog W = .ok (.func (.func (deedN op)) #[] #[]) W := by
  rcases h with rfl | rfl | rfl | rfl | rfl | rfl | rfl | rfl
  · exact deedI0 W
  · exact deedI1 W
  · exact deedI2 W
  · exact deedI3 W
  · exact deedI4 W
  · exact deedI5 W
  · exact deedI6 W
  · exact deedI7 W

theorem wrong_err (g bv be : Nat) (V : List (Int × Thing)) (E : List ((Int × Int) × Thing)) (op u v lab wt : Int) (w : World) (hg : GraphAt w g bv be V E) (hu : i64ok u) (hv : i64ok v) :
    Calls Tryz.prog 93 #[.pointer (some ⟨g, 0, none⟩), .agg #[.int .i64 op, .int .i64 u, .int .i64 v, .int .u8 lab, .int .i64 wt]] w fun e w' => e = .returned (.int .i64 (errG op u v wt V E)) ∧ Ext w w' := wrong_any g bv be V E op u v lab wt w hg hu hv

set_option maxHeartbeats 2000000 in
/-- an edit that is refused -/
theorem apply_no (g bv be : Nat) (V : List (Int × Thing)) (E : List ((Int × Int) × Thing)) (op u v lab wt : Int) (w : World) (hg : GraphAt w g bv be V E) (hu : i64ok u) (hv : i64ok v) (he : errG op u v wt V E ≠ 0) :
    Calls Tryz.prog 75 #[.pointer (some ⟨g, 0, none⟩), .agg #[.int .i64 op, .int .i64 u, .int .i64 v, .int .u8 lab, .int .i64 wt]] w fun e w' => e = .returned (.int .i64 (errG op u v wt V E)) ∧ Ext w w' := by
  have hb : (errG op u v wt V E != 0) = true := by simpa using he
  have G1 := hg.ext (ext_self1 w (.cells #[.int .i64 op, .int .i64 u, .int .i64 v, .int .u8 lab, .int .i64 wt] 121))
  clear hg he
  go_enter Tryz.func75, Tryz.ntmps75
  go_wp2_with (go_at_call 93; refine (wrong_err g bv be V E op u v lab wt _ G1 hu hv).mono ?_; rintro e w1 ⟨rfl, hx⟩)
  go_ret
  exact ⟨rfl, (ext_self1 _ _).trans hx⟩

/-- what an edit that is let does -/
theorem deed_call (g bv be : Nat) (V : List (Int × Thing)) (E : List ((Int × Int) × Thing)) (op u v lab wt : Int) (w : World) (hg : GraphAt w g bv be V E) (hu : i64ok u) (hv : i64ok v) (hop : op = 0 ∨ op = 1 ∨ op = 2 ∨ op = 3 ∨ op = 4 ∨ op = 5 ∨ op = 6 ∨ op = 7) :
    Calls Tryz.prog (deedN op) #[.pointer (some ⟨g, 0, none⟩), .agg #[.int .i64 op, .int .i64 u, .int .i64 v, .int .u8 lab, .int .i64 wt]] w fun e w' => e = .returned (.tuple #[]) ∧ GraphAt w' g bv be (doV op u lab wt V) (doE op u v lab wt E) ∧ Keep [bv, be] w w' := by
  rcases hop with rfl | rfl | rfl | rfl | rfl | rfl | rfl | rfl
  · exact (add_any g bv be V E 0 u v lab wt w hg hu hv).mono fun _ _ h => ⟨h.1, h.2.1, h.2.2.mono (by simp)⟩
  · exact drop_any g bv be V E 1 u v lab wt w hg hu
  · exact (join_any g bv be V E 2 u v lab wt w hg hu hv).mono fun _ _ h => ⟨h.1, h.2.1, h.2.2.mono (by simp)⟩
  · exact (part_any g bv be V E 3 u v lab wt w hg hu hv).mono fun _ _ h => ⟨h.1, h.2.1, h.2.2.mono (by simp)⟩
  · exact (mark_any g bv be V E 4 u v lab wt w hg hu hv).mono fun _ _ h => ⟨h.1, h.2.1, h.2.2.mono (by simp)⟩
  · exact (weigh_any g bv be V E 5 u v lab wt w hg hu hv).mono fun _ _ h => ⟨h.1, h.2.1, h.2.2.mono (by simp)⟩
  · exact (markEdge_any g bv be V E 6 u v lab wt w hg hu hv).mono fun _ _ h => ⟨h.1, h.2.1, h.2.2.mono (by simp)⟩
  · exact (weighEdge_any g bv be V E 7 u v lab wt w hg hu hv).mono fun _ _ h => ⟨h.1, h.2.1, h.2.2.mono (by simp)⟩

theorem deed_enters (op : Int) (hop : op = 0 ∨ op = 1 ∨ op = 2 ∨ op = 3 ∨ op = 4 ∨ op = 5 ∨ op = 6 ∨ op = 7) (args : Array Value) (w : World) : (callFunc (deedN op) args).run Tryz.prog w = .ok (.enter (deedN op) args) w := by
  rcases hop with rfl | rfl | rfl | rfl | rfl | rfl | rfl | rfl
  · exact Go.Proofs.enters_of Tryz.func129 (by kernel_rfl) rfl _ _
  · exact Go.Proofs.enters_of Tryz.func130 (by kernel_rfl) rfl _ _
  · exact Go.Proofs.enters_of Tryz.func131 (by kernel_rfl) rfl _ _
  · exact Go.Proofs.enters_of Tryz.func132 (by kernel_rfl) rfl _ _
  · exact Go.Proofs.enters_of Tryz.func133 (by kernel_rfl) rfl _ _
  · exact Go.Proofs.enters_of Tryz.func134 (by kernel_rfl) rfl _ _
  · exact Go.Proofs.enters_of Tryz.func135 (by kernel_rfl) rfl _ _
  · exact Go.Proofs.enters_of Tryz.func136 (by kernel_rfl) rfl _ _

set_option maxHeartbeats 2000000 in
/-- an edit that is let -/
theorem apply_yes (g bv be : Nat) (V : List (Int × Thing)) (E : List ((Int × Int) × Thing)) (op u v lab wt : Int) (w : World) (hg : GraphAt w g bv be V E) (hu : i64ok u) (hv : i64ok v) (he : errG op u v wt V E = 0) :
    Calls Tryz.prog 75 #[.pointer (some ⟨g, 0, none⟩), .agg #[.int .i64 op, .int .i64 u, .int .i64 v, .int .u8 lab, .int .i64 wt]] w fun e w' => e = .returned (.int .i64 0) ∧ GraphAt w' g bv be (doV op u lab wt V) (doE op u v lab wt E) ∧ Keep [bv, be] w w' := by
  have hop := errG_op he
  have he' := hide he
  clear he
  go_enter Tryz.func75, Tryz.ntmps75
  have G1 := hg.ext (ext_self1 w (.cells #[.int .i64 op, .int .i64 u, .int .i64 v, .int .u8 lab, .int .i64 wt] 121))
  go_wp2_with (go_at_call 93; refine (wrong_err g bv be V E op u v lab wt _ G1 hu hv).mono ?_; rw [unhide he']; rintro e w1 ⟨rfl, hx⟩)
  refine wp_abs (fun W => Ext w W ∧ EditAt W w.heap.size op u v lab wt) ⟨(ext_self1 _ _).trans hx, (box_edit w op u v lab wt).ext hx⟩ ?_
  rintro w2 ⟨hx2, c0, c1, c2, c3, c4⟩
  clear G1 hx
  have hop' := hide hop
  have hix := deedI op hop
  have hent := deed_enters op hop
  clear hop
  refine wp_region_ext (P := Tryz.prog) [0,1,2,3,4,5] [6] 1 #[true,true,true,true,true,true,false] (by kernel_rfl) (by kernel_rfl) rfl (by rfl) ?_
  iterate 6
    refine ql_want (v := ?_) rfl (by rfl) (fun W hW => ?_) ?_
    rotate_left
    · go_simp
      first | done | rfl | ((go_at_call 94; refine (deeds_any _).mono ?_; rintro _ _ ⟨h1, h2⟩; refine ⟨_, h1, ?_, h2⟩; rfl))
    go_frame
  refine wpQL_nil (fun w3 hx3 => ?_)
  refine lx_one (i := 6) (by kernel_rfl) rfl (by rfl) #[true,true,true,true,true,true,true] (by rfl) ?_
  go_simp
  refine (deed_call g bv be V E op u v lab wt _ (hg.ext (hx2.trans hx3)) hu hv (unhide hop')).mono ?_
  rintro e w4 ⟨rfl, hG, hk⟩
  refine ⟨_, rfl, fun w5 hx5 => ?_⟩
  refine wpX_done (by kernel_rfl) ?_
  try go_frame
  go_wp2
  go_ret
  exact ⟨rfl, hG.ext hx5, (Keep.of_ext (hx2.trans hx3) hk).trans (hx5.keep _)⟩

end Go.Proofs.YtmfkkkhddigkfaaGreatDoor
