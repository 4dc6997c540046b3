/- A NIL GRAPH. Conditions: see each theorem. -/
import Derived.Test.YtdkhondfahebnaaBt
import Derived.Test.YtdkhondfahebnaaKn
import Derived.Test.YtdkhondfahebnaaEg
namespace Go.Proofs.Ytdkhondfahebnaa
open Go Go.RowKit
attribute [local go_sem] qUpon lUpon

theorem equalIn_nil_ptr {P : Program} {t e : TypeId} (h : P.underlying t = some (.pointer e)) (d : Nat) (a : Addr) (w : World) : (Op.equalIn (d + 1) t (.pointer none) (.pointer (some a))).run P w = .ok false w := by
  simp [Op.equalIn, run_underlying h]
set_option maxRecDepth 100000 in
theorem run_eql_nil_ptr (a : Addr) (w : World) : (binOp .eql 23 (.pointer none) (.pointer (some a))).run Try.prog w = .ok (.bool false) w := by
  have h : (Op.equal 23 (.pointer none) (.pointer (some a))).run Try.prog w = .ok false w := equalIn_nil_ptr Try.underlying23 9999 a w
  simp only [binOp]
  simp [h]
attribute [local go_sem] run_eql_nil_ptr
set_option maxRecDepth 100000 in
theorem inverse_nil (op u v lab wt : Int) (w : World) :
    Calls Try.prog 25 #[.pointer none, .agg #[.int .i64 op, .int .i64 u, .int .i64 v, .int .u8 lab, .int .i64 wt]] w fun e w' => e = .returned (.tuple #[.slice none 0 0, .int .i64 1]) ∧ Ext w w' := by
  go_enter Try.func25, Try.ntmps25
  go_wp2_with fail
  go_ret2
  exact ⟨rfl, ext_self1 _ _⟩
set_option maxRecDepth 100000 in
theorem len_nil (w : World) :
    Calls Try.prog 27 #[.pointer none] w fun e w' => e = .returned (.tuple #[.int .i64 0, .int .i64 0]) ∧ Ext w w' := by
  go_enter Try.func27, Try.ntmps27
  go_wp2_with fail
  go_ret2
  exact ⟨rfl, Ext.refl _⟩
set_option maxRecDepth 100000 in
theorem apply_nil (op u v lab wt : Int) (w : World) :
    Calls Try.prog 13 #[.pointer none, .agg #[.int .i64 op, .int .i64 u, .int .i64 v, .int .u8 lab, .int .i64 wt]] w fun e w' => e = .returned (.int .i64 1) ∧ Ext w w' := by
  go_enter Try.func13, Try.ntmps13
  go_wp2_with fail
  go_ret
  exact ⟨rfl, ext_self1 _ _⟩
set_option maxRecDepth 100000 in
theorem vertices_nil (w : World) :
    Calls Try.prog 23 #[.pointer none] w fun e w' => e = .returned (.slice none 0 0) ∧ Ext w w' := by
  go_enter Try.func23, Try.ntmps23
  go_wp2_with fail
  go_ret
  exact ⟨rfl, Ext.refl _⟩
set_option maxRecDepth 100000 in
theorem edges_nil (w : World) :
    Calls Try.prog 24 #[.pointer none] w fun e w' => e = .returned (.slice none 0 0) ∧ Ext w w' := by
  go_enter Try.func24, Try.ntmps24
  go_wp2_with fail
  go_ret
  exact ⟨rfl, Ext.refl _⟩
set_option maxRecDepth 100000 in
theorem induced_nil (s : Array Value) (w : World) :
    Calls Try.prog 40 #[.pointer none, .agg s] w fun e w' => e = .returned (.pointer none) ∧ Ext w w' := by
  go_enter Try.func40, Try.ntmps40
  go_wp2_with fail
  go_ret
  exact ⟨rfl, ext_self1 _ _⟩
set_option maxRecDepth 100000 in
theorem clone_nil (w : World) :
    Calls Try.prog 22 #[.pointer none] w fun e w' => e = .returned (.pointer none) ∧ Ext w w' := by
  go_enter Try.func22, Try.ntmps22
  go_wp2_with fail
  go_ret
  exact ⟨rfl, Ext.refl _⟩
set_option maxRecDepth 100000 in
theorem equal_nn (w : World) :
    Calls Try.prog 21 #[.pointer none, .pointer none] w fun e w' => e = .returned (.bool true) ∧ Ext w w' := by
  go_enter Try.func21, Try.ntmps21
  go_wp2_with fail
  go_ret
  exact ⟨rfl, Ext.refl _⟩
set_option maxRecDepth 100000 in
theorem equal_n (g : Nat) (w : World) :
    Calls Try.prog 21 #[.pointer none, .pointer (some ⟨g, 0, none⟩)] w fun e w' => e = .returned (.bool false) ∧ Ext w w' := by
  go_enter Try.func21, Try.ntmps21
  go_wp2_with fail
  go_ret
  exact ⟨rfl, Ext.refl _⟩

set_option maxRecDepth 100000 in
theorem edge_nil (u v : Int) (w : World) :
    Calls Try.prog 29 #[.pointer none, .int .i64 u, .int .i64 v] w fun e w' => e = .returned (.tuple #[.agg #[.int .i64 0, .int .i64 0, .int .u8 0, .int .i64 0], .int .i64 0, .bool false]) ∧ Ext w w' := by
  have hb0 := hide (Blk.new w 47 #[.int .i64 0, .int .i64 0, .int .u8 0, .int .i64 0])
  go_enter Try.func29, Try.ntmps29
  go_wp2_with (first
    | (go_at_call 57; refine (between_any _ _ _).mono ?_; rintro e w2 ⟨rfl, hx2⟩; have hx2' := hide hx2; clear hx2)
    | (go_at_call 24; refine (edges_nil _).mono ?_; rintro e w3 ⟨rfl, hx3⟩; have hq := (Blk.new w2 _ _).ext hx3; have c0 := hq.cell 0; have c1 := hq.cell 1; simp at c0 c1; have hx3' := hide hx3; have c0' := hide c0; have c1' := hide c1; clear hx3 hq c0 c1)
    | (go_at_call 58; refine (index_any none [] 0 (min u v) (max u v) w2.heap.size _ SlAt.nil (by simp) (unhide c0') (unhide c1')).mono ?_; rw [show posI (isX (min u v) (max u v)) ([] : List ((Int × Int) × Thing)) = -1 from rfl]; rintro e w4 ⟨rfl, hx4⟩; have hx4' := hide hx4; have hb4 := ((((unhide hb0).ext (unhide hx2')).ext (ext_self1 _ _)).ext (unhide hx3')).ext hx4; have s0 := hb4.cell 0; have s1 := hb4.cell 1; have s2 := hb4.cell 2; have s3 := hb4.cell 3; have f0 := hb4.frozen 0; have f1 := hb4.frozen 1; have f2 := hb4.frozen 2; have f3 := hb4.frozen 3; simp at s0 s1 s2 s3; have hb4' := hide hb4; clear hx4 hb4))
  have hb4 := unhide hb4'
  have hxw : Ext w w4 := (((ext_self1 _ _).trans (unhide hx2')).trans (ext_self1 _ _)).trans ((unhide hx3').trans (unhide hx4'))
  refine bodyPost_ret (ret_cell3 rfl rfl (load_Ed _ w.heap.size _ _ _ _ ((((hb4.set 0 (.int .i64 0)).set 1 (.int .i64 0)).set 2 (.int .u8 0)).set 3 (.int .i64 0)))) rfl ?_
  exact ⟨rfl, Below.setCell (Below.setCell (Below.setCell (Below.setCell hxw (by simp) _) (by simp) _) (by simp) _) (by simp) _⟩
theorem load_Ver (W : World) (b : Nat) (p q r : Value) (h : Blk W b 44 #[p, q, r]) : (loadVar 44 ⟨b, 0, none⟩).run Try.prog W = .ok (.agg #[p, q, r]) W := by
  have h0 := h.cell 0
  have h1 := h.cell 1
  have h2 := h.cell 2
  simp at h0 h1 h2
  simp [loadVar, h0, h1, h2, go_sem]
set_option maxRecDepth 100000 in
theorem vertex_nil (u : Int) (w : World) :
    Calls Try.prog 28 #[.pointer none, .int .i64 u] w fun e w' => e = .returned (.tuple #[.agg #[.int .i64 0, .int .u8 0, .int .i64 0], .bool false]) ∧ Ext w w' := by
  have hb := Blk.new w 44 #[.int .i64 0, .int .u8 0, .int .i64 0]
  have s0 := hb.cells 0 (v := .int .i64 0) rfl
  have s1 := hb.cells 1 (v := .int .u8 0) rfl
  have s2 := hb.cells 2 (v := .int .i64 0) rfl
  have f0 := hb.frozen 0
  have f1 := hb.frozen 1
  have f2 := hb.frozen 2
  have hself := Ext.refl (w.alloc (.cells #[.int .i64 0, .int .u8 0, .int .i64 0] 44))
  have hb' := hide hb
  clear hb
  go_enter Try.func28, Try.ntmps28
  go_wp2_with fail
  refine bodyPost_ret (ret_cell2 rfl rfl (load_Ver _ w.heap.size _ _ _ (unhide hb'))) rfl ?_
  exact ⟨rfl, ext_self1 _ _⟩
end Go.Proofs.Ytdkhondfahebnaa
