/- LAW GraphNil, the walk. Conditions: see each theorem. -/
import Derived.Test.YtdkhondfahebnaaNm
import Derived.Test.YtdkhondfahebnaaEs
namespace Go.Proofs.Ytdkhondfahebnaa
open Go Go.RowKit
attribute [local go_sem] qUpon lUpon eq_Set0

set_option maxRecDepth 100000 in
set_option maxHeartbeats 8000000 in
theorem graphNil_walk (x : Ed) (id : Int) (N : Nat) (w : World) (hx : okD x) (_hid : i64ok id) (_hN : N < 2 ^ (64 * 16)) :
    Calls Try.prog 10 #[.agg (encD x).toArray, .int .i64 id, .agg (setC N)] w fun e w' => e = .returned (.bool true) ∧ Ext w w' := by
  obtain ⟨op, u, v, lab, wt⟩ := x
  have hb3 := Blk.new w 33 #[.int .i64 op, .int .i64 u, .int .i64 v, .int .u8 lab, .int .i64 wt]
  have hb5 := Blk.new (w.alloc (.cells #[.int .i64 op, .int .i64 u, .int .i64 v, .int .u8 lab, .int .i64 wt] 33)) 78 (setC N)
  have hb3' := hb3.ext (ext_self1 _ (.cells (setC N) 78))
  have hs : (w.alloc (.cells #[.int .i64 op, .int .i64 u, .int .i64 v, .int .u8 lab, .int .i64 wt] 33)).heap.size = w.heap.size + 1 := World.size_alloc _ _
  rw [hs] at hb5
  have hE := hide ((ext_self1 w (.cells #[.int .i64 op, .int .i64 u, .int .i64 v, .int .u8 lab, .int .i64 wt] 33)).trans (ext_self1 _ (.cells (setC N) 78)))
  clear hx hs hb3
  have h3 := hide hb3'
  have h5 := hide hb5
  clear hb3' hb5
  simp only [encD]
  go_enter Try.func10, Try.ntmps10
  go_wp2_with fail
  generalize (w.alloc (.cells #[.int .i64 op, .int .i64 u, .int .i64 v, .int .u8 lab, .int .i64 wt] 33)).alloc (.cells (setC N) 78) = w0 at *
  have e0 := (unhide h3).cells 0 rfl
  have e1 := (unhide h3).cells 1 rfl
  have e2 := (unhide h3).cells 2 rfl
  have e3 := (unhide h3).cells 3 rfl
  have e4 := (unhide h3).cells 4 rfl
  have s0 := (unhide h5).cells 0 (v := .int .u64 (wd N 0)) rfl
  have s1 := (unhide h5).cells 1 (v := .int .u64 (wd N 1)) rfl
  have s2 := (unhide h5).cells 2 (v := .int .u64 (wd N 2)) rfl
  have s3 := (unhide h5).cells 3 (v := .int .u64 (wd N 3)) rfl
  have s4 := (unhide h5).cells 4 (v := .int .u64 (wd N 4)) rfl
  have s5 := (unhide h5).cells 5 (v := .int .u64 (wd N 5)) rfl
  have s6 := (unhide h5).cells 6 (v := .int .u64 (wd N 6)) rfl
  have s7 := (unhide h5).cells 7 (v := .int .u64 (wd N 7)) rfl
  have s8 := (unhide h5).cells 8 (v := .int .u64 (wd N 8)) rfl
  have s9 := (unhide h5).cells 9 (v := .int .u64 (wd N 9)) rfl
  have s10 := (unhide h5).cells 10 (v := .int .u64 (wd N 10)) rfl
  have s11 := (unhide h5).cells 11 (v := .int .u64 (wd N 11)) rfl
  have s12 := (unhide h5).cells 12 (v := .int .u64 (wd N 12)) rfl
  have s13 := (unhide h5).cells 13 (v := .int .u64 (wd N 13)) rfl
  have s14 := (unhide h5).cells 14 (v := .int .u64 (wd N 14)) rfl
  have s15 := (unhide h5).cells 15 (v := .int .u64 (wd N 15)) rfl
  have hE0 := Ext.refl w0
  clear h3 h5
  go_wp2_with fail
  refine (inverse_nil op u v lab wt _).mono ?_
  rintro _ w1 ⟨rfl, hx⟩
  have hE1 : Ext w0 w1 := by first | exact hE0.trans hx | exact (hE0.trans (ext_self1 _ _)).trans hx
  clear hx hE0
  go_wp2_with fail
  refine (len_nil _).mono ?_
  rintro _ w2 ⟨rfl, hx⟩
  have hE2 : Ext w0 w2 := by first | exact hE1.trans hx | exact (hE1.trans (ext_self1 _ _)).trans hx
  clear hx hE1
  go_wp2_with fail
  refine (vertex_nil id _).mono ?_
  rintro _ w3 ⟨rfl, hx⟩
  have hE3 : Ext w0 w3 := by first | exact hE2.trans hx | exact (hE2.trans (ext_self1 _ _)).trans hx
  clear hx hE2
  go_wp2_with fail
  refine (edge_nil id id _).mono ?_
  rintro _ w4 ⟨rfl, hx⟩
  have hE4 : Ext w0 w4 := by first | exact hE3.trans hx | exact (hE3.trans (ext_self1 _ _)).trans hx
  clear hx hE3
  go_wp2_with fail
  refine (apply_nil op u v lab wt _).mono ?_
  rintro _ w5 ⟨rfl, hx⟩
  have hE5 : Ext w0 w5 := by first | exact hE4.trans hx | exact (hE4.trans (ext_self1 _ _)).trans hx
  clear hx hE4
  go_wp2_with fail
  refine (known_any _).mono ?_
  rintro _ w6 ⟨rfl, hx⟩
  have hE6 : Ext w0 w6 := by first | exact hE5.trans hx | exact (hE5.trans (ext_self1 _ _)).trans hx
  clear hx hE5
  go_wp2_with fail
  refine (vertices_nil _).mono ?_
  rintro _ w7 ⟨rfl, hx⟩
  have hE7 : Ext w0 w7 := by first | exact hE6.trans hx | exact (hE6.trans (ext_self1 _ _)).trans hx
  clear hx hE6
  go_wp2_with fail
  refine (edges_nil _).mono ?_
  rintro _ w8 ⟨rfl, hx⟩
  have hE8 : Ext w0 w8 := by first | exact hE7.trans hx | exact (hE7.trans (ext_self1 _ _)).trans hx
  clear hx hE7
  go_wp2_with fail
  refine (vset_nil _).mono ?_
  rintro _ w9 ⟨rfl, hx⟩
  have hE9 : Ext w0 w9 := by first | exact hE8.trans hx | exact (hE8.trans (ext_self1 _ _)).trans hx
  clear hx hE8
  go_wp2_with fail
  refine (eset_nil _).mono ?_
  rintro _ w10 ⟨rfl, hx⟩
  have hE10 : Ext w0 w10 := by first | exact hE9.trans hx | exact (hE9.trans (ext_self1 _ _)).trans hx
  clear hx hE9
  go_wp2_with fail
  refine (near_nil id _).mono ?_
  rintro _ w11 ⟨rfl, hx⟩
  have hE11 : Ext w0 w11 := by first | exact hE10.trans hx | exact (hE10.trans (ext_self1 _ _)).trans hx
  clear hx hE10
  go_wp2_with fail
  refine (inc_nil id _).mono ?_
  rintro _ w12 ⟨rfl, hx⟩
  have hE12 : Ext w0 w12 := by first | exact hE11.trans hx | exact (hE11.trans (ext_self1 _ _)).trans hx
  clear hx hE11
  go_wp2_with fail
  refine (induced_nil _ _).mono ?_
  rintro _ w13 ⟨rfl, hx⟩
  have hE13 : Ext w0 w13 := by first | exact hE12.trans hx | exact (hE12.trans (ext_self1 _ _)).trans hx
  clear hx hE12
  go_wp2_with fail
  refine (clone_nil _).mono ?_
  rintro _ w14 ⟨rfl, hx⟩
  have hE14 : Ext w0 w14 := by first | exact hE13.trans hx | exact (hE13.trans (ext_self1 _ _)).trans hx
  clear hx hE13
  go_wp2_with fail
  refine (equal_nn _).mono ?_
  rintro _ w15 ⟨rfl, hx⟩
  have hE15 : Ext w0 w15 := by first | exact hE14.trans hx | exact (hE14.trans (ext_self1 _ _)).trans hx
  clear hx hE14
  go_wp2_with fail
  refine (new_rel _).mono ?_
  rintro _ wn ⟨g, bv, be, rfl, _, hx, _, _, _⟩
  have hEn := hE15.trans hx
  clear hx hE15
  go_wp2_with fail
  refine (equal_n g _).mono ?_
  rintro _ wz ⟨rfl, hx⟩
  have hEz := hEn.trans hx
  clear hx hEn
  go_wp2_with fail
  go_ret
  exact ⟨rfl, (unhide hE).trans hEz⟩
end Go.Proofs.Ytdkhondfahebnaa
