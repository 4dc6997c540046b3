/- graph.Len, graph.Edge. Conditions: see each theorem. -/
import Derived.Test.YtdkhondfahebnaaTo
namespace Go.Proofs.Ytdkhondfahebnaa
open Go Go.RowKit
attribute [local go_sem] qUpon lUpon

def isX (x y : Int) (p : (Int × Int) × Thing) : Bool := p.1.1 == x && p.1.2 == y

theorem edgeC_any (a b l t x y : Int) (cb : Nat) (w : World) (h0 : w.cell? ⟨cb, 0, none⟩ = some (.int .i64 x)) (h1 : w.cell? ⟨cb, 1, none⟩ = some (.int .i64 y)) :
    Calls Try.prog 59 #[.agg #[.int .i64 a, .int .i64 b, .int .u8 l, .int .i64 t], .pointer (some ⟨cb, 0, none⟩)] w fun e w' => e = .returned (.bool (isX x y ((a, b), (l, t)))) ∧ Ext w w' := by
  have c0 := cell_ext h0
  have c1 := cell_ext h1
  clear h0 h1
  go_enter Try.func59, Try.ntmps59
  go_wp2
  all_goals (go_ret; exact ⟨ret_bool (by unfold isX; simp_all), ext_self1 _ _⟩)

set_option maxHeartbeats 1000000 in
theorem index_any (A : Option Addr) (E : List ((Int × Int) × Thing)) (cE : Nat) (x y : Int) (cb : Nat) (w : World) (hE : SlAt encE 4 w A E) (hl : E.length ≤ 4096) (h0 : w.cell? ⟨cb, 0, none⟩ = some (.int .i64 x)) (h1 : w.cell? ⟨cb, 1, none⟩ = some (.int .i64 y)) :
    Calls Try.prog 58 #[.slice A E.length cE, .func (.func 59) #[] #[.pointer (some ⟨cb, 0, none⟩)]] w fun e w' => e = .returned (.int .i64 (posI (isX x y) E)) ∧ Ext w w' := by
  have k0 := cell_ext h0
  have k1 := cell_ext h1
  have hE' := hide hE
  have k0' := hide k0
  have k1' := hide k1
  clear h0 h1 hE k0 k1
  go_enter Try.func58, Try.ntmps58
  go_wp2
  go_loopw [8] (fun i wr => ∃ k : Nat, k ≤ E.length ∧ i = .int .i64 k ∧ (∀ j (hj : j < k) (hj' : j < E.length), isX x y E[j] = false) ∧ Ext w wr) (fun i _ => E.length - (intOf i).toNat)
  case atStart => exact ⟨0, Nat.zero_le _, rfl, fun j hj => by omega, Ext.refl _⟩
  case round =>
    obtain ⟨k, hk, rfl, hno, hxr⟩ := hrel
    have hno' := hide hno
    clear hno
    by_cases hlt : k < E.length
    · obtain ⟨b, off, rfl, c0, c1, c2, c3⟩ := atE ((unhide hE').ext hxr) hlt
      generalize hy : E[k] = p at c0 c1 c2 c3
      have hy' := hide hy
      clear hy
      obtain ⟨⟨a, b0⟩, ⟨l, t⟩⟩ := p
      simp only at c0 c1 c2 c3
      generalize hq : isX x y ((a, b0), (l, t)) = q
      have hq' := hide hq
      clear hq
      cases q
      · go_wp2_with (go_at_call 59; refine (edgeC_any a b0 l t x y cb _ (unhide k0' _ hxr) (unhide k1' _ hxr)).mono ?_; rw [unhide hq']; rintro e w3 ⟨rfl, hx3⟩)
        go_roundw
        case rel =>
          refine ⟨k + 1, by omega, by go_num, fun j hj hj' => ?_, hxr.trans hx3⟩
          rcases Nat.lt_or_ge j k with h | h
          · exact unhide hno' j h hj'
          · have : j = k := by omega
            subst this
            rw [unhide hy']
            exact unhide hq'
        case measure => simp [intOf]; omega
      · go_wp2_with (go_at_call 59; refine (edgeC_any a b0 l t x y cb _ (unhide k0' _ hxr) (unhide k1' _ hxr)).mono ?_; rw [unhide hq']; rintro e w3 ⟨rfl, hx3⟩)
        go_ret
        exact ⟨ret_int (posI_hit hlt (by rw [unhide hy']; exact unhide hq') (fun j hj => unhide hno' j hj (by omega))).symm, hxr.trans hx3⟩
    · go_wp2
      go_ret
      exact ⟨ret_int (posI_miss (fun j hj => unhide hno' j (by omega) hj)).symm, hxr⟩

theorem len_any (g bv be : Nat) (V : List (Int × Thing)) (E : List ((Int × Int) × Thing)) (w : World) (hg : GraphAt w g bv be V E) :
    Calls Try.prog 27 #[.pointer (some ⟨g, 0, none⟩)] w fun e w' => e = .returned (.tuple #[.int .i64 V.length, .int .i64 E.length]) ∧ Ext w w' := by
  have d0 := hg.ptr0
  have d1 := hg.ptr1
  have l0 := fun (W : World) (hW : Ext w W) => (hg.vs.ext hW).len Try.underlying87
  have l1 := fun (W : World) (hW : Ext w W) => (hg.es.ext hW).len Try.underlying88
  clear hg
  go_enter Try.func27, Try.ntmps27
  go_wp2
  refine wp_region_still (P := Try.prog) [0,1,2,3,4,5,6,7,8,9,10,11] [] 0 #[true,true,true,true,true,true,true,true,true,true,true,true] (by kernel_rfl) (by kernel_rfl) rfl (by rfl) ?_
  iterate 12
    refine ql_want (v := ?_) rfl (by rfl) (fun W hW => ?_) ?_
    rotate_left
    · go_simp
      first | done | rfl | (fail)
    go_frame

  refine wpQL_nil (fun w2 hx2 => ?_)
  refine wpX_done (by kernel_rfl) ?_
  try go_frame
  go_wp2
  go_ret2
  exact ⟨rfl, hx2⟩

theorem ret_cell3 {P : Program} {fn : Func} {t T u1 u2 : Nat} {tmps : Array Value} {p : Addr} {W : World} {v : Value} (h : fn.results = #[.cell t T, .tmp u1, .tmp u2]) (hp : tmps.getD t undef = .pointer (some p)) (hl : (loadVar T p).run P W = .ok v W) :
    (results fn tmps).run P W = .ok (.tuple #[v, tmps.getD u1 undef, tmps.getD u2 undef]) W := by
  simp only [Array.getD_eq_getD_getElem?] at hp
  simp [results, h, hp, asAddr, hl]
theorem load_Ed (W : World) (b : Nat) (p q r s : Value) (h : Blk W b 47 #[p, q, r, s]) : (loadVar 47 ⟨b, 0, none⟩).run Try.prog W = .ok (.agg #[p, q, r, s]) W := by
  have h0 := h.cell 0
  have h1 := h.cell 1
  have h2 := h.cell 2
  have h3 := h.cell 3
  simp at h0 h1 h2 h3
  simp [loadVar, h0, h1, h2, h3, go_sem]

set_option maxRecDepth 100000 in
set_option maxHeartbeats 4000000 in
theorem gedge_miss (g bv be : Nat) (V : List (Int × Thing)) (E S : List ((Int × Int) × Thing)) (u v : Int) (w : World) (hg : GraphAt w g bv be V E) (hp : S.Perm E) (hS : S.Pairwise ltE) (hl : E.length ≤ 4096) (hpos : posI (isX (min u v) (max u v)) S = -1) :
    Calls Try.prog 29 #[.pointer (some ⟨g, 0, none⟩), .int .i64 u, .int .i64 v] w fun e w' => e = .returned (.tuple #[.agg #[.int .i64 0, .int .i64 0, .int .u8 0, .int .i64 0], .int .i64 0, .bool false]) ∧ Ext w w' := by
  have hlS : S.length ≤ 4096 := by rw [hp.length_eq]; exact hl
  have hg' := hide hg
  have hpos' := hide hpos
  have hb0 := hide (Blk.new w 47 #[.int .i64 0, .int .i64 0, .int .u8 0, .int .i64 0])
  clear hg hpos
  go_enter Try.func29, Try.ntmps29
  go_wp2_with (first
    | (go_at_call 57; refine (between_any _ _ _).mono ?_; rintro e w2 ⟨rfl, hx2⟩; have hx2' := hide hx2; clear hx2)
    | (go_at_call 24; refine (edges_any g bv be V E S _ ((unhide hg').ext (((ext_self1 _ _).trans (unhide hx2')).alloc _)) hp hS hl).mono ?_; rintro e w3 ⟨v3, rfl, ho3, hx3⟩; obtain ⟨Ae, ce, rfl⟩ := own_slice ho3; have hq := (Blk.new w2 _ _).ext hx3; have c0 := hq.cell 0; have c1 := hq.cell 1; simp at c0 c1; have ho3' := hide ho3; have hx3' := hide hx3; have c0' := hide c0; have c1' := hide c1; clear ho3 hx3 hq c0 c1)
    | (go_at_call 58; refine (index_any Ae S ce (min u v) (max u v) w2.heap.size _ (own_at (unhide ho3') (fun _ => rfl)) hlS (unhide c0') (unhide c1')).mono ?_; rw [unhide hpos']; rintro e w4 ⟨rfl, hx4⟩; have hx4' := hide hx4; have hb4 := ((((unhide hb0).ext (unhide hx2')).ext (ext_self1 _ _)).ext (unhide hx3')).ext hx4; have s0 := hb4.cell 0; have s1 := hb4.cell 1; have s2 := hb4.cell 2; have s3 := hb4.cell 3; have f0 := hb4.frozen 0; have f1 := hb4.frozen 1; have f2 := hb4.frozen 2; have f3 := hb4.frozen 3; simp at s0 s1 s2 s3; have hb4' := hide hb4; clear hx4 hb4))
  have hb4 := unhide hb4'
  have hxw : Ext w w4 := (((ext_self1 _ _).trans (unhide hx2')).trans (ext_self1 _ _)).trans ((unhide hx3').trans (unhide hx4'))
  refine bodyPost_ret (ret_cell3 rfl rfl (load_Ed _ w.heap.size _ _ _ _ ((((hb4.set 0 (.int .i64 0)).set 1 (.int .i64 0)).set 2 (.int .u8 0)).set 3 (.int .i64 0)))) rfl ?_
  exact ⟨rfl, Below.setCell (Below.setCell (Below.setCell (Below.setCell hxw (by simp) _) (by simp) _) (by simp) _) (by simp) _⟩

set_option maxRecDepth 100000 in
set_option maxHeartbeats 4000000 in
theorem gedge_hit (g bv be : Nat) (V : List (Int × Thing)) (E S : List ((Int × Int) × Thing)) (u v : Int) (w : World) (hg : GraphAt w g bv be V E) (hp : S.Perm E) (hS : S.Pairwise ltE) (hl : E.length ≤ 4096) (i : Nat) (hi : i < S.length) (hpos : posI (isX (min u v) (max u v)) S = i) :
    Calls Try.prog 29 #[.pointer (some ⟨g, 0, none⟩), .int .i64 u, .int .i64 v] w fun e w' => e = .returned (.tuple #[.agg #[.int .i64 S[i].1.1, .int .i64 S[i].1.2, .int .u8 S[i].2.1, .int .i64 S[i].2.2], .int .i64 i, .bool true]) ∧ Ext w w' := by
  have hlS : S.length ≤ 4096 := by rw [hp.length_eq]; exact hl
  have hg' := hide hg
  have hpos' := hide hpos
  have hb0 := hide (Blk.new w 47 #[.int .i64 0, .int .i64 0, .int .u8 0, .int .i64 0])
  clear hg hpos
  go_enter Try.func29, Try.ntmps29
  go_wp2_with (first
    | (go_at_call 57; refine (between_any _ _ _).mono ?_; rintro e w2 ⟨rfl, hx2⟩; have hx2' := hide hx2; clear hx2)
    | (go_at_call 24; refine (edges_any g bv be V E S _ ((unhide hg').ext (((ext_self1 _ _).trans (unhide hx2')).alloc _)) hp hS hl).mono ?_; rintro e w3 ⟨v3, rfl, ho3, hx3⟩; obtain ⟨Ae, ce, rfl⟩ := own_slice ho3; have hq := (Blk.new w2 _ _).ext hx3; have c0 := hq.cell 0; have c1 := hq.cell 1; simp at c0 c1; have ho3' := hide ho3; have hx3' := hide hx3; have c0' := hide c0; have c1' := hide c1; clear ho3 hx3 hq c0 c1)
    | (go_at_call 58; refine (index_any Ae S ce (min u v) (max u v) w2.heap.size _ (own_at (unhide ho3') (fun _ => rfl)) hlS (unhide c0') (unhide c1')).mono ?_; rw [unhide hpos']; rintro e w4 ⟨rfl, hx4⟩; have hx4' := hide hx4; have hb4 := ((((unhide hb0).ext (unhide hx2')).ext (ext_self1 _ _)).ext (unhide hx3')).ext hx4; have s0 := hb4.cell 0; have s1 := hb4.cell 1; have s2 := hb4.cell 2; have s3 := hb4.cell 3; have f0 := hb4.frozen 0; have f1 := hb4.frozen 1; have f2 := hb4.frozen 2; have f3 := hb4.frozen 3; simp at s0 s1 s2 s3; have hb4' := hide hb4; clear hx4 hb4; obtain ⟨bb, off, rfl, k0, k1, k2, k3⟩ := atE ((own_at (unhide ho3') (fun _ => rfl)).ext (unhide hx4')) hi))
  have hb4 := unhide hb4'
  have hxw : Ext w w4 := (((ext_self1 _ _).trans (unhide hx2')).trans (ext_self1 _ _)).trans ((unhide hx3').trans (unhide hx4'))
  refine bodyPost_ret (ret_cell3 rfl rfl (load_Ed _ w.heap.size _ _ _ _ ((((hb4.set 0 (.int .i64 S[i].1.1)).set 1 (.int .i64 S[i].1.2)).set 2 (.int .u8 S[i].2.1)).set 3 (.int .i64 S[i].2.2)))) rfl ?_
  exact ⟨rfl, Below.setCell (Below.setCell (Below.setCell (Below.setCell hxw (by simp) _) (by simp) _) (by simp) _) (by simp) _⟩

end Go.Proofs.Ytdkhondfahebnaa
