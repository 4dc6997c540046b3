/- Parts of a proof, laid together: Nl, Ve, Fs, Pc, Hp, Is, Ln, Nr, F1, Be, Nm, Es. Each part says its own conditions. -/
import Derived.Test.YtdkhondfahebnaaBt
import Derived.Test.YtdkhondfahebnaaKn
import Derived.Test.YtdkhondfahebnaaEg
import Derived.Test.YtdkhondfahebnaaIv
import Derived.Test.YtdkhondfahebnaaIn
import Derived.Test.YtdkhondfahebnaaNb
import Derived.Test.YtdkhondfahebnaaFr
import Derived.Laws.Bits128
import Derived.Test.YtdkhondfahebnaaBw
import Derived.Test.YtdkhondfahebnaaPu
import Derived.ChangeKeysEq
/- A NIL GRAPH. Conditions: see each theorem. -/
namespace Go.Proofs.Ytdkhondfahebnaa
open Go Go.RowKit
attribute [local go_sem] qUpon lUpon

theorem equalIn_nil_ptr {P : Program} {t e : TypeId} (h : P.underlying t = some (.pointer e)) (d : Nat) (a : Addr) (w : World) : (Op.equalIn (d + 1) t (.pointer none) (.pointer (some a))).run P w = .ok false w := by
  simp [Op.equalIn, run_underlying h]
set_option maxRecDepth 100000 in
theorem run_eql_nil_ptr (a : Addr) (w : World) : (binOp .eql 23 (.pointer none) (.pointer (some a))).run Try.prog w = .ok (.bool false) w := by
  have h : (Op.equal 23 (.pointer none) (.pointer (some a))).run Try.prog w = .ok false w := equalIn_nil_ptr Try.underlying23 9999 a w
  simp only [binOp]
  simp [h]
attribute [local go_sem] run_eql_nil_ptr
set_option maxRecDepth 100000 in
theorem inverse_nil (op u v lab wt : Int) (w : World) :
    Calls Try.prog 25 #[.pointer none, .agg #[.int .i64 op, .int .i64 u, .int .i64 v, .int .u8 lab, .int .i64 wt]] w fun e w' => e = .returned (.tuple #[.slice none 0 0, .int .i64 1]) ∧ Ext w w' := by
  go_enter Try.func25, Try.ntmps25
  go_wp2_with fail
  go_ret2
  exact ⟨rfl, ext_self1 _ _⟩
set_option maxRecDepth 100000 in
theorem len_nil (w : World) :
    Calls Try.prog 27 #[.pointer none] w fun e w' => e = .returned (.tuple #[.int .i64 0, .int .i64 0]) ∧ Ext w w' := by
  go_enter Try.func27, Try.ntmps27
  go_wp2_with fail
  go_ret2
  exact ⟨rfl, Ext.refl _⟩
set_option maxRecDepth 100000 in
theorem apply_nil (op u v lab wt : Int) (w : World) :
    Calls Try.prog 13 #[.pointer none, .agg #[.int .i64 op, .int .i64 u, .int .i64 v, .int .u8 lab, .int .i64 wt]] w fun e w' => e = .returned (.int .i64 1) ∧ Ext w w' := by
  go_enter Try.func13, Try.ntmps13
  go_wp2_with fail
  go_ret
  exact ⟨rfl, ext_self1 _ _⟩
set_option maxRecDepth 100000 in
theorem vertices_nil (w : World) :
    Calls Try.prog 23 #[.pointer none] w fun e w' => e = .returned (.slice none 0 0) ∧ Ext w w' := by
  go_enter Try.func23, Try.ntmps23
  go_wp2_with fail
  go_ret
  exact ⟨rfl, Ext.refl _⟩
set_option maxRecDepth 100000 in
theorem edges_nil (w : World) :
    Calls Try.prog 24 #[.pointer none] w fun e w' => e = .returned (.slice none 0 0) ∧ Ext w w' := by
  go_enter Try.func24, Try.ntmps24
  go_wp2_with fail
  go_ret
  exact ⟨rfl, Ext.refl _⟩
set_option maxRecDepth 100000 in
theorem induced_nil (s : Array Value) (w : World) :
    Calls Try.prog 40 #[.pointer none, .agg s] w fun e w' => e = .returned (.pointer none) ∧ Ext w w' := by
  go_enter Try.func40, Try.ntmps40
  go_wp2_with fail
  go_ret
  exact ⟨rfl, ext_self1 _ _⟩
set_option maxRecDepth 100000 in
theorem clone_nil (w : World) :
    Calls Try.prog 22 #[.pointer none] w fun e w' => e = .returned (.pointer none) ∧ Ext w w' := by
  go_enter Try.func22, Try.ntmps22
  go_wp2_with fail
  go_ret
  exact ⟨rfl, Ext.refl _⟩
set_option maxRecDepth 100000 in
theorem equal_nn (w : World) :
    Calls Try.prog 21 #[.pointer none, .pointer none] w fun e w' => e = .returned (.bool true) ∧ Ext w w' := by
  go_enter Try.func21, Try.ntmps21
  go_wp2_with fail
  go_ret
  exact ⟨rfl, Ext.refl _⟩
set_option maxRecDepth 100000 in
theorem equal_n (g : Nat) (w : World) :
    Calls Try.prog 21 #[.pointer none, .pointer (some ⟨g, 0, none⟩)] w fun e w' => e = .returned (.bool false) ∧ Ext w w' := by
  go_enter Try.func21, Try.ntmps21
  go_wp2_with fail
  go_ret
  exact ⟨rfl, Ext.refl _⟩

set_option maxRecDepth 100000 in
theorem edge_nil (u v : Int) (w : World) :
    Calls Try.prog 29 #[.pointer none, .int .i64 u, .int .i64 v] w fun e w' => e = .returned (.tuple #[.agg #[.int .i64 0, .int .i64 0, .int .u8 0, .int .i64 0], .int .i64 0, .bool false]) ∧ Ext w w' := by
  have hb0 := hide (Blk.new w 47 #[.int .i64 0, .int .i64 0, .int .u8 0, .int .i64 0])
  go_enter Try.func29, Try.ntmps29
  go_wp2_with (first
    | (go_at_call 57; refine (between_any _ _ _).mono ?_; rintro e w2 ⟨rfl, hx2⟩; have hx2' := hide hx2; clear hx2)
    | (go_at_call 24; refine (edges_nil _).mono ?_; rintro e w3 ⟨rfl, hx3⟩; have hq := (Blk.new w2 _ _).ext hx3; have c0 := hq.cell 0; have c1 := hq.cell 1; simp at c0 c1; have hx3' := hide hx3; have c0' := hide c0; have c1' := hide c1; clear hx3 hq c0 c1)
    | (go_at_call 58; refine (index_any none [] 0 (min u v) (max u v) w2.heap.size _ SlAt.nil (by simp) (unhide c0') (unhide c1')).mono ?_; rw [show posI (isX (min u v) (max u v)) ([] : List ((Int × Int) × Thing)) = -1 from rfl]; rintro e w4 ⟨rfl, hx4⟩; have hx4' := hide hx4; have hb4 := ((((unhide hb0).ext (unhide hx2')).ext (ext_self1 _ _)).ext (unhide hx3')).ext hx4; have s0 := hb4.cell 0; have s1 := hb4.cell 1; have s2 := hb4.cell 2; have s3 := hb4.cell 3; have f0 := hb4.frozen 0; have f1 := hb4.frozen 1; have f2 := hb4.frozen 2; have f3 := hb4.frozen 3; simp at s0 s1 s2 s3; have hb4' := hide hb4; clear hx4 hb4))
  have hb4 := unhide hb4'
  have hxw : Ext w w4 := (((ext_self1 _ _).trans (unhide hx2')).trans (ext_self1 _ _)).trans ((unhide hx3').trans (unhide hx4'))
  refine bodyPost_ret (ret_cell3 rfl rfl (load_Ed _ w.heap.size _ _ _ _ ((((hb4.set 0 (.int .i64 0)).set 1 (.int .i64 0)).set 2 (.int .u8 0)).set 3 (.int .i64 0)))) rfl ?_
  exact ⟨rfl, Below.setCell (Below.setCell (Below.setCell (Below.setCell hxw (by simp) _) (by simp) _) (by simp) _) (by simp) _⟩
theorem load_Ver (W : World) (b : Nat) (p q r : Value) (h : Blk W b 44 #[p, q, r]) : (loadVar 44 ⟨b, 0, none⟩).run Try.prog W = .ok (.agg #[p, q, r]) W := by
  have h0 := h.cell 0
  have h1 := h.cell 1
  have h2 := h.cell 2
  simp at h0 h1 h2
  simp [loadVar, h0, h1, h2, go_sem]
set_option maxRecDepth 100000 in
theorem vertex_nil (u : Int) (w : World) :
    Calls Try.prog 28 #[.pointer none, .int .i64 u] w fun e w' => e = .returned (.tuple #[.agg #[.int .i64 0, .int .u8 0, .int .i64 0], .bool false]) ∧ Ext w w' := by
  have hb := Blk.new w 44 #[.int .i64 0, .int .u8 0, .int .i64 0]
  have s0 := hb.cells 0 (v := .int .i64 0) rfl
  have s1 := hb.cells 1 (v := .int .u8 0) rfl
  have s2 := hb.cells 2 (v := .int .i64 0) rfl
  have f0 := hb.frozen 0
  have f1 := hb.frozen 1
  have f2 := hb.frozen 2
  have hself := Ext.refl (w.alloc (.cells #[.int .i64 0, .int .u8 0, .int .i64 0] 44))
  have hb' := hide hb
  clear hb
  go_enter Try.func28, Try.ntmps28
  go_wp2_with fail
  refine bodyPost_ret (ret_cell2 rfl rfl (load_Ver _ w.heap.size _ _ _ (unhide hb'))) rfl ?_
  exact ⟨rfl, ext_self1 _ _⟩
end Go.Proofs.Ytdkhondfahebnaa
/- graph.Vertex of a graph. Conditions: see each theorem. -/
namespace Go.Proofs.Ytdkhondfahebnaa
open Go Go.RowKit

theorem IsG.look1c {w : World} {g bv be : Nat} {V : List (Int × Thing)} {E : List ((Int × Int) × Thing)} (h : IsG w g bv be V E) {x : Int} (hx : i64ok x) : ∀ W, Ext w W → (Instr.lookup 87 (.map (some bv)) (.int .i64 x) true).run Try.prog W = .ok (.tuple #[evT ((lookM V x).getD (0, 0)), .bool (lookM V x).isSome]) W := by
  intro W hW
  obtain ⟨V', E', h1, hV, hE, hi⟩ := h
  rw [lookM_perm (sv_nodup hi.sv) hV]
  exact (h1.vs.ext hW).lookup2 keV Try.underlying87 (zeroT W) hx

set_option maxRecDepth 100000 in
set_option maxHeartbeats 4000000 in
theorem vertex_hit (g bv be : Nat) (V : List (Int × Thing)) (E : List ((Int × Int) × Thing)) (u : Int) (w : World) (hg : IsG w g bv be V E) (hu : i64ok u) (h0 : (lookM V u).isSome = true) :
    Calls Try.prog 28 #[.pointer (some ⟨g, 0, none⟩), .int .i64 u] w fun e w' => e = .returned (.tuple #[.agg #[.int .i64 u, .int .u8 ((lookM V u).getD (0, 0)).1, .int .i64 ((lookM V u).getD (0, 0)).2], .bool true]) ∧ Ext w w' := by
  have hb := Blk.new w 44 #[.int .i64 0, .int .u8 0, .int .i64 0]
  have hx1 := hide (ext_self1 w (.cells #[.int .i64 0, .int .u8 0, .int .i64 0] 44))
  have hg1 := hg.ext (unhide hx1)
  have g0 := hg1.ptr0
  have lk := hg1.look1c hu
  rw [h0] at lk
  have s0 := hb.cells 0 (v := .int .i64 0) rfl
  have s1 := hb.cells 1 (v := .int .u8 0) rfl
  have s2 := hb.cells 2 (v := .int .i64 0) rfl
  have f0 := hb.frozen 0
  have f1 := hb.frozen 1
  have f2 := hb.frozen 2
  have hself := Ext.refl (w.alloc (.cells #[.int .i64 0, .int .u8 0, .int .i64 0] 44))
  generalize (lookM V u).getD (0, 0) = t at *
  obtain ⟨tl, tw⟩ := t
  simp only [evT] at lk
  clear hb hg hg1 h0
  go_enter Try.func28, Try.ntmps28
  go_wp2_with fail
  refine bodyPost_ret (ret_cell2 rfl rfl (load_Ver _ w.heap.size _ _ _ ((Blk.new w _ _).ext (ext_self1 _ _)))) rfl ?_
  exact ⟨rfl, (ext_self1 _ _).trans (ext_self1 _ _)⟩

set_option maxRecDepth 100000 in
set_option maxHeartbeats 4000000 in
theorem vertex_miss (g bv be : Nat) (V : List (Int × Thing)) (E : List ((Int × Int) × Thing)) (u : Int) (w : World) (hg : IsG w g bv be V E) (hu : i64ok u) (h0 : (lookM V u).isSome = false) :
    Calls Try.prog 28 #[.pointer (some ⟨g, 0, none⟩), .int .i64 u] w fun e w' => e = .returned (.tuple #[.agg #[.int .i64 0, .int .u8 0, .int .i64 0], .bool false]) ∧ Ext w w' := by
  have hb := Blk.new w 44 #[.int .i64 0, .int .u8 0, .int .i64 0]
  have hx1 := hide (ext_self1 w (.cells #[.int .i64 0, .int .u8 0, .int .i64 0] 44))
  have hg1 := hg.ext (unhide hx1)
  have g0 := hg1.ptr0
  have lk := hg1.look1c hu
  rw [h0] at lk
  have s0 := hb.cells 0 (v := .int .i64 0) rfl
  have s1 := hb.cells 1 (v := .int .u8 0) rfl
  have s2 := hb.cells 2 (v := .int .i64 0) rfl
  have f0 := hb.frozen 0
  have f1 := hb.frozen 1
  have f2 := hb.frozen 2
  have hself := Ext.refl (w.alloc (.cells #[.int .i64 0, .int .u8 0, .int .i64 0] 44))
  generalize (lookM V u).getD (0, 0) = t at *
  obtain ⟨tl, tw⟩ := t
  simp only [evT] at lk
  clear hb hg hg1 h0
  go_enter Try.func28, Try.ntmps28
  go_wp2_with fail
  refine bodyPost_ret (ret_cell2 rfl rfl (load_Ver _ w.heap.size _ _ _ ((Blk.new w _ _).ext (ext_self1 _ _)))) rfl ?_
  exact ⟨rfl, (ext_self1 _ _).trans (ext_self1 _ _)⟩
end Go.Proofs.Ytdkhondfahebnaa
/- SETS OUT OF LISTS OF NUMBERS, AND OF A GRAPH: plain laws. No program in sight. Conditions: see each theorem. -/
namespace Go.Proofs.Ytdkhondfahebnaa
open Go Go.RowKit

theorem withS_bit (N : Nat) (x : Int) (k : Nat) : (withS N x).testBit k = (N.testBit k || (decide (k < 1024) && decide (x = (k : Int)))) := by
  unfold withS fitB
  by_cases h : 0 ≤ x ∧ x < 1024
  · rw [if_pos (by simp [h.1, h.2]), Nat.testBit_or, Nat.testBit_two_pow]
    congr 1
    rw [Bool.eq_iff_iff]
    simp only [Bool.and_eq_true, decide_eq_true_eq]
    omega
  · rw [if_neg (by simp; omega)]
    have : (decide (k < 1024) && decide (x = (k : Int))) = false := by
      rw [Bool.eq_false_iff]
      simp only [ne_eq, Bool.and_eq_true, decide_eq_true_eq]
      omega
    rw [this, Bool.or_false]
/-- the set of the numbers of a list -/
def fromS (L : List Int) : Nat := L.foldl withS 0
theorem fromS_next (L : List Int) (k : Nat) (h : k < L.length) : fromS (L.take (k + 1)) = withS (fromS (L.take k)) L[k] := by
  unfold fromS
  rw [List.take_succ_eq_append_getElem h, List.foldl_append, List.foldl_cons, List.foldl_nil]
theorem fold_bit (L : List Int) : ∀ (a k : Nat), (L.foldl withS a).testBit k = (a.testBit k || (decide (k < 1024) && decide ((k : Int) ∈ L))) := by
  induction L with
  | nil => intro a k; simp
  | cons x r ih =>
    intro a k
    rw [List.foldl_cons, ih, withS_bit, Bool.or_assoc]
    congr 1
    rw [Bool.eq_iff_iff]
    simp only [Bool.or_eq_true, Bool.and_eq_true, decide_eq_true_eq, List.mem_cons]
    constructor
    · rintro (h | h)
      · exact ⟨h.1, .inl h.2.symm⟩
      · exact ⟨h.1, .inr h.2⟩
    · rintro ⟨h1, h2 | h2⟩
      · exact .inl ⟨h1, h2.symm⟩
      · exact .inr ⟨h1, h2⟩
theorem fromS_bit (L : List Int) (k : Nat) : (fromS L).testBit k = (decide (k < 1024) && decide ((k : Int) ∈ L)) := by
  unfold fromS
  rw [fold_bit, Nat.zero_testBit, Bool.false_or]
theorem fromS_congr {L M : List Int} (h : ∀ x : Int, x ∈ L ↔ x ∈ M) : fromS L = fromS M := by
  apply Nat.eq_of_testBit_eq
  intro k
  rw [fromS_bit, fromS_bit]
  simp [h]
/-- VertexSet as a set of a list -/
theorem vS_eq (V : List (Int × Thing)) : vS V = fromS (V.map (·.1)) := by
  unfold vS fromS
  rw [List.foldl_map]
/-- the numbers that Neighbors adds -/
def nearL (id : Int) (E : List ((Int × Int) × Thing)) : List Int := E.flatMap fun e => if id = e.1.1 then [e.1.2] else if id = e.1.2 then [e.1.1] else []
theorem nearS_fold (id : Int) (E : List ((Int × Int) × Thing)) : ∀ a, E.foldl (nearF id) a = (nearL id E).foldl withS a := by
  induction E with
  | nil => intro a; rfl
  | cons e r ih =>
    intro a
    have h : nearL id (e :: r) = (if id = e.1.1 then [e.1.2] else if id = e.1.2 then [e.1.1] else []) ++ nearL id r := by unfold nearL; rw [List.flatMap_cons]
    rw [List.foldl_cons, ih, h, List.foldl_append]
    congr 1
    unfold nearF
    split
    · rfl
    · split <;> rfl
theorem nearS_eq (id : Int) (E : List ((Int × Int) × Thing)) : nearS id E = fromS (nearL id E) := nearS_fold id E 0
theorem mem_nearL {id x : Int} {E : List ((Int × Int) × Thing)} (hlo : ∀ e ∈ E, e.1.1 < e.1.2) : x ∈ nearL id E ↔ ∃ e ∈ E, e.1 = (min id x, max id x) := by
  unfold nearL
  rw [List.mem_flatMap]
  constructor
  · rintro ⟨e, he, h⟩
    have := hlo e he
    refine ⟨e, he, ?_⟩
    split at h
    · simp at h; apply Prod.ext <;> simp <;> omega
    · split at h
      · simp at h; apply Prod.ext <;> simp <;> omega
      · simp at h
  · rintro ⟨e, he, h⟩
    have hl := hlo e he
    rw [h] at hl
    simp at hl
    refine ⟨e, he, ?_⟩
    rw [h]
    simp
    by_cases h1 : id = min id x
    · rw [if_pos h1]; simp; omega
    · rw [if_neg h1, if_pos (by omega)]; simp; omega
/-- what ref.Near lists: the neighbours -/
def rnear (id : Int) (V : List (Int × Thing)) (E : List ((Int × Int) × Thing)) : List Int := (V.filter fun p => decide (0 ≤ posI (isE p.1 id) E)).map (·.1)
theorem rnear_eq {id : Int} {V : List (Int × Thing)} {E : List ((Int × Int) × Thing)} (hi : GInv V E) : fromS (rnear id V E) = nearS id E := by
  rw [nearS_eq]
  apply fromS_congr
  intro x
  rw [mem_nearL hi.lo]
  unfold rnear
  rw [List.mem_map]
  constructor
  · rintro ⟨p, hp, rfl⟩
    rw [List.mem_filter, decide_eq_true_eq, posI_nonneg] at hp
    obtain ⟨_, e, he, h⟩ := hp
    rw [isE_iff (hi.lo e he)] at h
    exact ⟨e, he, by rw [h]; apply Prod.ext <;> simp <;> omega⟩
  · rintro ⟨e, he, h⟩
    have hv : ∃ t, (x, t) ∈ V := by
      have h2 := hi.ends e he
      have hl := hi.lo e he
      rw [h] at h2 hl
      simp at hl
      by_cases hx : x = min id x
      · rw [← hx] at h2; exact h2.1
      · have : x = max id x := by omega
        rw [← this] at h2; exact h2.2
    obtain ⟨t, ht⟩ := hv
    refine ⟨(x, t), ?_, rfl⟩
    rw [List.mem_filter, decide_eq_true_eq, posI_nonneg]
    exact ⟨ht, e, he, by rw [isE_iff (hi.lo e he), h]; apply Prod.ext <;> simp <;> omega⟩
/-- what ref.Near lists: the edges -/
def ron (id : Int) (E : List ((Int × Int) × Thing)) (k : Nat) : List Int := ((List.range k).filter fun i => match E[i]? with | some e => incB id e | none => false).map fun (i : Nat) => (i : Int)
theorem ron_next (id : Int) (E : List ((Int × Int) × Thing)) (k : Nat) (h : k < E.length) : ron id E (k + 1) = if incB id E[k] then ron id E k ++ [(k : Int)] else ron id E k := by
  unfold ron
  rw [List.range_succ, List.filter_append, List.map_append]
  have : E[k]? = some E[k] := List.getElem?_eq_getElem h
  cases hb : incB id E[k] <;> simp [this, hb]
theorem ron_fold (id : Int) (E : List ((Int × Int) × Thing)) : ∀ k, k ≤ E.length → fromS (ron id E k) = incS id E k
  | 0, _ => rfl
  | k + 1, h => by
    have ih := ron_fold id E k (by omega)
    rw [ron_next id E k (by omega), incS_next id E k (by omega)]
    cases incB id E[k]
    · simpa using ih
    · simp only [if_true]
      unfold fromS at ih ⊢
      rw [List.foldl_append, ih, List.foldl_cons, List.foldl_nil]
theorem ron_eq (id : Int) (E : List ((Int × Int) × Thing)) : fromS (ron id E E.length) = incS id E E.length := ron_fold id E _ (Nat.le_refl _)
theorem ron_le (id : Int) (E : List ((Int × Int) × Thing)) (k : Nat) : (ron id E k).length ≤ k := by
  unfold ron
  rw [List.length_map]
  have := List.length_filter_le (fun i => match E[i]? with | some e => incB id e | none => false) (List.range k)
  simpa using this
/-- the places of the edge of two vertices: one law for graph.Edge and ref.Edge -/
theorem posI_congr {α : Type} {p q : α → Bool} : ∀ {l : List α}, (∀ x ∈ l, p x = q x) → posI p l = posI q l := by
  intro l h
  unfold posI
  have : l.findIdx? p = l.findIdx? q := by
    induction l with
    | nil => rfl
    | cons x r ih =>
      rw [List.findIdx?_cons, List.findIdx?_cons, h x (by simp), ih (fun y hy => h y (by simp [hy]))]
  rw [this]
theorem isX_isE {u v : Int} {q : (Int × Int) × Thing} (h : q.1.1 < q.1.2) : isX (min u v) (max u v) q = isE u v q := by
  rw [Bool.eq_iff_iff, isE_iff h]
  unfold isX
  simp only [Bool.and_eq_true, beq_iff_eq]
  constructor
  · intro h; exact Prod.ext h.1 h.2
  · intro h; rw [h]; exact ⟨rfl, rfl⟩
theorem posX_posE {u v : Int} {E : List ((Int × Int) × Thing)} (hlo : ∀ e ∈ E, e.1.1 < e.1.2) : posI (isX (min u v) (max u v)) E = posI (isE u v) E := posI_congr fun x hx => isX_isE (hlo x hx)
theorem posI_cases {α : Type} (p : α → Bool) (l : List α) : posI p l = -1 ∧ (∀ x ∈ l, p x = false) ∨ ∃ i, ∃ h : i < l.length, posI p l = (i : Int) ∧ p l[i] = true := by
  unfold posI
  cases hf : l.findIdx? p with
  | none => exact .inl ⟨rfl, by simpa [List.findIdx?_eq_none_iff] using hf⟩
  | some i =>
    obtain ⟨h, hp, _⟩ := List.findIdx?_eq_some_iff_getElem.1 hf
    exact .inr ⟨i, h, rfl, hp⟩
theorem find_look {u : Int} {V : List (Int × Thing)} (hs : V.Pairwise ltV) : (lookM V u).isSome = false ∧ posI (fun p : Int × Thing => p.1 == u) V = -1 ∨ ∃ i, ∃ h : i < V.length, (lookM V u).isSome = true ∧ posI (fun p : Int × Thing => p.1 == u) V = (i : Int) ∧ V[i] = (u, (lookM V u).getD (0, 0)) := by
  rcases posI_cases (fun p : Int × Thing => p.1 == u) V with ⟨h1, h2⟩ | ⟨i, hi, h1, h2⟩
  · refine .inl ⟨?_, h1⟩
    rw [Bool.eq_false_iff]
    intro h
    obtain ⟨p, hp, h3⟩ := lookM_isSome.1 h
    have := h2 p hp
    simp [h3] at this
  · refine .inr ⟨i, hi, ?_, h1, ?_⟩
    · exact lookM_isSome.2 ⟨V[i], List.getElem_mem hi, by simpa using h2⟩
    · have h3 : V[i].1 = u := by simpa using h2
      have h4 : lookM V u = some V[i].2 := (lookM_some (sv_nodup hs)).2 (by rw [← h3]; exact List.getElem_mem hi)
      rw [h4, ← h3]
      rfl
end Go.Proofs.Ytdkhondfahebnaa
/- COUNTING BITS: what bits.OnesCount64 computes, and how many elements a set has. No program in sight. Conditions: see each theorem. -/
namespace Go.Proofs.Ytdkhondfahebnaa

theorem and_split {a c : Nat} (b d : Nat) (ha : a < 256) (hc : c < 256) : (a + 256 * b) &&& (c + 256 * d) = (a &&& c) + 256 * (b &&& d) := by
  have hac : (a &&& c) < 2 ^ 8 := Nat.lt_of_le_of_lt Nat.and_le_left (by omega)
  apply Nat.eq_of_testBit_eq
  intro k
  rw [show a + 256 * b = 2 ^ 8 * b + a by omega, show c + 256 * d = 2 ^ 8 * d + c by omega, show (a &&& c) + 256 * (b &&& d) = 2 ^ 8 * (b &&& d) + (a &&& c) by omega]
  rw [Nat.testBit_and, Nat.testBit_two_pow_mul_add _ (by omega), Nat.testBit_two_pow_mul_add _ (by omega), Nat.testBit_two_pow_mul_add _ hac]
  by_cases hk : k < 8 <;> simp [hk]

def g1 (a : Nat) : Nat := ((a / 2) &&& 85) + (a &&& 85)
def g2 (a : Nat) : Nat := ((a / 4) &&& 51) + (a &&& 51)
def g3 (a : Nat) : Nat := ((a / 16) + a) &&& 15
def F1 (M x : Nat) : Nat := ((x / 2) &&& M) + (x &&& M)
def F2 (M x : Nat) : Nat := ((x / 4) &&& M) + (x &&& M)
def F3 (M x : Nat) : Nat := ((x / 16) + x) &&& M
theorem F1_split {a : Nat} (b M : Nat) (ha : a < 256) : F1 (85 + 256 * M) (a + 256 * b) = g1 a + 256 * F1 M b := by
  unfold F1 g1
  have h : (a / 2 + 128 * (b % 2)) &&& 85 = (a / 2) &&& 85 := by
    have : ∀ a < 256, ∀ c < 2, (a / 2 + 128 * c) &&& 85 = (a / 2) &&& 85 := by decide +kernel
    exact this a ha _ (by omega)
  rw [show (a + 256 * b) / 2 = (a / 2 + 128 * (b % 2)) + 256 * (b / 2) by omega, and_split _ _ (by omega) (by omega), and_split _ _ ha (by omega), h]
  omega
theorem F2_split {a : Nat} (b M : Nat) (ha : a < 256) : F2 (51 + 256 * M) (a + 256 * b) = g2 a + 256 * F2 M b := by
  unfold F2 g2
  have h : (a / 4 + 64 * (b % 4)) &&& 51 = (a / 4) &&& 51 := by
    have : ∀ a < 256, ∀ c < 4, (a / 4 + 64 * c) &&& 51 = (a / 4) &&& 51 := by decide +kernel
    exact this a ha _ (by omega)
  rw [show (a + 256 * b) / 4 = (a / 4 + 64 * (b % 4)) + 256 * (b / 4) by omega, and_split _ _ (by omega) (by omega), and_split _ _ ha (by omega), h]
  omega
theorem F3_split {a : Nat} (b M : Nat) (h1 : a % 16 ≤ 4) (h2 : a / 16 ≤ 4) (hb : b % 16 ≤ 4) : F3 (15 + 256 * M) (a + 256 * b) = g3 a + 256 * F3 M b := by
  unfold F3 g3
  have h : (a / 16 + 16 * (b % 16) + a) &&& 15 = (a / 16 + a) &&& 15 := by
    rw [show (15 : Nat) = 2 ^ 4 - 1 from rfl, Nat.and_two_pow_sub_one_eq_mod, Nat.and_two_pow_sub_one_eq_mod]
    omega
  rw [show (a + 256 * b) / 16 + (a + 256 * b) = (a / 16 + 16 * (b % 16) + a) + 256 * (b / 16 + b) by omega, and_split _ _ (by omega) (by omega), h]
def pc8 (a : Nat) : Nat := g3 (g2 (g1 a))
theorem g1_lt {a : Nat} (h : a < 256) : g1 a < 256 := by
  have : ∀ a < 256, g1 a < 256 := by decide +kernel
  exact this a h
theorem g2_lt {a : Nat} (h : a < 256) : g2 (g1 a) % 16 ≤ 4 ∧ g2 (g1 a) / 16 ≤ 4 := by
  have : ∀ a < 256, g2 (g1 a) % 16 ≤ 4 ∧ g2 (g1 a) / 16 ≤ 4 := by decide +kernel
  exact this a h
theorem pc8_le {a : Nat} (h : a < 256) : pc8 a ≤ 8 := by
  have : ∀ a < 256, pc8 a ≤ 8 := by decide +kernel
  exact this a h
/-- the bytes' counts, each in its byte -/
def M55 : Nat → Nat
  | 0 => 0
  | n + 1 => 85 + 256 * M55 n
def M33 : Nat → Nat
  | 0 => 0
  | n + 1 => 51 + 256 * M33 n
def M0f : Nat → Nat
  | 0 => 0
  | n + 1 => 15 + 256 * M0f n
def pcB : Nat → Nat → Nat
  | 0, _ => 0
  | n + 1, x => pc8 (x % 256) + 256 * pcB n (x / 256)
def H2 (n x : Nat) : Nat := F2 (M33 n) (F1 (M55 n) x)
theorem H2_zero (x : Nat) : H2 0 x = 0 := by
  unfold H2 F2 F1 M33 M55
  simp
theorem H2_succ (n x : Nat) : H2 (n + 1) x = g2 (g1 (x % 256)) + 256 * H2 n (x / 256) := by
  have e : x = x % 256 + 256 * (x / 256) := by omega
  have h1 : F1 (M55 (n + 1)) x = g1 (x % 256) + 256 * F1 (M55 n) (x / 256) := by
    have h := F1_split (x / 256) (M55 n) (a := x % 256) (by omega)
    rw [← e] at h
    exact h
  unfold H2
  rw [h1]
  exact F2_split _ _ (g1_lt (by omega))
theorem H2_low (n x : Nat) : H2 n x % 16 ≤ 4 := by
  cases n with
  | zero => rw [H2_zero]; omega
  | succ n =>
    rw [H2_succ]
    have := (g2_lt (a := x % 256) (by omega)).1
    omega
theorem H3_eq : ∀ n x, F3 (M0f n) (H2 n x) = pcB n x
  | 0, x => by rw [H2_zero]; rfl
  | n + 1, x => by
    have h := g2_lt (a := x % 256) (by omega)
    rw [H2_succ]
    show F3 (15 + 256 * M0f n) _ = _
    rw [F3_split _ _ h.1 h.2 (H2_low n _), H3_eq n]
    rfl
/-- how many of the first bits are set -/
def cntF (N : Nat) : Nat → Nat
  | 0 => 0
  | k + 1 => cntF N k + (N.testBit k).toNat
theorem cntF_add (N a b : Nat) : cntF N (a + b) = cntF N a + cntF (N >>> a) b := by
  induction b with
  | zero => rfl
  | succ b ih =>
    rw [← Nat.add_assoc]
    show cntF N (a + b) + _ = _
    rw [ih]
    show _ = cntF N a + (cntF (N >>> a) b + _)
    rw [Nat.testBit_shiftRight]
    omega
theorem cntF_congr {N M : Nat} : ∀ n, (∀ k, k < n → N.testBit k = M.testBit k) → cntF N n = cntF M n
  | 0, _ => rfl
  | n + 1, h => by
    show cntF N n + _ = cntF M n + _
    rw [cntF_congr n (fun k hk => h k (by omega)), h n (by omega)]
theorem pc8_cnt {a : Nat} (h : a < 256) : pc8 a = cntF a 8 := by
  have : ∀ a < 256, pc8 a = cntF a 8 := by decide +kernel
  exact this a h
/-- the sum of the bytes of a number -/
def sumB : Nat → Nat → Nat
  | 0, _ => 0
  | n + 1, x => x % 256 + sumB n (x / 256)
theorem sumB_pcB : ∀ n x, sumB n (pcB n x) = cntF x (8 * n)
  | 0, _ => rfl
  | n + 1, x => by
    have h8 := pc8_le (a := x % 256) (by omega)
    show (pc8 (x % 256) + 256 * pcB n (x / 256)) % 256 + sumB n ((pc8 (x % 256) + 256 * pcB n (x / 256)) / 256) = _
    rw [show (pc8 (x % 256) + 256 * pcB n (x / 256)) % 256 = pc8 (x % 256) by omega, show (pc8 (x % 256) + 256 * pcB n (x / 256)) / 256 = pcB n (x / 256) by omega, sumB_pcB n, pc8_cnt (by omega)]
    rw [show 8 * (n + 1) = 8 + 8 * n by omega, cntF_add, Nat.shiftRight_eq_div_pow]
    congr 1
    apply cntF_congr
    intro k hk
    rw [show (256 : Nat) = 2 ^ 8 from rfl, Nat.testBit_mod_two_pow]
    simp [hk]
theorem pcB_bytes : ∀ n x, ∀ i, pcB n x / 256 ^ i % 256 ≤ 8
  | 0, _, i => by
    show 0 / 256 ^ i % 256 ≤ 8
    rw [Nat.zero_div]; omega
  | n + 1, x, 0 => by
    have h8 := pc8_le (a := x % 256) (by omega)
    show (pc8 (x % 256) + 256 * pcB n (x / 256)) / 1 % 256 ≤ 8
    omega
  | n + 1, x, i + 1 => by
    have h8 := pc8_le (a := x % 256) (by omega)
    have ih := pcB_bytes n (x / 256) i
    show (pc8 (x % 256) + 256 * pcB n (x / 256)) / 256 ^ (i + 1) % 256 ≤ 8
    rw [Nat.pow_succ', ← Nat.div_div_eq_div_mul, show (pc8 (x % 256) + 256 * pcB n (x / 256)) / 256 = pcB n (x / 256) by omega]
    exact ih
theorem pcB_lt : ∀ n x, pcB n x < 256 ^ n
  | 0, _ => by show 0 < 1; omega
  | n + 1, x => by
    have h8 := pc8_le (a := x % 256) (by omega)
    have ih := pcB_lt n (x / 256)
    show pc8 (x % 256) + 256 * pcB n (x / 256) < 256 ^ (n + 1)
    rw [Nat.pow_succ']
    omega
/-- the last three steps -/
theorem fold_bytes (a0 a1 a2 a3 a4 a5 a6 a7 y0 y1 y2 y3 y4 y5 y6 y7 : Nat) (e0 : a0 = y0 + 256 * a1) (e1 : a1 = y1 + 256 * a2) (e2 : a2 = y2 + 256 * a3) (e3 : a3 = y3 + 256 * a4) (e4 : a4 = y4 + 256 * a5) (e5 : a5 = y5 + 256 * a6) (e6 : a6 = y6 + 256 * a7) (e7 : a7 = y7)
    (h0 : y0 ≤ 8) (h1 : y1 ≤ 8) (h2 : y2 ≤ 8) (h3 : y3 ≤ 8) (h4 : y4 ≤ 8) (h5 : y5 ≤ 8) (h6 : y6 ≤ 8) (h7 : y7 ≤ 8) :
    a0 / 256 = a1 ∧ (a0 + a1) / 65536 = a2 + a3 ∧ (a0 + a1 + (a2 + a3)) / 4294967296 = a4 + a5 + a6 + a7 ∧ (a0 + a1 + (a2 + a3)) + (a4 + a5 + a6 + a7) < 18446744073709551616 ∧
      ((a0 + a1 + (a2 + a3)) + (a4 + a5 + a6 + a7)) % 128 = y0 + y1 + y2 + y3 + y4 + y5 + y6 + y7 := by
  have f0 : a0 = (y0 + 256 * y1) + 65536 * a2 := by omega
  have f1 : a1 = (y1 + 256 * y2) + 65536 * a3 := by omega
  have f2 : a2 = (y2 + 256 * y3) + 65536 * a4 := by omega
  have f3 : a3 = (y3 + 256 * y4) + 65536 * a5 := by omega
  have b4 : a7 ≤ 8 := by omega
  have b5 : a6 ≤ 2056 := by omega
  have b6 : a5 ≤ 526344 := by omega
  have b7 : a4 ≤ 134744072 := by omega
  have b8 : a3 ≤ 34494482440 := by omega
  have b9 : a2 ≤ 8830587504648 := by omega
  have b10 : a1 ≤ 2260630401189896 := by omega
  have b11 : a0 ≤ 578721382704613384 := by omega
  refine ⟨by clear f0 f1 f2 f3 e1 e2 e3 e4 e5 e6 e7 b4 b5 b6 b7 b8 b9 b10 b11; omega, ?_, ?_, ?_, ?_⟩
  · clear e0 e1 e2 e3 e4 e5 e6 e7 f2 f3 b4 b5 b6 b7 b8 b9 b10 b11
    omega
  · have f4 : a4 = (y4 + 256 * y5) + 65536 * a6 := by omega
    have f5 : a5 = (y5 + 256 * y6) + 65536 * a7 := by omega
    clear e0 e1 e2 e3 e4 e5 e6 e7 b4 b5 b6 b7 b8 b9 b10 b11
    have g0 : ∃ l, l ≤ 134744072 ∧ a0 = l + 4294967296 * a4 := ⟨y0 + 256 * y1 + 65536 * (y2 + 256 * y3), by omega, by omega⟩
    have g1 : ∃ l, l ≤ 134744072 ∧ a1 = l + 4294967296 * a5 := ⟨y1 + 256 * y2 + 65536 * (y3 + 256 * y4), by omega, by omega⟩
    have g2 : ∃ l, l ≤ 134744072 ∧ a2 = l + 4294967296 * a6 := ⟨y2 + 256 * y3 + 65536 * (y4 + 256 * y5), by omega, by omega⟩
    have g3 : ∃ l, l ≤ 134744072 ∧ a3 = l + 4294967296 * a7 := ⟨y3 + 256 * y4 + 65536 * (y5 + 256 * y6), by omega, by omega⟩
    clear f0 f1 f2 f3 f4 f5
    obtain ⟨l0, k0, j0⟩ := g0
    obtain ⟨l1, k1, j1⟩ := g1
    obtain ⟨l2, k2, j2⟩ := g2
    obtain ⟨l3, k3, j3⟩ := g3
    omega
  · clear e0 e1 e2 e3 e4 e5 e6 e7 f0 f1 f2 f3
    omega
  · have hS : (a0 + a1 + (a2 + a3)) + (a4 + a5 + a6 + a7) = (y0 + y1 + y2 + y3 + y4 + y5 + y6 + y7) + 128 * (2 * (a1 + a2 + a3 + a4 + a5 + a6 + a7)) := by
      clear f0 f1 f2 f3 b4 b5 b6 b7 b8 b9 b10 b11
      omega
    rw [hS]
    generalize a1 + a2 + a3 + a4 + a5 + a6 + a7 = t
    clear e0 e1 e2 e3 e4 e5 e6 e7 f0 f1 f2 f3 b4 b5 b6 b7 b8 b9 b10 b11 hS
    omega
theorem div_step (z k m : Nat) (h : k * 256 = m) : z / k = z / k % 256 + 256 * (z / m) := by
  rw [← h, ← Nat.div_div_eq_div_mul]
  omega
/-- the whole: what the text computes of a word -/
theorem ones_steps (x : Nat) (_hx : x < 18446744073709551616) :
    F1 6148914691236517205 x < 18446744073709551616 ∧ F2 3689348814741910323 (F1 6148914691236517205 x) < 18446744073709551616 ∧
    F2 3689348814741910323 (F1 6148914691236517205 x) / 16 + F2 3689348814741910323 (F1 6148914691236517205 x) < 18446744073709551616 ∧
    ∃ z, F3 1085102592571150095 (F2 3689348814741910323 (F1 6148914691236517205 x)) = z ∧ z < 18446744073709551616 ∧ z + z / 256 < 18446744073709551616 ∧ (z + z / 256) + (z + z / 256) / 65536 < 18446744073709551616 ∧ ((z + z / 256) + (z + z / 256) / 65536) + ((z + z / 256) + (z + z / 256) / 65536) / 4294967296 < 18446744073709551616 ∧
      (((z + z / 256) + (z + z / 256) / 65536) + ((z + z / 256) + (z + z / 256) / 65536) / 4294967296) % 128 = cntF x 64 := by
  have m1 : (6148914691236517205 : Nat) = M55 8 := by decide +kernel
  have m2 : (3689348814741910323 : Nat) = M33 8 := by decide +kernel
  have m3 : (1085102592571150095 : Nat) = M0f 8 := by decide +kernel
  have b1 : F1 6148914691236517205 x < 18446744073709551616 := by
    unfold F1
    have h1 : (x / 2) &&& 6148914691236517205 ≤ 6148914691236517205 := Nat.and_le_right
    have h2 : x &&& 6148914691236517205 ≤ 6148914691236517205 := Nat.and_le_right
    omega
  have b2 : F2 3689348814741910323 (F1 6148914691236517205 x) < 8198552921648689608 := by
    generalize F1 6148914691236517205 x = t
    unfold F2
    have h1 : (t / 4) &&& 3689348814741910323 ≤ 3689348814741910323 := Nat.and_le_right
    have h2 : t &&& 3689348814741910323 ≤ 3689348814741910323 := Nat.and_le_right
    omega
  refine ⟨b1, by omega, by omega, _, rfl, ?_⟩
  have hz : F3 1085102592571150095 (F2 3689348814741910323 (F1 6148914691236517205 x)) = pcB 8 x := by
    rw [m1, m2, m3]
    exact H3_eq 8 x
  rw [hz]
  have hlt : pcB 8 x < 18446744073709551616 := by
    have := pcB_lt 8 x
    rw [show (256 : Nat) ^ 8 = 18446744073709551616 by decide +kernel] at this
    exact this
  have hs := sumB_pcB 8 x
  have hb := pcB_bytes 8 x
  generalize pcB 8 x = z at *
  have q0 := hb 0
  have q1 := hb 1
  have q2 := hb 2
  have q3 := hb 3
  have q4 := hb 4
  have q5 := hb 5
  have q6 := hb 6
  have q7 := hb 7
  simp only [Nat.reducePow, Nat.div_one] at q0 q1 q2 q3 q4 q5 q6 q7
  have hs' : z % 256 + (z / 256 % 256 + (z / 65536 % 256 + (z / 16777216 % 256 + (z / 4294967296 % 256 + (z / 1099511627776 % 256 + (z / 281474976710656 % 256 + (z / 72057594037927936 % 256))))))) = cntF x 64 := by
    rw [← hs]
    show _ = z % 256 + (z / 256 % 256 + (z / 256 / 256 % 256 + (z / 256 / 256 / 256 % 256 + (z / 256 / 256 / 256 / 256 % 256 + (z / 256 / 256 / 256 / 256 / 256 % 256 + (z / 256 / 256 / 256 / 256 / 256 / 256 % 256 + (z / 256 / 256 / 256 / 256 / 256 / 256 / 256 % 256 + 0)))))))
    simp only [Nat.div_div_eq_div_mul, Nat.reduceMul, Nat.add_zero]
  have hf := fold_bytes z (z / 256) (z / 65536) (z / 16777216) (z / 4294967296) (z / 1099511627776) (z / 281474976710656) (z / 72057594037927936) (z % 256) (z / 256 % 256) (z / 65536 % 256) (z / 16777216 % 256) (z / 4294967296 % 256) (z / 1099511627776 % 256) (z / 281474976710656 % 256) (z / 72057594037927936 % 256) (Nat.mod_add_div z 256).symm (div_step z 256 65536 rfl) (div_step z 65536 16777216 rfl) (div_step z 16777216 4294967296 rfl) (div_step z 4294967296 1099511627776 rfl) (div_step z 1099511627776 281474976710656 rfl) (div_step z 281474976710656 72057594037927936 rfl) (Nat.mod_eq_of_lt (Nat.div_lt_of_lt_mul hlt)).symm q0 q1 q2 q3 q4 q5 q6 q7
  obtain ⟨_, f1, f2, f3, f4⟩ := hf
  rw [f1, f2]
  refine ⟨hlt, Nat.lt_of_le_of_lt ?_ f3, Nat.lt_of_le_of_lt ?_ f3, f3, by rw [f4, ← hs']; simp only [Nat.add_assoc]⟩
  · rw [Nat.add_assoc]; exact Nat.le_add_right _ _
  · exact Nat.le_add_right _ _
/-- a set's elements, word by word -/
theorem cnt_word (N i : Nat) : cntF (wdN N i) 64 = cntF (N >>> (64 * i)) 64 := by
  apply cntF_congr
  intro k hk
  rw [wdN_bit, Nat.testBit_shiftRight]
  simp [hk]
theorem cnt_words (N i : Nat) : cntF N (64 * (i + 1)) = cntF N (64 * i) + cntF (wdN N i) 64 := by
  rw [show 64 * (i + 1) = 64 * i + 64 by omega, cntF_add, cnt_word]
theorem cntF_le (N : Nat) : ∀ n, cntF N n ≤ n
  | 0 => Nat.le_refl _
  | n + 1 => by
    have := cntF_le N n
    show cntF N n + (N.testBit n).toNat ≤ n + 1
    cases N.testBit n <;> simp <;> omega
/-- the elements of a set out of a list without repetition -/
theorem cntF_zero : ∀ n, cntF 0 n = 0
  | 0 => rfl
  | n + 1 => by
    show cntF 0 n + ((0 : Nat).testBit n).toNat = 0
    rw [cntF_zero n, Nat.zero_testBit]
    rfl
theorem cntF_with (N x : Nat) (h0 : N.testBit x = false) : ∀ n, cntF (N ||| 2 ^ x) n = cntF N n + if x < n then 1 else 0
  | 0 => rfl
  | n + 1 => by
    show cntF (N ||| 2 ^ x) n + _ = cntF N n + _ + _
    rw [cntF_with N x h0 n, Nat.testBit_or, Nat.testBit_two_pow]
    by_cases hx : x = n
    · subst hx
      rw [h0]
      simp
    · rw [show decide (x = n) = false by simp [hx], Bool.or_false]
      by_cases hl : x < n
      · rw [if_pos hl, if_pos (by omega)]
        omega
      · rw [if_neg hl, if_neg (by omega)]
        omega
theorem cnt_fold : ∀ (L : List Int) (N : Nat), (∀ x ∈ L, 0 ≤ x ∧ x < 1024 ∧ N.testBit x.toNat = false) → L.Nodup → cntF (L.foldl withS N) 1024 = cntF N 1024 + L.length
  | [], N, _, _ => by rw [List.foldl_nil, List.length_nil, Nat.add_zero]
  | x :: r, N, h, hn => by
    have hx := h x (by simp)
    have hw : withS N x = N ||| 2 ^ x.toNat := by
      unfold withS fitB
      rw [if_pos (by simp [hx.1, hx.2.1])]
    rw [List.foldl_cons, cnt_fold r (withS N x) ?_ (List.nodup_cons.1 hn).2, hw, cntF_with N _ hx.2.2, if_pos (by omega), List.length_cons]
    · omega
    · intro y hy
      have h2 := h y (by simp [hy])
      refine ⟨h2.1, h2.2.1, ?_⟩
      rw [withS_bit, h2.2.2, Bool.false_or]
      have hne : x ≠ y := by
        intro e
        subst e
        exact (List.nodup_cons.1 hn).1 hy
      have : decide (x = (y.toNat : Int)) = false := by
        rw [decide_eq_false_iff_not]
        omega
      rw [this, Bool.and_false]
theorem cnt_fromS {L : List Int} (h : ∀ x ∈ L, 0 ≤ x ∧ x < 1024) (hn : L.Nodup) : cntF (fromS L) 1024 = L.length := by
  unfold fromS
  rw [cnt_fold L 0 (fun x hx => ⟨(h x hx).1, (h x hx).2, Nat.zero_testBit _⟩) hn, cntF_zero]
  omega
end Go.Proofs.Ytdkhondfahebnaa
/- THE HANDSHAKE, plain: degrees, symmetry, places of edges. No program in sight. Conditions: see each theorem. -/
namespace Go.Proofs.Ytdkhondfahebnaa
open Go Go.RowKit

theorem near_bit {E : List ((Int × Int) × Thing)} (hlo : ∀ e ∈ E, e.1.1 < e.1.2) (a b : Int) : (fitB b && (nearS a E).testBit b.toNat) = decide (fitB b = true ∧ ∃ e ∈ E, e.1 = (min a b, max a b)) := by
  rw [nearS_eq, fromS_bit]
  by_cases hb : fitB b = true
  · have h0 : 0 ≤ b ∧ b < 1024 := by simpa [fitB] using hb
    rw [hb, Bool.true_and, decide_eq_true (show b.toNat < 1024 by omega), Bool.true_and]
    have h1 : ((b.toNat : Nat) : Int) = b := by omega
    rw [Bool.eq_iff_iff, decide_eq_true_eq, decide_eq_true_eq, h1, mem_nearL hlo]
    simp
  · have h : fitB b = false := by simpa using hb
    rw [h]
    simp
theorem near_sym {V : List (Int × Thing)} {E : List ((Int × Int) × Thing)} (hi : GInv V E) {a b : Int} (ha : idB a = true) (hb : idB b = true) : (fitB b && (nearS a E).testBit b.toNat) = (fitB a && (nearS b E).testBit a.toNat) := by
  have ha' : fitB a = true := ha
  have hb' : fitB b = true := hb
  rw [near_bit hi.lo, near_bit hi.lo, Int.min_comm, Int.max_comm, ha', hb']
theorem inc_bit {E : List ((Int × Int) × Thing)} (id : Int) (k : Nat) (hk : k < E.length) (hl : E.length ≤ 1024) (h : incB id E[k] = true) : (fitB (k : Int) && (incS id E E.length).testBit ((k : Nat) : Int).toNat) = true := by
  rw [← ron_eq, fromS_bit, Int.toNat_natCast]
  have h1 : fitB (k : Int) = true := by simp [fitB]; omega
  rw [h1, Bool.true_and, decide_eq_true (show k < 1024 by omega), Bool.true_and, decide_eq_true_eq]
  unfold ron
  rw [List.mem_map]
  refine ⟨k, ?_, rfl⟩
  rw [List.mem_filter]
  exact ⟨List.mem_range.2 hk, by rw [List.getElem?_eq_getElem hk]; exact h⟩
theorem nodup_get {κ : Type} {l : List κ} (h : l.Nodup) {i j : Nat} (hi : i < l.length) (hj : j < l.length) (e : l[i] = l[j]) : i = j := by
  have hp := List.pairwise_iff_getElem.1 (List.nodup_iff_pairwise_ne.1 h)
  rcases Nat.lt_trichotomy i j with hl | hl | hl
  · exact absurd e (hp i j hi hj hl)
  · exact hl
  · exact absurd e.symm (hp j i hj hi hl)
theorem pos_at {V : List (Int × Thing)} {E : List ((Int × Int) × Thing)} (hg : GInv V E) {i : Nat} (hi : i < E.length) : posI (isE E[i].1.2 E[i].1.1) E = (i : Int) := by
  have hlo := hg.lo E[i] (List.getElem_mem hi)
  have key : ∀ j (hj : j < E.length), isE E[i].1.2 E[i].1.1 E[j] = true ↔ j = i := by
    intro j hj
    rw [isE_iff (hg.lo E[j] (List.getElem_mem hj))]
    constructor
    · intro h
      have hk : (E.map (·.1))[j]'(by simpa using hj) = (E.map (·.1))[i]'(by simpa using hi) := by
        rw [List.getElem_map, List.getElem_map, h]
        apply Prod.ext <;> simp <;> omega
      exact nodup_get (se_nodup hg.se) _ _ hk
    · intro h
      subst h
      apply Prod.ext <;> simp <;> omega
  refine posI_hit hi ((key i hi).2 rfl) fun j hj => ?_
  rw [Bool.eq_false_iff]
  intro h
  have := (key j (by omega)).1 h
  omega
theorem inc_ends {E : List ((Int × Int) × Thing)} {i : Nat} (hi : i < E.length) : incB E[i].1.1 E[i] = true ∧ incB E[i].1.2 E[i] = true := by
  unfold incB
  simp
/-- how many edges a vertex has -/
def degE (v : Int) (E : List ((Int × Int) × Thing)) : Nat := (E.filter (incB v)).length
theorem ron_len (id : Int) (E : List ((Int × Int) × Thing)) : ∀ k, k ≤ E.length → (ron id E k).length = ((E.take k).filter (incB id)).length
  | 0, _ => rfl
  | k + 1, h => by
    have ih := ron_len id E k (by omega)
    rw [ron_next id E k (by omega), List.take_succ_eq_append_getElem (by omega), List.filter_append, List.length_append, ← ih]
    cases hb : incB id E[k] <;> simp [hb]
theorem ron_nodup (id : Int) (E : List ((Int × Int) × Thing)) (k : Nat) : (ron id E k).Nodup := by
  unfold ron
  rw [List.nodup_iff_pairwise_ne, List.pairwise_map]
  refine ((List.nodup_iff_pairwise_ne.1 (List.nodup_range (n := k))).filter _).imp ?_
  intro a b h e
  exact h (by omega)
theorem inc_cnt {E : List ((Int × Int) × Thing)} (id : Int) (hl : E.length ≤ 1024) : cntF (incS id E E.length) 1024 = degE id E := by
  rw [← ron_eq, cnt_fromS ?_ (ron_nodup id E _), ron_len id E _ (Nat.le_refl _), List.take_length]
  · rfl
  · intro x hx
    unfold ron at hx
    obtain ⟨k, hk, rfl⟩ := List.mem_map.1 hx
    have := List.mem_range.1 (List.mem_filter.1 hk).1
    omega
theorem nearL_len (id : Int) : ∀ E : List ((Int × Int) × Thing), (nearL id E).length = degE id E
  | [] => rfl
  | e :: r => by
    have h : nearL id (e :: r) = (if id = e.1.1 then [e.1.2] else if id = e.1.2 then [e.1.1] else []) ++ nearL id r := by unfold nearL; rw [List.flatMap_cons]
    rw [h, List.length_append, nearL_len id r]
    unfold degE
    rw [List.filter_cons]
    unfold incB
    by_cases h1 : id = e.1.1
    · rw [if_pos h1, if_pos (by simp [h1])]
      simp; omega
    · rw [if_neg h1]
      by_cases h2 : id = e.1.2
      · rw [if_pos h2, if_pos (by simp [h2])]
        simp; omega
      · rw [if_neg h2, if_neg (by simp; omega)]
        simp
theorem nearL_nodup (id : Int) : ∀ E : List ((Int × Int) × Thing), (∀ e ∈ E, e.1.1 < e.1.2) → (E.map (·.1)).Nodup → (nearL id E).Nodup
  | [], _, _ => List.nodup_nil
  | e :: r, hlo, hn => by
    have h : nearL id (e :: r) = (if id = e.1.1 then [e.1.2] else if id = e.1.2 then [e.1.1] else []) ++ nearL id r := by unfold nearL; rw [List.flatMap_cons]
    have hlr : ∀ x ∈ r, x.1.1 < x.1.2 := fun x hx => hlo x (by simp [hx])
    rw [List.map_cons, List.nodup_cons] at hn
    have ih := nearL_nodup id r hlr hn.2
    have he := hlo e (by simp)
    have key : ∀ x, e.1 = (min id x, max id x) → x ∉ nearL id r := by
      intro x hx hm
      obtain ⟨e', he', h'⟩ := (mem_nearL hlr).1 hm
      exact hn.1 (List.mem_map.2 ⟨e', he', by rw [h', hx]⟩)
    rw [h]
    by_cases h1 : id = e.1.1
    · rw [if_pos h1, List.singleton_append, List.nodup_cons]
      exact ⟨key _ (by apply Prod.ext <;> simp <;> omega), ih⟩
    · rw [if_neg h1]
      by_cases h2 : id = e.1.2
      · rw [if_pos h2, List.singleton_append, List.nodup_cons]
        exact ⟨key _ (by apply Prod.ext <;> simp <;> omega), ih⟩
      · rw [if_neg h2, List.nil_append]
        exact ih
theorem near_cnt {V : List (Int × Thing)} {E : List ((Int × Int) × Thing)} (hi : GInv V E) (id : Int) : cntF (nearS id E) 1024 = degE id E := by
  rw [nearS_eq, cnt_fromS ?_ (nearL_nodup id E hi.lo (se_nodup hi.se)), nearL_len]
  intro x hx
  obtain ⟨e, he, h⟩ := (mem_nearL hi.lo).1 hx
  have h2 := hi.ends e he
  obtain ⟨⟨t1, m1⟩, ⟨t2, m2⟩⟩ := h2
  have i1 := hi.ids _ m1
  have i2 := hi.ids _ m2
  rw [h] at i1 i2
  simp [idB] at i1 i2
  omega
/-- the sum of the degrees -/
def degS (E : List ((Int × Int) × Thing)) (l : List (Int × Thing)) : Nat := (l.map fun p => degE p.1 E).sum
theorem degS_next (E : List ((Int × Int) × Thing)) (V : List (Int × Thing)) (k : Nat) (h : k < V.length) : degS E (V.take (k + 1)) = degS E (V.take k) + degE V[k].1 E := by
  unfold degS
  rw [List.take_succ_eq_append_getElem h, List.map_append, List.sum_append]
  simp
theorem degE_le (v : Int) (E : List ((Int × Int) × Thing)) : degE v E ≤ E.length := List.length_filter_le _ _
theorem degS_le (E : List ((Int × Int) × Thing)) : ∀ l : List (Int × Thing), degS E l ≤ l.length * E.length
  | [] => by simp [degS]
  | p :: r => by
    have h1 := degS_le E r
    have h2 := degE_le p.1 E
    have : degS E (p :: r) = degE p.1 E + degS E r := by unfold degS; rw [List.map_cons, List.sum_cons]
    rw [this, List.length_cons, Nat.succ_mul]
    omega
theorem cnt_key0 : ∀ {l : List (Int × Thing)} {x : Int}, (∀ p ∈ l, p.1 ≠ x) → l.countP (fun p => decide (x = p.1)) = 0 := by
  intro l x h
  rw [List.countP_eq_zero]
  intro p hp
  have := h p hp
  simp
  exact fun e => this e.symm
theorem cnt_key : ∀ {l : List (Int × Thing)}, (l.map (·.1)).Nodup → ∀ {x : Int}, (∃ t, (x, t) ∈ l) → l.countP (fun p => decide (x = p.1)) = 1
  | [], _, x, ⟨t, ht⟩ => by cases ht
  | p :: r, hn, x, ⟨t, ht⟩ => by
    rw [List.map_cons, List.nodup_cons] at hn
    rw [List.countP_cons]
    by_cases h : x = p.1
    · rw [if_pos (by simpa using h), cnt_key0]
      intro q hq e
      exact hn.1 (List.mem_map.2 ⟨q, hq, by rw [e, h]⟩)
    · rw [if_neg (by simpa using h)]
      rcases List.mem_cons.1 ht with e | hm
      · exact absurd (by rw [← e]) h
      · exact cnt_key hn.2 ⟨t, hm⟩
theorem cnt_or {l : List (Int × Thing)} {p q : Int × Thing → Bool} (h : ∀ x, ¬ (p x = true ∧ q x = true)) : l.countP (fun x => p x || q x) = l.countP p + l.countP q := by
  induction l with
  | nil => rfl
  | cons x r ih =>
    rw [List.countP_cons, List.countP_cons, List.countP_cons, ih]
    have := h x
    cases hp : p x <;> cases hq : q x <;> simp_all <;> omega
theorem deg_cons (e : (Int × Int) × Thing) (r : List ((Int × Int) × Thing)) : ∀ l : List (Int × Thing), degS (e :: r) l = l.countP (fun p => incB p.1 e) + degS r l
  | [] => rfl
  | p :: m => by
    have ih := deg_cons e r m
    unfold degS at *
    rw [List.map_cons, List.sum_cons, List.map_cons, List.sum_cons, ih, List.countP_cons]
    have : degE p.1 (e :: r) = (if incB p.1 e = true then 1 else 0) + degE p.1 r := by
      unfold degE
      rw [List.filter_cons]
      split <;> simp <;> omega
    rw [this]
    omega
theorem deg_sum {V : List (Int × Thing)} : ∀ (E : List ((Int × Int) × Thing)), (V.map (·.1)).Nodup → (∀ e ∈ E, e.1.1 < e.1.2) → (∀ e ∈ E, (∃ t, (e.1.1, t) ∈ V) ∧ ∃ t, (e.1.2, t) ∈ V) → degS E V = 2 * E.length
  | [], _, _, _ => by
    have : ∀ l : List (Int × Thing), degS [] l = 0 := by
      intro l
      have := degS_le [] l
      simp at this
      exact this
    rw [this]
    rfl
  | e :: r, hn, hlo, he => by
    rw [deg_cons, deg_sum r hn (fun x hx => hlo x (by simp [hx])) (fun x hx => he x (by simp [hx]))]
    have hl := hlo e (by simp)
    have h1 : V.countP (fun p => incB p.1 e) = 2 := by
      unfold incB
      rw [cnt_or (p := fun p => decide (e.1.1 = p.1)) (q := fun p => decide (e.1.2 = p.1)), cnt_key hn (he e (by simp)).1, cnt_key hn (he e (by simp)).2]
      intro x h
      simp at h
      omega
    rw [h1, List.length_cons]
    omega
theorem hand {V : List (Int × Thing)} {E : List ((Int × Int) × Thing)} (hi : GInv V E) : degS E V = 2 * E.length := deg_sum E (sv_nodup hi.sv) hi.lo hi.ends
/-- two neighbouring edges are in order -/
theorem edge_lt {E : List ((Int × Int) × Thing)} (hs : E.Pairwise ltE) {i : Nat} (hi : i + 1 < E.length) : E[i].1.1 < E[i + 1].1.1 ∨ E[i].1.1 = E[i + 1].1.1 ∧ E[i].1.2 < E[i + 1].1.2 := by
  have := List.pairwise_iff_getElem.1 hs i (i + 1) (by omega) hi (by omega)
  exact this
end Go.Proofs.Ytdkhondfahebnaa
/- SLICES OF INTS IN MEMORY: read, appended to, two of them side by side. Conditions: see each theorem. -/
namespace Go.Proofs.Ytdkhondfahebnaa
open Go Go.RowKit

def encI (n : Int) : List Value := [.int .i64 n]
theorem encI0 (x : Int) : ∃ u : Value, (encI x)[0]? = some u := ⟨_, rfl⟩
theorem encI_nu (x : Int) (m : Int) : (encI x)[0]? ≠ some (.int .u64 m) := by simp [encI]
theorem one_encI (x : Int) : ∀ v ∈ encI x, v.oneCell' = true := by
  intro v hv
  simp [encI] at hv
  subst hv
  rfl
theorem atI {w : World} {A : Option Addr} {L : List Int} (h : SlAt encI 1 w A L) {i : Nat} (hi : i < L.length) : ∃ b off, A = some ⟨b, off, none⟩ ∧ (∀ W, Ext w W → W.cell? ⟨b, off + i, none⟩ = some (.int .i64 L[i])) := by
  obtain ⟨b, off, hA, hc⟩ := h.at_ hi
  refine ⟨b, off, hA, ?_⟩
  have := hc 0 _ rfl
  simpa using this
theorem infoI : (Try.prog.info? 3).map (fun i => (i.zero.map (·.cells.size), i.size, i.bytes)) = some (some 1, 1, 8) := by kernel_rfl
/-- two slices of one's own that share no block -/
def apart2 (v1 v2 : Value) : Prop := ∀ g, v1.ownBlock = some g → v2.ownBlock ≠ some g
theorem apart2.symm {v1 v2 : Value} (h : apart2 v1 v2) : apart2 v2 v1 := fun g h1 h2 => h g h2 h1
theorem apart2_nil (A n c) : apart2 (.slice none 0 0) (.slice A n c) := fun g h => by cases h
/-- an append to one's own slice: it stays where it was or lies in new memory -/
theorem wp_ap2 {α : Type} {enc : α → List Value} {T ST : TypeId} {k byt : Nat} (hi0 : (Try.prog.info? T).map (fun i => (i.zero.map (·.cells.size), i.size, i.bytes)) = some (some k, k, byt)) (hu : Try.prog.underlying ST = some (.slice T)) (hone : ∀ x, ∀ v ∈ enc x, v.oneCell' = true) (hlen : ∀ x, (enc x).length = k) (hk : 0 < k) (hby : byt ≤ 1000)
    {ops : Array Oper} {rest : List Oper} {o : Oper} {a : Act} {Q : Exit → Act → World → Prop} (w : World) (hgd : o.guard = none) (s x : Operand)
    (ho : o.op = .call { callee := .builtin .append, args := #[s, x], argTypes := #[ST, ST] }) (base : Nat) (v : Value) (n : Nat) (xs : List α) (e : α) (hn : xs.length = n) (g : Nat) (W : World) (hW : W = w.alloc (.cells (enc e).toArray T)) (hsg : w.heap.size = g) (hs : a.eval s = v) (hx : a.eval x = .slice (some ⟨g, 0, none⟩) 1 1)
    (hown : w.ownsRow base T k v n (xs.flatMap enc)) (hl : n ≤ 100000) (hb : base ≤ w.heap.size)
    (h : ∀ A' c' w', w'.ownsRow base T k (.slice A' (n + 1) c') (n + 1) ((xs ++ [e]).flatMap enc) → (w.alloc (.cells (enc e).toArray T)).grownBy w' v.ownBlock → (Value.ownBlock (.slice A' (n + 1) c') = v.ownBlock ∨ Value.ownBlock (.slice A' (n + 1) c') = some (w.heap.size + 1)) → wpList Try.prog ops Q rest (a.put o.dst (.slice A' (n + 1) c')) w') :
    wpList Try.prog ops Q (o :: rest) a W := by
  subst hW
  subst hn
  subst hsg
  obtain ⟨i0, hi, hi1⟩ := Option.map_eq_some_iff.1 hi0
  simp only [Prod.mk.injEq] at hi1
  obtain ⟨hz1, hz2, hz3⟩ := hi1
  obtain ⟨z0, hz, hz4⟩ := Option.map_eq_some_iff.1 hz1
  have hown' := own_ext hown ((Ext.refl w).alloc (.cells (enc e).toArray T))
  have hmul : (xs.length + 1) * byt ≤ 100001 * 1000 := Nat.mul_le_mul (by omega) hby
  refine wpList_append_own_at _ hgd s x _ ho base T i0 z0 k byt hu hi hz hz2 hz3 hz4 hk v xs.length _ hs hown' ⟨w.heap.size, 0, none⟩ 1 1 (enc e) hx (by rw [hlen]; simp) ?_ (hone e) (by unfold maxLen; omega) (by omega) (by simp; omega) ?_
  · intro j u hj
    have := (Blk.new w T (enc e).toArray).cell j
    rw [show (⟨w.heap.size, 0, none⟩ : Addr).add j = ⟨w.heap.size, j, none⟩ by simp [Addr.add]; omega, this]
    simpa using hj
  · intro v' w' h1 h2 _ h4
    obtain ⟨A', c', rfl⟩ := own_slice h1
    exact h A' c' w' (by simpa using h1) h2 (by simpa using h4)
/-- what an append to the one does to the other -/
theorem rows2 {wr w2 w' : World} {b1 b2 T1 T2 k1 k2 n1 n2 : Nat} {v1 v1' v2 : Value} {xs1 xs2 : List Value} {o : Obj} (h2 : wr.ownsRow b2 T2 k2 v2 n2 xs2) (ha : apart2 v1 v2) (hx : Ext wr w2) (hg : (w2.alloc o).grownBy w' v1.ownBlock) (hv : v1'.ownBlock = v1.ownBlock ∨ v1'.ownBlock = some (w2.heap.size + 1))
    (_h1 : wr.ownsRow b1 T1 k1 v1 n1 xs1) : w'.ownsRow b2 T2 k2 v2 n2 xs2 ∧ apart2 v1' v2 := by
  have h22 := own_ext h2 (hx.trans (ext_self1 _ o))
  have hk : Keep v1.ownBlock.toList (w2.alloc o) w' := ⟨hg.os, hg.tape, hg.output, hg.size, fun i hi hne => hg.block i hi (by
    intro e
    rw [← e] at hne
    simp at hne)⟩
  refine ⟨own_keep h22 hk fun g hgm e => ?_, fun g h1 e => ?_⟩
  · exact ha g (by simpa using hgm) e
  · rcases hv with hv | hv
    · exact ha g (hv ▸ h1) e
    · rw [hv] at h1
      injection h1 with h1
      have := (own_base h2 e).2.1
      have hs := Below.size hx
      omega
theorem app_step2 {α : Type} {enc : α → List Value} {wI wr w2 w' : World} {base T k n : Nat} {v : Value} {xs : List α} (hx : Ext wI wr) (hown : wr.ownsRow base T k v n (xs.flatMap enc)) (hx2 : Ext wr w2) (hg : w2.grownBy w' v.ownBlock) (hb : wI.heap.size ≤ base) : Ext wI w' :=
  (hx.trans hx2).grown hg hb (own_ext hown hx2)
end Go.Proofs.Ytdkhondfahebnaa
/- bits.OnesCount64 and Set.Len: how many elements a set has. Conditions: see each theorem. -/
namespace Go.Proofs.Ytdkhondfahebnaa
open Go Go.RowKit

theorem wrapu (n : Nat) (h : n < 18446744073709551616) : IntKind.u64.wrap (n : Int) = (n : Int) := by
  rw [IntKind.wrap_u64]
  omega
theorem andu (a b : Nat) (ha : a < 18446744073709551616) (hb : b < 18446744073709551616) : bits .and .u64 (a : Int) (b : Int) = ((a &&& b : Nat) : Int) := u64_and_nat _ _ ha hb
theorem k_half (M a d : Nat) (M' d' : Int) (eM : (M : Int) = M') (ed : (d : Int) = d') (hM : M < 18446744073709551616) (ha : a < 18446744073709551616) (hs : ((a / d) &&& M) + (a &&& M) < 18446744073709551616) :
    IntKind.u64.wrap (bits .and .u64 ((a : Int) / d') M' + bits .and .u64 (a : Int) M') = ((((a / d) &&& M) + (a &&& M) : Nat) : Int) := by
  subst eM
  subst ed
  have h1 : ((a : Int) / (d : Int)) = ((a / d : Nat) : Int) := by simp
  rw [h1, andu _ _ (Nat.lt_of_le_of_lt (Nat.div_le_self _ _) ha) hM, andu _ _ ha hM, ← Int.natCast_add, wrapu _ hs]
theorem k_sum (a d : Nat) (d' : Int) (ed : (d : Int) = d') (hs : a + a / d < 18446744073709551616) : IntKind.u64.wrap ((a : Int) + (a : Int) / d') = ((a + a / d : Nat) : Int) := by
  subst ed
  have h1 : ((a : Int) / (d : Int)) = ((a / d : Nat) : Int) := by simp
  rw [h1, ← Int.natCast_add, wrapu _ hs]
theorem k_nib (M a : Nat) (M' : Int) (eM : (M : Int) = M') (hM : M < 18446744073709551616) (hs : a / 16 + a < 18446744073709551616) : bits .and .u64 (IntKind.u64.wrap ((a : Int) / 16 + (a : Int))) M' = ((F3 M a : Nat) : Int) := by
  subst eM
  have h1 : ((a : Int) / 16) = ((a / 16 : Nat) : Int) := by simp
  rw [h1, ← Int.natCast_add, wrapu _ hs, andu _ _ hs hM]
  rfl

theorem fin_ones (t c : Nat) (_h7 : t < 18446744073709551616) (h8 : t % 128 = c) : bits .and .i64 (wrap64 (t : Int)) 127 = (c : Int) := by
  rw [i64_and127, ← h8]
  unfold wrap64
  omega
set_option maxRecDepth 100000 in
theorem ones_any (x : Nat) (hx : x < 18446744073709551616) (w : World) : Calls Try.prog 62 #[.int .u64 x] w fun e w' => e = .returned (.int .i64 (cntF x 64)) ∧ w = w' := by
  obtain ⟨s1, s2, s3, z, hz, s4, s5, s6, s7, s8⟩ := ones_steps x hx
  have k1 := k_half 6148914691236517205 x 2 6148914691236517205 2 rfl rfl (by decide) hx s1
  have k2 := k_half 3689348814741910323 (F1 6148914691236517205 x) 4 3689348814741910323 4 rfl rfl (by decide) s1 s2
  have k3 := k_nib 1085102592571150095 (F2 3689348814741910323 (F1 6148914691236517205 x)) 1085102592571150095 rfl (by decide) s3
  rw [hz] at k3
  have k4 := k_sum z 256 256 rfl s5
  have k5 := k_sum (z + z / 256) 65536 65536 rfl s6
  have k6 := k_sum ((z + z / 256) + (z + z / 256) / 65536) 4294967296 4294967296 rfl s7
  have e1 : ((x / 2 &&& 6148914691236517205) + (x &&& 6148914691236517205)) = F1 6148914691236517205 x := rfl
  have e2 : ((F1 6148914691236517205 x / 4 &&& 3689348814741910323) + (F1 6148914691236517205 x &&& 3689348814741910323)) = F2 3689348814741910323 (F1 6148914691236517205 x) := rfl
  rw [e1] at k1
  rw [e2] at k2
  generalize F2 3689348814741910323 (F1 6148914691236517205 x) = b at *
  generalize F1 6148914691236517205 x = a at *
  generalize ht : ((z + z / 256) + (z + z / 256) / 65536) + ((z + z / 256) + (z + z / 256) / 65536) / 4294967296 = t at *
  generalize hs : (z + z / 256) + (z + z / 256) / 65536 = s at *
  generalize hr : z + z / 256 = r at *
  have s8' := hide s8
  have s7' := hide s7
  clear s1 s2 s3 s4 s5 s6 s7 s8 hz e1 e2 ht hs hr
  go_enter Try.func62, Try.ntmps62
  go_wp2
  go_ret
  exact ⟨ret_int (fin_ones t _ (unhide s7') (unhide s8')), rfl⟩

theorem ones_wd (N k : Nat) (w : World) : Calls Try.prog 62 #[.int .u64 (wd N k)] w fun e w' => e = .returned (.int .i64 (cntF (wdN N k) 64)) ∧ w = w' := ones_any (wdN N k) (wdN_lt N k) w
theorem idxS0 (N : Nat) (w : World) : (Instr.index 78 (.agg (setC N)) (.int .i64 0)).run Try.prog w = .ok (.int .u64 (wd N 0)) w := by kernel_rfl
theorem idxS1 (N : Nat) (w : World) : (Instr.index 78 (.agg (setC N)) (.int .i64 1)).run Try.prog w = .ok (.int .u64 (wd N 1)) w := by kernel_rfl
theorem idxS2 (N : Nat) (w : World) : (Instr.index 78 (.agg (setC N)) (.int .i64 2)).run Try.prog w = .ok (.int .u64 (wd N 2)) w := by kernel_rfl
theorem idxS3 (N : Nat) (w : World) : (Instr.index 78 (.agg (setC N)) (.int .i64 3)).run Try.prog w = .ok (.int .u64 (wd N 3)) w := by kernel_rfl
theorem idxS4 (N : Nat) (w : World) : (Instr.index 78 (.agg (setC N)) (.int .i64 4)).run Try.prog w = .ok (.int .u64 (wd N 4)) w := by kernel_rfl
theorem idxS5 (N : Nat) (w : World) : (Instr.index 78 (.agg (setC N)) (.int .i64 5)).run Try.prog w = .ok (.int .u64 (wd N 5)) w := by kernel_rfl
theorem idxS6 (N : Nat) (w : World) : (Instr.index 78 (.agg (setC N)) (.int .i64 6)).run Try.prog w = .ok (.int .u64 (wd N 6)) w := by kernel_rfl
theorem idxS7 (N : Nat) (w : World) : (Instr.index 78 (.agg (setC N)) (.int .i64 7)).run Try.prog w = .ok (.int .u64 (wd N 7)) w := by kernel_rfl
theorem idxS8 (N : Nat) (w : World) : (Instr.index 78 (.agg (setC N)) (.int .i64 8)).run Try.prog w = .ok (.int .u64 (wd N 8)) w := by kernel_rfl
theorem idxS9 (N : Nat) (w : World) : (Instr.index 78 (.agg (setC N)) (.int .i64 9)).run Try.prog w = .ok (.int .u64 (wd N 9)) w := by kernel_rfl
theorem idxS10 (N : Nat) (w : World) : (Instr.index 78 (.agg (setC N)) (.int .i64 10)).run Try.prog w = .ok (.int .u64 (wd N 10)) w := by kernel_rfl
theorem idxS11 (N : Nat) (w : World) : (Instr.index 78 (.agg (setC N)) (.int .i64 11)).run Try.prog w = .ok (.int .u64 (wd N 11)) w := by kernel_rfl
theorem idxS12 (N : Nat) (w : World) : (Instr.index 78 (.agg (setC N)) (.int .i64 12)).run Try.prog w = .ok (.int .u64 (wd N 12)) w := by kernel_rfl
theorem idxS13 (N : Nat) (w : World) : (Instr.index 78 (.agg (setC N)) (.int .i64 13)).run Try.prog w = .ok (.int .u64 (wd N 13)) w := by kernel_rfl
theorem idxS14 (N : Nat) (w : World) : (Instr.index 78 (.agg (setC N)) (.int .i64 14)).run Try.prog w = .ok (.int .u64 (wd N 14)) w := by kernel_rfl
theorem idxS15 (N : Nat) (w : World) : (Instr.index 78 (.agg (setC N)) (.int .i64 15)).run Try.prog w = .ok (.int .u64 (wd N 15)) w := by kernel_rfl
/-- an element of the array, by its place -/
theorem idx_Set (N i : Nat) (hi : i < 16) (w : World) : (Instr.index 78 (.agg (setC N)) (.int .i64 i)).run Try.prog w = .ok (.int .u64 (wd N i)) w := by
  have : i = 0 ∨ i = 1 ∨ i = 2 ∨ i = 3 ∨ i = 4 ∨ i = 5 ∨ i = 6 ∨ i = 7 ∨ i = 8 ∨ i = 9 ∨ i = 10 ∨ i = 11 ∨ i = 12 ∨ i = 13 ∨ i = 14 ∨ i = 15 := by omega
  rcases this with rfl | rfl | rfl | rfl | rfl | rfl | rfl | rfl | rfl | rfl | rfl | rfl | rfl | rfl | rfl | rfl
  · exact idxS0 N w
  · exact idxS1 N w
  · exact idxS2 N w
  · exact idxS3 N w
  · exact idxS4 N w
  · exact idxS5 N w
  · exact idxS6 N w
  · exact idxS7 N w
  · exact idxS8 N w
  · exact idxS9 N w
  · exact idxS10 N w
  · exact idxS11 N w
  · exact idxS12 N w
  · exact idxS13 N w
  · exact idxS14 N w
  · exact idxS15 N w


set_option maxRecDepth 100000 in
set_option maxHeartbeats 1000000 in
theorem slen_any (N : Nat) (w : World) : Calls Try.prog 38 #[.agg (setC N)] w fun e w' => e = .returned (.int .i64 (cntF N 1024)) ∧ Ext w w' := by
  have hB := Blk.new w 78 (setC N)
  have hx0 := hide (ext_self1 w (.cells (setC N) 78))
  generalize hw1 : w.alloc (.cells (setC N) 78) = w1 at *
  have hself := Ext.refl w1
  have hidx := idx_Set N
  have e0 := hB.cells 0 (v := .int .u64 (wd N 0)) rfl
  have e1 := hB.cells 1 (v := .int .u64 (wd N 1)) rfl
  have e2 := hB.cells 2 (v := .int .u64 (wd N 2)) rfl
  have e3 := hB.cells 3 (v := .int .u64 (wd N 3)) rfl
  have e4 := hB.cells 4 (v := .int .u64 (wd N 4)) rfl
  have e5 := hB.cells 5 (v := .int .u64 (wd N 5)) rfl
  have e6 := hB.cells 6 (v := .int .u64 (wd N 6)) rfl
  have e7 := hB.cells 7 (v := .int .u64 (wd N 7)) rfl
  have e8 := hB.cells 8 (v := .int .u64 (wd N 8)) rfl
  have e9 := hB.cells 9 (v := .int .u64 (wd N 9)) rfl
  have e10 := hB.cells 10 (v := .int .u64 (wd N 10)) rfl
  have e11 := hB.cells 11 (v := .int .u64 (wd N 11)) rfl
  have e12 := hB.cells 12 (v := .int .u64 (wd N 12)) rfl
  have e13 := hB.cells 13 (v := .int .u64 (wd N 13)) rfl
  have e14 := hB.cells 14 (v := .int .u64 (wd N 14)) rfl
  have e15 := hB.cells 15 (v := .int .u64 (wd N 15)) rfl
  clear hB
  subst hw1
  go_enter Try.func38, Try.ntmps38
  go_wp2_with fail
  go_loop [3, 7] (fun n i => ∃ k : Nat, k ≤ 16 ∧ i = .int .i64 k ∧ n = .int .i64 (cntF N (64 * k))) (fun _ i => 16 - (intOf i).toNat)
  case atStart => exact ⟨0, by omega, rfl, rfl⟩
  case round =>
    obtain ⟨k, hk, rfl, rfl⟩ := hrel
    by_cases hlt : k < 16
    · have hix := idx_Set N k hlt
      unfold setC at hix
      have hc := hide (cnt_words N k)
      have hle := cntF_le N (64 * k)
      have hle2 := cntF_le (wdN N k) 64
      go_wp2_with ((with_reducible refine (ones_wd N k _).mono ?_); rintro e w' ⟨rfl, rfl⟩)
      go_round
      case rel => exact ⟨k + 1, by omega, by go_num, by rw [unhide hc]; go_num⟩
      case measure => simp [intOf]; omega
    · have : k = 16 := by omega
      subst this
      go_wp2_with fail
      go_ret
      exact ⟨rfl, unhide hx0⟩
end Go.Proofs.Ytdkhondfahebnaa
/- ref.Near: the neighbours of a vertex and the indices of its edges. Conditions: see each theorem. -/
namespace Go.Proofs.Ytdkhondfahebnaa
open Go Go.RowKit
attribute [local go_sem] qUpon lUpon

theorem rnear_next (id : Int) (V : List (Int × Thing)) (E : List ((Int × Int) × Thing)) (k : Nat) (h : k < V.length) : rnear id (V.take (k + 1)) E = rnear id (V.take k) E ++ (if 0 ≤ posI (isE V[k].1 id) E then [V[k].1] else []) := by
  unfold rnear
  rw [List.take_succ_eq_append_getElem h, List.filter_append, List.map_append]
  congr 1
  by_cases h0 : 0 ≤ posI (isE V[k].1 id) E <;> simp [h0]
theorem rnear_le (id : Int) (V : List (Int × Thing)) (E : List ((Int × Int) × Thing)) : (rnear id V E).length ≤ V.length := by
  unfold rnear
  rw [List.length_map]
  exact List.length_filter_le _ _
def NrPost (w : World) (L M : List Int) (e : Ending) (w' : World) : Prop := ∃ A1 c1 A2 c2, e = .returned (.tuple #[.slice A1 L.length c1, .slice A2 M.length c2]) ∧ SlAt encI 1 w' A1 L ∧ SlAt encI 1 w' A2 M ∧ Ext w w'

set_option maxRecDepth 100000 in
set_option maxHeartbeats 8000000 in
theorem rnear_any (A B : Option Addr) (V : List (Int × Thing)) (E : List ((Int × Int) × Thing)) (cA cB : Nat) (id : Int) (w : World) (hV : SlAt encV 3 w A V) (hE : SlAt encE 4 w B E) (hi : GInv V E) :
    Calls Try.prog 32 #[.agg #[.slice A V.length cA, .slice B E.length cB], .int .i64 id] w (NrPost w (rnear id V E) (ron id E E.length)) := by
  have nV := hi.nv
  have nE := hi.ne
  have hV' := hide hV
  have hE' := hide hE
  have hB := hide (Blk.new w 28 #[.slice A V.length cA, .slice B E.length cB])
  clear hV hE hi
  go_enter Try.func32, Try.ntmps32
  go_wp2_with fail
  have hx1 := hide (ext_self1 w (.cells #[.slice A V.length cA, .slice B E.length cB] 28))
  generalize hgw : w.heap.size = gw at *
  generalize hW1 : w.alloc (.cells #[.slice A V.length cA, .slice B E.length cB] 28) = w1 at *
  have hs1 : w1.heap.size = gw + 1 := by rw [← hW1, World.size_alloc, hgw]
  have ho1 := World.ownsRow_made (base := gw + 1) (e := 3) (size := 1) w1 #[] 0 (by omega) (by decide) rfl
  have ho2 := World.ownsRow_made (base := gw + 1) (e := 3) (size := 1) (w1.alloc (.cells #[] 3)) #[] 0 (by rw [World.size_alloc]; omega) (by decide) rfl
  rw [World.size_alloc] at ho2
  have ho1' := own_ext ho1 (ext_self1 _ (.cells #[] 3))
  rw [hs1] at ho1' ho2
  have ha : apart2 (.slice (some ⟨gw + 1, 0, none⟩) 0 0) (.slice (some ⟨gw + 1 + 1, 0, none⟩) 0 0) := by
    intro g h1 h2
    injection h1 with h1
    injection h2 with h2
    simp at h1 h2
    omega
  have hx0 := hide ((ext_self1 w1 (.cells #[] 3)).trans (ext_self1 _ (.cells #[] 3)))
  have hb1' := hide hs1
  have ho1 := hide ho1'
  have ho2' := hide ho2
  have ha' := hide ha
  clear hs1 hW1 hgw ho1' ho2 ha
  go_wp2_with fail
  go_loopw [6, 8] (fun l i wr => ∃ (k : Nat) (vs : Value) (o : List Int), k ≤ V.length ∧ i = .int .i64 k ∧ vs = l ∧ o = rnear id (V.take k) E ∧ wr.ownsRow (gw + 1) 3 1 vs o.length (o.flatMap encI) ∧ wr.ownsRow (gw + 1) 3 1 (.slice (some ⟨gw + 1 + 1, 0, none⟩) 0 0) 0 [] ∧ apart2 vs (.slice (some ⟨gw + 1 + 1, 0, none⟩) 0 0) ∧ Ext w1 wr) (fun _ i _ => V.length - (intOf i).toNat)
  case atStart => exact ⟨0, _, [], Nat.zero_le _, rfl, rfl, by simp [rnear], unhide ho1, unhide ho2', unhide ha', unhide hx0⟩
  case round =>
    obtain ⟨k, vs, o, hk, rfl, hl3, ho, hown, hown2, hap, hx⟩ := hrel
    subst hl3
    have hown' := hide hown
    have hown2' := hide hown2
    have hap' := hide hap
    have hx' := hide hx
    have ho' := hide ho
    have hol' := hide (show o.length ≤ 100000 by
      rw [ho]
      have := rnear_le id (V.take k) E
      rw [List.length_take] at this
      omega)
    have hBr := (unhide hB).ext hx
    have q0 := hBr.cells 0 (v := .slice A V.length cA) rfl
    have q1 := hBr.cells 1 (v := .slice B E.length cB) rfl
    have hBr' := hide hBr
    clear hown hown2 hap hx ho ho1 ho2' ha' hx0 hBr
    have hself := Ext.refl wr
    by_cases hlt : k < V.length
    · have hVr := (unhide hV').ext ((unhide hx1).trans (unhide hx'))
      have hEr := hide ((unhide hE').ext ((unhide hx1).trans (unhide hx')))
      obtain ⟨b, off, rfl, c0, c1, c2⟩ := atV hVr hlt
      have hst := hide (rnear_next id V E k hlt)
      clear hVr
      generalize hy : V[k] = y at c0 c1 c2 hst
      obtain ⟨x, tx⟩ := y
      simp only at c0 c1 c2
      clear hy c1 c2
      obtain ⟨p, hp⟩ : ∃ p, posI (isE x id) E = p := ⟨_, rfl⟩
      have hp' := hide hp
      clear hp
      by_cases hp0 : 0 ≤ p
      · go_wp2_with fail
        refine wp_region_ext (P := Try.prog) [0,1,2,3,4,5,6,7,8,9] [] 0 #[true,true,true,true,true,true,true,true,true,true] (by kernel_rfl) (by kernel_rfl) rfl (by rfl) ?_
        iterate 10
          refine ql_want (v := ?_) rfl (by rfl) (fun W hW => ?_) ?_
          rotate_left
          · go_simp
            first | done | rfl | (go_at_call 31; refine (redge_any _ B E _ _ cB x id _ ((unhide hEr).ext (by assumption)) (by omega)).mono ?_; rw [unhide hp']; rintro _ _ ⟨h1, h2⟩; refine ⟨_, h1, ?_, h2⟩; rfl)
          go_frame
        refine wpQL_nil (fun w3 hx3 => ?_)
        refine wpX_done (by kernel_rfl) ?_
        try go_frame
        have q0' := fun (W : World) (hW : Ext w3 W) => q0 W (hx3.trans hW)
        have c0' := fun (W : World) (hW : Ext w3 W) => c0 W (hx3.trans hW)
        have hx3' := hide hx3
        have hself3 := Ext.refl w3
        clear q0 q1 c0 hx3 hself
        go_wp2_with (at_builtin; refine wp_ap2 infoI Try.underlying73 one_encI (fun _ => rfl) (by decide) (by decide) w3 rfl _ _ rfl (gw + 1) vs _ (o) x rfl _ _ (by rfl) rfl (by rfl) (by rfl) (own_ext (unhide hown') (unhide hx3')) (unhide hol') ?_ ?_; ((have h1 := Below.size (unhide hx'); have h2 := Below.size (unhide hx3'); have h3 := unhide hb1'; omega)); intro A1 k1 w4 ho4 hg4 hb4; have hr := rows2 (unhide hown2') (unhide hap') (unhide hx3') hg4 hb4 (unhide hown'); have hx4 := hide (app_step2 (unhide hx') (unhide hown') ((unhide hx3').trans (ext_self1 _ _)) hg4 (Nat.le_of_eq (unhide hb1'))); have hr4 := hide hr; have ho4' := hide ho4; clear ho4 hg4 hb4 hr)
        go_roundw
        case rel => exact ⟨k + 1, _, o ++ [x], by omega, by go_num, rfl, by rw [unhide hst, unhide ho', if_pos (by rw [unhide hp']; exact hp0)], by have h := unhide ho4'; simpa using h, (unhide hr4).1, (unhide hr4).2, unhide hx4⟩
        case measure => simp [intOf]; omega
      · go_wp2_with fail
        refine wp_region_ext (P := Try.prog) [0,1,2,3,4,5,6,7,8,9] [] 0 #[true,true,true,true,true,true,true,true,true,true] (by kernel_rfl) (by kernel_rfl) rfl (by rfl) ?_
        iterate 10
          refine ql_want (v := ?_) rfl (by rfl) (fun W hW => ?_) ?_
          rotate_left
          · go_simp
            first | done | rfl | (go_at_call 31; refine (redge_any _ B E _ _ cB x id _ ((unhide hEr).ext (by assumption)) (by omega)).mono ?_; rw [unhide hp']; rintro _ _ ⟨h1, h2⟩; refine ⟨_, h1, ?_, h2⟩; rfl)
          go_frame
        refine wpQL_nil (fun w3 hx3 => ?_)
        refine wpX_done (by kernel_rfl) ?_
        try go_frame
        have hx3' := hide hx3
        clear q0 q1 c0 hx3 hself
        go_wp2_with fail
        go_roundw
        case rel => exact ⟨k + 1, _, o, by omega, by go_num, rfl, by rw [unhide hst, unhide ho', if_neg (by rw [unhide hp']; omega), List.append_nil], own_ext (unhide hown') (unhide hx3'), own_ext (unhide hown2') (unhide hx3'), unhide hap', (unhide hx').trans (unhide hx3')⟩
        case measure => simp [intOf]; omega
    · have hkV : k = V.length := by omega
      subst hkV
      rw [List.take_length] at ho'
      obtain ⟨A1, c1, rfl⟩ := own_slice (unhide hown')
      have hoN := unhide ho'
      subst hoN
      have hap2 := hide (unhide hap').symm
      clear ho' hol' hap'
      go_wp2_with fail
      go_loopw [7, 9] (fun l i wr => ∃ (k : Nat) (vs : Value) (o : List Int), k ≤ E.length ∧ i = .int .i64 k ∧ vs = l ∧ o = ron id E k ∧ wr.ownsRow (gw + 1) 3 1 vs o.length (o.flatMap encI) ∧ wr.ownsRow (gw + 1) 3 1 (.slice A1 (rnear id V E).length c1) (rnear id V E).length ((rnear id V E).flatMap encI) ∧ apart2 vs (.slice A1 (rnear id V E).length c1) ∧ Ext w1 wr) (fun _ i _ => E.length - (intOf i).toNat)
      case atStart => exact ⟨0, _, [], Nat.zero_le _, rfl, rfl, by simp [ron], unhide hown2', unhide hown', unhide hap2, unhide hx'⟩
      case round =>
        clear hown2' hown' hap2 hx' hk
        obtain ⟨k, vs, o, hk, rfl, hl3, ho, hown, hown2, hap, hx⟩ := hrel
        subst hl3
        have hown' := hide hown
        have hown2' := hide hown2
        have hap' := hide hap
        have hx' := hide hx
        have ho' := hide ho
        have hol' := hide (show o.length ≤ 100000 by
          rw [ho]
          have := ron_le id E k
          omega)
        have hBr := (unhide hB).ext hx
        have q0 := hBr.cells 0 (v := .slice A V.length cA) rfl
        have q1 := hBr.cells 1 (v := .slice B E.length cB) rfl
        clear hown hown2 hap hx ho hBr
        have hself := Ext.refl wr
        by_cases hlt : k < E.length
        · have hEr := (unhide hE').ext ((unhide hx1).trans (unhide hx'))
          obtain ⟨b, off, rfl, c0, c1, c2, c3⟩ := atE hEr hlt
          have hst := hide (ron_next id E k hlt)
          clear hEr
          generalize hy : E[k] = y at c0 c1 c2 c3 hst
          obtain ⟨⟨a, d⟩, ⟨lab, wt⟩⟩ := y
          simp only at c0 c1 c2 c3
          clear hy c2 c3
          by_cases ha : a = id
          · have hst2 := hide (show incB id ((a, d), (lab, wt)) = true by simp [incB, ha])
            subst ha
            go_wp2_with (at_builtin; refine wp_ap2 infoI Try.underlying73 one_encI (fun _ => rfl) (by decide) (by decide) wr rfl _ _ rfl (gw + 1) vs _ (o) (k : Int) rfl _ _ (by rfl) rfl (by rfl) (by rfl) (unhide hown') (unhide hol') ?_ ?_; ((have h1 := Below.size (unhide hx'); have h3 := unhide hb1'; omega)); intro A2 k1 w4 ho4 hg4 hb4; have hr := rows2 (unhide hown2') (unhide hap') (Ext.refl wr) hg4 hb4 (unhide hown'); have hx4 := hide (app_step2 (unhide hx') (unhide hown') (ext_self1 _ _) hg4 (Nat.le_of_eq (unhide hb1'))); have hr4 := hide hr; have ho4' := hide ho4; clear ho4 hg4 hb4 hr)
            go_roundw
            case rel => exact ⟨k + 1, _, o ++ [(k : Int)], by omega, by go_num, rfl, by rw [unhide hst, if_pos (unhide hst2), unhide ho'], by have h := unhide ho4'; simpa using h, (unhide hr4).1, (unhide hr4).2, unhide hx4⟩
            case measure => simp [intOf]; omega
          · have hA : (a == id) = false := by simpa using ha
            by_cases hd : d = id
            · have hst2 := hide (show incB id ((a, d), (lab, wt)) = true by simp [incB, hd])
              clear ha
              subst hd
              go_wp2_with (at_builtin; refine wp_ap2 infoI Try.underlying73 one_encI (fun _ => rfl) (by decide) (by decide) wr rfl _ _ rfl (gw + 1) vs _ (o) (k : Int) rfl _ _ (by rfl) rfl (by rfl) (by rfl) (unhide hown') (unhide hol') ?_ ?_; ((have h1 := Below.size (unhide hx'); have h3 := unhide hb1'; omega)); intro A2 k1 w4 ho4 hg4 hb4; have hr := rows2 (unhide hown2') (unhide hap') (Ext.refl wr) hg4 hb4 (unhide hown'); have hx4 := hide (app_step2 (unhide hx') (unhide hown') (ext_self1 _ _) hg4 (Nat.le_of_eq (unhide hb1'))); have hr4 := hide hr; have ho4' := hide ho4; clear ho4 hg4 hb4 hr)
              go_roundw
              case rel => exact ⟨k + 1, _, o ++ [(k : Int)], by omega, by go_num, rfl, by rw [unhide hst, if_pos (unhide hst2), unhide ho'], by have h := unhide ho4'; simpa using h, (unhide hr4).1, (unhide hr4).2, unhide hx4⟩
              case measure => simp [intOf]; omega
            · have hD : (d == id) = false := by simpa using hd
              have hst2 := hide (show incB id ((a, d), (lab, wt)) ≠ true by simp [incB, ha, hd])
              clear ha hd
              go_wp2_with fail
              go_roundw
              case rel => exact ⟨k + 1, _, o, by omega, by go_num, rfl, by rw [unhide hst, if_neg (unhide hst2), unhide ho'], unhide hown', unhide hown2', unhide hap', unhide hx'⟩
              case measure => simp [intOf]; omega
        · have hkE : k = E.length := by omega
          rw [hkE] at ho'
          have hoN := unhide ho'
          subst hoN
          obtain ⟨A2, c2, rfl⟩ := own_slice (unhide hown')
          go_wp2_with fail
          go_ret2
          unfold NrPost
          exact ⟨A1, c1, A2, c2, rfl, own_at (unhide hown2') (fun _ => rfl), own_at (unhide hown') (fun _ => rfl), (unhide hx1).trans (unhide hx')⟩
end Go.Proofs.Ytdkhondfahebnaa
/- law01.From: a list of numbers as a set. Conditions: see each theorem. -/
namespace Go.Proofs.Ytdkhondfahebnaa
open Go Go.RowKit
attribute [local go_sem] qUpon lUpon

theorem bitW_shl (n : Nat) : IntKind.u64.wrap (2 ^ (n % 64)) = bitW n := by
  rw [IntKind.wrap_u64]
  have h3 : 2 ^ (n % 64) < 2 ^ 64 := Nat.pow_lt_pow_right (by omega) (by omega)
  have e : ((2 : Int) ^ (n % 64)) = ((2 ^ (n % 64) : Nat) : Int) := by simp
  unfold bitW
  rw [e]
  generalize 2 ^ (n % 64) = m at h3
  omega
theorem bitW_shl' (n : Nat) : IntKind.u64.wrap (2 ^ ((n : Int) % 64).toNat) = bitW n := by
  rw [show ((n : Int) % 64).toNat = n % 64 by omega]
  exact bitW_shl n
theorem tmod64 (n : Nat) : ((n : Nat) : Int).tmod 64 = ((n % 64 : Nat) : Int) := by
  rw [Int.tmod_eq_emod_of_nonneg (by omega)]
  omega

/-- a set with one more element, in memory: all that the walk needs behind the store -/
theorem with_step {w wr w3 w4 : World} {b4 b2 n N : Nat} {T : TypeId} {A : Option Addr} {L : List Int} (hB : Blk wr b4 T (setC N)) (hA : Blk wr b2 T (setC 0)) (hs : SlAt encI 1 wr A L) (hx : Ext w wr) (hx3 : Ext wr w3) (hx4 : Ext (w3.setCell ⟨b4, n / 64, none⟩ (.int .u64 (bits .or .u64 (wd N (n / 64)) (bitW n)))) w4) (hb : w.heap.size ≤ b4) (hne : b2 ≠ b4) :
    Blk w4 b4 T (setC (N ||| 2 ^ n)) ∧ Blk w4 b2 T (setC 0) ∧ SlAt encI 1 w4 A L ∧ Ext w w4 := by
  have hk3 : Keep [b4] w3 (w3.setCell ⟨b4, n / 64, none⟩ (.int .u64 (bits .or .u64 (wd N (n / 64)) (bitW n)))) := Keep.setCell _ _ _ _
  refine ⟨?_, ((hA.ext hx3).keep hk3 (by simpa using hne)).ext hx4, ((hs.ext hx3).keep_S (hB.ext hx3) encI_nu encI0 hk3).ext hx4, ((hx.trans hx3).of_new hk3 (by simpa using hb)).trans hx4⟩
  have h := ((hB.ext hx3).set (n / 64) (.int .u64 (bits .or .u64 (wd N (n / 64)) (bitW n)))).ext hx4
  rwa [setC_with N n] at h
set_option maxRecDepth 100000 in
set_option maxHeartbeats 8000000 in
theorem from01_any (A : Option Addr) (L : List Int) (cL : Nat) (w : World) (hL : SlAt encI 1 w A L) (_hl : L.length ≤ 4096) :
    Calls Try.prog 34 #[.slice A L.length cL] w fun e w' => e = .returned (.agg (setC (fromS L))) ∧ Ext w w' := by
  have hB0 := hide (Blk.new w 78 (setC 0))
  have hs0 := hide hL
  clear hL
  go_enter Try.func34, Try.ntmps34
  go_wp2_with fail
  have hx1 := hide ((ext_self1 w (.cells (setC 0) 78)).trans (ext_self1 _ (.cells (setC 0) 78)))
  have hB2 := hide ((unhide hB0).ext (ext_self1 (w.alloc (.cells (setC 0) 78)) (.cells (setC 0) 78)))
  have hB4 := hide (Blk.new (w.alloc (.cells (setC 0) 78)) 78 (setC 0))
  have hs : (w.alloc (.cells (setC 0) 78)).heap.size = w.heap.size + 1 := World.size_alloc _ _
  rw [hs] at hB4
  clear hs hB0
  have hz : setC 0 = #[.int .u64 0, .int .u64 0, .int .u64 0, .int .u64 0, .int .u64 0, .int .u64 0, .int .u64 0, .int .u64 0, .int .u64 0, .int .u64 0, .int .u64 0, .int .u64 0, .int .u64 0, .int .u64 0, .int .u64 0, .int .u64 0] := rfl
  rw [hz] at hx1 hB2 hB4
  generalize (w.alloc (.cells #[.int .u64 0, .int .u64 0, .int .u64 0, .int .u64 0, .int .u64 0, .int .u64 0, .int .u64 0, .int .u64 0, .int .u64 0, .int .u64 0, .int .u64 0, .int .u64 0, .int .u64 0, .int .u64 0, .int .u64 0, .int .u64 0] 78)).alloc (.cells #[.int .u64 0, .int .u64 0, .int .u64 0, .int .u64 0, .int .u64 0, .int .u64 0, .int .u64 0, .int .u64 0, .int .u64 0, .int .u64 0, .int .u64 0, .int .u64 0, .int .u64 0, .int .u64 0, .int .u64 0, .int .u64 0] 78) = W1 at *
  rw [← hz] at hB4 hB2
  clear hz
  have hlo := hide (show w.heap.size ≤ w.heap.size + 1 ∧ w.heap.size ≠ w.heap.size + 1 by omega)
  have hlo2 := hide (Nat.le_refl w.heap.size)
  generalize hb4e : w.heap.size + 1 = b4 at *
  generalize hb2e : w.heap.size = b2 at *
  have hlo : Hid (w.heap.size ≤ b4 ∧ b2 ≠ b4) := by rw [hb2e]; exact hlo
  have hs1 := hide ((unhide hs0).ext (unhide hx1))
  clear hs0
  go_loopw [4] (fun i wr => ∃ k : Nat, k ≤ L.length ∧ i = .int .i64 k ∧ Blk wr b4 78 (setC (fromS (L.take k))) ∧ Blk wr b2 78 (setC 0) ∧ SlAt encI 1 wr A L ∧ Ext w wr) (fun i _ => L.length - (intOf i).toNat)
  case atStart => exact ⟨0, Nat.zero_le _, rfl, unhide hB4, unhide hB2, unhide hs1, unhide hx1⟩
  case round =>
    obtain ⟨k, hk, rfl, hB, hA, hs, hx⟩ := hrel
    have hB' := hide hB
    have hA' := hide hA
    have hs' := hide hs
    have hx' := hide hx
    clear hB4 hB2 hs1 hx1 hB hA hs hx
    by_cases hlt : k < L.length
    · have hB := unhide hB'
      obtain ⟨bb, off, rfl, c0⟩ := atI (unhide hs') hlt
      have hn' := hide (fromS_next L k hlt)
      generalize L[k] = x at c0 hn'
      generalize fromS (L.take k) = N at hB hB' hn'
      have hself := Ext.refl wr
      by_cases hf : fitB x = true
      · obtain ⟨n, rfl⟩ : ∃ n : Nat, x = n := ⟨x.toNat, by simp [fitB] at hf; omega⟩
        have hn : n < 1024 := by simp [fitB] at hf; omega
        have hN := hide (show withS N (n : Int) = N ||| 2 ^ n by rw [withS, if_pos hf, Int.toNat_natCast])
        obtain ⟨h1, hw, h6, h7, h8⟩ := idx_facts hn
        have h9 := tmod64 n
        have h10 := bitW_shl' n
        have k0 := cell_of hB hn
        have z0 : ¬ (n : Int) < 0 := by omega
        have z1 : (n : Int) < 1024 := by omega
        clear hB hf
        go_wp2_with fail
        refine wp_region_ext (P := Try.prog) [0,1,2,3,4,5,6,7,8,9,10,11,12,13,14,15,16,17,18,19] [20] 1 #[true,true,true,true,true,true,true,true,true,true,true,true,true,true,true,true,true,true,true,true,false] (by kernel_rfl) (by kernel_rfl) rfl (by rfl) ?_
        iterate 20
          refine ql_want (v := ?_) rfl (by rfl) (fun W hW => ?_) ?_
          rotate_left
          · go_simp
            first | done | rfl
          go_frame
        refine wpQL_nil (fun w3 hx3 => ?_)
        have c1 := k0 w3 hx3
        have f1 := ((unhide hB').ext hx3).frozen (n / 64)
        refine lx_one (i := 20) (by kernel_rfl) rfl (by rfl) #[true,true,true,true,true,true,true,true,true,true,true,true,true,true,true,true,true,true,true,true,true] (by rfl) ?_
        go_simp
        intro w4 hx4
        have hst := with_step (unhide hB') (unhide hA') (unhide hs') (unhide hx') hx3 hx4 (unhide hlo).1 (unhide hlo).2
        have hB3 := hide hst.1
        have hA3 := hide hst.2.1
        have hs3 := hide hst.2.2.1
        have hx5 := hide hst.2.2.2
        clear hB' hA' hs' hx' hx3 hx4 c0 c1 f1 k0 h1 hw h6 h7 h8 h9 h10 hst hself
        refine wpX_done (by kernel_rfl) ?_
        try go_frame
        go_wp2_with fail
        go_roundw
        case rel => exact ⟨k + 1, by omega, by go_num, by rw [unhide hn', unhide hN]; exact unhide hB3, unhide hA3, unhide hs3, unhide hx5⟩
        case measure => simp [intOf]; omega
      · have hN := hide (show withS N x = N by rw [withS, if_neg hf])
        clear hB
        by_cases h0 : x < 0
        · go_wp2_with fail
          go_roundw
          case rel => exact ⟨k + 1, by omega, by go_num, by rw [unhide hn', unhide hN]; exact unhide hB', unhide hA', unhide hs', unhide hx'⟩
          case measure => simp [intOf]; omega
        · have h1 : ¬ x < 1024 := by simp [fitB] at hf; omega
          go_wp2_with fail
          go_roundw
          case rel => exact ⟨k + 1, by omega, by go_num, by rw [unhide hn', unhide hN]; exact unhide hB', unhide hA', unhide hs', unhide hx'⟩
          case measure => simp [intOf]; omega
    · have hke : k = L.length := by omega
      have hB := unhide hB'
      have hA := unhide hA'
      rw [hke, List.take_length] at hB hB'
      have hself := Ext.refl wr
      clear hlt
      obtain ⟨N, hN⟩ : ∃ N, fromS L = N := ⟨_, rfl⟩
      rw [hN] at hB hB'
      have hN' := hide hN
      clear hN
      have e0 := hB.cells 0 (v := .int .u64 (wd N 0)) rfl
      have e1 := hB.cells 1 (v := .int .u64 (wd N 1)) rfl
      have e2 := hB.cells 2 (v := .int .u64 (wd N 2)) rfl
      have e3 := hB.cells 3 (v := .int .u64 (wd N 3)) rfl
      have e4 := hB.cells 4 (v := .int .u64 (wd N 4)) rfl
      have e5 := hB.cells 5 (v := .int .u64 (wd N 5)) rfl
      have e6 := hB.cells 6 (v := .int .u64 (wd N 6)) rfl
      have e7 := hB.cells 7 (v := .int .u64 (wd N 7)) rfl
      have e8 := hB.cells 8 (v := .int .u64 (wd N 8)) rfl
      have e9 := hB.cells 9 (v := .int .u64 (wd N 9)) rfl
      have e10 := hB.cells 10 (v := .int .u64 (wd N 10)) rfl
      have e11 := hB.cells 11 (v := .int .u64 (wd N 11)) rfl
      have e12 := hB.cells 12 (v := .int .u64 (wd N 12)) rfl
      have e13 := hB.cells 13 (v := .int .u64 (wd N 13)) rfl
      have e14 := hB.cells 14 (v := .int .u64 (wd N 14)) rfl
      have e15 := hB.cells 15 (v := .int .u64 (wd N 15)) rfl
      have g0 := hA.frozen 0
      have g1 := hA.frozen 1
      have g2 := hA.frozen 2
      have g3 := hA.frozen 3
      have g4 := hA.frozen 4
      have g5 := hA.frozen 5
      have g6 := hA.frozen 6
      have g7 := hA.frozen 7
      have g8 := hA.frozen 8
      have g9 := hA.frozen 9
      have g10 := hA.frozen 10
      have g11 := hA.frozen 11
      have g12 := hA.frozen 12
      have g13 := hA.frozen 13
      have g14 := hA.frozen 14
      have g15 := hA.frozen 15
      have z0 := hA.cells 0 (v := .int .u64 (wd 0 0)) rfl
      have z1 := hA.cells 1 (v := .int .u64 (wd 0 1)) rfl
      have z2 := hA.cells 2 (v := .int .u64 (wd 0 2)) rfl
      have z3 := hA.cells 3 (v := .int .u64 (wd 0 3)) rfl
      have z4 := hA.cells 4 (v := .int .u64 (wd 0 4)) rfl
      have z5 := hA.cells 5 (v := .int .u64 (wd 0 5)) rfl
      have z6 := hA.cells 6 (v := .int .u64 (wd 0 6)) rfl
      have z7 := hA.cells 7 (v := .int .u64 (wd 0 7)) rfl
      have z8 := hA.cells 8 (v := .int .u64 (wd 0 8)) rfl
      have z9 := hA.cells 9 (v := .int .u64 (wd 0 9)) rfl
      have z10 := hA.cells 10 (v := .int .u64 (wd 0 10)) rfl
      have z11 := hA.cells 11 (v := .int .u64 (wd 0 11)) rfl
      have z12 := hA.cells 12 (v := .int .u64 (wd 0 12)) rfl
      have z13 := hA.cells 13 (v := .int .u64 (wd 0 13)) rfl
      have z14 := hA.cells 14 (v := .int .u64 (wd 0 14)) rfl
      have z15 := hA.cells 15 (v := .int .u64 (wd 0 15)) rfl
      clear hB hA
      go_wp2_with fail
      refine bodyPost_ret (ret_cell1 rfl rfl (load_Set _ b2 N (Blk.set16 N (unhide hA')))) rfl ?_
      exact ⟨by rw [unhide hN'], (unhide hx').of_new (Keep.set16 wr b2 N) (by simp; omega)⟩
end Go.Proofs.Ytdkhondfahebnaa
/- THE SETS OF package bitset: Below. Conditions: see each theorem. -/
namespace Go.Proofs.Ytdkhondfahebnaa
open Go Go.RowKit
attribute [local go_sem] qUpon lUpon

/-- the elements below n -/
def belS (n : Int) : Nat := 2 ^ (min n.toNat 1024) - 1
theorem wdN_mod (N k i : Nat) : wdN (N % 2 ^ (64 * k)) i = if i < k then wdN N i else 0 := by
  apply Nat.eq_of_testBit_eq
  intro j
  rw [wdN_bit, Nat.testBit_mod_two_pow]
  by_cases h : i < k
  · rw [if_pos h, wdN_bit, Bool.eq_iff_iff]
    simp only [Bool.and_eq_true, decide_eq_true_eq]
    constructor
    · rintro ⟨a, _, b⟩; exact ⟨a, b⟩
    · rintro ⟨a, b⟩; exact ⟨a, by omega, b⟩
  · rw [if_neg h, Nat.zero_testBit, Bool.eq_iff_iff]
    simp only [Bool.and_eq_true, decide_eq_true_eq, Bool.false_eq_true, iff_false]
    omega
theorem setC_next (N k : Nat) : (setC (N % 2 ^ (64 * k))).setIfInBounds k (.int .u64 (wd N k)) = setC (N % 2 ^ (64 * (k + 1))) := by
  apply Array.ext_getElem?
  intro i
  by_cases hi : i < 16
  · rw [setC_get _ hi]
    by_cases he : k = i
    · subst he
      rw [Array.getElem?_setIfInBounds_self_of_lt (by rw [setC_size]; omega)]
      unfold wd
      rw [wdN_mod, if_pos (by omega)]
    · rw [Array.getElem?_setIfInBounds_ne he, setC_get _ hi]
      unfold wd
      rw [wdN_mod, wdN_mod]
      by_cases h1 : i < k
      · rw [if_pos h1, if_pos (by omega)]
      · rw [if_neg h1, if_neg (by omega)]
  · have h1 : ∀ a : Array Value, a.size = 16 → a[i]? = none := fun a h => Array.getElem?_eq_none (by omega)
    rw [h1 _ (by simp [setC_size]), h1 _ (setC_size _)]
theorem bel_lt {m K : Nat} (h : m ≤ K) : 2 ^ m - 1 < 2 ^ K := by
  have : 2 ^ m ≤ 2 ^ K := Nat.pow_le_pow_right (by decide) h
  have hp : 0 < 2 ^ m := Nat.pow_pos (by decide)
  omega
theorem bel_word (m k c : Nat) (hc : c = min (m - 64 * k) 64) : IntKind.u64.wrap (IntKind.u64.wrap (2 ^ c) - 1) = wd (2 ^ m - 1) k := by
  have h1 : wd (2 ^ m - 1) k = ((2 ^ c - 1 : Nat) : Int) := by unfold wd; rw [wdN_below, hc]
  have hp : 0 < 2 ^ c := Nat.pow_pos (by decide)
  have hle : 2 ^ c ≤ 2 ^ 64 := Nat.pow_le_pow_right (by decide) (by omega)
  have e : ((2 : Int) ^ c) = ((2 ^ c : Nat) : Int) := by simp
  rw [h1, IntKind.wrap_u64, IntKind.wrap_u64, e]
  generalize 2 ^ c = p at *
  omega

set_option maxRecDepth 100000 in
set_option maxHeartbeats 4000000 in
theorem below_any (n : Int) (w : World) :
    Calls Try.prog 61 #[.int .i64 n] w fun e w' => e = .returned (.agg (setC (belS n))) ∧ Ext w w' := by
  obtain ⟨m, hm⟩ : ∃ m : Nat, m = min n.toNat 1024 := ⟨_, rfl⟩
  have hm1 : max 0 (min n 1024) = (m : Int) := by omega
  have hm2 : m ≤ 1024 := by omega
  have hbe : belS n = 2 ^ m - 1 := by rw [belS, ← hm]
  have hbe' := hide hbe
  have hB0 := hide (Blk.new w 78 (setC 0))
  clear hbe hm
  go_enter Try.func61, Try.ntmps61
  go_wp2_with fail
  have hx1 := hide ((ext_self1 w (.cells (setC 0) 78)).trans (ext_self1 _ (.cells (setC 0) 78)))
  have hB2 := hide ((unhide hB0).ext (ext_self1 (w.alloc (.cells (setC 0) 78)) (.cells (setC 0) 78)))
  have hB4 := hide (Blk.new (w.alloc (.cells (setC 0) 78)) 78 (setC 0))
  have hs : (w.alloc (.cells (setC 0) 78)).heap.size = w.heap.size + 1 := World.size_alloc _ _
  rw [hs] at hB4
  clear hs hB0
  have hz : setC 0 = #[.int .u64 0, .int .u64 0, .int .u64 0, .int .u64 0, .int .u64 0, .int .u64 0, .int .u64 0, .int .u64 0, .int .u64 0, .int .u64 0, .int .u64 0, .int .u64 0, .int .u64 0, .int .u64 0, .int .u64 0, .int .u64 0] := rfl
  rw [hz] at hx1 hB2 hB4
  generalize (w.alloc (.cells #[.int .u64 0, .int .u64 0, .int .u64 0, .int .u64 0, .int .u64 0, .int .u64 0, .int .u64 0, .int .u64 0, .int .u64 0, .int .u64 0, .int .u64 0, .int .u64 0, .int .u64 0, .int .u64 0, .int .u64 0, .int .u64 0] 78)).alloc (.cells #[.int .u64 0, .int .u64 0, .int .u64 0, .int .u64 0, .int .u64 0, .int .u64 0, .int .u64 0, .int .u64 0, .int .u64 0, .int .u64 0, .int .u64 0, .int .u64 0, .int .u64 0, .int .u64 0, .int .u64 0, .int .u64 0] 78) = W1 at *
  rw [← hz] at hB4 hB2
  clear hz
  generalize hb4e : w.heap.size + 1 = b4 at *
  generalize hb2e : w.heap.size = b2 at *
  obtain ⟨N, hN⟩ : ∃ N, N = 2 ^ m - 1 := ⟨_, rfl⟩
  have hN' := hide hN
  have hlt2 := hide (bel_lt (K := 64 * 16) hm2)
  rw [← hN] at hlt2
  clear hN
  go_loopw [8] (fun i wr => ∃ k : Nat, k ≤ 16 ∧ i = .int .i64 k ∧ Blk wr b4 78 (setC (N % 2 ^ (64 * k))) ∧ Blk wr b2 78 (setC 0) ∧ Ext w wr) (fun i _ => 16 - (intOf i).toNat)
  case atStart => exact ⟨0, Nat.zero_le _, rfl, by rw [Nat.mul_zero, Nat.pow_zero, Nat.mod_one]; exact unhide hB4, unhide hB2, unhide hx1⟩
  case round =>
    obtain ⟨k, hk, rfl, hB, hA, hx⟩ := hrel
    have hB' := hide hB
    have hA' := hide hA
    have hx' := hide hx
    clear hB4 hB2 hx1
    by_cases hlt : k < 16
    · obtain ⟨c, hc⟩ : ∃ c : Nat, c = min (m - 64 * k) 64 := ⟨_, rfl⟩
      have w1 : IntKind.i64.wrap (64 * (k : Int)) = 64 * (k : Int) := IntWalk.i64_in _ (by omega)
      have w2 : IntKind.i64.wrap ((m : Int) - 64 * (k : Int)) = (m : Int) - 64 * (k : Int) := IntWalk.i64_in _ (by omega)
      have w3 : max 0 (min ((m : Int) - 64 * (k : Int)) 64) = (c : Int) := by omega
      have w4 := bel_word m k c hc
      rw [← unhide hN'] at w4
      have c0 := hB.cell k
      have f0 := hB.frozen k
      rw [setC_get _ hlt] at c0
      clear hB hA hx hc
      go_wp2_with fail
      go_roundw
      case rel => exact ⟨k + 1, by omega, by go_num, by have h := (unhide hB').set k (.int .u64 (wd N k)); rw [setC_next] at h; exact h, (unhide hA').keep (Keep.setCell _ _ _ _) (by simp; omega), (unhide hx').of_new (Keep.setCell _ _ _ _) (by simp; omega)⟩
      case measure => simp [intOf]; omega
    · have hke : k = 16 := by omega
      subst hke
      rw [Nat.mod_eq_of_lt (unhide hlt2)] at hB hB'
      rw [← unhide hN'] at hbe'
      have hself := Ext.refl wr
      clear hx hlt2 hN'
      have e0 := hB.cells 0 (v := .int .u64 (wd N 0)) rfl
      have e1 := hB.cells 1 (v := .int .u64 (wd N 1)) rfl
      have e2 := hB.cells 2 (v := .int .u64 (wd N 2)) rfl
      have e3 := hB.cells 3 (v := .int .u64 (wd N 3)) rfl
      have e4 := hB.cells 4 (v := .int .u64 (wd N 4)) rfl
      have e5 := hB.cells 5 (v := .int .u64 (wd N 5)) rfl
      have e6 := hB.cells 6 (v := .int .u64 (wd N 6)) rfl
      have e7 := hB.cells 7 (v := .int .u64 (wd N 7)) rfl
      have e8 := hB.cells 8 (v := .int .u64 (wd N 8)) rfl
      have e9 := hB.cells 9 (v := .int .u64 (wd N 9)) rfl
      have e10 := hB.cells 10 (v := .int .u64 (wd N 10)) rfl
      have e11 := hB.cells 11 (v := .int .u64 (wd N 11)) rfl
      have e12 := hB.cells 12 (v := .int .u64 (wd N 12)) rfl
      have e13 := hB.cells 13 (v := .int .u64 (wd N 13)) rfl
      have e14 := hB.cells 14 (v := .int .u64 (wd N 14)) rfl
      have e15 := hB.cells 15 (v := .int .u64 (wd N 15)) rfl
      have g0 := hA.frozen 0
      have g1 := hA.frozen 1
      have g2 := hA.frozen 2
      have g3 := hA.frozen 3
      have g4 := hA.frozen 4
      have g5 := hA.frozen 5
      have g6 := hA.frozen 6
      have g7 := hA.frozen 7
      have g8 := hA.frozen 8
      have g9 := hA.frozen 9
      have g10 := hA.frozen 10
      have g11 := hA.frozen 11
      have g12 := hA.frozen 12
      have g13 := hA.frozen 13
      have g14 := hA.frozen 14
      have g15 := hA.frozen 15
      have z0 := hA.cells 0 (v := .int .u64 (wd 0 0)) rfl
      have z1 := hA.cells 1 (v := .int .u64 (wd 0 1)) rfl
      have z2 := hA.cells 2 (v := .int .u64 (wd 0 2)) rfl
      have z3 := hA.cells 3 (v := .int .u64 (wd 0 3)) rfl
      have z4 := hA.cells 4 (v := .int .u64 (wd 0 4)) rfl
      have z5 := hA.cells 5 (v := .int .u64 (wd 0 5)) rfl
      have z6 := hA.cells 6 (v := .int .u64 (wd 0 6)) rfl
      have z7 := hA.cells 7 (v := .int .u64 (wd 0 7)) rfl
      have z8 := hA.cells 8 (v := .int .u64 (wd 0 8)) rfl
      have z9 := hA.cells 9 (v := .int .u64 (wd 0 9)) rfl
      have z10 := hA.cells 10 (v := .int .u64 (wd 0 10)) rfl
      have z11 := hA.cells 11 (v := .int .u64 (wd 0 11)) rfl
      have z12 := hA.cells 12 (v := .int .u64 (wd 0 12)) rfl
      have z13 := hA.cells 13 (v := .int .u64 (wd 0 13)) rfl
      have z14 := hA.cells 14 (v := .int .u64 (wd 0 14)) rfl
      have z15 := hA.cells 15 (v := .int .u64 (wd 0 15)) rfl
      clear hB hA
      go_wp2_with fail
      rw [unhide hbe']
      refine bodyPost_ret (ret_cell1 rfl rfl (load_Set _ b2 N (Blk.set16 N (unhide hA')))) rfl ?_
      exact ⟨rfl, (unhide hx').of_new (Keep.set16 wr b2 N) (by simp; omega)⟩
end Go.Proofs.Ytdkhondfahebnaa
/- SETS OF A GRAPH: EdgeSet; the sets of a nil graph. Conditions: see each theorem. -/
namespace Go.Proofs.Ytdkhondfahebnaa
open Go Go.RowKit
attribute [local go_sem] qUpon lUpon

set_option maxRecDepth 100000 in
set_option maxHeartbeats 4000000 in
theorem eset_gen (g : Value) (n m : Int) (w : World) (hL : ∀ W, Ext w W → Calls Try.prog 27 #[g] W fun e w' => e = .returned (.tuple #[.int .i64 n, .int .i64 m]) ∧ Ext W w') :
    Calls Try.prog 37 #[g] w fun e w' => e = .returned (.agg (setC (belS m))) ∧ Ext w w' := by
  have hB0 := hide (Blk.new w 78 (setC 0))
  have hL' := hide hL
  clear hL
  go_enter Try.func37, Try.ntmps37
  go_wp2_with fail
  have hz : setC 0 = #[.int .u64 0, .int .u64 0, .int .u64 0, .int .u64 0, .int .u64 0, .int .u64 0, .int .u64 0, .int .u64 0, .int .u64 0, .int .u64 0, .int .u64 0, .int .u64 0, .int .u64 0, .int .u64 0, .int .u64 0, .int .u64 0] := rfl
  have hx1 := hide (ext_self1 w (.cells (setC 0) 78))
  rw [hz] at hB0 hx1
  generalize w.alloc (.cells #[.int .u64 0, .int .u64 0, .int .u64 0, .int .u64 0, .int .u64 0, .int .u64 0, .int .u64 0, .int .u64 0, .int .u64 0, .int .u64 0, .int .u64 0, .int .u64 0, .int .u64 0, .int .u64 0, .int .u64 0, .int .u64 0] 78) = W1 at *
  rw [← hz] at hB0
  clear hz
  generalize hb2e : w.heap.size = b2 at *
  refine (unhide hL' _ (unhide hx1)).mono ?_
  rintro e w2 ⟨rfl, hx2⟩
  have hB2 := hide ((unhide hB0).ext hx2)
  have hx2' := hide ((unhide hx1).trans hx2)
  clear hx1 hx2 hB0 hL'
  go_wp2_with fail
  refine (below_any _ _).mono ?_
  rintro e w3 ⟨rfl, hx3⟩
  have hB3 := (unhide hB2).ext hx3
  have hx3' := hide ((unhide hx2').trans hx3)
  have hst := store_Set (belS m) hB3
  have hB3' := hide hB3
  clear hx3 hx2' hB2 hB3
  go_wp2_with fail
  refine bodyPost_ret (ret_cell1 rfl rfl (load_Set _ b2 _ (Blk.putS _ (unhide hB3')))) rfl ?_
  exact ⟨rfl, (unhide hx3').of_new (Keep.putS w3 b2 _) (by simp; omega)⟩
theorem zero_Set : setC 0 = #[.int .u64 0, .int .u64 0, .int .u64 0, .int .u64 0, .int .u64 0, .int .u64 0, .int .u64 0, .int .u64 0, .int .u64 0, .int .u64 0, .int .u64 0, .int .u64 0, .int .u64 0, .int .u64 0, .int .u64 0, .int .u64 0] := rfl
theorem vset_nil (w : World) : Calls Try.prog 36 #[.pointer none] w fun e w' => e = .returned (.agg #[.int .u64 0, .int .u64 0, .int .u64 0, .int .u64 0, .int .u64 0, .int .u64 0, .int .u64 0, .int .u64 0, .int .u64 0, .int .u64 0, .int .u64 0, .int .u64 0, .int .u64 0, .int .u64 0, .int .u64 0, .int .u64 0]) ∧ Ext w w' :=
  vset_gen _ [] w (by simp) fun W _ => (vertices_nil W).mono fun _ _ h => ⟨none, 0, h.1, SlAt.nil, h.2⟩
theorem eset_nil (w : World) : Calls Try.prog 37 #[.pointer none] w fun e w' => e = .returned (.agg #[.int .u64 0, .int .u64 0, .int .u64 0, .int .u64 0, .int .u64 0, .int .u64 0, .int .u64 0, .int .u64 0, .int .u64 0, .int .u64 0, .int .u64 0, .int .u64 0, .int .u64 0, .int .u64 0, .int .u64 0, .int .u64 0]) ∧ Ext w w' :=
  eset_gen _ 0 0 w fun W _ => len_nil W
theorem near_nil (id : Int) (w : World) : Calls Try.prog 33 #[.pointer none, .int .i64 id] w fun e w' => e = .returned (.agg #[.int .u64 0, .int .u64 0, .int .u64 0, .int .u64 0, .int .u64 0, .int .u64 0, .int .u64 0, .int .u64 0, .int .u64 0, .int .u64 0, .int .u64 0, .int .u64 0, .int .u64 0, .int .u64 0, .int .u64 0, .int .u64 0]) ∧ Ext w w' := by
  have h := near_gen (.pointer none) id [] w (by simp) fun W _ => (edges_nil W).mono fun _ _ h => ⟨none, 0, h.1, SlAt.nil, h.2⟩
  rwa [show nearS id [] = 0 from rfl, zero_Set] at h
theorem inc_nil (id : Int) (w : World) : Calls Try.prog 35 #[.pointer none, .int .i64 id] w fun e w' => e = .returned (.agg #[.int .u64 0, .int .u64 0, .int .u64 0, .int .u64 0, .int .u64 0, .int .u64 0, .int .u64 0, .int .u64 0, .int .u64 0, .int .u64 0, .int .u64 0, .int .u64 0, .int .u64 0, .int .u64 0, .int .u64 0, .int .u64 0]) ∧ Ext w w' := by
  have h := inc_gen (.pointer none) id [] w (by simp) fun W _ => (edges_nil W).mono fun _ _ h => ⟨none, 0, h.1, SlAt.nil, h.2⟩
  rwa [show incS id [] ([] : List ((Int × Int) × Thing)).length = 0 from rfl, zero_Set] at h
end Go.Proofs.Ytdkhondfahebnaa
/- TWO EQUAL SETS COMPARED. Conditions: see each theorem. -/
namespace Go.Proofs.Ytdkhondfahebnaa
open Go Go.RowKit

theorem items_same {P : Program} (w : World) (d : Nat) (e : TypeId) (he : P.underlying e = some (.int .u64)) (xs : Array Value) (h : ∀ i, i < 16 → ∃ m, xs[i]? = some (.int .u64 m)) :
    ∀ is : List Nat, (∀ i ∈ is, i < 16) → (Op.eqItems (d + 1) e 1 xs xs is).run P w = .ok true w
  | [], _ => by simp [Op.eqItems]
  | i :: is, hi => by
    obtain ⟨m, hm⟩ := h i (hi i (by simp))
    have px : (part e xs (i * 1)).run P w = .ok (.int .u64 m) w := by
      simp [part, isAgg, run_underlying he, hm]
    have pe : (Op.equalIn (d + 1) e (.int .u64 m) (.int .u64 m)).run P w = .ok true w := by
      rw [run_equalIn_int w d e .u64 .u64 _ _ he]
      simp
    simp only [Op.eqItems, Sem.run_bind, px, pe, Result.andThen_ok, Bool.not_true, Bool.false_eq_true, if_false]
    exact items_same w d e he xs h is (fun j hj => hi j (by simp [hj]))
set_option maxRecDepth 100000 in
theorem eq_Set (w : World) (N : Nat) : (Op.equalIn 10000 78 (.agg (setC N)) (.agg (setC N))).run Try.prog w = .ok true w := by
  have hc : Try.prog.cellsOf 76 = 1 := by kernel_rfl
  obtain ⟨i, hi⟩ : ∃ i, Try.prog.info? 76 = some i := ⟨_, rfl⟩
  have h := run_equalIn_array w 9999 (setC N) (setC N) Try.underlying78 hi
  rw [hc] at h
  exact h.trans (items_same w 9998 76 Try.underlying76 (setC N) (fun i hi => ⟨_, setC_get N hi⟩) (List.range 16) (fun i hi => List.mem_range.1 hi))
theorem eq_Set0 (w : World) : (Op.equalIn 10000 78 (.agg #[.int .u64 0, .int .u64 0, .int .u64 0, .int .u64 0, .int .u64 0, .int .u64 0, .int .u64 0, .int .u64 0, .int .u64 0, .int .u64 0, .int .u64 0, .int .u64 0, .int .u64 0, .int .u64 0, .int .u64 0, .int .u64 0]) (.agg #[.int .u64 0, .int .u64 0, .int .u64 0, .int .u64 0, .int .u64 0, .int .u64 0, .int .u64 0, .int .u64 0, .int .u64 0, .int .u64 0, .int .u64 0, .int .u64 0, .int .u64 0, .int .u64 0, .int .u64 0, .int .u64 0])).run Try.prog w = .ok true w := eq_Set w 0
end Go.Proofs.Ytdkhondfahebnaa
