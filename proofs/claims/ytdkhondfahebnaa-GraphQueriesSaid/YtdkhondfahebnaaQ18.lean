/- Parts of a proof, laid together: Ve, Fs, Is, Nr, F1. Each part says its own conditions. -/
import Derived.Test.YtdkhondfahebnaaQ17
import Derived.Test.YtdkhondfahebnaaQ14
import Derived.Test.YtdkhondfahebnaaQ16
/- graph.Vertex of a graph. Conditions: see each theorem. -/
namespace Go.Proofs.Ytdkhondfahebnaa
open Go Go.RowKit

theorem IsG.look1c {w : World} {g bv be : Nat} {V : List (Int × Thing)} {E : List ((Int × Int) × Thing)} (h : IsG w g bv be V E) {x : Int} (hx : i64ok x) : ∀ W, Ext w W → (Instr.lookup 87 (.map (some bv)) (.int .i64 x) true).run Try.prog W = .ok (.tuple #[evT ((lookM V x).getD (0, 0)), .bool (lookM V x).isSome]) W := by
  intro W hW
  obtain ⟨V', E', h1, hV, hE, hi⟩ := h
  rw [lookM_perm (sv_nodup hi.sv) hV]
  exact (h1.vs.ext hW).lookup2 keV Try.underlying87 (zeroT W) hx

set_option maxRecDepth 100000 in
set_option maxHeartbeats 4000000 in
theorem vertex_hit (g bv be : Nat) (V : List (Int × Thing)) (E : List ((Int × Int) × Thing)) (u : Int) (w : World) (hg : IsG w g bv be V E) (hu : i64ok u) (h0 : (lookM V u).isSome = true) :
    Calls Try.prog 28 #[.pointer (some ⟨g, 0, none⟩), .int .i64 u] w fun e w' => e = .returned (.tuple #[.agg #[.int .i64 u, .int .u8 ((lookM V u).getD (0, 0)).1, .int .i64 ((lookM V u).getD (0, 0)).2], .bool true]) ∧ Ext w w' := by
  have hb := Blk.new w 44 #[.int .i64 0, .int .u8 0, .int .i64 0]
  have hx1 := hide (ext_self1 w (.cells #[.int .i64 0, .int .u8 0, .int .i64 0] 44))
  have hg1 := hg.ext (unhide hx1)
  have g0 := hg1.ptr0
  have lk := hg1.look1c hu
  rw [h0] at lk
  have s0 := hb.cells 0 (v := .int .i64 0) rfl
  have s1 := hb.cells 1 (v := .int .u8 0) rfl
  have s2 := hb.cells 2 (v := .int .i64 0) rfl
  have f0 := hb.frozen 0
  have f1 := hb.frozen 1
  have f2 := hb.frozen 2
  have hself := Ext.refl (w.alloc (.cells #[.int .i64 0, .int .u8 0, .int .i64 0] 44))
  generalize (lookM V u).getD (0, 0) = t at *
  obtain ⟨tl, tw⟩ := t
  simp only [evT] at lk
  clear hb hg hg1 h0
  go_enter Try.func28, Try.ntmps28
  go_wp2_with fail
  refine bodyPost_ret (ret_cell2 rfl rfl (load_Ver _ w.heap.size _ _ _ ((Blk.new w _ _).ext (ext_self1 _ _)))) rfl ?_
  exact ⟨rfl, (ext_self1 _ _).trans (ext_self1 _ _)⟩

set_option maxRecDepth 100000 in
set_option maxHeartbeats 4000000 in
theorem vertex_miss (g bv be : Nat) (V : List (Int × Thing)) (E : List ((Int × Int) × Thing)) (u : Int) (w : World) (hg : IsG w g bv be V E) (hu : i64ok u) (h0 : (lookM V u).isSome = false) :
    Calls Try.prog 28 #[.pointer (some ⟨g, 0, none⟩), .int .i64 u] w fun e w' => e = .returned (.tuple #[.agg #[.int .i64 0, .int .u8 0, .int .i64 0], .bool false]) ∧ Ext w w' := by
  have hb := Blk.new w 44 #[.int .i64 0, .int .u8 0, .int .i64 0]
  have hx1 := hide (ext_self1 w (.cells #[.int .i64 0, .int .u8 0, .int .i64 0] 44))
  have hg1 := hg.ext (unhide hx1)
  have g0 := hg1.ptr0
  have lk := hg1.look1c hu
  rw [h0] at lk
  have s0 := hb.cells 0 (v := .int .i64 0) rfl
  have s1 := hb.cells 1 (v := .int .u8 0) rfl
  have s2 := hb.cells 2 (v := .int .i64 0) rfl
  have f0 := hb.frozen 0
  have f1 := hb.frozen 1
  have f2 := hb.frozen 2
  have hself := Ext.refl (w.alloc (.cells #[.int .i64 0, .int .u8 0, .int .i64 0] 44))
  generalize (lookM V u).getD (0, 0) = t at *
  obtain ⟨tl, tw⟩ := t
  simp only [evT] at lk
  clear hb hg hg1 h0
  go_enter Try.func28, Try.ntmps28
  go_wp2_with fail
  refine bodyPost_ret (ret_cell2 rfl rfl (load_Ver _ w.heap.size _ _ _ ((Blk.new w _ _).ext (ext_self1 _ _)))) rfl ?_
  exact ⟨rfl, (ext_self1 _ _).trans (ext_self1 _ _)⟩
end Go.Proofs.Ytdkhondfahebnaa
/- SETS OUT OF LISTS OF NUMBERS, AND OF A GRAPH: plain laws. No program in sight. Conditions: see each theorem. -/
namespace Go.Proofs.Ytdkhondfahebnaa
open Go Go.RowKit

theorem withS_bit (N : Nat) (x : Int) (k : Nat) : (withS N x).testBit k = (N.testBit k || (decide (k < 1024) && decide (x = (k : Int)))) := by
  unfold withS fitB
  by_cases h : 0 ≤ x ∧ x < 1024
  · rw [if_pos (by simp [h.1, h.2]), Nat.testBit_or, Nat.testBit_two_pow]
    congr 1
    rw [Bool.eq_iff_iff]
    simp only [Bool.and_eq_true, decide_eq_true_eq]
    omega
  · rw [if_neg (by simp; omega)]
    have : (decide (k < 1024) && decide (x = (k : Int))) = false := by
      rw [Bool.eq_false_iff]
      simp only [ne_eq, Bool.and_eq_true, decide_eq_true_eq]
      omega
    rw [this, Bool.or_false]
/-- the set of the numbers of a list -/
def fromS (L : List Int) : Nat := L.foldl withS 0
theorem fromS_next (L : List Int) (k : Nat) (h : k < L.length) : fromS (L.take (k + 1)) = withS (fromS (L.take k)) L[k] := by
  unfold fromS
  rw [List.take_succ_eq_append_getElem h, List.foldl_append, List.foldl_cons, List.foldl_nil]
theorem fold_bit (L : List Int) : ∀ (a k : Nat), (L.foldl withS a).testBit k = (a.testBit k || (decide (k < 1024) && decide ((k : Int) ∈ L))) := by
  induction L with
  | nil => intro a k; simp
  | cons x r ih =>
    intro a k
    rw [List.foldl_cons, ih, withS_bit, Bool.or_assoc]
    congr 1
    rw [Bool.eq_iff_iff]
    simp only [Bool.or_eq_true, Bool.and_eq_true, decide_eq_true_eq, List.mem_cons]
    constructor
    · rintro (h | h)
      · exact ⟨h.1, .inl h.2.symm⟩
      · exact ⟨h.1, .inr h.2⟩
    · rintro ⟨h1, h2 | h2⟩
      · exact .inl ⟨h1, h2.symm⟩
      · exact .inr ⟨h1, h2⟩
theorem fromS_bit (L : List Int) (k : Nat) : (fromS L).testBit k = (decide (k < 1024) && decide ((k : Int) ∈ L)) := by
  unfold fromS
  rw [fold_bit, Nat.zero_testBit, Bool.false_or]
theorem fromS_congr {L M : List Int} (h : ∀ x : Int, x ∈ L ↔ x ∈ M) : fromS L = fromS M := by
  apply Nat.eq_of_testBit_eq
  intro k
  rw [fromS_bit, fromS_bit]
  simp [h]
/-- VertexSet as a set of a list -/
theorem vS_eq (V : List (Int × Thing)) : vS V = fromS (V.map (·.1)) := by
  unfold vS fromS
  rw [List.foldl_map]
/-- the numbers that Neighbors adds -/
def nearL (id : Int) (E : List ((Int × Int) × Thing)) : List Int := E.flatMap fun e => if id = e.1.1 then [e.1.2] else if id = e.1.2 then [e.1.1] else []
theorem nearS_fold (id : Int) (E : List ((Int × Int) × Thing)) : ∀ a, E.foldl (nearF id) a = (nearL id E).foldl withS a := by
  induction E with
  | nil => intro a; rfl
  | cons e r ih =>
    intro a
    have h : nearL id (e :: r) = (if id = e.1.1 then [e.1.2] else if id = e.1.2 then [e.1.1] else []) ++ nearL id r := by unfold nearL; rw [List.flatMap_cons]
    rw [List.foldl_cons, ih, h, List.foldl_append]
    congr 1
    unfold nearF
    split
    · rfl
    · split <;> rfl
theorem nearS_eq (id : Int) (E : List ((Int × Int) × Thing)) : nearS id E = fromS (nearL id E) := nearS_fold id E 0
theorem mem_nearL {id x : Int} {E : List ((Int × Int) × Thing)} (hlo : ∀ e ∈ E, e.1.1 < e.1.2) : x ∈ nearL id E ↔ ∃ e ∈ E, e.1 = (min id x, max id x) := by
  unfold nearL
  rw [List.mem_flatMap]
  constructor
  · rintro ⟨e, he, h⟩
    have := hlo e he
    refine ⟨e, he, ?_⟩
    split at h
    · simp at h; apply Prod.ext <;> simp <;> omega
    · split at h
      · simp at h; apply Prod.ext <;> simp <;> omega
      · simp at h
  · rintro ⟨e, he, h⟩
    have hl := hlo e he
    rw [h] at hl
    simp at hl
    refine ⟨e, he, ?_⟩
    rw [h]
    simp
    by_cases h1 : id = min id x
    · rw [if_pos h1]; simp; omega
    · rw [if_neg h1, if_pos (by omega)]; simp; omega
/-- what ref.Near lists: the neighbours -/
def rnear (id : Int) (V : List (Int × Thing)) (E : List ((Int × Int) × Thing)) : List Int := (V.filter fun p => decide (0 ≤ posI (isE p.1 id) E)).map (·.1)
theorem rnear_eq {id : Int} {V : List (Int × Thing)} {E : List ((Int × Int) × Thing)} (hi : GInv V E) : fromS (rnear id V E) = nearS id E := by
  rw [nearS_eq]
  apply fromS_congr
  intro x
  rw [mem_nearL hi.lo]
  unfold rnear
  rw [List.mem_map]
  constructor
  · rintro ⟨p, hp, rfl⟩
    rw [List.mem_filter, decide_eq_true_eq, posI_nonneg] at hp
    obtain ⟨_, e, he, h⟩ := hp
    rw [isE_iff (hi.lo e he)] at h
    exact ⟨e, he, by rw [h]; apply Prod.ext <;> simp <;> omega⟩
  · rintro ⟨e, he, h⟩
    have hv : ∃ t, (x, t) ∈ V := by
      have h2 := hi.ends e he
      have hl := hi.lo e he
      rw [h] at h2 hl
      simp at hl
      by_cases hx : x = min id x
      · rw [← hx] at h2; exact h2.1
      · have : x = max id x := by omega
        rw [← this] at h2; exact h2.2
    obtain ⟨t, ht⟩ := hv
    refine ⟨(x, t), ?_, rfl⟩
    rw [List.mem_filter, decide_eq_true_eq, posI_nonneg]
    exact ⟨ht, e, he, by rw [isE_iff (hi.lo e he), h]; apply Prod.ext <;> simp <;> omega⟩
/-- what ref.Near lists: the edges -/
def ron (id : Int) (E : List ((Int × Int) × Thing)) (k : Nat) : List Int := ((List.range k).filter fun i => match E[i]? with | some e => incB id e | none => false).map fun (i : Nat) => (i : Int)
theorem ron_next (id : Int) (E : List ((Int × Int) × Thing)) (k : Nat) (h : k < E.length) : ron id E (k + 1) = if incB id E[k] then ron id E k ++ [(k : Int)] else ron id E k := by
  unfold ron
  rw [List.range_succ, List.filter_append, List.map_append]
  have : E[k]? = some E[k] := List.getElem?_eq_getElem h
  cases hb : incB id E[k] <;> simp [this, hb]
theorem ron_fold (id : Int) (E : List ((Int × Int) × Thing)) : ∀ k, k ≤ E.length → fromS (ron id E k) = incS id E k
  | 0, _ => rfl
  | k + 1, h => by
    have ih := ron_fold id E k (by omega)
    rw [ron_next id E k (by omega), incS_next id E k (by omega)]
    cases incB id E[k]
    · simpa using ih
    · simp only [if_true]
      unfold fromS at ih ⊢
      rw [List.foldl_append, ih, List.foldl_cons, List.foldl_nil]
theorem ron_eq (id : Int) (E : List ((Int × Int) × Thing)) : fromS (ron id E E.length) = incS id E E.length := ron_fold id E _ (Nat.le_refl _)
theorem ron_le (id : Int) (E : List ((Int × Int) × Thing)) (k : Nat) : (ron id E k).length ≤ k := by
  unfold ron
  rw [List.length_map]
  have := List.length_filter_le (fun i => match E[i]? with | some e => incB id e | none => false) (List.range k)
  simpa using this
/-- the places of the edge of two vertices: one law for graph.Edge and ref.Edge -/
theorem posI_congr {α : Type} {p q : α → Bool} : ∀ {l : List α}, (∀ x ∈ l, p x = q x) → posI p l = posI q l := by
  intro l h
  unfold posI
  have : l.findIdx? p = l.findIdx? q := by
    induction l with
    | nil => rfl
    | cons x r ih =>
      rw [List.findIdx?_cons, List.findIdx?_cons, h x (by simp), ih (fun y hy => h y (by simp [hy]))]
  rw [this]
theorem isX_isE {u v : Int} {q : (Int × Int) × Thing} (h : q.1.1 < q.1.2) : isX (min u v) (max u v) q = isE u v q := by
  rw [Bool.eq_iff_iff, isE_iff h]
  unfold isX
  simp only [Bool.and_eq_true, beq_iff_eq]
  constructor
  · intro h; exact Prod.ext h.1 h.2
  · intro h; rw [h]; exact ⟨rfl, rfl⟩
theorem posX_posE {u v : Int} {E : List ((Int × Int) × Thing)} (hlo : ∀ e ∈ E, e.1.1 < e.1.2) : posI (isX (min u v) (max u v)) E = posI (isE u v) E := posI_congr fun x hx => isX_isE (hlo x hx)
theorem posI_cases {α : Type} (p : α → Bool) (l : List α) : posI p l = -1 ∧ (∀ x ∈ l, p x = false) ∨ ∃ i, ∃ h : i < l.length, posI p l = (i : Int) ∧ p l[i] = true := by
  unfold posI
  cases hf : l.findIdx? p with
  | none => exact .inl ⟨rfl, by simpa [List.findIdx?_eq_none_iff] using hf⟩
  | some i =>
    obtain ⟨h, hp, _⟩ := List.findIdx?_eq_some_iff_getElem.1 hf
    exact .inr ⟨i, h, rfl, hp⟩
theorem find_look {u : Int} {V : List (Int × Thing)} (hs : V.Pairwise ltV) : (lookM V u).isSome = false ∧ posI (fun p : Int × Thing => p.1 == u) V = -1 ∨ ∃ i, ∃ h : i < V.length, (lookM V u).isSome = true ∧ posI (fun p : Int × Thing => p.1 == u) V = (i : Int) ∧ V[i] = (u, (lookM V u).getD (0, 0)) := by
  rcases posI_cases (fun p : Int × Thing => p.1 == u) V with ⟨h1, h2⟩ | ⟨i, hi, h1, h2⟩
  · refine .inl ⟨?_, h1⟩
    rw [Bool.eq_false_iff]
    intro h
    obtain ⟨p, hp, h3⟩ := lookM_isSome.1 h
    have := h2 p hp
    simp [h3] at this
  · refine .inr ⟨i, hi, ?_, h1, ?_⟩
    · exact lookM_isSome.2 ⟨V[i], List.getElem_mem hi, by simpa using h2⟩
    · have h3 : V[i].1 = u := by simpa using h2
      have h4 : lookM V u = some V[i].2 := (lookM_some (sv_nodup hs)).2 (by rw [← h3]; exact List.getElem_mem hi)
      rw [h4, ← h3]
      rfl
end Go.Proofs.Ytdkhondfahebnaa
/- SLICES OF INTS IN MEMORY: read, appended to, two of them side by side. Conditions: see each theorem. -/
namespace Go.Proofs.Ytdkhondfahebnaa
open Go Go.RowKit

def encI (n : Int) : List Value := [.int .i64 n]
theorem encI0 (x : Int) : ∃ u : Value, (encI x)[0]? = some u := ⟨_, rfl⟩
theorem encI_nu (x : Int) (m : Int) : (encI x)[0]? ≠ some (.int .u64 m) := by simp [encI]
theorem one_encI (x : Int) : ∀ v ∈ encI x, v.oneCell' = true := by
  intro v hv
  simp [encI] at hv
  subst hv
  rfl
theorem atI {w : World} {A : Option Addr} {L : List Int} (h : SlAt encI 1 w A L) {i : Nat} (hi : i < L.length) : ∃ b off, A = some ⟨b, off, none⟩ ∧ (∀ W, Ext w W → W.cell? ⟨b, off + i, none⟩ = some (.int .i64 L[i])) := by
  obtain ⟨b, off, hA, hc⟩ := h.at_ hi
  refine ⟨b, off, hA, ?_⟩
  have := hc 0 _ rfl
  simpa using this
theorem infoI : (Try.prog.info? 3).map (fun i => (i.zero.map (·.cells.size), i.size, i.bytes)) = some (some 1, 1, 8) := by kernel_rfl
/-- two slices of one's own that share no block -/
def apart2 (v1 v2 : Value) : Prop := ∀ g, v1.ownBlock = some g → v2.ownBlock ≠ some g
theorem apart2.symm {v1 v2 : Value} (h : apart2 v1 v2) : apart2 v2 v1 := fun g h1 h2 => h g h2 h1
theorem apart2_nil (A n c) : apart2 (.slice none 0 0) (.slice A n c) := fun g h => by cases h
/-- an append to one's own slice: it stays where it was or lies in new memory -/
theorem wp_ap2 {α : Type} {enc : α → List Value} {T ST : TypeId} {k byt : Nat} (hi0 : (Try.prog.info? T).map (fun i => (i.zero.map (·.cells.size), i.size, i.bytes)) = some (some k, k, byt)) (hu : Try.prog.underlying ST = some (.slice T)) (hone : ∀ x, ∀ v ∈ enc x, v.oneCell' = true) (hlen : ∀ x, (enc x).length = k) (hk : 0 < k) (hby : byt ≤ 1000)
    {ops : Array Oper} {rest : List Oper} {o : Oper} {a : Act} {Q : Exit → Act → World → Prop} (w : World) (hgd : o.guard = none) (s x : Operand)
    (ho : o.op = .call { callee := .builtin .append, args := #[s, x], argTypes := #[ST, ST] }) (base : Nat) (v : Value) (n : Nat) (xs : List α) (e : α) (hn : xs.length = n) (g : Nat) (W : World) (hW : W = w.alloc (.cells (enc e).toArray T)) (hsg : w.heap.size = g) (hs : a.eval s = v) (hx : a.eval x = .slice (some ⟨g, 0, none⟩) 1 1)
    (hown : w.ownsRow base T k v n (xs.flatMap enc)) (hl : n ≤ 100000) (hb : base ≤ w.heap.size)
    (h : ∀ A' c' w', w'.ownsRow base T k (.slice A' (n + 1) c') (n + 1) ((xs ++ [e]).flatMap enc) → (w.alloc (.cells (enc e).toArray T)).grownBy w' v.ownBlock → (Value.ownBlock (.slice A' (n + 1) c') = v.ownBlock ∨ Value.ownBlock (.slice A' (n + 1) c') = some (w.heap.size + 1)) → wpList Try.prog ops Q rest (a.put o.dst (.slice A' (n + 1) c')) w') :
    wpList Try.prog ops Q (o :: rest) a W := by
  subst hW
  subst hn
  subst hsg
  obtain ⟨i0, hi, hi1⟩ := Option.map_eq_some_iff.1 hi0
  simp only [Prod.mk.injEq] at hi1
  obtain ⟨hz1, hz2, hz3⟩ := hi1
  obtain ⟨z0, hz, hz4⟩ := Option.map_eq_some_iff.1 hz1
  have hown' := own_ext hown ((Ext.refl w).alloc (.cells (enc e).toArray T))
  have hmul : (xs.length + 1) * byt ≤ 100001 * 1000 := Nat.mul_le_mul (by omega) hby
  refine wpList_append_own_at _ hgd s x _ ho base T i0 z0 k byt hu hi hz hz2 hz3 hz4 hk v xs.length _ hs hown' ⟨w.heap.size, 0, none⟩ 1 1 (enc e) hx (by rw [hlen]; simp) ?_ (hone e) (by unfold maxLen; omega) (by omega) (by simp; omega) ?_
  · intro j u hj
    have := (Blk.new w T (enc e).toArray).cell j
    rw [show (⟨w.heap.size, 0, none⟩ : Addr).add j = ⟨w.heap.size, j, none⟩ by simp [Addr.add]; omega, this]
    simpa using hj
  · intro v' w' h1 h2 _ h4
    obtain ⟨A', c', rfl⟩ := own_slice h1
    exact h A' c' w' (by simpa using h1) h2 (by simpa using h4)
/-- what an append to the one does to the other -/
theorem rows2 {wr w2 w' : World} {b1 b2 T1 T2 k1 k2 n1 n2 : Nat} {v1 v1' v2 : Value} {xs1 xs2 : List Value} {o : Obj} (h2 : wr.ownsRow b2 T2 k2 v2 n2 xs2) (ha : apart2 v1 v2) (hx : Ext wr w2) (hg : (w2.alloc o).grownBy w' v1.ownBlock) (hv : v1'.ownBlock = v1.ownBlock ∨ v1'.ownBlock = some (w2.heap.size + 1))
    (_h1 : wr.ownsRow b1 T1 k1 v1 n1 xs1) : w'.ownsRow b2 T2 k2 v2 n2 xs2 ∧ apart2 v1' v2 := by
  have h22 := own_ext h2 (hx.trans (ext_self1 _ o))
  have hk : Keep v1.ownBlock.toList (w2.alloc o) w' := ⟨hg.os, hg.tape, hg.output, hg.size, fun i hi hne => hg.block i hi (by
    intro e
    rw [← e] at hne
    simp at hne)⟩
  refine ⟨own_keep h22 hk fun g hgm e => ?_, fun g h1 e => ?_⟩
  · exact ha g (by simpa using hgm) e
  · rcases hv with hv | hv
    · exact ha g (hv ▸ h1) e
    · rw [hv] at h1
      injection h1 with h1
      have := (own_base h2 e).2.1
      have hs := Below.size hx
      omega
theorem app_step2 {α : Type} {enc : α → List Value} {wI wr w2 w' : World} {base T k n : Nat} {v : Value} {xs : List α} (hx : Ext wI wr) (hown : wr.ownsRow base T k v n (xs.flatMap enc)) (hx2 : Ext wr w2) (hg : w2.grownBy w' v.ownBlock) (hb : wI.heap.size ≤ base) : Ext wI w' :=
  (hx.trans hx2).grown hg hb (own_ext hown hx2)
end Go.Proofs.Ytdkhondfahebnaa
/- ref.Near: the neighbours of a vertex and the indices of its edges. Conditions: see each theorem. -/
namespace Go.Proofs.Ytdkhondfahebnaa
open Go Go.RowKit
attribute [local go_sem] qUpon lUpon

theorem rnear_next (id : Int) (V : List (Int × Thing)) (E : List ((Int × Int) × Thing)) (k : Nat) (h : k < V.length) : rnear id (V.take (k + 1)) E = rnear id (V.take k) E ++ (if 0 ≤ posI (isE V[k].1 id) E then [V[k].1] else []) := by
  unfold rnear
  rw [List.take_succ_eq_append_getElem h, List.filter_append, List.map_append]
  congr 1
  by_cases h0 : 0 ≤ posI (isE V[k].1 id) E <;> simp [h0]
theorem rnear_le (id : Int) (V : List (Int × Thing)) (E : List ((Int × Int) × Thing)) : (rnear id V E).length ≤ V.length := by
  unfold rnear
  rw [List.length_map]
  exact List.length_filter_le _ _
def NrPost (w : World) (L M : List Int) (e : Ending) (w' : World) : Prop := ∃ A1 c1 A2 c2, e = .returned (.tuple #[.slice A1 L.length c1, .slice A2 M.length c2]) ∧ SlAt encI 1 w' A1 L ∧ SlAt encI 1 w' A2 M ∧ Ext w w'

set_option maxRecDepth 100000 in
set_option maxHeartbeats 8000000 in
theorem rnear_any (A B : Option Addr) (V : List (Int × Thing)) (E : List ((Int × Int) × Thing)) (cA cB : Nat) (id : Int) (w : World) (hV : SlAt encV 3 w A V) (hE : SlAt encE 4 w B E) (hi : GInv V E) :
    Calls Try.prog 32 #[.agg #[.slice A V.length cA, .slice B E.length cB], .int .i64 id] w (NrPost w (rnear id V E) (ron id E E.length)) := by
  have nV := hi.nv
  have nE := hi.ne
  have hV' := hide hV
  have hE' := hide hE
  have hB := hide (Blk.new w 28 #[.slice A V.length cA, .slice B E.length cB])
  clear hV hE hi
  go_enter Try.func32, Try.ntmps32
  go_wp2_with fail
  have hx1 := hide (ext_self1 w (.cells #[.slice A V.length cA, .slice B E.length cB] 28))
  generalize hgw : w.heap.size = gw at *
  generalize hW1 : w.alloc (.cells #[.slice A V.length cA, .slice B E.length cB] 28) = w1 at *
  have hs1 : w1.heap.size = gw + 1 := by rw [← hW1, World.size_alloc, hgw]
  have ho1 := World.ownsRow_made (base := gw + 1) (e := 3) (size := 1) w1 #[] 0 (by omega) (by decide) rfl
  have ho2 := World.ownsRow_made (base := gw + 1) (e := 3) (size := 1) (w1.alloc (.cells #[] 3)) #[] 0 (by rw [World.size_alloc]; omega) (by decide) rfl
  rw [World.size_alloc] at ho2
  have ho1' := own_ext ho1 (ext_self1 _ (.cells #[] 3))
  rw [hs1] at ho1' ho2
  have ha : apart2 (.slice (some ⟨gw + 1, 0, none⟩) 0 0) (.slice (some ⟨gw + 1 + 1, 0, none⟩) 0 0) := by
    intro g h1 h2
    injection h1 with h1
    injection h2 with h2
    simp at h1 h2
    omega
  have hx0 := hide ((ext_self1 w1 (.cells #[] 3)).trans (ext_self1 _ (.cells #[] 3)))
  have hb1' := hide hs1
  have ho1 := hide ho1'
  have ho2' := hide ho2
  have ha' := hide ha
  clear hs1 hW1 hgw ho1' ho2 ha
  go_wp2_with fail
  go_loopw [6, 8] (fun l i wr => ∃ (k : Nat) (vs : Value) (o : List Int), k ≤ V.length ∧ i = .int .i64 k ∧ vs = l ∧ o = rnear id (V.take k) E ∧ wr.ownsRow (gw + 1) 3 1 vs o.length (o.flatMap encI) ∧ wr.ownsRow (gw + 1) 3 1 (.slice (some ⟨gw + 1 + 1, 0, none⟩) 0 0) 0 [] ∧ apart2 vs (.slice (some ⟨gw + 1 + 1, 0, none⟩) 0 0) ∧ Ext w1 wr) (fun _ i _ => V.length - (intOf i).toNat)
  case atStart => exact ⟨0, _, [], Nat.zero_le _, rfl, rfl, by simp [rnear], unhide ho1, unhide ho2', unhide ha', unhide hx0⟩
  case round =>
    obtain ⟨k, vs, o, hk, rfl, hl3, ho, hown, hown2, hap, hx⟩ := hrel
    subst hl3
    have hown' := hide hown
    have hown2' := hide hown2
    have hap' := hide hap
    have hx' := hide hx
    have ho' := hide ho
    have hol' := hide (show o.length ≤ 100000 by
      rw [ho]
      have := rnear_le id (V.take k) E
      rw [List.length_take] at this
      omega)
    have hBr := (unhide hB).ext hx
    have q0 := hBr.cells 0 (v := .slice A V.length cA) rfl
    have q1 := hBr.cells 1 (v := .slice B E.length cB) rfl
    have hBr' := hide hBr
    clear hown hown2 hap hx ho ho1 ho2' ha' hx0 hBr
    have hself := Ext.refl wr
    by_cases hlt : k < V.length
    · have hVr := (unhide hV').ext ((unhide hx1).trans (unhide hx'))
      have hEr := hide ((unhide hE').ext ((unhide hx1).trans (unhide hx')))
      obtain ⟨b, off, rfl, c0, c1, c2⟩ := atV hVr hlt
      have hst := hide (rnear_next id V E k hlt)
      clear hVr
      generalize hy : V[k] = y at c0 c1 c2 hst
      obtain ⟨x, tx⟩ := y
      simp only at c0 c1 c2
      clear hy c1 c2
      obtain ⟨p, hp⟩ : ∃ p, posI (isE x id) E = p := ⟨_, rfl⟩
      have hp' := hide hp
      clear hp
      by_cases hp0 : 0 ≤ p
      · go_wp2_with fail
        refine wp_region_ext (P := Try.prog) [0,1,2,3,4,5,6,7,8,9] [] 0 #[true,true,true,true,true,true,true,true,true,true] (by kernel_rfl) (by kernel_rfl) rfl (by rfl) ?_
        iterate 10
          refine ql_want (v := ?_) rfl (by rfl) (fun W hW => ?_) ?_
          rotate_left
          · go_simp
            first | done | rfl | (go_at_call 31; refine (redge_any _ B E _ _ cB x id _ ((unhide hEr).ext (by assumption)) (by omega)).mono ?_; rw [unhide hp']; rintro _ _ ⟨h1, h2⟩; refine ⟨_, h1, ?_, h2⟩; rfl)
          go_frame
        refine wpQL_nil (fun w3 hx3 => ?_)
        refine wpX_done (by kernel_rfl) ?_
        try go_frame
        have q0' := fun (W : World) (hW : Ext w3 W) => q0 W (hx3.trans hW)
        have c0' := fun (W : World) (hW : Ext w3 W) => c0 W (hx3.trans hW)
        have hx3' := hide hx3
        have hself3 := Ext.refl w3
        clear q0 q1 c0 hx3 hself
        go_wp2_with (at_builtin; refine wp_ap2 infoI Try.underlying73 one_encI (fun _ => rfl) (by decide) (by decide) w3 rfl _ _ rfl (gw + 1) vs _ (o) x rfl _ _ (by rfl) rfl (by rfl) (by rfl) (own_ext (unhide hown') (unhide hx3')) (unhide hol') ?_ ?_; ((have h1 := Below.size (unhide hx'); have h2 := Below.size (unhide hx3'); have h3 := unhide hb1'; omega)); intro A1 k1 w4 ho4 hg4 hb4; have hr := rows2 (unhide hown2') (unhide hap') (unhide hx3') hg4 hb4 (unhide hown'); have hx4 := hide (app_step2 (unhide hx') (unhide hown') ((unhide hx3').trans (ext_self1 _ _)) hg4 (Nat.le_of_eq (unhide hb1'))); have hr4 := hide hr; have ho4' := hide ho4; clear ho4 hg4 hb4 hr)
        go_roundw
        case rel => exact ⟨k + 1, _, o ++ [x], by omega, by go_num, rfl, by rw [unhide hst, unhide ho', if_pos (by rw [unhide hp']; exact hp0)], by have h := unhide ho4'; simpa using h, (unhide hr4).1, (unhide hr4).2, unhide hx4⟩
        case measure => simp [intOf]; omega
      · go_wp2_with fail
        refine wp_region_ext (P := Try.prog) [0,1,2,3,4,5,6,7,8,9] [] 0 #[true,true,true,true,true,true,true,true,true,true] (by kernel_rfl) (by kernel_rfl) rfl (by rfl) ?_
        iterate 10
          refine ql_want (v := ?_) rfl (by rfl) (fun W hW => ?_) ?_
          rotate_left
          · go_simp
            first | done | rfl | (go_at_call 31; refine (redge_any _ B E _ _ cB x id _ ((unhide hEr).ext (by assumption)) (by omega)).mono ?_; rw [unhide hp']; rintro _ _ ⟨h1, h2⟩; refine ⟨_, h1, ?_, h2⟩; rfl)
          go_frame
        refine wpQL_nil (fun w3 hx3 => ?_)
        refine wpX_done (by kernel_rfl) ?_
        try go_frame
        have hx3' := hide hx3
        clear q0 q1 c0 hx3 hself
        go_wp2_with fail
        go_roundw
        case rel => exact ⟨k + 1, _, o, by omega, by go_num, rfl, by rw [unhide hst, unhide ho', if_neg (by rw [unhide hp']; omega), List.append_nil], own_ext (unhide hown') (unhide hx3'), own_ext (unhide hown2') (unhide hx3'), unhide hap', (unhide hx').trans (unhide hx3')⟩
        case measure => simp [intOf]; omega
    · have hkV : k = V.length := by omega
      subst hkV
      rw [List.take_length] at ho'
      obtain ⟨A1, c1, rfl⟩ := own_slice (unhide hown')
      have hoN := unhide ho'
      subst hoN
      have hap2 := hide (unhide hap').symm
      clear ho' hol' hap'
      go_wp2_with fail
      go_loopw [7, 9] (fun l i wr => ∃ (k : Nat) (vs : Value) (o : List Int), k ≤ E.length ∧ i = .int .i64 k ∧ vs = l ∧ o = ron id E k ∧ wr.ownsRow (gw + 1) 3 1 vs o.length (o.flatMap encI) ∧ wr.ownsRow (gw + 1) 3 1 (.slice A1 (rnear id V E).length c1) (rnear id V E).length ((rnear id V E).flatMap encI) ∧ apart2 vs (.slice A1 (rnear id V E).length c1) ∧ Ext w1 wr) (fun _ i _ => E.length - (intOf i).toNat)
      case atStart => exact ⟨0, _, [], Nat.zero_le _, rfl, rfl, by simp [ron], unhide hown2', unhide hown', unhide hap2, unhide hx'⟩
      case round =>
        clear hown2' hown' hap2 hx' hk
        obtain ⟨k, vs, o, hk, rfl, hl3, ho, hown, hown2, hap, hx⟩ := hrel
        subst hl3
        have hown' := hide hown
        have hown2' := hide hown2
        have hap' := hide hap
        have hx' := hide hx
        have ho' := hide ho
        have hol' := hide (show o.length ≤ 100000 by
          rw [ho]
          have := ron_le id E k
          omega)
        have hBr := (unhide hB).ext hx
        have q0 := hBr.cells 0 (v := .slice A V.length cA) rfl
        have q1 := hBr.cells 1 (v := .slice B E.length cB) rfl
        clear hown hown2 hap hx ho hBr
        have hself := Ext.refl wr
        by_cases hlt : k < E.length
        · have hEr := (unhide hE').ext ((unhide hx1).trans (unhide hx'))
          obtain ⟨b, off, rfl, c0, c1, c2, c3⟩ := atE hEr hlt
          have hst := hide (ron_next id E k hlt)
          clear hEr
          generalize hy : E[k] = y at c0 c1 c2 c3 hst
          obtain ⟨⟨a, d⟩, ⟨lab, wt⟩⟩ := y
          simp only at c0 c1 c2 c3
          clear hy c2 c3
          by_cases ha : a = id
          · have hst2 := hide (show incB id ((a, d), (lab, wt)) = true by simp [incB, ha])
            subst ha
            go_wp2_with (at_builtin; refine wp_ap2 infoI Try.underlying73 one_encI (fun _ => rfl) (by decide) (by decide) wr rfl _ _ rfl (gw + 1) vs _ (o) (k : Int) rfl _ _ (by rfl) rfl (by rfl) (by rfl) (unhide hown') (unhide hol') ?_ ?_; ((have h1 := Below.size (unhide hx'); have h3 := unhide hb1'; omega)); intro A2 k1 w4 ho4 hg4 hb4; have hr := rows2 (unhide hown2') (unhide hap') (Ext.refl wr) hg4 hb4 (unhide hown'); have hx4 := hide (app_step2 (unhide hx') (unhide hown') (ext_self1 _ _) hg4 (Nat.le_of_eq (unhide hb1'))); have hr4 := hide hr; have ho4' := hide ho4; clear ho4 hg4 hb4 hr)
            go_roundw
            case rel => exact ⟨k + 1, _, o ++ [(k : Int)], by omega, by go_num, rfl, by rw [unhide hst, if_pos (unhide hst2), unhide ho'], by have h := unhide ho4'; simpa using h, (unhide hr4).1, (unhide hr4).2, unhide hx4⟩
            case measure => simp [intOf]; omega
          · have hA : (a == id) = false := by simpa using ha
            by_cases hd : d = id
            · have hst2 := hide (show incB id ((a, d), (lab, wt)) = true by simp [incB, hd])
              clear ha
              subst hd
              go_wp2_with (at_builtin; refine wp_ap2 infoI Try.underlying73 one_encI (fun _ => rfl) (by decide) (by decide) wr rfl _ _ rfl (gw + 1) vs _ (o) (k : Int) rfl _ _ (by rfl) rfl (by rfl) (by rfl) (unhide hown') (unhide hol') ?_ ?_; ((have h1 := Below.size (unhide hx'); have h3 := unhide hb1'; omega)); intro A2 k1 w4 ho4 hg4 hb4; have hr := rows2 (unhide hown2') (unhide hap') (Ext.refl wr) hg4 hb4 (unhide hown'); have hx4 := hide (app_step2 (unhide hx') (unhide hown') (ext_self1 _ _) hg4 (Nat.le_of_eq (unhide hb1'))); have hr4 := hide hr; have ho4' := hide ho4; clear ho4 hg4 hb4 hr)
              go_roundw
              case rel => exact ⟨k + 1, _, o ++ [(k : Int)], by omega, by go_num, rfl, by rw [unhide hst, if_pos (unhide hst2), unhide ho'], by have h := unhide ho4'; simpa using h, (unhide hr4).1, (unhide hr4).2, unhide hx4⟩
              case measure => simp [intOf]; omega
            · have hD : (d == id) = false := by simpa using hd
              have hst2 := hide (show incB id ((a, d), (lab, wt)) ≠ true by simp [incB, ha, hd])
              clear ha hd
              go_wp2_with fail
              go_roundw
              case rel => exact ⟨k + 1, _, o, by omega, by go_num, rfl, by rw [unhide hst, if_neg (unhide hst2), unhide ho'], unhide hown', unhide hown2', unhide hap', unhide hx'⟩
              case measure => simp [intOf]; omega
        · have hkE : k = E.length := by omega
          rw [hkE] at ho'
          have hoN := unhide ho'
          subst hoN
          obtain ⟨A2, c2, rfl⟩ := own_slice (unhide hown')
          go_wp2_with fail
          go_ret2
          unfold NrPost
          exact ⟨A1, c1, A2, c2, rfl, own_at (unhide hown2') (fun _ => rfl), own_at (unhide hown') (fun _ => rfl), (unhide hx1).trans (unhide hx')⟩
end Go.Proofs.Ytdkhondfahebnaa
/- law01.From: a list of numbers as a set. Conditions: see each theorem. -/
namespace Go.Proofs.Ytdkhondfahebnaa
open Go Go.RowKit
attribute [local go_sem] qUpon lUpon

theorem bitW_shl (n : Nat) : IntKind.u64.wrap (2 ^ (n % 64)) = bitW n := by
  rw [IntKind.wrap_u64]
  have h3 : 2 ^ (n % 64) < 2 ^ 64 := Nat.pow_lt_pow_right (by omega) (by omega)
  have e : ((2 : Int) ^ (n % 64)) = ((2 ^ (n % 64) : Nat) : Int) := by simp
  unfold bitW
  rw [e]
  generalize 2 ^ (n % 64) = m at h3
  omega
theorem bitW_shl' (n : Nat) : IntKind.u64.wrap (2 ^ ((n : Int) % 64).toNat) = bitW n := by
  rw [show ((n : Int) % 64).toNat = n % 64 by omega]
  exact bitW_shl n
theorem tmod64 (n : Nat) : ((n : Nat) : Int).tmod 64 = ((n % 64 : Nat) : Int) := by
  rw [Int.tmod_eq_emod_of_nonneg (by omega)]
  omega

/-- a set with one more element, in memory: all that the walk needs behind the store -/
theorem with_step {w wr w3 w4 : World} {b4 b2 n N : Nat} {T : TypeId} {A : Option Addr} {L : List Int} (hB : Blk wr b4 T (setC N)) (hA : Blk wr b2 T (setC 0)) (hs : SlAt encI 1 wr A L) (hx : Ext w wr) (hx3 : Ext wr w3) (hx4 : Ext (w3.setCell ⟨b4, n / 64, none⟩ (.int .u64 (bits .or .u64 (wd N (n / 64)) (bitW n)))) w4) (hb : w.heap.size ≤ b4) (hne : b2 ≠ b4) :
    Blk w4 b4 T (setC (N ||| 2 ^ n)) ∧ Blk w4 b2 T (setC 0) ∧ SlAt encI 1 w4 A L ∧ Ext w w4 := by
  have hk3 : Keep [b4] w3 (w3.setCell ⟨b4, n / 64, none⟩ (.int .u64 (bits .or .u64 (wd N (n / 64)) (bitW n)))) := Keep.setCell _ _ _ _
  refine ⟨?_, ((hA.ext hx3).keep hk3 (by simpa using hne)).ext hx4, ((hs.ext hx3).keep_S (hB.ext hx3) encI_nu encI0 hk3).ext hx4, ((hx.trans hx3).of_new hk3 (by simpa using hb)).trans hx4⟩
  have h := ((hB.ext hx3).set (n / 64) (.int .u64 (bits .or .u64 (wd N (n / 64)) (bitW n)))).ext hx4
  rwa [setC_with N n] at h
set_option maxRecDepth 100000 in
set_option maxHeartbeats 8000000 in
theorem from01_any (A : Option Addr) (L : List Int) (cL : Nat) (w : World) (hL : SlAt encI 1 w A L) (_hl : L.length ≤ 4096) :
    Calls Try.prog 34 #[.slice A L.length cL] w fun e w' => e = .returned (.agg (setC (fromS L))) ∧ Ext w w' := by
  have hB0 := hide (Blk.new w 78 (setC 0))
  have hs0 := hide hL
  clear hL
  go_enter Try.func34, Try.ntmps34
  go_wp2_with fail
  have hx1 := hide ((ext_self1 w (.cells (setC 0) 78)).trans (ext_self1 _ (.cells (setC 0) 78)))
  have hB2 := hide ((unhide hB0).ext (ext_self1 (w.alloc (.cells (setC 0) 78)) (.cells (setC 0) 78)))
  have hB4 := hide (Blk.new (w.alloc (.cells (setC 0) 78)) 78 (setC 0))
  have hs : (w.alloc (.cells (setC 0) 78)).heap.size = w.heap.size + 1 := World.size_alloc _ _
  rw [hs] at hB4
  clear hs hB0
  have hz : setC 0 = #[.int .u64 0, .int .u64 0, .int .u64 0, .int .u64 0, .int .u64 0, .int .u64 0, .int .u64 0, .int .u64 0, .int .u64 0, .int .u64 0, .int .u64 0, .int .u64 0, .int .u64 0, .int .u64 0, .int .u64 0, .int .u64 0] := rfl
  rw [hz] at hx1 hB2 hB4
  generalize (w.alloc (.cells #[.int .u64 0, .int .u64 0, .int .u64 0, .int .u64 0, .int .u64 0, .int .u64 0, .int .u64 0, .int .u64 0, .int .u64 0, .int .u64 0, .int .u64 0, .int .u64 0, .int .u64 0, .int .u64 0, .int .u64 0, .int .u64 0] 78)).alloc (.cells #[.int .u64 0, .int .u64 0, .int .u64 0, .int .u64 0, .int .u64 0, .int .u64 0, .int .u64 0, .int .u64 0, .int .u64 0, .int .u64 0, .int .u64 0, .int .u64 0, .int .u64 0, .int .u64 0, .int .u64 0, .int .u64 0] 78) = W1 at *
  rw [← hz] at hB4 hB2
  clear hz
  have hlo := hide (show w.heap.size ≤ w.heap.size + 1 ∧ w.heap.size ≠ w.heap.size + 1 by omega)
  have hlo2 := hide (Nat.le_refl w.heap.size)
  generalize hb4e : w.heap.size + 1 = b4 at *
  generalize hb2e : w.heap.size = b2 at *
  have hlo : Hid (w.heap.size ≤ b4 ∧ b2 ≠ b4) := by rw [hb2e]; exact hlo
  have hs1 := hide ((unhide hs0).ext (unhide hx1))
  clear hs0
  go_loopw [4] (fun i wr => ∃ k : Nat, k ≤ L.length ∧ i = .int .i64 k ∧ Blk wr b4 78 (setC (fromS (L.take k))) ∧ Blk wr b2 78 (setC 0) ∧ SlAt encI 1 wr A L ∧ Ext w wr) (fun i _ => L.length - (intOf i).toNat)
  case atStart => exact ⟨0, Nat.zero_le _, rfl, unhide hB4, unhide hB2, unhide hs1, unhide hx1⟩
  case round =>
    obtain ⟨k, hk, rfl, hB, hA, hs, hx⟩ := hrel
    have hB' := hide hB
    have hA' := hide hA
    have hs' := hide hs
    have hx' := hide hx
    clear hB4 hB2 hs1 hx1 hB hA hs hx
    by_cases hlt : k < L.length
    · have hB := unhide hB'
      obtain ⟨bb, off, rfl, c0⟩ := atI (unhide hs') hlt
      have hn' := hide (fromS_next L k hlt)
      generalize L[k] = x at c0 hn'
      generalize fromS (L.take k) = N at hB hB' hn'
      have hself := Ext.refl wr
      by_cases hf : fitB x = true
      · obtain ⟨n, rfl⟩ : ∃ n : Nat, x = n := ⟨x.toNat, by simp [fitB] at hf; omega⟩
        have hn : n < 1024 := by simp [fitB] at hf; omega
        have hN := hide (show withS N (n : Int) = N ||| 2 ^ n by rw [withS, if_pos hf, Int.toNat_natCast])
        obtain ⟨h1, hw, h6, h7, h8⟩ := idx_facts hn
        have h9 := tmod64 n
        have h10 := bitW_shl' n
        have k0 := cell_of hB hn
        have z0 : ¬ (n : Int) < 0 := by omega
        have z1 : (n : Int) < 1024 := by omega
        clear hB hf
        go_wp2_with fail
        refine wp_region_ext (P := Try.prog) [0,1,2,3,4,5,6,7,8,9,10,11,12,13,14,15,16,17,18,19] [20] 1 #[true,true,true,true,true,true,true,true,true,true,true,true,true,true,true,true,true,true,true,true,false] (by kernel_rfl) (by kernel_rfl) rfl (by rfl) ?_
        iterate 20
          refine ql_want (v := ?_) rfl (by rfl) (fun W hW => ?_) ?_
          rotate_left
          · go_simp
            first | done | rfl
          go_frame
        refine wpQL_nil (fun w3 hx3 => ?_)
        have c1 := k0 w3 hx3
        have f1 := ((unhide hB').ext hx3).frozen (n / 64)
        refine lx_one (i := 20) (by kernel_rfl) rfl (by rfl) #[true,true,true,true,true,true,true,true,true,true,true,true,true,true,true,true,true,true,true,true,true] (by rfl) ?_
        go_simp
        intro w4 hx4
        have hst := with_step (unhide hB') (unhide hA') (unhide hs') (unhide hx') hx3 hx4 (unhide hlo).1 (unhide hlo).2
        have hB3 := hide hst.1
        have hA3 := hide hst.2.1
        have hs3 := hide hst.2.2.1
        have hx5 := hide hst.2.2.2
        clear hB' hA' hs' hx' hx3 hx4 c0 c1 f1 k0 h1 hw h6 h7 h8 h9 h10 hst hself
        refine wpX_done (by kernel_rfl) ?_
        try go_frame
        go_wp2_with fail
        go_roundw
        case rel => exact ⟨k + 1, by omega, by go_num, by rw [unhide hn', unhide hN]; exact unhide hB3, unhide hA3, unhide hs3, unhide hx5⟩
        case measure => simp [intOf]; omega
      · have hN := hide (show withS N x = N by rw [withS, if_neg hf])
        clear hB
        by_cases h0 : x < 0
        · go_wp2_with fail
          go_roundw
          case rel => exact ⟨k + 1, by omega, by go_num, by rw [unhide hn', unhide hN]; exact unhide hB', unhide hA', unhide hs', unhide hx'⟩
          case measure => simp [intOf]; omega
        · have h1 : ¬ x < 1024 := by simp [fitB] at hf; omega
          go_wp2_with fail
          go_roundw
          case rel => exact ⟨k + 1, by omega, by go_num, by rw [unhide hn', unhide hN]; exact unhide hB', unhide hA', unhide hs', unhide hx'⟩
          case measure => simp [intOf]; omega
    · have hke : k = L.length := by omega
      have hB := unhide hB'
      have hA := unhide hA'
      rw [hke, List.take_length] at hB hB'
      have hself := Ext.refl wr
      clear hlt
      obtain ⟨N, hN⟩ : ∃ N, fromS L = N := ⟨_, rfl⟩
      rw [hN] at hB hB'
      have hN' := hide hN
      clear hN
      have e0 := hB.cells 0 (v := .int .u64 (wd N 0)) rfl
      have e1 := hB.cells 1 (v := .int .u64 (wd N 1)) rfl
      have e2 := hB.cells 2 (v := .int .u64 (wd N 2)) rfl
      have e3 := hB.cells 3 (v := .int .u64 (wd N 3)) rfl
      have e4 := hB.cells 4 (v := .int .u64 (wd N 4)) rfl
      have e5 := hB.cells 5 (v := .int .u64 (wd N 5)) rfl
      have e6 := hB.cells 6 (v := .int .u64 (wd N 6)) rfl
      have e7 := hB.cells 7 (v := .int .u64 (wd N 7)) rfl
      have e8 := hB.cells 8 (v := .int .u64 (wd N 8)) rfl
      have e9 := hB.cells 9 (v := .int .u64 (wd N 9)) rfl
      have e10 := hB.cells 10 (v := .int .u64 (wd N 10)) rfl
      have e11 := hB.cells 11 (v := .int .u64 (wd N 11)) rfl
      have e12 := hB.cells 12 (v := .int .u64 (wd N 12)) rfl
      have e13 := hB.cells 13 (v := .int .u64 (wd N 13)) rfl
      have e14 := hB.cells 14 (v := .int .u64 (wd N 14)) rfl
      have e15 := hB.cells 15 (v := .int .u64 (wd N 15)) rfl
      have g0 := hA.frozen 0
      have g1 := hA.frozen 1
      have g2 := hA.frozen 2
      have g3 := hA.frozen 3
      have g4 := hA.frozen 4
      have g5 := hA.frozen 5
      have g6 := hA.frozen 6
      have g7 := hA.frozen 7
      have g8 := hA.frozen 8
      have g9 := hA.frozen 9
      have g10 := hA.frozen 10
      have g11 := hA.frozen 11
      have g12 := hA.frozen 12
      have g13 := hA.frozen 13
      have g14 := hA.frozen 14
      have g15 := hA.frozen 15
      have z0 := hA.cells 0 (v := .int .u64 (wd 0 0)) rfl
      have z1 := hA.cells 1 (v := .int .u64 (wd 0 1)) rfl
      have z2 := hA.cells 2 (v := .int .u64 (wd 0 2)) rfl
      have z3 := hA.cells 3 (v := .int .u64 (wd 0 3)) rfl
      have z4 := hA.cells 4 (v := .int .u64 (wd 0 4)) rfl
      have z5 := hA.cells 5 (v := .int .u64 (wd 0 5)) rfl
      have z6 := hA.cells 6 (v := .int .u64 (wd 0 6)) rfl
      have z7 := hA.cells 7 (v := .int .u64 (wd 0 7)) rfl
      have z8 := hA.cells 8 (v := .int .u64 (wd 0 8)) rfl
      have z9 := hA.cells 9 (v := .int .u64 (wd 0 9)) rfl
      have z10 := hA.cells 10 (v := .int .u64 (wd 0 10)) rfl
      have z11 := hA.cells 11 (v := .int .u64 (wd 0 11)) rfl
      have z12 := hA.cells 12 (v := .int .u64 (wd 0 12)) rfl
      have z13 := hA.cells 13 (v := .int .u64 (wd 0 13)) rfl
      have z14 := hA.cells 14 (v := .int .u64 (wd 0 14)) rfl
      have z15 := hA.cells 15 (v := .int .u64 (wd 0 15)) rfl
      clear hB hA
      go_wp2_with fail
      refine bodyPost_ret (ret_cell1 rfl rfl (load_Set _ b2 N (Blk.set16 N (unhide hA')))) rfl ?_
      exact ⟨by rw [unhide hN'], (unhide hx').of_new (Keep.set16 wr b2 N) (by simp; omega)⟩
end Go.Proofs.Ytdkhondfahebnaa
