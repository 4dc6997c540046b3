/- Parts of a proof, laid together: Bi, Tk, El, Vt, Fw, Pc, Bd. Each part says its own conditions. -/
import Derived.Test.YtmfkkkhddigkfaaGreatDoorE5
import Derived.Laws.BitsAllLaws
import Derived.Test.YtmfkkkhddigkfaaGreatDoorE1
import Derived.Lib.TrailingZeros
import Derived.Test.YtmfkkkhddigkfaaGreatDoorE4
/- THE SETS OF package bitset: Intersect. Conditions: see each theorem. -/
namespace Go.Proofs.YtmfkkkhddigkfaaGreatDoor
open Go Go.RowKit
attribute [local go_sem] qUpon lUpon

set_option maxRecDepth 100000 in
set_option maxHeartbeats 4000000 in
theorem inter_any (N M : Nat) (w : World) : Calls Tryz.prog 25 #[.agg (setC N), .agg (setC M)] w fun e w' => e = .returned (.agg (setC (N &&& M))) ∧ Ext w w' := by
  obtain ⟨R, hR⟩ : ∃ R, R = N &&& M := ⟨_, rfl⟩
  rw [← hR]
  have hR' := hide hR
  clear hR
  have hB2 := hide (((Blk.new w 51 (setC N)).ext (ext_self1 _ (.cells (setC M) 51))).ext (ext_self1 _ (.cells (setC 0) 51)))
  have hB3 := hide ((Blk.new (w.alloc (.cells (setC N) 51)) 51 (setC M)).ext (ext_self1 _ (.cells (setC 0) 51)))
  have hB4 := hide (Blk.new ((w.alloc (.cells (setC N) 51)).alloc (.cells (setC M) 51)) 51 (setC 0))
  have hx1 := hide (ext_self3 w (.cells (setC N) 51) (.cells (setC M) 51) (.cells (setC 0) 51))
  simp only [World.size_alloc] at hB3 hB4
  go_enter Tryz.func25, Tryz.ntmps25
  go_wp2_with fail
  have hz : setC 0 = #[.int .u64 0, .int .u64 0, .int .u64 0, .int .u64 0, .int .u64 0, .int .u64 0, .int .u64 0, .int .u64 0, .int .u64 0, .int .u64 0, .int .u64 0, .int .u64 0, .int .u64 0, .int .u64 0, .int .u64 0, .int .u64 0] := rfl
  rw [hz] at hx1 hB2 hB3 hB4
  generalize ((w.alloc (.cells (setC N) 51)).alloc (.cells (setC M) 51)).alloc (.cells #[.int .u64 0, .int .u64 0, .int .u64 0, .int .u64 0, .int .u64 0, .int .u64 0, .int .u64 0, .int .u64 0, .int .u64 0, .int .u64 0, .int .u64 0, .int .u64 0, .int .u64 0, .int .u64 0, .int .u64 0, .int .u64 0] 51) = W1 at *
  rw [← hz] at hB4
  clear hz
  have hne := hide (show w.heap.size ≠ w.heap.size + 1 ∧ w.heap.size ≠ w.heap.size + 1 + 1 ∧ w.heap.size + 1 ≠ w.heap.size + 1 + 1 by omega)
  have hge := hide (show w.heap.size ≤ w.heap.size ∧ w.heap.size ≤ w.heap.size + 1 + 1 by omega)
  generalize hb4e : w.heap.size + 1 + 1 = b4 at *
  generalize hb3e : w.heap.size + 1 = b3 at *
  generalize hb2e : w.heap.size = b2 at *
  rw [← hb2e] at hge
  rw [hb2e] at hge
  have hsz := hide hb2e
  clear hb2e hb3e hb4e
  go_loopw [6] (fun i wr => ∃ k : Nat, k ≤ 16 ∧ i = .int .i64 k ∧ Blk wr b2 51 (setC (mixS R N k)) ∧ Blk wr b3 51 (setC M) ∧ Blk wr b4 51 (setC 0) ∧ Ext w wr) (fun i _ => 16 - (intOf i).toNat)
  case atStart => exact ⟨0, Nat.zero_le _, rfl, by rw [setC_mix0]; exact unhide hB2, unhide hB3, unhide hB4, unhide hx1⟩
  case round =>
    obtain ⟨k, hk, rfl, hB, hC, hA, hx⟩ := hrel
    have hB' := hide hB
    have hC' := hide hC
    have hA' := hide hA
    have hx' := hide hx
    clear hB2 hB3 hB4 hx1
    by_cases hlt : k < 16
    · have c0 := hB.cells k (setC_get (mixS R N k) hlt)
      rw [mixS_at] at c0
      have c1 := hC.cells k (setC_get M hlt)
      have hself := Ext.refl wr
      clear hB hC hA hx
      go_wp2_with fail
      refine wp_region_still (P := Tryz.prog) [0,1,2,3,4,5,6,7] [8] 1 #[true,true,true,true,true,true,true,true,false] (by kernel_rfl) (by kernel_rfl) rfl (by rfl) ?_
      iterate 8
        refine ql_want (v := ?_) rfl (by rfl) (fun W hW => ?_) ?_
        rotate_left
        · go_simp
          first | done | rfl
        go_frame
      refine wpQL_nil (fun w3 hx3 => ?_)
      have c2 := c0 w3 hx3
      have f2 := ((unhide hB').ext hx3).frozen k
      refine lx_one (i := 8) (by kernel_rfl) rfl (by rfl) #[true,true,true,true,true,true,true,true,true] (by rfl) ?_
      go_simp
      rw [wd_and, ← unhide hR']
      refine wpX_done (by kernel_rfl) ?_
      try go_frame
      have hB4' := hide (((unhide hB').ext hx3).set k (.int .u64 (wd R k)))
      have hC4' := hide (((unhide hC').ext hx3).keep (Keep.setCell w3 b2 k (.int .u64 (wd R k))) (by simpa using (unhide hne).1.symm))
      have hA4' := hide (((unhide hA').ext hx3).keep (Keep.setCell w3 b2 k (.int .u64 (wd R k))) (by simpa using (unhide hne).2.1.symm))
      have hx4' := hide (((unhide hx').trans hx3).of_new (Keep.setCell w3 b2 k (.int .u64 (wd R k))) (by rw [← unhide hsz]; simp))
      clear hB' hC' hA' hx' hx3 c0 c1 c2 f2 hself
      go_wp2_with fail
      go_roundw
      case rel => exact ⟨k + 1, by omega, by go_num, by have h := unhide hB4'; rw [setC_mix _ _ _ hlt] at h; exact h, unhide hC4', unhide hA4', unhide hx4'⟩
      case measure => simp [intOf]; omega
    · have hke : k = 16 := by omega
      subst hke
      rw [setC_mix16] at hB hB'
      have hself := Ext.refl wr
      clear hB hC hA hx
      try dsimp only
      repeat ((fail_if_success (with_reducible refine wp_reg (id := 6) ?_)); (first | go_values | go_skip | go_step | go_guarded | go_upon | go_in | go_back | fail))
      with_reducible refine wp_reg (id := 6) ?_
      refine wpO_val rfl (load_SetR rfl rfl (unhide hB').whole) (wpO_skip rfl (store_SetR rfl rfl rfl (unhide hA')) (wpO_done ?_))
      go_wp2_with fail
      refine bodyPost_ret (ret_cell1 rfl rfl (load_Set _ b4 R ((unhide hA').row _))) rfl ?_
      exact ⟨rfl, (unhide hx').of_new (Keep.setRow wr b4 _) (by have := (unhide hne).2.1; have := unhide hsz; have := (unhide hge).2; simp; omega)⟩
end Go.Proofs.YtmfkkkhddigkfaaGreatDoor
/- THE ELEMENTS OF A SET, in ascending order. No program in sight. Conditions: see each theorem. -/
namespace Go.Proofs.YtmfkkkhddigkfaaGreatDoor

def toK (N k : Nat) : List Int := ((List.range k).filter N.testBit).map fun (i : Nat) => (i : Int)
def toL (N : Nat) : List Int := toK N 1024
theorem toK_next (N k : Nat) : toK N (k + 1) = if N.testBit k = true then toK N k ++ [(k : Int)] else toK N k := by
  unfold toK
  rw [List.range_succ, List.filter_append, List.map_append]
  cases hb : N.testBit k <;> simp [hb]
theorem toK_le (N k : Nat) : (toK N k).length ≤ k := by
  unfold toK
  rw [List.length_map]
  have := List.length_filter_le N.testBit (List.range k)
  simpa using this
end Go.Proofs.YtmfkkkhddigkfaaGreatDoor
/- THE ELEMENTS OF A SET, further: the least one, the others. No program in sight. Conditions: see each theorem. -/
namespace Go.Proofs.YtmfkkkhddigkfaaGreatDoor

theorem mem_toL' {N : Nat} {x : Int} : x ∈ toL N ↔ 0 ≤ x ∧ x < 1024 ∧ N.testBit x.toNat = true := by
  unfold toL toK
  rw [List.mem_map]
  simp only [List.mem_filter, List.mem_range]
  constructor
  · rintro ⟨i, ⟨h1, h2⟩, rfl⟩
    exact ⟨by omega, by omega, by rw [Int.toNat_natCast]; exact h2⟩
  · rintro ⟨h1, h2, h3⟩
    exact ⟨x.toNat, ⟨by omega, h3⟩, by omega⟩
theorem toL_sorted (N : Nat) : (toL N).Pairwise (· < ·) := by
  unfold toL toK
  rw [List.pairwise_map]
  refine (List.pairwise_lt_range.filter _).imp fun {a b} h => ?_
  omega
theorem toL_nodup (N : Nat) : (toL N).Nodup := (toL_sorted N).imp fun {_ _} h => by omega
theorem toL_congr {N M : Nat} (h : ∀ k, k < 1024 → N.testBit k = M.testBit k) : toL N = toL M := by
  unfold toL toK
  rw [List.filter_congr (q := M.testBit) fun k hk => h k (List.mem_range.1 hk)]
theorem toL_nil {N : Nat} (h : ∀ k, k < 1024 → N.testBit k = false) : toL N = [] := by
  unfold toL toK
  rw [List.map_eq_nil_iff, List.filter_eq_nil_iff]
  intro k hk
  rw [h k (List.mem_range.1 hk)]
  simp
theorem toL_cons {N j : Nat} (hj : j < 1024) (h0 : ∀ k, k < j → N.testBit k = false) (h1 : N.testBit j = true) : toL N = (j : Int) :: toL (minusS N (2 ^ j)) := by
  unfold toL toK
  have e : List.range 1024 = List.range' 0 j ++ ([j] ++ List.range' (j + 1) (1023 - j)) := by
    rw [List.range_eq_range']
    have a1 := List.range'_append (s := j) (m := 1) (n := 1023 - j) (step := 1)
    have a2 := List.range'_append (s := 0) (m := j) (n := 1 + (1023 - j)) (step := 1)
    simp only [Nat.one_mul, Nat.zero_add] at a1 a2
    rw [show List.range' j 1 = [j] from rfl] at a1
    rw [a1, a2]
    congr 1
    omega
  rw [e, List.filter_append, List.filter_append, List.filter_append, List.filter_append]
  have z1 : (List.range' 0 j).filter N.testBit = [] := by
    rw [List.filter_eq_nil_iff]
    intro k hk
    rw [List.mem_range'_1] at hk
    rw [h0 k (by omega)]; simp
  have z2 : (List.range' 0 j).filter (minusS N (2 ^ j)).testBit = [] := by
    rw [List.filter_eq_nil_iff]
    intro k hk
    rw [List.mem_range'_1] at hk
    rw [minusS_bit, h0 k (by omega)]; simp
  have z3 : [j].filter (minusS N (2 ^ j)).testBit = [] := by
    rw [List.filter_eq_nil_iff]
    intro k hk
    have : k = j := by simpa using hk
    subst this
    rw [minusS_bit, Nat.testBit_two_pow_self]; simp
  have z4 : [j].filter N.testBit = [j] := by simp [h1]
  rw [z1, z2, z3, z4, List.nil_append, List.nil_append, List.nil_append, List.map_append]
  have z5 : (List.range' (j + 1) (1023 - j)).filter N.testBit = (List.range' (j + 1) (1023 - j)).filter (minusS N (2 ^ j)).testBit := by
    refine List.filter_congr fun k hk => ?_
    rw [List.mem_range'_1] at hk
    rw [minusS_bit, Nat.testBit_two_pow]
    have : decide (j = k) = false := by simp; omega
    rw [this]; simp
  rw [z5]
  rfl

/-- the least bit of a word that is not 0 -/
theorem ctz_bit {x : Nat} (h0 : x ≠ 0) (h : x < 18446744073709551616) : Lib.ctz 64 x < 64 ∧ x.testBit (Lib.ctz 64 x) = true ∧ ∀ i, i < Lib.ctz 64 x → x.testBit i = false := by
  obtain ⟨m, hm, hk⟩ := Lib.ctzFrom_spec 64 x (by omega) h
  have e : Lib.ctz 64 x = Lib.ctzFrom 64 x := by simp [Lib.ctz, h0]
  rw [e]
  generalize Lib.ctzFrom 64 x = c at *
  refine ⟨hk, ?_, fun i hi => ?_⟩
  · rw [hm, Nat.testBit_two_pow_mul]
    simp [Nat.testBit_zero]
  · rw [hm, Nat.testBit_two_pow_mul]
    simp; omega
/-- the first words are 0 -/
def zeroTo (N k : Nat) : Prop := ∀ j, j < 64 * k → N.testBit j = false
theorem zeroTo_next {N k : Nat} (h : zeroTo N k) (hw : wdN N k = 0) : zeroTo N (k + 1) := by
  intro j hj
  by_cases h1 : j < 64 * k
  · exact h j h1
  · have := wdN_bit N k (j - 64 * k)
    rw [hw, Nat.zero_testBit, show 64 * k + (j - 64 * k) = j by omega] at this
    have h2 : decide (j - 64 * k < 64) = true := by simp; omega
    rw [h2, Bool.true_and] at this
    exact this.symm
theorem toL_zero {N : Nat} (h : zeroTo N 16) : toL N = [] := toL_nil fun k hk => h k (by omega)
theorem toL_word {N k : Nat} (hk : k < 16) (h : zeroTo N k) (hw : wdN N k ≠ 0) : toL N = ((64 * k + Lib.ctz 64 (wdN N k) : Nat) : Int) :: toL (minusS N (2 ^ (64 * k + Lib.ctz 64 (wdN N k)))) := by
  obtain ⟨h1, h2, h3⟩ := ctz_bit hw (wdN_lt N k)
  generalize Lib.ctz 64 (wdN N k) = c at *
  refine toL_cons (by omega) (fun j hj => ?_) ?_
  · by_cases hj2 : j < 64 * k
    · exact h j hj2
    · have := h3 (j - 64 * k) (by omega)
      rw [wdN_bit, show 64 * k + (j - 64 * k) = j by omega] at this
      have h4 : decide (j - 64 * k < 64) = true := by simp; omega
      rw [h4, Bool.true_and] at this
      exact this
  · rw [wdN_bit] at h2
    simp only [Bool.and_eq_true] at h2
    exact h2.2
/-- what Min hands back -/
def minV (N : Nat) : Int := (toL N).headD 0
def anyB (N : Nat) : Bool := !(toL N).isEmpty
theorem min_nil {N : Nat} (h : toL N = []) : minV N = 0 ∧ anyB N = false := by unfold minV anyB; rw [h]; exact ⟨rfl, rfl⟩
theorem min_cons {N : Nat} {x : Int} {r : List Int} (h : toL N = x :: r) : minV N = x ∧ anyB N = true := by unfold minV anyB; rw [h]; exact ⟨rfl, rfl⟩
end Go.Proofs.YtmfkkkhddigkfaaGreatDoor
/- SETS OF A GRAPH: VertexSet. Conditions: see each theorem. -/
namespace Go.Proofs.YtmfkkkhddigkfaaGreatDoor
open Go Go.RowKit
attribute [local go_sem] qUpon lUpon

/-- the set of the vertices of a list -/
def vS (V : List (Int × Thing)) : Nat := V.foldl (fun a v => withS a v.1) 0
theorem vS_next (V : List (Int × Thing)) (k : Nat) (h : k < V.length) : vS (V.take (k + 1)) = withS (vS (V.take k)) V[k].1 := by
  unfold vS
  rw [List.take_succ_eq_append_getElem h, List.foldl_append, List.foldl_cons, List.foldl_nil]
theorem setC_u64 {N i : Nat} {u : Value} (h : (setC N)[i]? = some u) : ∃ m, u = .int .u64 m := by
  have hi : i < 16 := (Array.getElem?_eq_some_iff.1 h).1
  rw [setC_get _ hi] at h
  exact ⟨_, (Option.some.inj h).symm⟩
theorem SlAt.keep_S {α : Type} {enc : α → List Value} {k : Nat} {w w' : World} {A : Option Addr} {xs : List α} {b N : Nat} {T : TypeId} (h : SlAt enc k w A xs) (hb : Blk w b T (setC N))
    (hns : ∀ (x : α) (m : Int), (enc x)[0]? ≠ some (.int .u64 m)) (hen : ∀ x : α, ∃ u : Value, (enc x)[0]? = some u) (hk : Keep [b] w w') : SlAt enc k w' A xs :=
  h.off hb (fun i u hu x => by obtain ⟨m, rfl⟩ := setC_u64 hu; exact hns x _) hen hk.size (fun j hj hlt => hk.block j hlt (by simpa using hj))
theorem encV_nu (x : Int × Thing) (m : Int) : (encV x)[0]? ≠ some (.int .u64 m) := by simp [encV]
theorem encE_nu (x : (Int × Int) × Thing) (m : Int) : (encE x)[0]? ≠ some (.int .u64 m) := by simp [encE]

set_option maxRecDepth 100000 in
set_option maxHeartbeats 8000000 in
theorem vset_gen (g : Value) (V : List (Int × Thing)) (w : World) (hl : V.length ≤ 4096) (hL : ∀ W, Ext w W → Calls Tryz.prog 62 #[g] W fun e w' => ∃ A c, e = .returned (.slice A V.length c) ∧ SlAt encV 3 w' A V ∧ Ext W w') :
    Calls Tryz.prog 26 #[g] w fun e w' => e = .returned (.agg (setC (vS V))) ∧ Ext w w' := by
  have hB0 := hide (Blk.new w 51 (setC 0))
  have hL' := hide hL
  clear hL
  go_enter Tryz.func26, Tryz.ntmps26
  go_wp2_with fail
  have hx1 := hide ((ext_self1 w (.cells (setC 0) 51)).trans (ext_self1 _ (.cells (setC 0) 51)))
  have hB2 := hide ((unhide hB0).ext (ext_self1 (w.alloc (.cells (setC 0) 51)) (.cells (setC 0) 51)))
  have hB4 := hide (Blk.new (w.alloc (.cells (setC 0) 51)) 51 (setC 0))
  have hs : (w.alloc (.cells (setC 0) 51)).heap.size = w.heap.size + 1 := World.size_alloc _ _
  rw [hs] at hB4
  clear hs hB0
  have hz : setC 0 = #[.int .u64 0, .int .u64 0, .int .u64 0, .int .u64 0, .int .u64 0, .int .u64 0, .int .u64 0, .int .u64 0, .int .u64 0, .int .u64 0, .int .u64 0, .int .u64 0, .int .u64 0, .int .u64 0, .int .u64 0, .int .u64 0] := rfl
  rw [hz] at hx1 hB2 hB4
  generalize (w.alloc (.cells #[.int .u64 0, .int .u64 0, .int .u64 0, .int .u64 0, .int .u64 0, .int .u64 0, .int .u64 0, .int .u64 0, .int .u64 0, .int .u64 0, .int .u64 0, .int .u64 0, .int .u64 0, .int .u64 0, .int .u64 0, .int .u64 0] 51)).alloc (.cells #[.int .u64 0, .int .u64 0, .int .u64 0, .int .u64 0, .int .u64 0, .int .u64 0, .int .u64 0, .int .u64 0, .int .u64 0, .int .u64 0, .int .u64 0, .int .u64 0, .int .u64 0, .int .u64 0, .int .u64 0, .int .u64 0] 51) = W1 at *
  rw [← hz] at hB4 hB2
  clear hz
  generalize hb4e : w.heap.size + 1 = b4 at *
  generalize hb2e : w.heap.size = b2 at *
  refine (unhide hL' _ (unhide hx1)).mono ?_
  rintro e w2 ⟨A, c, rfl, hs2, hx2⟩
  have hB2' := hide ((unhide hB2).ext hx2)
  have hB4' := hide ((unhide hB4).ext hx2)
  have hx2' := hide ((unhide hx1).trans hx2)
  have hs2' := hide hs2
  clear hx1 hx2 hB2 hB4 hs2 hL'
  go_wp2_with fail
  go_loopw [9] (fun i wr => ∃ k : Nat, k ≤ V.length ∧ i = .int .i64 k ∧ Blk wr b4 51 (setC (vS (V.take k))) ∧ Blk wr b2 51 (setC 0) ∧ SlAt encV 3 wr A V ∧ Ext w wr) (fun i _ => V.length - (intOf i).toNat)
  case atStart => exact ⟨0, Nat.zero_le _, rfl, unhide hB4', unhide hB2', unhide hs2', unhide hx2'⟩
  case round =>
    obtain ⟨k, hk, rfl, hB, hA, hs, hx⟩ := hrel
    have hB' := hide hB
    have hA' := hide hA
    have hs' := hide hs
    have hx' := hide hx
    clear hB4' hB2' hx2' hs2' hB hA hs hx
    by_cases hlt : k < V.length
    · have hB := unhide hB'
      obtain ⟨bb, off, rfl, c0, c1, c2⟩ := atV (unhide hs') hlt
      have hn' := hide (vS_next V k hlt)
      generalize V[k] = y at c0 c1 c2 hn'
      obtain ⟨u, lab, wt⟩ := y
      generalize vS (V.take k) = N at hB hB' hn'
      simp only at c0 c1 c2
      have hself := Ext.refl wr
      have e0 := hB.cells 0 (v := .int .u64 (wd N 0)) rfl
      have e1 := hB.cells 1 (v := .int .u64 (wd N 1)) rfl
      have e2 := hB.cells 2 (v := .int .u64 (wd N 2)) rfl
      have e3 := hB.cells 3 (v := .int .u64 (wd N 3)) rfl
      have e4 := hB.cells 4 (v := .int .u64 (wd N 4)) rfl
      have e5 := hB.cells 5 (v := .int .u64 (wd N 5)) rfl
      have e6 := hB.cells 6 (v := .int .u64 (wd N 6)) rfl
      have e7 := hB.cells 7 (v := .int .u64 (wd N 7)) rfl
      have e8 := hB.cells 8 (v := .int .u64 (wd N 8)) rfl
      have e9 := hB.cells 9 (v := .int .u64 (wd N 9)) rfl
      have e10 := hB.cells 10 (v := .int .u64 (wd N 10)) rfl
      have e11 := hB.cells 11 (v := .int .u64 (wd N 11)) rfl
      have e12 := hB.cells 12 (v := .int .u64 (wd N 12)) rfl
      have e13 := hB.cells 13 (v := .int .u64 (wd N 13)) rfl
      have e14 := hB.cells 14 (v := .int .u64 (wd N 14)) rfl
      have e15 := hB.cells 15 (v := .int .u64 (wd N 15)) rfl
      clear hB
      go_wp2_with fail
      refine (with_any N u _).mono ?_
      rintro e w5 ⟨rfl, hx5⟩
      have hxx := hide ((ext_self1 wr (.cells #[.int .i64 u, .int .u8 lab, .int .i64 wt] 78)).trans hx5)
      have hB5 := (unhide hB').ext (unhide hxx)
      have hA5 := hide ((unhide hA').ext (unhide hxx))
      have hs5 := hide ((unhide hs').ext (unhide hxx))
      have hx6 := hide ((unhide hx').trans (unhide hxx))
      have hself5 := Ext.refl w5
      clear hx5 hB' hA' hs' hx' e0 e1 e2 e3 e4 e5 e6 e7 e8 e9 e10 e11 e12 e13 e14 e15 hself hxx c0 c1 c2
      have hst := store_Set (withS N u) hB5
      have hB5' := hide hB5
      clear hB5
      go_wp2_with fail
      go_roundw
      case rel => exact ⟨k + 1, by omega, by go_num, by rw [unhide hn']; exact Blk.putS _ (unhide hB5'), (unhide hA5).keep (Keep.putS w5 b4 _) (by simp; omega), (unhide hs5).keep_S (unhide hB5') encV_nu encV0 (Keep.putS w5 b4 _), (unhide hx6).of_new (Keep.putS w5 b4 _) (by simp; omega)⟩
      case measure => simp [intOf]; omega
    · have hke : k = V.length := by omega
      have hB := unhide hB'
      have hA := unhide hA'
      rw [hke, List.take_length] at hB hB'
      have hself := Ext.refl wr
      clear hlt
      obtain ⟨N, hN⟩ : ∃ N, vS V = N := ⟨_, rfl⟩
      rw [hN] at hB hB'
      have hN' := hide hN
      clear hN
      have e0 := hB.cells 0 (v := .int .u64 (wd N 0)) rfl
      have e1 := hB.cells 1 (v := .int .u64 (wd N 1)) rfl
      have e2 := hB.cells 2 (v := .int .u64 (wd N 2)) rfl
      have e3 := hB.cells 3 (v := .int .u64 (wd N 3)) rfl
      have e4 := hB.cells 4 (v := .int .u64 (wd N 4)) rfl
      have e5 := hB.cells 5 (v := .int .u64 (wd N 5)) rfl
      have e6 := hB.cells 6 (v := .int .u64 (wd N 6)) rfl
      have e7 := hB.cells 7 (v := .int .u64 (wd N 7)) rfl
      have e8 := hB.cells 8 (v := .int .u64 (wd N 8)) rfl
      have e9 := hB.cells 9 (v := .int .u64 (wd N 9)) rfl
      have e10 := hB.cells 10 (v := .int .u64 (wd N 10)) rfl
      have e11 := hB.cells 11 (v := .int .u64 (wd N 11)) rfl
      have e12 := hB.cells 12 (v := .int .u64 (wd N 12)) rfl
      have e13 := hB.cells 13 (v := .int .u64 (wd N 13)) rfl
      have e14 := hB.cells 14 (v := .int .u64 (wd N 14)) rfl
      have e15 := hB.cells 15 (v := .int .u64 (wd N 15)) rfl
      have g0 := hA.frozen 0
      have g1 := hA.frozen 1
      have g2 := hA.frozen 2
      have g3 := hA.frozen 3
      have g4 := hA.frozen 4
      have g5 := hA.frozen 5
      have g6 := hA.frozen 6
      have g7 := hA.frozen 7
      have g8 := hA.frozen 8
      have g9 := hA.frozen 9
      have g10 := hA.frozen 10
      have g11 := hA.frozen 11
      have g12 := hA.frozen 12
      have g13 := hA.frozen 13
      have g14 := hA.frozen 14
      have g15 := hA.frozen 15
      have z0 := hA.cells 0 (v := .int .u64 (wd 0 0)) rfl
      have z1 := hA.cells 1 (v := .int .u64 (wd 0 1)) rfl
      have z2 := hA.cells 2 (v := .int .u64 (wd 0 2)) rfl
      have z3 := hA.cells 3 (v := .int .u64 (wd 0 3)) rfl
      have z4 := hA.cells 4 (v := .int .u64 (wd 0 4)) rfl
      have z5 := hA.cells 5 (v := .int .u64 (wd 0 5)) rfl
      have z6 := hA.cells 6 (v := .int .u64 (wd 0 6)) rfl
      have z7 := hA.cells 7 (v := .int .u64 (wd 0 7)) rfl
      have z8 := hA.cells 8 (v := .int .u64 (wd 0 8)) rfl
      have z9 := hA.cells 9 (v := .int .u64 (wd 0 9)) rfl
      have z10 := hA.cells 10 (v := .int .u64 (wd 0 10)) rfl
      have z11 := hA.cells 11 (v := .int .u64 (wd 0 11)) rfl
      have z12 := hA.cells 12 (v := .int .u64 (wd 0 12)) rfl
      have z13 := hA.cells 13 (v := .int .u64 (wd 0 13)) rfl
      have z14 := hA.cells 14 (v := .int .u64 (wd 0 14)) rfl
      have z15 := hA.cells 15 (v := .int .u64 (wd 0 15)) rfl
      clear hB hA
      go_wp2_with fail
      refine bodyPost_ret (ret_cell1 rfl rfl (load_Set _ b2 N (Blk.set16 N (unhide hA')))) rfl ?_
      exact ⟨by rw [unhide hN'], (unhide hx').of_new (Keep.set16 wr b2 N) (by simp; omega)⟩
end Go.Proofs.YtmfkkkhddigkfaaGreatDoor
/- SETS OUT OF LISTS OF NUMBERS: plain laws. No program in sight. Conditions: see each theorem. -/
namespace Go.Proofs.YtmfkkkhddigkfaaGreatDoor
open Go Go.RowKit

theorem withS_bit (N : Nat) (x : Int) (k : Nat) : (withS N x).testBit k = (N.testBit k || (decide (k < 1024) && decide (x = (k : Int)))) := by
  unfold withS fitB
  by_cases h : 0 ≤ x ∧ x < 1024
  · rw [if_pos (by simp [h.1, h.2]), Nat.testBit_or, Nat.testBit_two_pow]
    congr 1
    rw [Bool.eq_iff_iff]
    simp only [Bool.and_eq_true, decide_eq_true_eq]
    omega
  · rw [if_neg (by simp; omega)]
    have : (decide (k < 1024) && decide (x = (k : Int))) = false := by
      rw [Bool.eq_false_iff]
      simp only [ne_eq, Bool.and_eq_true, decide_eq_true_eq]
      omega
    rw [this, Bool.or_false]
/-- the set of the numbers of a list -/
def fromS (L : List Int) : Nat := L.foldl withS 0
theorem fromS_next (L : List Int) (k : Nat) (h : k < L.length) : fromS (L.take (k + 1)) = withS (fromS (L.take k)) L[k] := by
  unfold fromS
  rw [List.take_succ_eq_append_getElem h, List.foldl_append, List.foldl_cons, List.foldl_nil]
theorem fold_bit (L : List Int) : ∀ (a k : Nat), (L.foldl withS a).testBit k = (a.testBit k || (decide (k < 1024) && decide ((k : Int) ∈ L))) := by
  induction L with
  | nil => intro a k; simp
  | cons x r ih =>
    intro a k
    rw [List.foldl_cons, ih, withS_bit, Bool.or_assoc]
    congr 1
    rw [Bool.eq_iff_iff]
    simp only [Bool.or_eq_true, Bool.and_eq_true, decide_eq_true_eq, List.mem_cons]
    constructor
    · rintro (h | h)
      · exact ⟨h.1, .inl h.2.symm⟩
      · exact ⟨h.1, .inr h.2⟩
    · rintro ⟨h1, h2 | h2⟩
      · exact .inl ⟨h1, h2.symm⟩
      · exact .inr ⟨h1, h2⟩
theorem fromS_bit (L : List Int) (k : Nat) : (fromS L).testBit k = (decide (k < 1024) && decide ((k : Int) ∈ L)) := by
  unfold fromS
  rw [fold_bit, Nat.zero_testBit, Bool.false_or]
theorem fromS_congr {L M : List Int} (h : ∀ x : Int, x ∈ L ↔ x ∈ M) : fromS L = fromS M := by
  apply Nat.eq_of_testBit_eq
  intro k
  rw [fromS_bit, fromS_bit]
  simp [h]
/-- VertexSet as a set of a list -/
theorem vS_eq (V : List (Int × Thing)) : vS V = fromS (V.map (·.1)) := by
  unfold vS fromS
  rw [List.foldl_map]
end Go.Proofs.YtmfkkkhddigkfaaGreatDoor
/- COUNTING BITS: what bits.OnesCount64 computes, and how many elements a set has. No program in sight. Conditions: see each theorem. -/
namespace Go.Proofs.YtmfkkkhddigkfaaGreatDoor

theorem and_split {a c : Nat} (b d : Nat) (ha : a < 256) (hc : c < 256) : (a + 256 * b) &&& (c + 256 * d) = (a &&& c) + 256 * (b &&& d) := by
  have hac : (a &&& c) < 2 ^ 8 := Nat.lt_of_le_of_lt Nat.and_le_left (by omega)
  apply Nat.eq_of_testBit_eq
  intro k
  rw [show a + 256 * b = 2 ^ 8 * b + a by omega, show c + 256 * d = 2 ^ 8 * d + c by omega, show (a &&& c) + 256 * (b &&& d) = 2 ^ 8 * (b &&& d) + (a &&& c) by omega]
  rw [Nat.testBit_and, Nat.testBit_two_pow_mul_add _ (by omega), Nat.testBit_two_pow_mul_add _ (by omega), Nat.testBit_two_pow_mul_add _ hac]
  by_cases hk : k < 8 <;> simp [hk]

def g1 (a : Nat) : Nat := ((a / 2) &&& 85) + (a &&& 85)
def g2 (a : Nat) : Nat := ((a / 4) &&& 51) + (a &&& 51)
def g3 (a : Nat) : Nat := ((a / 16) + a) &&& 15
def F1 (M x : Nat) : Nat := ((x / 2) &&& M) + (x &&& M)
def F2 (M x : Nat) : Nat := ((x / 4) &&& M) + (x &&& M)
def F3 (M x : Nat) : Nat := ((x / 16) + x) &&& M
theorem F1_split {a : Nat} (b M : Nat) (ha : a < 256) : F1 (85 + 256 * M) (a + 256 * b) = g1 a + 256 * F1 M b := by
  unfold F1 g1
  have h : (a / 2 + 128 * (b % 2)) &&& 85 = (a / 2) &&& 85 := by
    have : ∀ a < 256, ∀ c < 2, (a / 2 + 128 * c) &&& 85 = (a / 2) &&& 85 := by decide +kernel
    exact this a ha _ (by omega)
  rw [show (a + 256 * b) / 2 = (a / 2 + 128 * (b % 2)) + 256 * (b / 2) by omega, and_split _ _ (by omega) (by omega), and_split _ _ ha (by omega), h]
  omega
theorem F2_split {a : Nat} (b M : Nat) (ha : a < 256) : F2 (51 + 256 * M) (a + 256 * b) = g2 a + 256 * F2 M b := by
  unfold F2 g2
  have h : (a / 4 + 64 * (b % 4)) &&& 51 = (a / 4) &&& 51 := by
    have : ∀ a < 256, ∀ c < 4, (a / 4 + 64 * c) &&& 51 = (a / 4) &&& 51 := by decide +kernel
    exact this a ha _ (by omega)
  rw [show (a + 256 * b) / 4 = (a / 4 + 64 * (b % 4)) + 256 * (b / 4) by omega, and_split _ _ (by omega) (by omega), and_split _ _ ha (by omega), h]
  omega
theorem F3_split {a : Nat} (b M : Nat) (h1 : a % 16 ≤ 4) (h2 : a / 16 ≤ 4) (hb : b % 16 ≤ 4) : F3 (15 + 256 * M) (a + 256 * b) = g3 a + 256 * F3 M b := by
  unfold F3 g3
  have h : (a / 16 + 16 * (b % 16) + a) &&& 15 = (a / 16 + a) &&& 15 := by
    rw [show (15 : Nat) = 2 ^ 4 - 1 from rfl, Nat.and_two_pow_sub_one_eq_mod, Nat.and_two_pow_sub_one_eq_mod]
    omega
  rw [show (a + 256 * b) / 16 + (a + 256 * b) = (a / 16 + 16 * (b % 16) + a) + 256 * (b / 16 + b) by omega, and_split _ _ (by omega) (by omega), h]
def pc8 (a : Nat) : Nat := g3 (g2 (g1 a))
theorem g1_lt {a : Nat} (h : a < 256) : g1 a < 256 := by
  have : ∀ a < 256, g1 a < 256 := by decide +kernel
  exact this a h
theorem g2_lt {a : Nat} (h : a < 256) : g2 (g1 a) % 16 ≤ 4 ∧ g2 (g1 a) / 16 ≤ 4 := by
  have : ∀ a < 256, g2 (g1 a) % 16 ≤ 4 ∧ g2 (g1 a) / 16 ≤ 4 := by decide +kernel
  exact this a h
theorem pc8_le {a : Nat} (h : a < 256) : pc8 a ≤ 8 := by
  have : ∀ a < 256, pc8 a ≤ 8 := by decide +kernel
  exact this a h
/-- the bytes' counts, each in its byte -/
def M55 : Nat → Nat
  | 0 => 0
  | n + 1 => 85 + 256 * M55 n
def M33 : Nat → Nat
  | 0 => 0
  | n + 1 => 51 + 256 * M33 n
def M0f : Nat → Nat
  | 0 => 0
  | n + 1 => 15 + 256 * M0f n
def pcB : Nat → Nat → Nat
  | 0, _ => 0
  | n + 1, x => pc8 (x % 256) + 256 * pcB n (x / 256)
def H2 (n x : Nat) : Nat := F2 (M33 n) (F1 (M55 n) x)
theorem H2_zero (x : Nat) : H2 0 x = 0 := by
  unfold H2 F2 F1 M33 M55
  simp
theorem H2_succ (n x : Nat) : H2 (n + 1) x = g2 (g1 (x % 256)) + 256 * H2 n (x / 256) := by
  have e : x = x % 256 + 256 * (x / 256) := by omega
  have h1 : F1 (M55 (n + 1)) x = g1 (x % 256) + 256 * F1 (M55 n) (x / 256) := by
    have h := F1_split (x / 256) (M55 n) (a := x % 256) (by omega)
    rw [← e] at h
    exact h
  unfold H2
  rw [h1]
  exact F2_split _ _ (g1_lt (by omega))
theorem H2_low (n x : Nat) : H2 n x % 16 ≤ 4 := by
  cases n with
  | zero => rw [H2_zero]; omega
  | succ n =>
    rw [H2_succ]
    have := (g2_lt (a := x % 256) (by omega)).1
    omega
theorem H3_eq : ∀ n x, F3 (M0f n) (H2 n x) = pcB n x
  | 0, x => by rw [H2_zero]; rfl
  | n + 1, x => by
    have h := g2_lt (a := x % 256) (by omega)
    rw [H2_succ]
    show F3 (15 + 256 * M0f n) _ = _
    rw [F3_split _ _ h.1 h.2 (H2_low n _), H3_eq n]
    rfl
/-- how many of the first bits are set -/
def cntF (N : Nat) : Nat → Nat
  | 0 => 0
  | k + 1 => cntF N k + (N.testBit k).toNat
theorem cntF_add (N a b : Nat) : cntF N (a + b) = cntF N a + cntF (N >>> a) b := by
  induction b with
  | zero => rfl
  | succ b ih =>
    rw [← Nat.add_assoc]
    show cntF N (a + b) + _ = _
    rw [ih]
    show _ = cntF N a + (cntF (N >>> a) b + _)
    rw [Nat.testBit_shiftRight]
    omega
theorem cntF_congr {N M : Nat} : ∀ n, (∀ k, k < n → N.testBit k = M.testBit k) → cntF N n = cntF M n
  | 0, _ => rfl
  | n + 1, h => by
    show cntF N n + _ = cntF M n + _
    rw [cntF_congr n (fun k hk => h k (by omega)), h n (by omega)]
theorem pc8_cnt {a : Nat} (h : a < 256) : pc8 a = cntF a 8 := by
  have : ∀ a < 256, pc8 a = cntF a 8 := by decide +kernel
  exact this a h
/-- the sum of the bytes of a number -/
def sumB : Nat → Nat → Nat
  | 0, _ => 0
  | n + 1, x => x % 256 + sumB n (x / 256)
theorem sumB_pcB : ∀ n x, sumB n (pcB n x) = cntF x (8 * n)
  | 0, _ => rfl
  | n + 1, x => by
    have h8 := pc8_le (a := x % 256) (by omega)
    show (pc8 (x % 256) + 256 * pcB n (x / 256)) % 256 + sumB n ((pc8 (x % 256) + 256 * pcB n (x / 256)) / 256) = _
    rw [show (pc8 (x % 256) + 256 * pcB n (x / 256)) % 256 = pc8 (x % 256) by omega, show (pc8 (x % 256) + 256 * pcB n (x / 256)) / 256 = pcB n (x / 256) by omega, sumB_pcB n, pc8_cnt (by omega)]
    rw [show 8 * (n + 1) = 8 + 8 * n by omega, cntF_add, Nat.shiftRight_eq_div_pow]
    congr 1
    apply cntF_congr
    intro k hk
    rw [show (256 : Nat) = 2 ^ 8 from rfl, Nat.testBit_mod_two_pow]
    simp [hk]
theorem pcB_bytes : ∀ n x, ∀ i, pcB n x / 256 ^ i % 256 ≤ 8
  | 0, _, i => by
    show 0 / 256 ^ i % 256 ≤ 8
    rw [Nat.zero_div]; omega
  | n + 1, x, 0 => by
    have h8 := pc8_le (a := x % 256) (by omega)
    show (pc8 (x % 256) + 256 * pcB n (x / 256)) / 1 % 256 ≤ 8
    omega
  | n + 1, x, i + 1 => by
    have h8 := pc8_le (a := x % 256) (by omega)
    have ih := pcB_bytes n (x / 256) i
    show (pc8 (x % 256) + 256 * pcB n (x / 256)) / 256 ^ (i + 1) % 256 ≤ 8
    rw [Nat.pow_succ', ← Nat.div_div_eq_div_mul, show (pc8 (x % 256) + 256 * pcB n (x / 256)) / 256 = pcB n (x / 256) by omega]
    exact ih
theorem pcB_lt : ∀ n x, pcB n x < 256 ^ n
  | 0, _ => by show 0 < 1; omega
  | n + 1, x => by
    have h8 := pc8_le (a := x % 256) (by omega)
    have ih := pcB_lt n (x / 256)
    show pc8 (x % 256) + 256 * pcB n (x / 256) < 256 ^ (n + 1)
    rw [Nat.pow_succ']
    omega
/-- the last three steps -/
theorem fold_bytes (a0 a1 a2 a3 a4 a5 a6 a7 y0 y1 y2 y3 y4 y5 y6 y7 : Nat) (e0 : a0 = y0 + 256 * a1) (e1 : a1 = y1 + 256 * a2) (e2 : a2 = y2 + 256 * a3) (e3 : a3 = y3 + 256 * a4) (e4 : a4 = y4 + 256 * a5) (e5 : a5 = y5 + 256 * a6) (e6 : a6 = y6 + 256 * a7) (e7 : a7 = y7)
    (h0 : y0 ≤ 8) (h1 : y1 ≤ 8) (h2 : y2 ≤ 8) (h3 : y3 ≤ 8) (h4 : y4 ≤ 8) (h5 : y5 ≤ 8) (h6 : y6 ≤ 8) (h7 : y7 ≤ 8) :
    a0 / 256 = a1 ∧ (a0 + a1) / 65536 = a2 + a3 ∧ (a0 + a1 + (a2 + a3)) / 4294967296 = a4 + a5 + a6 + a7 ∧ (a0 + a1 + (a2 + a3)) + (a4 + a5 + a6 + a7) < 18446744073709551616 ∧
      ((a0 + a1 + (a2 + a3)) + (a4 + a5 + a6 + a7)) % 128 = y0 + y1 + y2 + y3 + y4 + y5 + y6 + y7 := by
  have f0 : a0 = (y0 + 256 * y1) + 65536 * a2 := by omega
  have f1 : a1 = (y1 + 256 * y2) + 65536 * a3 := by omega
  have f2 : a2 = (y2 + 256 * y3) + 65536 * a4 := by omega
  have f3 : a3 = (y3 + 256 * y4) + 65536 * a5 := by omega
  have b4 : a7 ≤ 8 := by omega
  have b5 : a6 ≤ 2056 := by omega
  have b6 : a5 ≤ 526344 := by omega
  have b7 : a4 ≤ 134744072 := by omega
  have b8 : a3 ≤ 34494482440 := by omega
  have b9 : a2 ≤ 8830587504648 := by omega
  have b10 : a1 ≤ 2260630401189896 := by omega
  have b11 : a0 ≤ 578721382704613384 := by omega
  refine ⟨by clear f0 f1 f2 f3 e1 e2 e3 e4 e5 e6 e7 b4 b5 b6 b7 b8 b9 b10 b11; omega, ?_, ?_, ?_, ?_⟩
  · clear e0 e1 e2 e3 e4 e5 e6 e7 f2 f3 b4 b5 b6 b7 b8 b9 b10 b11
    omega
  · have f4 : a4 = (y4 + 256 * y5) + 65536 * a6 := by omega
    have f5 : a5 = (y5 + 256 * y6) + 65536 * a7 := by omega
    clear e0 e1 e2 e3 e4 e5 e6 e7 b4 b5 b6 b7 b8 b9 b10 b11
    have g0 : ∃ l, l ≤ 134744072 ∧ a0 = l + 4294967296 * a4 := ⟨y0 + 256 * y1 + 65536 * (y2 + 256 * y3), by omega, by omega⟩
    have g1 : ∃ l, l ≤ 134744072 ∧ a1 = l + 4294967296 * a5 := ⟨y1 + 256 * y2 + 65536 * (y3 + 256 * y4), by omega, by omega⟩
    have g2 : ∃ l, l ≤ 134744072 ∧ a2 = l + 4294967296 * a6 := ⟨y2 + 256 * y3 + 65536 * (y4 + 256 * y5), by omega, by omega⟩
    have g3 : ∃ l, l ≤ 134744072 ∧ a3 = l + 4294967296 * a7 := ⟨y3 + 256 * y4 + 65536 * (y5 + 256 * y6), by omega, by omega⟩
    clear f0 f1 f2 f3 f4 f5
    obtain ⟨l0, k0, j0⟩ := g0
    obtain ⟨l1, k1, j1⟩ := g1
    obtain ⟨l2, k2, j2⟩ := g2
    obtain ⟨l3, k3, j3⟩ := g3
    omega
  · clear e0 e1 e2 e3 e4 e5 e6 e7 f0 f1 f2 f3
    omega
  · have hS : (a0 + a1 + (a2 + a3)) + (a4 + a5 + a6 + a7) = (y0 + y1 + y2 + y3 + y4 + y5 + y6 + y7) + 128 * (2 * (a1 + a2 + a3 + a4 + a5 + a6 + a7)) := by
      clear f0 f1 f2 f3 b4 b5 b6 b7 b8 b9 b10 b11
      omega
    rw [hS]
    generalize a1 + a2 + a3 + a4 + a5 + a6 + a7 = t
    clear e0 e1 e2 e3 e4 e5 e6 e7 f0 f1 f2 f3 b4 b5 b6 b7 b8 b9 b10 b11 hS
    omega
theorem div_step (z k m : Nat) (h : k * 256 = m) : z / k = z / k % 256 + 256 * (z / m) := by
  rw [← h, ← Nat.div_div_eq_div_mul]
  omega
/-- the whole: what the text computes of a word -/
theorem ones_steps (x : Nat) (_hx : x < 18446744073709551616) :
    F1 6148914691236517205 x < 18446744073709551616 ∧ F2 3689348814741910323 (F1 6148914691236517205 x) < 18446744073709551616 ∧
    F2 3689348814741910323 (F1 6148914691236517205 x) / 16 + F2 3689348814741910323 (F1 6148914691236517205 x) < 18446744073709551616 ∧
    ∃ z, F3 1085102592571150095 (F2 3689348814741910323 (F1 6148914691236517205 x)) = z ∧ z < 18446744073709551616 ∧ z + z / 256 < 18446744073709551616 ∧ (z + z / 256) + (z + z / 256) / 65536 < 18446744073709551616 ∧ ((z + z / 256) + (z + z / 256) / 65536) + ((z + z / 256) + (z + z / 256) / 65536) / 4294967296 < 18446744073709551616 ∧
      (((z + z / 256) + (z + z / 256) / 65536) + ((z + z / 256) + (z + z / 256) / 65536) / 4294967296) % 128 = cntF x 64 := by
  have m1 : (6148914691236517205 : Nat) = M55 8 := by decide +kernel
  have m2 : (3689348814741910323 : Nat) = M33 8 := by decide +kernel
  have m3 : (1085102592571150095 : Nat) = M0f 8 := by decide +kernel
  have b1 : F1 6148914691236517205 x < 18446744073709551616 := by
    unfold F1
    have h1 : (x / 2) &&& 6148914691236517205 ≤ 6148914691236517205 := Nat.and_le_right
    have h2 : x &&& 6148914691236517205 ≤ 6148914691236517205 := Nat.and_le_right
    omega
  have b2 : F2 3689348814741910323 (F1 6148914691236517205 x) < 8198552921648689608 := by
    generalize F1 6148914691236517205 x = t
    unfold F2
    have h1 : (t / 4) &&& 3689348814741910323 ≤ 3689348814741910323 := Nat.and_le_right
    have h2 : t &&& 3689348814741910323 ≤ 3689348814741910323 := Nat.and_le_right
    omega
  refine ⟨b1, by omega, by omega, _, rfl, ?_⟩
  have hz : F3 1085102592571150095 (F2 3689348814741910323 (F1 6148914691236517205 x)) = pcB 8 x := by
    rw [m1, m2, m3]
    exact H3_eq 8 x
  rw [hz]
  have hlt : pcB 8 x < 18446744073709551616 := by
    have := pcB_lt 8 x
    rw [show (256 : Nat) ^ 8 = 18446744073709551616 by decide +kernel] at this
    exact this
  have hs := sumB_pcB 8 x
  have hb := pcB_bytes 8 x
  generalize pcB 8 x = z at *
  have q0 := hb 0
  have q1 := hb 1
  have q2 := hb 2
  have q3 := hb 3
  have q4 := hb 4
  have q5 := hb 5
  have q6 := hb 6
  have q7 := hb 7
  simp only [Nat.reducePow, Nat.div_one] at q0 q1 q2 q3 q4 q5 q6 q7
  have hs' : z % 256 + (z / 256 % 256 + (z / 65536 % 256 + (z / 16777216 % 256 + (z / 4294967296 % 256 + (z / 1099511627776 % 256 + (z / 281474976710656 % 256 + (z / 72057594037927936 % 256))))))) = cntF x 64 := by
    rw [← hs]
    show _ = z % 256 + (z / 256 % 256 + (z / 256 / 256 % 256 + (z / 256 / 256 / 256 % 256 + (z / 256 / 256 / 256 / 256 % 256 + (z / 256 / 256 / 256 / 256 / 256 % 256 + (z / 256 / 256 / 256 / 256 / 256 / 256 % 256 + (z / 256 / 256 / 256 / 256 / 256 / 256 / 256 % 256 + 0)))))))
    simp only [Nat.div_div_eq_div_mul, Nat.reduceMul, Nat.add_zero]
  have hf := fold_bytes z (z / 256) (z / 65536) (z / 16777216) (z / 4294967296) (z / 1099511627776) (z / 281474976710656) (z / 72057594037927936) (z % 256) (z / 256 % 256) (z / 65536 % 256) (z / 16777216 % 256) (z / 4294967296 % 256) (z / 1099511627776 % 256) (z / 281474976710656 % 256) (z / 72057594037927936 % 256) (Nat.mod_add_div z 256).symm (div_step z 256 65536 rfl) (div_step z 65536 16777216 rfl) (div_step z 16777216 4294967296 rfl) (div_step z 4294967296 1099511627776 rfl) (div_step z 1099511627776 281474976710656 rfl) (div_step z 281474976710656 72057594037927936 rfl) (Nat.mod_eq_of_lt (Nat.div_lt_of_lt_mul hlt)).symm q0 q1 q2 q3 q4 q5 q6 q7
  obtain ⟨_, f1, f2, f3, f4⟩ := hf
  rw [f1, f2]
  refine ⟨hlt, Nat.lt_of_le_of_lt ?_ f3, Nat.lt_of_le_of_lt ?_ f3, f3, by rw [f4, ← hs']; simp only [Nat.add_assoc]⟩
  · rw [Nat.add_assoc]; exact Nat.le_add_right _ _
  · exact Nat.le_add_right _ _
/-- a set's elements, word by word -/
theorem cnt_word (N i : Nat) : cntF (wdN N i) 64 = cntF (N >>> (64 * i)) 64 := by
  apply cntF_congr
  intro k hk
  rw [wdN_bit, Nat.testBit_shiftRight]
  simp [hk]
theorem cnt_words (N i : Nat) : cntF N (64 * (i + 1)) = cntF N (64 * i) + cntF (wdN N i) 64 := by
  rw [show 64 * (i + 1) = 64 * i + 64 by omega, cntF_add, cnt_word]
theorem cntF_le (N : Nat) : ∀ n, cntF N n ≤ n
  | 0 => Nat.le_refl _
  | n + 1 => by
    have := cntF_le N n
    show cntF N n + (N.testBit n).toNat ≤ n + 1
    cases N.testBit n <;> simp <;> omega
/-- the elements of a set out of a list without repetition -/
theorem cntF_zero : ∀ n, cntF 0 n = 0
  | 0 => rfl
  | n + 1 => by
    show cntF 0 n + ((0 : Nat).testBit n).toNat = 0
    rw [cntF_zero n, Nat.zero_testBit]
    rfl
theorem cntF_with (N x : Nat) (h0 : N.testBit x = false) : ∀ n, cntF (N ||| 2 ^ x) n = cntF N n + if x < n then 1 else 0
  | 0 => rfl
  | n + 1 => by
    show cntF (N ||| 2 ^ x) n + _ = cntF N n + _ + _
    rw [cntF_with N x h0 n, Nat.testBit_or, Nat.testBit_two_pow]
    by_cases hx : x = n
    · subst hx
      rw [h0]
      simp
    · rw [show decide (x = n) = false by simp [hx], Bool.or_false]
      by_cases hl : x < n
      · rw [if_pos hl, if_pos (by omega)]
        omega
      · rw [if_neg hl, if_neg (by omega)]
        omega
theorem cnt_fold : ∀ (L : List Int) (N : Nat), (∀ x ∈ L, 0 ≤ x ∧ x < 1024 ∧ N.testBit x.toNat = false) → L.Nodup → cntF (L.foldl withS N) 1024 = cntF N 1024 + L.length
  | [], N, _, _ => by rw [List.foldl_nil, List.length_nil, Nat.add_zero]
  | x :: r, N, h, hn => by
    have hx := h x (by simp)
    have hw : withS N x = N ||| 2 ^ x.toNat := by
      unfold withS fitB
      rw [if_pos (by simp [hx.1, hx.2.1])]
    rw [List.foldl_cons, cnt_fold r (withS N x) ?_ (List.nodup_cons.1 hn).2, hw, cntF_with N _ hx.2.2, if_pos (by omega), List.length_cons]
    · omega
    · intro y hy
      have h2 := h y (by simp [hy])
      refine ⟨h2.1, h2.2.1, ?_⟩
      rw [withS_bit, h2.2.2, Bool.false_or]
      have hne : x ≠ y := by
        intro e
        subst e
        exact (List.nodup_cons.1 hn).1 hy
      have : decide (x = (y.toNat : Int)) = false := by
        rw [decide_eq_false_iff_not]
        omega
      rw [this, Bool.and_false]
theorem cnt_fromS {L : List Int} (h : ∀ x ∈ L, 0 ≤ x ∧ x < 1024) (hn : L.Nodup) : cntF (fromS L) 1024 = L.length := by
  unfold fromS
  rw [cnt_fold L 0 (fun x hx => ⟨(h x hx).1, (h x hx).2, Nat.zero_testBit _⟩) hn, cntF_zero]
  omega
end Go.Proofs.YtmfkkkhddigkfaaGreatDoor
/- graph.Build: what it makes of lists of vertices and edges. Conditions: see each theorem. -/
namespace Go.Proofs.YtmfkkkhddigkfaaGreatDoor
open Go Go.RowKit
attribute [local go_sem] qUpon lUpon

abbrev GS := List (Int × Thing) × List ((Int × Int) × Thing)
section
variable {σ α : Type}
/-- the first error of a row of steps, or 0 -/
def fe (er : σ → α → Int) (st : σ → α → σ) : List α → σ → Int
  | [], _ => 0
  | x :: l, s => if er s x = 0 then fe er st l (st s x) else er s x
theorem fe_append (er : σ → α → Int) (st : σ → α → σ) : ∀ (l1 l2 : List α) (s : σ), fe er st (l1 ++ l2) s = if fe er st l1 s = 0 then fe er st l2 (l1.foldl st s) else fe er st l1 s
  | [], l2, s => by simp [fe]
  | x :: l1, l2, s => by
    simp only [List.cons_append, fe, List.foldl_cons]
    by_cases h : er s x = 0
    · simp only [h, if_true]
      exact fe_append er st l1 l2 _
    · simp [h]
theorem fe_step {er : σ → α → Int} {st : σ → α → σ} {l : List α} {s : σ} {k : Nat} (hk : k < l.length) (h0 : fe er st (l.take k) s = 0) (h1 : er ((l.take k).foldl st s) l[k] = 0) : fe er st (l.take (k + 1)) s = 0 := by
  rw [List.take_succ_eq_append_getElem hk, fe_append, if_pos h0]
  simp [fe, h1]
theorem fe_stop {er : σ → α → Int} {st : σ → α → σ} {l : List α} {s : σ} {k : Nat} (hk : k < l.length) (h0 : fe er st (l.take k) s = 0) (h1 : er ((l.take k).foldl st s) l[k] ≠ 0) : fe er st l s = er ((l.take k).foldl st s) l[k] := by
  conv => lhs; rw [← List.take_append_drop k l, List.drop_eq_getElem_cons hk]
  rw [fe_append, if_pos h0]
  simp [fe, h1]
theorem fold_step {st : σ → α → σ} {l : List α} {s : σ} {k : Nat} (hk : k < l.length) : (l.take (k + 1)).foldl st s = st ((l.take k).foldl st s) l[k] := by
  rw [List.take_succ_eq_append_getElem hk, List.foldl_append]; rfl
end
def erV (s : GS) (x : Int × Thing) : Int := wrongR 0 x.1 0 x.2.2 s.1 s.2
def stV (s : GS) (x : Int × Thing) : GS := (nxV 0 x.1 0 x.2.1 x.2.2 s.1 s.2, nxE 0 x.1 0 x.2.1 x.2.2 s.1 s.2)
def erE (s : GS) (x : (Int × Int) × Thing) : Int := wrongR 2 x.1.1 x.1.2 x.2.2 s.1 s.2
def stE (s : GS) (x : (Int × Int) × Thing) : GS := (nxV 2 x.1.1 x.1.2 x.2.1 x.2.2 s.1 s.2, nxE 2 x.1.1 x.1.2 x.2.1 x.2.2 s.1 s.2)
def bS1 (Vs : List (Int × Thing)) : GS := Vs.foldl stV ([], [])
def bS (Vs : List (Int × Thing)) (Es : List ((Int × Int) × Thing)) : GS := Es.foldl stE (bS1 Vs)
def bErr (Vs : List (Int × Thing)) (Es : List ((Int × Int) × Thing)) : Int := if fe erV stV Vs ([], []) = 0 then fe erE stE Es (bS1 Vs) else fe erV stV Vs ([], [])

/-- what Build leaves -/
def BuildPost (Vs : List (Int × Thing)) (Es : List ((Int × Int) × Thing)) (w : World) (e : Ending) (w' : World) : Prop :=
  (bErr Vs Es = 0 ∧ ∃ g bv be, e = .returned (.tuple #[.pointer (some ⟨g, 0, none⟩), .int .i64 0]) ∧ IsG w' g bv be (bS Vs Es).1 (bS Vs Es).2 ∧ Ext w w' ∧ w.heap.size ≤ g ∧ w.heap.size ≤ bv ∧ w.heap.size ≤ be) ∨
  (bErr Vs Es ≠ 0 ∧ e = .returned (.tuple #[.pointer none, .int .i64 (bErr Vs Es)]) ∧ Ext w w')
theorem bne0 {n : Int} (h : n ≠ 0) : (n != 0) = true := by simpa using h

set_option maxRecDepth 100000 in
set_option maxHeartbeats 4000000 in
theorem build_any (A B : Option Addr) (Vs : List (Int × Thing)) (Es : List ((Int × Int) × Thing)) (cV cE : Nat) (w : World) (hV : SlAt encV 3 w A Vs) (hE : SlAt encE 4 w B Es) (oV : ∀ d ∈ Vs, okV d) (oE : ∀ d ∈ Es, okEd d) (hl : Vs.length ≤ 9223372036854775807) (hle : Es.length ≤ 9223372036854775807) :
    Calls Tryz.prog 41 #[.slice A Vs.length cV, .slice B Es.length cE] w (BuildPost Vs Es w) := by
  have hV' := hide hV
  have hE' := hide hE
  have oV' := hide oV
  have oE' := hide oE
  clear hV hE oV oE
  go_enter Tryz.func41, Tryz.ntmps41
  go_wp2_with fail
  refine (new_rel _).mono ?_
  rintro e w1 ⟨g, bv, be, rfl, hg10, hx10, n1, n2, n3⟩
  have hg1 := hide hg10
  have hx1 := hide hx10
  have hn1 := hide (And.intro n1 (And.intro n2 n3))
  clear hg10 hx10 n1 n2 n3
  go_wp2_with fail
  go_loopw [16] (fun i wr => ∃ k : Nat, k ≤ Vs.length ∧ i = .int .i64 k ∧ fe erV stV (Vs.take k) ([], []) = 0 ∧ IsG wr g bv be ((Vs.take k).foldl stV ([], [])).1 ((Vs.take k).foldl stV ([], [])).2 ∧ Ext w wr) (fun i _ => Vs.length - (intOf i).toNat)
  case atStart => exact ⟨0, Nat.zero_le _, rfl, rfl, unhide hg1, unhide hx1⟩
  case round =>
    obtain ⟨k, hk, rfl, hf, hg, hx⟩ := hrel
    have hf' := hide hf
    have hg' := hide hg
    have hx' := hide hx
    clear hf hg hx hg1 hx1
    by_cases hlt : k < Vs.length
    · obtain ⟨b, off, rfl, c0, c1, c2⟩ := atV ((unhide hV').ext (unhide hx')) hlt
      have hd := unhide oV' Vs[k] (List.getElem_mem hlt)
      have hst := hide (fold_step (st := stV) (s := (([], []) : GS)) hlt)
      have hfs := hide (fun h => fe_step (er := erV) (st := stV) (s := (([], []) : GS)) hlt (unhide hf') h)
      have hfe := hide (fun h => fe_stop (er := erV) (st := stV) (s := (([], []) : GS)) hlt (unhide hf') h)
      generalize hS : (Vs.take k).foldl stV ([], []) = S at *
      clear hS
      obtain ⟨V, E⟩ := S
      generalize hy : Vs[k] = y at c0 c1 c2 hd hst hfs hfe
      obtain ⟨u, lab, wt⟩ := y
      have hok := hide hd.1
      clear hd hy
      simp only at c0 c1 c2
      by_cases h0 : wrongR 0 u 0 wt V E = 0
      · have h0' := hide h0
        clear h0
        go_wp2_with fail
        refine (apply_any g bv be V E 0 u 0 lab wt _ ((unhide hg').ext (ext_self1 _ _)) (unhide hok) (by unfold i64ok; omega)).mono ?_
        rw [unhide h0']
        rintro e wa ⟨rfl, hga, hka⟩
        have hxa := hide (((unhide hx').trans (ext_self1 _ _)).of_new hka (by have := unhide hn1; simp; omega))
        have hga' := hide hga
        clear hga hka c0 c1 c2
        go_wp2_with fail
        go_roundw
        case rel => exact ⟨k + 1, by omega, by go_num, unhide hfs (unhide h0'), by rw [unhide hst]; exact unhide hga', unhide hxa⟩
        case measure => simp [intOf]; omega
      · have hbe : bErr Vs Es = wrongR 0 u 0 wt V E := by
          have h1 := unhide hfe h0
          unfold bErr
          rw [h1]
          exact if_neg h0
        have hbe' := hide hbe
        have h0' := hide h0
        have hb := bne0 h0
        clear hbe h0
        generalize hno : wrongR 0 u 0 wt V E = no at hb
        have hno' := hide hno
        clear hno
        go_wp2_with fail
        refine (apply_any g bv be V E 0 u 0 lab wt _ ((unhide hg').ext (ext_self1 _ _)) (unhide hok) (by unfold i64ok; omega)).mono ?_
        rw [unhide hno']
        rintro e wa ⟨rfl, hga, hka⟩
        have hxa := hide (((unhide hx').trans (ext_self1 _ _)).of_new hka (by have := unhide hn1; simp; omega))
        clear hga hka c0 c1 c2
        go_wp2_with fail
        go_ret2
        exact .inr ⟨by rw [unhide hbe']; exact unhide h0', by rw [unhide hbe', unhide hno']; rfl, unhide hxa⟩
    · have hkV : k = Vs.length := by omega
      subst hkV
      rw [List.take_length] at hf' hg'
      have hF := hide (unhide hf')
      have hG := hide (unhide hg')
      have hX := hide (unhide hx')
      rename World => wV
      clear hf' hg' hx'
      go_wp2_with fail
      go_loopw [35] (fun i wr => ∃ k : Nat, k ≤ Es.length ∧ i = .int .i64 k ∧ fe erE stE (Es.take k) (bS1 Vs) = 0 ∧ IsG wr g bv be ((Es.take k).foldl stE (bS1 Vs)).1 ((Es.take k).foldl stE (bS1 Vs)).2 ∧ Ext w wr) (fun i _ => Es.length - (intOf i).toNat)
      case atStart => exact ⟨0, Nat.zero_le _, rfl, rfl, unhide hG, unhide hX⟩
      case round =>
        obtain ⟨k, hk, rfl, hf, hg, hx⟩ := hrel
        have hf' := hide hf
        have hg' := hide hg
        have hx' := hide hx
        clear hf hg hx hG hX
        by_cases hlt : k < Es.length
        · obtain ⟨b, off, rfl, c0, c1, c2, c3⟩ := atE ((unhide hE').ext (unhide hx')) hlt
          have hd := unhide oE' Es[k] (List.getElem_mem hlt)
          have hst := hide (fold_step (st := stE) (s := bS1 Vs) hlt)
          have hfs := hide (fun h => fe_step (er := erE) (st := stE) (s := bS1 Vs) hlt (unhide hf') h)
          have hfe := hide (fun h => fe_stop (er := erE) (st := stE) (s := bS1 Vs) hlt (unhide hf') h)
          generalize hS : (Es.take k).foldl stE (bS1 Vs) = S at *
          clear hS
          obtain ⟨V, E⟩ := S
          generalize hy : Es[k] = y at c0 c1 c2 c3 hd hst hfs hfe
          obtain ⟨⟨u, v⟩, ⟨lab, wt⟩⟩ := y
          have hok := hide hd.1
          have hok2 := hide hd.2.1
          clear hd hy
          simp only at c0 c1 c2 c3
          by_cases h0 : wrongR 2 u v wt V E = 0
          · have h0' := hide h0
            clear h0
            go_wp2_with fail
            refine (apply_any g bv be V E 2 u v lab wt _ ((unhide hg').ext (ext_self1 _ _)) (unhide hok) (unhide hok2)).mono ?_
            rw [unhide h0']
            rintro e wa ⟨rfl, hga, hka⟩
            have hxa := hide (((unhide hx').trans (ext_self1 _ _)).of_new hka (by have := unhide hn1; simp; omega))
            have hga' := hide hga
            clear hga hka c0 c1 c2 c3
            go_wp2_with fail
            go_roundw
            case rel => exact ⟨k + 1, by omega, by go_num, unhide hfs (unhide h0'), by rw [unhide hst]; exact unhide hga', unhide hxa⟩
            case measure => simp [intOf]; omega
          · have hbe : bErr Vs Es = wrongR 2 u v wt V E := by
              have h1 := unhide hfe h0
              unfold bErr
              rw [if_pos (unhide hF), h1]
              rfl
            have hbe' := hide hbe
            have h0' := hide h0
            have hb := bne0 h0
            clear hbe h0
            generalize hno : wrongR 2 u v wt V E = no at hb
            have hno' := hide hno
            clear hno
            go_wp2_with fail
            refine (apply_any g bv be V E 2 u v lab wt _ ((unhide hg').ext (ext_self1 _ _)) (unhide hok) (unhide hok2)).mono ?_
            rw [unhide hno']
            rintro e wa ⟨rfl, hga, hka⟩
            have hxa := hide (((unhide hx').trans (ext_self1 _ _)).of_new hka (by have := unhide hn1; simp; omega))
            clear hga hka c0 c1 c2 c3
            go_wp2_with fail
            go_ret2
            exact .inr ⟨by rw [unhide hbe']; exact unhide h0', by rw [unhide hbe', unhide hno']; rfl, unhide hxa⟩
        · have hkE : k = Es.length := by omega
          subst hkE
          rw [List.take_length] at hf' hg'
          go_wp2_with fail
          go_ret2
          obtain ⟨n1, n2, n3⟩ := unhide hn1
          exact .inl ⟨by unfold bErr; rw [if_pos (unhide hF), unhide hf'], g, bv, be, rfl, unhide hg', unhide hx', n1, n2, n3⟩
end Go.Proofs.YtmfkkkhddigkfaaGreatDoor
