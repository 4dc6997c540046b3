/- SETS OF A GRAPH: VertexSet. Conditions: see each theorem. -/
import Derived.Test.YtdkhondfahebnaaGreatPu
import Derived.Test.YtdkhondfahebnaaGreatGk
namespace Go.Proofs.YtdkhondfahebnaaGreat
open Go Go.RowKit
attribute [local go_sem] qUpon lUpon

/-- the set of the vertices of a list -/
def vS (V : List (Int × Thing)) : Nat := V.foldl (fun a v => withS a v.1) 0
theorem vS_next (V : List (Int × Thing)) (k : Nat) (h : k < V.length) : vS (V.take (k + 1)) = withS (vS (V.take k)) V[k].1 := by
  unfold vS
  rw [List.take_succ_eq_append_getElem h, List.foldl_append, List.foldl_cons, List.foldl_nil]
theorem setC_u64 {N i : Nat} {u : Value} (h : (setC N)[i]? = some u) : ∃ m, u = .int .u64 m := by
  have hi : i < 16 := (Array.getElem?_eq_some_iff.1 h).1
  rw [setC_get _ hi] at h
  exact ⟨_, (Option.some.inj h).symm⟩
theorem SlAt.keep_S {α : Type} {enc : α → List Value} {k : Nat} {w w' : World} {A : Option Addr} {xs : List α} {b N : Nat} {T : TypeId} (h : SlAt enc k w A xs) (hb : Blk w b T (setC N))
    (hns : ∀ (x : α) (m : Int), (enc x)[0]? ≠ some (.int .u64 m)) (hen : ∀ x : α, ∃ u : Value, (enc x)[0]? = some u) (hk : Keep [b] w w') : SlAt enc k w' A xs :=
  h.off hb (fun i u hu x => by obtain ⟨m, rfl⟩ := setC_u64 hu; exact hns x _) hen hk.size (fun j hj hlt => hk.block j hlt (by simpa using hj))
theorem encV_nu (x : Int × Thing) (m : Int) : (encV x)[0]? ≠ some (.int .u64 m) := by simp [encV]
theorem encE_nu (x : (Int × Int) × Thing) (m : Int) : (encE x)[0]? ≠ some (.int .u64 m) := by simp [encE]

set_option maxRecDepth 100000 in
set_option maxHeartbeats 8000000 in
theorem vset_gen (g : Value) (V : List (Int × Thing)) (w : World) (hl : V.length ≤ 4096) (hL : ∀ W, Ext w W → Calls Tryz.prog 20 #[g] W fun e w' => ∃ A c, e = .returned (.slice A V.length c) ∧ SlAt encV 3 w' A V ∧ Ext W w') :
    Calls Tryz.prog 12 #[g] w fun e w' => e = .returned (.agg (setC (vS V))) ∧ Ext w w' := by
  have hB0 := hide (Blk.new w 25 (setC 0))
  have hL' := hide hL
  clear hL
  go_enter Tryz.func12, Tryz.ntmps12
  go_wp2_with fail
  have hx1 := hide ((ext_self1 w (.cells (setC 0) 25)).trans (ext_self1 _ (.cells (setC 0) 25)))
  have hB2 := hide ((unhide hB0).ext (ext_self1 (w.alloc (.cells (setC 0) 25)) (.cells (setC 0) 25)))
  have hB4 := hide (Blk.new (w.alloc (.cells (setC 0) 25)) 25 (setC 0))
  have hs : (w.alloc (.cells (setC 0) 25)).heap.size = w.heap.size + 1 := World.size_alloc _ _
  rw [hs] at hB4
  clear hs hB0
  have hz : setC 0 = #[.int .u64 0, .int .u64 0, .int .u64 0, .int .u64 0, .int .u64 0, .int .u64 0, .int .u64 0, .int .u64 0, .int .u64 0, .int .u64 0, .int .u64 0, .int .u64 0, .int .u64 0, .int .u64 0, .int .u64 0, .int .u64 0] := rfl
  rw [hz] at hx1 hB2 hB4
  generalize (w.alloc (.cells #[.int .u64 0, .int .u64 0, .int .u64 0, .int .u64 0, .int .u64 0, .int .u64 0, .int .u64 0, .int .u64 0, .int .u64 0, .int .u64 0, .int .u64 0, .int .u64 0, .int .u64 0, .int .u64 0, .int .u64 0, .int .u64 0] 25)).alloc (.cells #[.int .u64 0, .int .u64 0, .int .u64 0, .int .u64 0, .int .u64 0, .int .u64 0, .int .u64 0, .int .u64 0, .int .u64 0, .int .u64 0, .int .u64 0, .int .u64 0, .int .u64 0, .int .u64 0, .int .u64 0, .int .u64 0] 25) = W1 at *
  rw [← hz] at hB4 hB2
  clear hz
  generalize hb4e : w.heap.size + 1 = b4 at *
  generalize hb2e : w.heap.size = b2 at *
  refine (unhide hL' _ (unhide hx1)).mono ?_
  rintro e w2 ⟨A, c, rfl, hs2, hx2⟩
  have hB2' := hide ((unhide hB2).ext hx2)
  have hB4' := hide ((unhide hB4).ext hx2)
  have hx2' := hide ((unhide hx1).trans hx2)
  have hs2' := hide hs2
  clear hx1 hx2 hB2 hB4 hs2 hL'
  go_wp2_with fail
  go_loopw [9] (fun i wr => ∃ k : Nat, k ≤ V.length ∧ i = .int .i64 k ∧ Blk wr b4 25 (setC (vS (V.take k))) ∧ Blk wr b2 25 (setC 0) ∧ SlAt encV 3 wr A V ∧ Ext w wr) (fun i _ => V.length - (intOf i).toNat)
  case atStart => exact ⟨0, Nat.zero_le _, rfl, unhide hB4', unhide hB2', unhide hs2', unhide hx2'⟩
  case round =>
    obtain ⟨k, hk, rfl, hB, hA, hs, hx⟩ := hrel
    have hB' := hide hB
    have hA' := hide hA
    have hs' := hide hs
    have hx' := hide hx
    clear hB4' hB2' hx2' hs2' hB hA hs hx
    by_cases hlt : k < V.length
    · have hB := unhide hB'
      obtain ⟨bb, off, rfl, c0, c1, c2⟩ := atV (unhide hs') hlt
      have hn' := hide (vS_next V k hlt)
      generalize V[k] = y at c0 c1 c2 hn'
      obtain ⟨u, lab, wt⟩ := y
      generalize vS (V.take k) = N at hB hB' hn'
      simp only at c0 c1 c2
      have hself := Ext.refl wr
      have e0 := hB.cells 0 (v := .int .u64 (wd N 0)) rfl
      have e1 := hB.cells 1 (v := .int .u64 (wd N 1)) rfl
      have e2 := hB.cells 2 (v := .int .u64 (wd N 2)) rfl
      have e3 := hB.cells 3 (v := .int .u64 (wd N 3)) rfl
      have e4 := hB.cells 4 (v := .int .u64 (wd N 4)) rfl
      have e5 := hB.cells 5 (v := .int .u64 (wd N 5)) rfl
      have e6 := hB.cells 6 (v := .int .u64 (wd N 6)) rfl
      have e7 := hB.cells 7 (v := .int .u64 (wd N 7)) rfl
      have e8 := hB.cells 8 (v := .int .u64 (wd N 8)) rfl
      have e9 := hB.cells 9 (v := .int .u64 (wd N 9)) rfl
      have e10 := hB.cells 10 (v := .int .u64 (wd N 10)) rfl
      have e11 := hB.cells 11 (v := .int .u64 (wd N 11)) rfl
      have e12 := hB.cells 12 (v := .int .u64 (wd N 12)) rfl
      have e13 := hB.cells 13 (v := .int .u64 (wd N 13)) rfl
      have e14 := hB.cells 14 (v := .int .u64 (wd N 14)) rfl
      have e15 := hB.cells 15 (v := .int .u64 (wd N 15)) rfl
      clear hB
      go_wp2_with fail
      refine (with_any N u _).mono ?_
      rintro e w5 ⟨rfl, hx5⟩
      have hxx := hide ((ext_self1 wr (.cells #[.int .i64 u, .int .u8 lab, .int .i64 wt] 57)).trans hx5)
      have hB5 := (unhide hB').ext (unhide hxx)
      have hA5 := hide ((unhide hA').ext (unhide hxx))
      have hs5 := hide ((unhide hs').ext (unhide hxx))
      have hx6 := hide ((unhide hx').trans (unhide hxx))
      have hself5 := Ext.refl w5
      clear hx5 hB' hA' hs' hx' e0 e1 e2 e3 e4 e5 e6 e7 e8 e9 e10 e11 e12 e13 e14 e15 hself hxx c0 c1 c2
      have hst := store_Set (withS N u) hB5
      have hB5' := hide hB5
      clear hB5
      go_wp2_with fail
      go_roundw
      case rel => exact ⟨k + 1, by omega, by go_num, by rw [unhide hn']; exact Blk.putS _ (unhide hB5'), (unhide hA5).keep (Keep.putS w5 b4 _) (by simp; omega), (unhide hs5).keep_S (unhide hB5') encV_nu encV0 (Keep.putS w5 b4 _), (unhide hx6).of_new (Keep.putS w5 b4 _) (by simp; omega)⟩
      case measure => simp [intOf]; omega
    · have hke : k = V.length := by omega
      have hB := unhide hB'
      have hA := unhide hA'
      rw [hke, List.take_length] at hB hB'
      have hself := Ext.refl wr
      clear hlt
      obtain ⟨N, hN⟩ : ∃ N, vS V = N := ⟨_, rfl⟩
      rw [hN] at hB hB'
      have hN' := hide hN
      clear hN
      have e0 := hB.cells 0 (v := .int .u64 (wd N 0)) rfl
      have e1 := hB.cells 1 (v := .int .u64 (wd N 1)) rfl
      have e2 := hB.cells 2 (v := .int .u64 (wd N 2)) rfl
      have e3 := hB.cells 3 (v := .int .u64 (wd N 3)) rfl
      have e4 := hB.cells 4 (v := .int .u64 (wd N 4)) rfl
      have e5 := hB.cells 5 (v := .int .u64 (wd N 5)) rfl
      have e6 := hB.cells 6 (v := .int .u64 (wd N 6)) rfl
      have e7 := hB.cells 7 (v := .int .u64 (wd N 7)) rfl
      have e8 := hB.cells 8 (v := .int .u64 (wd N 8)) rfl
      have e9 := hB.cells 9 (v := .int .u64 (wd N 9)) rfl
      have e10 := hB.cells 10 (v := .int .u64 (wd N 10)) rfl
      have e11 := hB.cells 11 (v := .int .u64 (wd N 11)) rfl
      have e12 := hB.cells 12 (v := .int .u64 (wd N 12)) rfl
      have e13 := hB.cells 13 (v := .int .u64 (wd N 13)) rfl
      have e14 := hB.cells 14 (v := .int .u64 (wd N 14)) rfl
      have e15 := hB.cells 15 (v := .int .u64 (wd N 15)) rfl
      have g0 := hA.frozen 0
      have g1 := hA.frozen 1
      have g2 := hA.frozen 2
      have g3 := hA.frozen 3
      have g4 := hA.frozen 4
      have g5 := hA.frozen 5
      have g6 := hA.frozen 6
      have g7 := hA.frozen 7
      have g8 := hA.frozen 8
      have g9 := hA.frozen 9
      have g10 := hA.frozen 10
      have g11 := hA.frozen 11
      have g12 := hA.frozen 12
      have g13 := hA.frozen 13
      have g14 := hA.frozen 14
      have g15 := hA.frozen 15
      have z0 := hA.cells 0 (v := .int .u64 (wd 0 0)) rfl
      have z1 := hA.cells 1 (v := .int .u64 (wd 0 1)) rfl
      have z2 := hA.cells 2 (v := .int .u64 (wd 0 2)) rfl
      have z3 := hA.cells 3 (v := .int .u64 (wd 0 3)) rfl
      have z4 := hA.cells 4 (v := .int .u64 (wd 0 4)) rfl
      have z5 := hA.cells 5 (v := .int .u64 (wd 0 5)) rfl
      have z6 := hA.cells 6 (v := .int .u64 (wd 0 6)) rfl
      have z7 := hA.cells 7 (v := .int .u64 (wd 0 7)) rfl
      have z8 := hA.cells 8 (v := .int .u64 (wd 0 8)) rfl
      have z9 := hA.cells 9 (v := .int .u64 (wd 0 9)) rfl
      have z10 := hA.cells 10 (v := .int .u64 (wd 0 10)) rfl
      have z11 := hA.cells 11 (v := .int .u64 (wd 0 11)) rfl
      have z12 := hA.cells 12 (v := .int .u64 (wd 0 12)) rfl
      have z13 := hA.cells 13 (v := .int .u64 (wd 0 13)) rfl
      have z14 := hA.cells 14 (v := .int .u64 (wd 0 14)) rfl
      have z15 := hA.cells 15 (v := .int .u64 (wd 0 15)) rfl
      clear hB hA
      go_wp2_with fail
      refine bodyPost_ret (ret_cell1 rfl rfl (load_Set _ b2 N (Blk.set16 N (unhide hA')))) rfl ?_
      exact ⟨by rw [unhide hN'], (unhide hx').of_new (Keep.set16 wr b2 N) (by simp; omega)⟩
end Go.Proofs.YtdkhondfahebnaaGreat
