/- SETS OF A GRAPH: IncidentEdges. Conditions: see each theorem. -/
import Derived.Test.YtdkhondfahebnaaVt
namespace Go.Proofs.Ytdkhondfahebnaa
open Go Go.RowKit
attribute [local go_sem] qUpon lUpon

/-- the set of the places of the edges at a vertex, the first k looked at -/
def incB (id : Int) (e : (Int × Int) × Thing) : Bool := decide (e.1.1 = id) || decide (e.1.2 = id)
def incF (id : Int) (E : List ((Int × Int) × Thing)) (a i : Nat) : Nat := match E[i]? with | some e => if incB id e then withS a i else a | none => a
def incS (id : Int) (E : List ((Int × Int) × Thing)) (k : Nat) : Nat := (List.range k).foldl (incF id E) 0
theorem incS_next (id : Int) (E : List ((Int × Int) × Thing)) (k : Nat) (h : k < E.length) : incS id E (k + 1) = if incB id E[k] then withS (incS id E k) k else incS id E k := by
  unfold incS
  rw [List.range_succ, List.foldl_append, List.foldl_cons, List.foldl_nil]
  simp [incF, h]

set_option maxRecDepth 100000 in
set_option maxHeartbeats 8000000 in
theorem inc_gen (g : Value) (id : Int) (E : List ((Int × Int) × Thing)) (w : World) (hl : E.length ≤ 4096) (hL : ∀ W, Ext w W → Calls Try.prog 24 #[g] W fun e w' => ∃ A c, e = .returned (.slice A E.length c) ∧ SlAt encE 4 w' A E ∧ Ext W w') :
    Calls Try.prog 35 #[g, .int .i64 id] w fun e w' => e = .returned (.agg (setC (incS id E E.length))) ∧ Ext w w' := by
  have hB0 := hide (Blk.new w 78 (setC 0))
  have hL' := hide hL
  clear hL
  go_enter Try.func35, Try.ntmps35
  go_wp2_with fail
  have hx1 := hide ((ext_self1 w (.cells (setC 0) 78)).trans (ext_self1 _ (.cells (setC 0) 78)))
  have hB2 := hide ((unhide hB0).ext (ext_self1 (w.alloc (.cells (setC 0) 78)) (.cells (setC 0) 78)))
  have hB4 := hide (Blk.new (w.alloc (.cells (setC 0) 78)) 78 (setC 0))
  have hs : (w.alloc (.cells (setC 0) 78)).heap.size = w.heap.size + 1 := World.size_alloc _ _
  rw [hs] at hB4
  clear hs hB0
  have hz : setC 0 = #[.int .u64 0, .int .u64 0, .int .u64 0, .int .u64 0, .int .u64 0, .int .u64 0, .int .u64 0, .int .u64 0, .int .u64 0, .int .u64 0, .int .u64 0, .int .u64 0, .int .u64 0, .int .u64 0, .int .u64 0, .int .u64 0] := rfl
  rw [hz] at hx1 hB2 hB4
  generalize (w.alloc (.cells #[.int .u64 0, .int .u64 0, .int .u64 0, .int .u64 0, .int .u64 0, .int .u64 0, .int .u64 0, .int .u64 0, .int .u64 0, .int .u64 0, .int .u64 0, .int .u64 0, .int .u64 0, .int .u64 0, .int .u64 0, .int .u64 0] 78)).alloc (.cells #[.int .u64 0, .int .u64 0, .int .u64 0, .int .u64 0, .int .u64 0, .int .u64 0, .int .u64 0, .int .u64 0, .int .u64 0, .int .u64 0, .int .u64 0, .int .u64 0, .int .u64 0, .int .u64 0, .int .u64 0, .int .u64 0] 78) = W1 at *
  rw [← hz] at hB4 hB2
  clear hz
  generalize hb4e : w.heap.size + 1 = b4 at *
  generalize hb2e : w.heap.size = b2 at *
  refine (unhide hL' _ (unhide hx1)).mono ?_
  rintro e w2 ⟨A, c, rfl, hs2, hx2⟩
  have hB2' := hide ((unhide hB2).ext hx2)
  have hB4' := hide ((unhide hB4).ext hx2)
  have hx2' := hide ((unhide hx1).trans hx2)
  have hs2' := hide hs2
  clear hx1 hx2 hB2 hB4 hs2 hL'
  go_wp2_with fail
  go_loopw [11] (fun i wr => ∃ k : Nat, k ≤ E.length ∧ i = .int .i64 k ∧ Blk wr b4 78 (setC (incS id E k)) ∧ Blk wr b2 78 (setC 0) ∧ SlAt encE 4 wr A E ∧ Ext w wr) (fun i _ => E.length - (intOf i).toNat)
  case atStart => exact ⟨0, Nat.zero_le _, rfl, unhide hB4', unhide hB2', unhide hs2', unhide hx2'⟩
  case round =>
    obtain ⟨k, hk, rfl, hB, hA, hs, hx⟩ := hrel
    have hB' := hide hB
    have hA' := hide hA
    have hs' := hide hs
    have hx' := hide hx
    clear hB4' hB2' hx2' hs2' hB hA hs hx
    by_cases hlt : k < E.length
    · have hB := unhide hB'
      obtain ⟨bb, off, rfl, c0, c1, c2, c3⟩ := atE (unhide hs') hlt
      have hn' := hide (incS_next id E k hlt)
      generalize E[k] = y at c0 c1 c2 c3 hn'
      obtain ⟨⟨u, v⟩, ⟨lab, wt⟩⟩ := y
      generalize incS id E k = N at hB hB' hn'
      simp only at c0 c1 c2 c3
      have hself := Ext.refl wr
      have e0 := hB.cells 0 (v := .int .u64 (wd N 0)) rfl
      have e1 := hB.cells 1 (v := .int .u64 (wd N 1)) rfl
      have e2 := hB.cells 2 (v := .int .u64 (wd N 2)) rfl
      have e3 := hB.cells 3 (v := .int .u64 (wd N 3)) rfl
      have e4 := hB.cells 4 (v := .int .u64 (wd N 4)) rfl
      have e5 := hB.cells 5 (v := .int .u64 (wd N 5)) rfl
      have e6 := hB.cells 6 (v := .int .u64 (wd N 6)) rfl
      have e7 := hB.cells 7 (v := .int .u64 (wd N 7)) rfl
      have e8 := hB.cells 8 (v := .int .u64 (wd N 8)) rfl
      have e9 := hB.cells 9 (v := .int .u64 (wd N 9)) rfl
      have e10 := hB.cells 10 (v := .int .u64 (wd N 10)) rfl
      have e11 := hB.cells 11 (v := .int .u64 (wd N 11)) rfl
      have e12 := hB.cells 12 (v := .int .u64 (wd N 12)) rfl
      have e13 := hB.cells 13 (v := .int .u64 (wd N 13)) rfl
      have e14 := hB.cells 14 (v := .int .u64 (wd N 14)) rfl
      have e15 := hB.cells 15 (v := .int .u64 (wd N 15)) rfl
      clear hB
      by_cases h1 : u = id
      · subst h1
        have hn2 := hide (show incB u ((u, v), (lab, wt)) = true by simp [incB])
        go_wp2_with fail
        refine (with_any N k _).mono ?_
        rintro e w5 ⟨rfl, hx5⟩
        have hxx := hide ((ext_self1 wr (.cells #[.int .i64 u, .int .i64 v, .int .u8 lab, .int .i64 wt] 47)).trans hx5)
        have hB5 := (unhide hB').ext (unhide hxx)
        have hA5 := hide ((unhide hA').ext (unhide hxx))
        have hs5 := hide ((unhide hs').ext (unhide hxx))
        have hx6 := hide ((unhide hx').trans (unhide hxx))
        have hself5 := Ext.refl w5
        clear hx5 hB' hA' hs' hx' e0 e1 e2 e3 e4 e5 e6 e7 e8 e9 e10 e11 e12 e13 e14 e15 hself hxx c0 c1 c2 c3
        have hst := store_Set (withS N k) hB5
        have hB5' := hide hB5
        clear hB5
        go_wp2_with fail
        go_roundw
        case rel => exact ⟨k + 1, by omega, by go_num, by rw [unhide hn', if_pos (unhide hn2)]; exact Blk.putS _ (unhide hB5'), (unhide hA5).keep (Keep.putS w5 b4 _) (by simp; omega), (unhide hs5).keep_S (unhide hB5') encE_nu encE0 (Keep.putS w5 b4 _), (unhide hx6).of_new (Keep.putS w5 b4 _) (by simp; omega)⟩
        case measure => simp [intOf]; omega
      · have h1b : (u == id) = false := by simpa using h1
        by_cases h2 : v = id
        · subst h2
          have hn2 := hide (show incB v ((u, v), (lab, wt)) = true by simp [incB])
          go_wp2_with fail
          refine (with_any N k _).mono ?_
          rintro e w5 ⟨rfl, hx5⟩
          have hxx := hide ((ext_self1 wr (.cells #[.int .i64 u, .int .i64 v, .int .u8 lab, .int .i64 wt] 47)).trans hx5)
          have hB5 := (unhide hB').ext (unhide hxx)
          have hA5 := hide ((unhide hA').ext (unhide hxx))
          have hs5 := hide ((unhide hs').ext (unhide hxx))
          have hx6 := hide ((unhide hx').trans (unhide hxx))
          have hself5 := Ext.refl w5
          clear hx5 hB' hA' hs' hx' e0 e1 e2 e3 e4 e5 e6 e7 e8 e9 e10 e11 e12 e13 e14 e15 hself hxx c0 c1 c2 c3
          have hst := store_Set (withS N k) hB5
          have hB5' := hide hB5
          clear hB5
          go_wp2_with fail
          go_roundw
          case rel => exact ⟨k + 1, by omega, by go_num, by rw [unhide hn', if_pos (unhide hn2)]; exact Blk.putS _ (unhide hB5'), (unhide hA5).keep (Keep.putS w5 b4 _) (by simp; omega), (unhide hs5).keep_S (unhide hB5') encE_nu encE0 (Keep.putS w5 b4 _), (unhide hx6).of_new (Keep.putS w5 b4 _) (by simp; omega)⟩
          case measure => simp [intOf]; omega
        · have h2b : (v == id) = false := by simpa using h2
          have hn2 := hide (show ¬ incB id ((u, v), (lab, wt)) = true by simp [incB, h1, h2])
          clear e0 e1 e2 e3 e4 e5 e6 e7 e8 e9 e10 e11 e12 e13 e14 e15
          have hxx := hide (ext_self1 wr (.cells #[.int .i64 u, .int .i64 v, .int .u8 lab, .int .i64 wt] 47))
          go_wp2_with fail
          go_roundw
          case rel => exact ⟨k + 1, by omega, by go_num, by rw [unhide hn', if_neg (unhide hn2)]; exact (unhide hB').ext (unhide hxx), (unhide hA').ext (unhide hxx), (unhide hs').ext (unhide hxx), (unhide hx').trans (unhide hxx)⟩
          case measure => simp [intOf]; omega
    · have hke : k = E.length := by omega
      have hB := unhide hB'
      have hA := unhide hA'
      rw [hke] at hB hB'
      have hself := Ext.refl wr
      clear hlt
      obtain ⟨N, hN⟩ : ∃ N, incS id E E.length = N := ⟨_, rfl⟩
      rw [hN] at hB hB'
      have hN' := hide hN
      clear hN
      have e0 := hB.cells 0 (v := .int .u64 (wd N 0)) rfl
      have e1 := hB.cells 1 (v := .int .u64 (wd N 1)) rfl
      have e2 := hB.cells 2 (v := .int .u64 (wd N 2)) rfl
      have e3 := hB.cells 3 (v := .int .u64 (wd N 3)) rfl
      have e4 := hB.cells 4 (v := .int .u64 (wd N 4)) rfl
      have e5 := hB.cells 5 (v := .int .u64 (wd N 5)) rfl
      have e6 := hB.cells 6 (v := .int .u64 (wd N 6)) rfl
      have e7 := hB.cells 7 (v := .int .u64 (wd N 7)) rfl
      have e8 := hB.cells 8 (v := .int .u64 (wd N 8)) rfl
      have e9 := hB.cells 9 (v := .int .u64 (wd N 9)) rfl
      have e10 := hB.cells 10 (v := .int .u64 (wd N 10)) rfl
      have e11 := hB.cells 11 (v := .int .u64 (wd N 11)) rfl
      have e12 := hB.cells 12 (v := .int .u64 (wd N 12)) rfl
      have e13 := hB.cells 13 (v := .int .u64 (wd N 13)) rfl
      have e14 := hB.cells 14 (v := .int .u64 (wd N 14)) rfl
      have e15 := hB.cells 15 (v := .int .u64 (wd N 15)) rfl
      have g0 := hA.frozen 0
      have g1 := hA.frozen 1
      have g2 := hA.frozen 2
      have g3 := hA.frozen 3
      have g4 := hA.frozen 4
      have g5 := hA.frozen 5
      have g6 := hA.frozen 6
      have g7 := hA.frozen 7
      have g8 := hA.frozen 8
      have g9 := hA.frozen 9
      have g10 := hA.frozen 10
      have g11 := hA.frozen 11
      have g12 := hA.frozen 12
      have g13 := hA.frozen 13
      have g14 := hA.frozen 14
      have g15 := hA.frozen 15
      have z0 := hA.cells 0 (v := .int .u64 (wd 0 0)) rfl
      have z1 := hA.cells 1 (v := .int .u64 (wd 0 1)) rfl
      have z2 := hA.cells 2 (v := .int .u64 (wd 0 2)) rfl
      have z3 := hA.cells 3 (v := .int .u64 (wd 0 3)) rfl
      have z4 := hA.cells 4 (v := .int .u64 (wd 0 4)) rfl
      have z5 := hA.cells 5 (v := .int .u64 (wd 0 5)) rfl
      have z6 := hA.cells 6 (v := .int .u64 (wd 0 6)) rfl
      have z7 := hA.cells 7 (v := .int .u64 (wd 0 7)) rfl
      have z8 := hA.cells 8 (v := .int .u64 (wd 0 8)) rfl
      have z9 := hA.cells 9 (v := .int .u64 (wd 0 9)) rfl
      have z10 := hA.cells 10 (v := .int .u64 (wd 0 10)) rfl
      have z11 := hA.cells 11 (v := .int .u64 (wd 0 11)) rfl
      have z12 := hA.cells 12 (v := .int .u64 (wd 0 12)) rfl
      have z13 := hA.cells 13 (v := .int .u64 (wd 0 13)) rfl
      have z14 := hA.cells 14 (v := .int .u64 (wd 0 14)) rfl
      have z15 := hA.cells 15 (v := .int .u64 (wd 0 15)) rfl
      clear hB hA
      go_wp2_with fail
      refine bodyPost_ret (ret_cell1 rfl rfl (load_Set _ b2 N (Blk.set16 N (unhide hA')))) rfl ?_
      exact ⟨by rw [unhide hN'], (unhide hx').of_new (Keep.set16 wr b2 N) (by simp; omega)⟩
end Go.Proofs.Ytdkhondfahebnaa
