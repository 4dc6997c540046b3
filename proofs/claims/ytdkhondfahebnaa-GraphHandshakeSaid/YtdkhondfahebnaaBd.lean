/- graph.Build: what it makes of lists of vertices and edges. Conditions: see each theorem. -/
import Derived.Test.YtdkhondfahebnaaGk
namespace Go.Proofs.Ytdkhondfahebnaa
open Go Go.RowKit
attribute [local go_sem] qUpon lUpon

abbrev GS := List (Int × Thing) × List ((Int × Int) × Thing)
section
variable {σ α : Type}
/-- the first error of a row of steps, or 0 -/
def fe (er : σ → α → Int) (st : σ → α → σ) : List α → σ → Int
  | [], _ => 0
  | x :: l, s => if er s x = 0 then fe er st l (st s x) else er s x
theorem fe_append (er : σ → α → Int) (st : σ → α → σ) : ∀ (l1 l2 : List α) (s : σ), fe er st (l1 ++ l2) s = if fe er st l1 s = 0 then fe er st l2 (l1.foldl st s) else fe er st l1 s
  | [], l2, s => by simp [fe]
  | x :: l1, l2, s => by
    simp only [List.cons_append, fe, List.foldl_cons]
    by_cases h : er s x = 0
    · simp only [h, if_true]
      exact fe_append er st l1 l2 _
    · simp [h]
theorem fe_step {er : σ → α → Int} {st : σ → α → σ} {l : List α} {s : σ} {k : Nat} (hk : k < l.length) (h0 : fe er st (l.take k) s = 0) (h1 : er ((l.take k).foldl st s) l[k] = 0) : fe er st (l.take (k + 1)) s = 0 := by
  rw [List.take_succ_eq_append_getElem hk, fe_append, if_pos h0]
  simp [fe, h1]
theorem fe_stop {er : σ → α → Int} {st : σ → α → σ} {l : List α} {s : σ} {k : Nat} (hk : k < l.length) (h0 : fe er st (l.take k) s = 0) (h1 : er ((l.take k).foldl st s) l[k] ≠ 0) : fe er st l s = er ((l.take k).foldl st s) l[k] := by
  conv => lhs; rw [← List.take_append_drop k l, List.drop_eq_getElem_cons hk]
  rw [fe_append, if_pos h0]
  simp [fe, h1]
theorem fold_step {st : σ → α → σ} {l : List α} {s : σ} {k : Nat} (hk : k < l.length) : (l.take (k + 1)).foldl st s = st ((l.take k).foldl st s) l[k] := by
  rw [List.take_succ_eq_append_getElem hk, List.foldl_append]; rfl
end
def erV (s : GS) (x : Int × Thing) : Int := wrongR 0 x.1 0 x.2.2 s.1 s.2
def stV (s : GS) (x : Int × Thing) : GS := (nxV 0 x.1 0 x.2.1 x.2.2 s.1 s.2, nxE 0 x.1 0 x.2.1 x.2.2 s.1 s.2)
def erE (s : GS) (x : (Int × Int) × Thing) : Int := wrongR 2 x.1.1 x.1.2 x.2.2 s.1 s.2
def stE (s : GS) (x : (Int × Int) × Thing) : GS := (nxV 2 x.1.1 x.1.2 x.2.1 x.2.2 s.1 s.2, nxE 2 x.1.1 x.1.2 x.2.1 x.2.2 s.1 s.2)
def bS1 (Vs : List (Int × Thing)) : GS := Vs.foldl stV ([], [])
def bS (Vs : List (Int × Thing)) (Es : List ((Int × Int) × Thing)) : GS := Es.foldl stE (bS1 Vs)
def bErr (Vs : List (Int × Thing)) (Es : List ((Int × Int) × Thing)) : Int := if fe erV stV Vs ([], []) = 0 then fe erE stE Es (bS1 Vs) else fe erV stV Vs ([], [])

/-- what Build leaves -/
def BuildPost (Vs : List (Int × Thing)) (Es : List ((Int × Int) × Thing)) (w : World) (e : Ending) (w' : World) : Prop :=
  (bErr Vs Es = 0 ∧ ∃ g bv be, e = .returned (.tuple #[.pointer (some ⟨g, 0, none⟩), .int .i64 0]) ∧ IsG w' g bv be (bS Vs Es).1 (bS Vs Es).2 ∧ Ext w w' ∧ w.heap.size ≤ g ∧ w.heap.size ≤ bv ∧ w.heap.size ≤ be) ∨
  (bErr Vs Es ≠ 0 ∧ e = .returned (.tuple #[.pointer none, .int .i64 (bErr Vs Es)]) ∧ Ext w w')
theorem bne0 {n : Int} (h : n ≠ 0) : (n != 0) = true := by simpa using h

set_option maxRecDepth 100000 in
set_option maxHeartbeats 4000000 in
theorem build_any (A B : Option Addr) (Vs : List (Int × Thing)) (Es : List ((Int × Int) × Thing)) (cV cE : Nat) (w : World) (hV : SlAt encV 3 w A Vs) (hE : SlAt encE 4 w B Es) (oV : ∀ d ∈ Vs, okV d) (oE : ∀ d ∈ Es, okEd d) (hl : Vs.length ≤ 9223372036854775807) (hle : Es.length ≤ 9223372036854775807) :
    Calls Try.prog 17 #[.slice A Vs.length cV, .slice B Es.length cE] w (BuildPost Vs Es w) := by
  have hV' := hide hV
  have hE' := hide hE
  have oV' := hide oV
  have oE' := hide oE
  clear hV hE oV oE
  go_enter Try.func17, Try.ntmps17
  go_wp2_with fail
  refine (new_rel _).mono ?_
  rintro e w1 ⟨g, bv, be, rfl, hg10, hx10, n1, n2, n3⟩
  have hg1 := hide hg10
  have hx1 := hide hx10
  have hn1 := hide (And.intro n1 (And.intro n2 n3))
  clear hg10 hx10 n1 n2 n3
  go_wp2_with fail
  go_loopw [16] (fun i wr => ∃ k : Nat, k ≤ Vs.length ∧ i = .int .i64 k ∧ fe erV stV (Vs.take k) ([], []) = 0 ∧ IsG wr g bv be ((Vs.take k).foldl stV ([], [])).1 ((Vs.take k).foldl stV ([], [])).2 ∧ Ext w wr) (fun i _ => Vs.length - (intOf i).toNat)
  case atStart => exact ⟨0, Nat.zero_le _, rfl, rfl, unhide hg1, unhide hx1⟩
  case round =>
    obtain ⟨k, hk, rfl, hf, hg, hx⟩ := hrel
    have hf' := hide hf
    have hg' := hide hg
    have hx' := hide hx
    clear hf hg hx hg1 hx1
    by_cases hlt : k < Vs.length
    · obtain ⟨b, off, rfl, c0, c1, c2⟩ := atV ((unhide hV').ext (unhide hx')) hlt
      have hd := unhide oV' Vs[k] (List.getElem_mem hlt)
      have hst := hide (fold_step (st := stV) (s := (([], []) : GS)) hlt)
      have hfs := hide (fun h => fe_step (er := erV) (st := stV) (s := (([], []) : GS)) hlt (unhide hf') h)
      have hfe := hide (fun h => fe_stop (er := erV) (st := stV) (s := (([], []) : GS)) hlt (unhide hf') h)
      generalize hS : (Vs.take k).foldl stV ([], []) = S at *
      clear hS
      obtain ⟨V, E⟩ := S
      generalize hy : Vs[k] = y at c0 c1 c2 hd hst hfs hfe
      obtain ⟨u, lab, wt⟩ := y
      have hok := hide hd.1
      clear hd hy
      simp only at c0 c1 c2
      by_cases h0 : wrongR 0 u 0 wt V E = 0
      · have h0' := hide h0
        clear h0
        go_wp2_with fail
        refine (apply_any g bv be V E 0 u 0 lab wt _ ((unhide hg').ext (ext_self1 _ _)) (unhide hok) (by unfold i64ok; omega)).mono ?_
        rw [unhide h0']
        rintro e wa ⟨rfl, hga, hka⟩
        have hxa := hide (((unhide hx').trans (ext_self1 _ _)).of_new hka (by have := unhide hn1; simp; omega))
        have hga' := hide hga
        clear hga hka c0 c1 c2
        go_wp2_with fail
        go_roundw
        case rel => exact ⟨k + 1, by omega, by go_num, unhide hfs (unhide h0'), by rw [unhide hst]; exact unhide hga', unhide hxa⟩
        case measure => simp [intOf]; omega
      · have hbe : bErr Vs Es = wrongR 0 u 0 wt V E := by
          have h1 := unhide hfe h0
          unfold bErr
          rw [h1]
          exact if_neg h0
        have hbe' := hide hbe
        have h0' := hide h0
        have hb := bne0 h0
        clear hbe h0
        generalize hno : wrongR 0 u 0 wt V E = no at hb
        have hno' := hide hno
        clear hno
        go_wp2_with fail
        refine (apply_any g bv be V E 0 u 0 lab wt _ ((unhide hg').ext (ext_self1 _ _)) (unhide hok) (by unfold i64ok; omega)).mono ?_
        rw [unhide hno']
        rintro e wa ⟨rfl, hga, hka⟩
        have hxa := hide (((unhide hx').trans (ext_self1 _ _)).of_new hka (by have := unhide hn1; simp; omega))
        clear hga hka c0 c1 c2
        go_wp2_with fail
        go_ret2
        exact .inr ⟨by rw [unhide hbe']; exact unhide h0', by rw [unhide hbe', unhide hno']; rfl, unhide hxa⟩
    · have hkV : k = Vs.length := by omega
      subst hkV
      rw [List.take_length] at hf' hg'
      have hF := hide (unhide hf')
      have hG := hide (unhide hg')
      have hX := hide (unhide hx')
      rename World => wV
      clear hf' hg' hx'
      go_wp2_with fail
      go_loopw [35] (fun i wr => ∃ k : Nat, k ≤ Es.length ∧ i = .int .i64 k ∧ fe erE stE (Es.take k) (bS1 Vs) = 0 ∧ IsG wr g bv be ((Es.take k).foldl stE (bS1 Vs)).1 ((Es.take k).foldl stE (bS1 Vs)).2 ∧ Ext w wr) (fun i _ => Es.length - (intOf i).toNat)
      case atStart => exact ⟨0, Nat.zero_le _, rfl, rfl, unhide hG, unhide hX⟩
      case round =>
        obtain ⟨k, hk, rfl, hf, hg, hx⟩ := hrel
        have hf' := hide hf
        have hg' := hide hg
        have hx' := hide hx
        clear hf hg hx hG hX
        by_cases hlt : k < Es.length
        · obtain ⟨b, off, rfl, c0, c1, c2, c3⟩ := atE ((unhide hE').ext (unhide hx')) hlt
          have hd := unhide oE' Es[k] (List.getElem_mem hlt)
          have hst := hide (fold_step (st := stE) (s := bS1 Vs) hlt)
          have hfs := hide (fun h => fe_step (er := erE) (st := stE) (s := bS1 Vs) hlt (unhide hf') h)
          have hfe := hide (fun h => fe_stop (er := erE) (st := stE) (s := bS1 Vs) hlt (unhide hf') h)
          generalize hS : (Es.take k).foldl stE (bS1 Vs) = S at *
          clear hS
          obtain ⟨V, E⟩ := S
          generalize hy : Es[k] = y at c0 c1 c2 c3 hd hst hfs hfe
          obtain ⟨⟨u, v⟩, ⟨lab, wt⟩⟩ := y
          have hok := hide hd.1
          have hok2 := hide hd.2.1
          clear hd hy
          simp only at c0 c1 c2 c3
          by_cases h0 : wrongR 2 u v wt V E = 0
          · have h0' := hide h0
            clear h0
            go_wp2_with fail
            refine (apply_any g bv be V E 2 u v lab wt _ ((unhide hg').ext (ext_self1 _ _)) (unhide hok) (unhide hok2)).mono ?_
            rw [unhide h0']
            rintro e wa ⟨rfl, hga, hka⟩
            have hxa := hide (((unhide hx').trans (ext_self1 _ _)).of_new hka (by have := unhide hn1; simp; omega))
            have hga' := hide hga
            clear hga hka c0 c1 c2 c3
            go_wp2_with fail
            go_roundw
            case rel => exact ⟨k + 1, by omega, by go_num, unhide hfs (unhide h0'), by rw [unhide hst]; exact unhide hga', unhide hxa⟩
            case measure => simp [intOf]; omega
          · have hbe : bErr Vs Es = wrongR 2 u v wt V E := by
              have h1 := unhide hfe h0
              unfold bErr
              rw [if_pos (unhide hF), h1]
              rfl
            have hbe' := hide hbe
            have h0' := hide h0
            have hb := bne0 h0
            clear hbe h0
            generalize hno : wrongR 2 u v wt V E = no at hb
            have hno' := hide hno
            clear hno
            go_wp2_with fail
            refine (apply_any g bv be V E 2 u v lab wt _ ((unhide hg').ext (ext_self1 _ _)) (unhide hok) (unhide hok2)).mono ?_
            rw [unhide hno']
            rintro e wa ⟨rfl, hga, hka⟩
            have hxa := hide (((unhide hx').trans (ext_self1 _ _)).of_new hka (by have := unhide hn1; simp; omega))
            clear hga hka c0 c1 c2 c3
            go_wp2_with fail
            go_ret2
            exact .inr ⟨by rw [unhide hbe']; exact unhide h0', by rw [unhide hbe', unhide hno']; rfl, unhide hxa⟩
        · have hkE : k = Es.length := by omega
          subst hkE
          rw [List.take_length] at hf' hg'
          go_wp2_with fail
          go_ret2
          obtain ⟨n1, n2, n3⟩ := unhide hn1
          exact .inl ⟨by unfold bErr; rw [if_pos (unhide hF), unhide hf'], g, bv, be, rfl, unhide hg', unhide hx', n1, n2, n3⟩
end Go.Proofs.Ytdkhondfahebnaa
