/- Parts of a proof, laid together: Ie, Bd, Fr, Is, F1, Tl, Pt, Pp, Eg, Kn, Md, Eq, Cl, Es. Each part says its own conditions. -/
import Derived.Test.YtdkhondfahebnaaGreatId
import Derived.Test.YtdkhondfahebnaaGreatFw
import Derived.Test.YtdkhondfahebnaaGreatGk
import Derived.Test.YtdkhondfahebnaaGreatTo
import Derived.Test.YtdkhondfahebnaaGreatNx
import Derived.Shelf.SlMaps.Clone
import Derived.Test.YtdkhondfahebnaaGreatBt
import Derived.ChangeKeysEq
/- INDUCED SUBGRAPHS, plain: the set as a list, Part, and the removal of a vertex. No program in sight. Conditions: see each theorem. -/
namespace Go.Proofs.YtdkhondfahebnaaGreat
open Go Go.RowKit

/-- the elements of a set in ascending order -/
def toK (N k : Nat) : List Int := ((List.range k).filter N.testBit).map fun (i : Nat) => (i : Int)
def toL (N : Nat) : List Int := toK N 1024
theorem toK_next (N k : Nat) : toK N (k + 1) = if N.testBit k = true then toK N k ++ [(k : Int)] else toK N k := by
  unfold toK
  rw [List.range_succ, List.filter_append, List.map_append]
  cases hb : N.testBit k <;> simp [hb]
theorem toK_le (N k : Nat) : (toK N k).length ≤ k := by
  unfold toK
  rw [List.length_map]
  have := List.length_filter_le N.testBit (List.range k)
  simpa using this
theorem mem_toL {N : Nat} {x : Int} : x ∈ toL N ↔ inN N x = true := by
  unfold toL toK inN fitB
  rw [List.mem_map]
  simp only [List.mem_filter, List.mem_range, Bool.and_eq_true, decide_eq_true_eq]
  constructor
  · rintro ⟨i, ⟨h1, h2⟩, rfl⟩
    exact ⟨⟨by omega, by omega⟩, by rw [Int.toNat_natCast]; exact h2⟩
  · rintro ⟨⟨h1, h2⟩, h3⟩
    exact ⟨x.toNat, ⟨by omega, h3⟩, by omega⟩
/-- what ref.Part gives -/
def partV (L : List Int) (V : List (Int × Thing)) : List (Int × Thing) := V.filter fun p => decide (p.1 ∈ L)
def partE (L : List Int) (E : List ((Int × Int) × Thing)) : List ((Int × Int) × Thing) := E.filter fun x => decide (x.1.1 ∈ L) && decide (x.1.2 ∈ L)
theorem dec_toL (N : Nat) (x : Int) : decide (x ∈ toL N) = inN N x := by
  rw [Bool.eq_iff_iff, decide_eq_true_eq, mem_toL]
theorem part_sub (N : Nat) (V : List (Int × Thing)) (E : List ((Int × Int) × Thing)) : partV (toL N) V = subV N V ∧ partE (toL N) E = subE N E := by
  constructor
  · exact List.filter_congr fun p _ => dec_toL N p.1
  · exact List.filter_congr fun x _ => by rw [dec_toL, dec_toL]
theorem inN_fromS (L : List Int) (x : Int) : inN (fromS L) x = (fitB x && decide (x ∈ L)) := by
  unfold inN
  rw [fromS_bit]
  by_cases h : fitB x = true
  · have h0 : 0 ≤ x ∧ x < 1024 := by simpa [fitB] using h
    rw [h, decide_eq_true (show x.toNat < 1024 by omega), show ((x.toNat : Nat) : Int) = x by omega]
    simp
  · have : fitB x = false := by simpa using h
    rw [this]
    rfl
/-- the set of the vertices but one -/
def butS (u : Int) (V : List (Int × Thing)) : Nat := fromS ((toL (vS V)).filter fun x => decide (x ≠ u))
theorem but_in {V : List (Int × Thing)} {E : List ((Int × Int) × Thing)} (hi : GInv V E) (u : Int) {x : Int} (hx : ∃ t, (x, t) ∈ V) : inN (butS u V) x = decide (x ≠ u) := by
  obtain ⟨t, ht⟩ := hx
  have hid : fitB x = true := hi.ids _ ht
  unfold butS
  rw [inN_fromS, hid, Bool.true_and, Bool.eq_iff_iff, decide_eq_true_eq, decide_eq_true_eq, List.mem_filter, decide_eq_true_eq, mem_toL, vS_eq, inN_fromS, hid, Bool.true_and, decide_eq_true_eq]
  exact ⟨fun h => h.2, fun h => ⟨List.mem_map.2 ⟨_, ht, rfl⟩, h⟩⟩
theorem rmV (u lab wt : Int) (V : List (Int × Thing)) : refV 1 u lab wt V = V.filter fun p => decide (p.1 ≠ u) := by
  unfold refV
  rw [if_neg (by decide), if_neg (by decide)]
  refine flat_filter fun x _ => ?_
  unfold fV
  by_cases h : x.1 = u <;> simp [h]
theorem rmE (u v lab wt : Int) (E : List ((Int × Int) × Thing)) : refE 1 u v lab wt E = E.filter fun x => decide (x.1.1 ≠ u) && decide (x.1.2 ≠ u) := by
  unfold refE
  rw [if_neg (by decide), if_neg (by decide)]
  have h : E.zipIdx.flatMap (fE 1 u lab wt (posD 1 u v E)) = E.flatMap (fun x => if (decide (x.1.1 ≠ u) && decide (x.1.2 ≠ u)) = true then [x] else []) := by
    refine flat_zip fun x i _ => ?_
    unfold fE
    by_cases h1 : x.1.1 = u <;> by_cases h2 : x.1.2 = u <;> simp [h1, h2]
  rw [h]
  exact flat_filter fun x _ => rfl
theorem rm_sub {V : List (Int × Thing)} {E : List ((Int × Int) × Thing)} (hi : GInv V E) {u v lab wt : Int} (h0 : wrongR 1 u v wt V E = 0) :
    nxV 1 u v lab wt V E = subV (butS u V) V ∧ nxE 1 u v lab wt V E = subE (butS u V) E := by
  unfold nxV nxE subV subE
  rw [if_pos h0, if_pos h0, rmV, rmE]
  constructor
  · refine List.filter_congr fun p hp => ?_
    rw [but_in hi u ⟨p.2, hp⟩]
  · refine List.filter_congr fun x hx => ?_
    obtain ⟨h1, h2⟩ := hi.ends x hx
    rw [but_in hi u h1, but_in hi u h2]
end Go.Proofs.YtdkhondfahebnaaGreat
/- graph.Build: what it makes of lists of vertices and edges. Conditions: see each theorem. -/
namespace Go.Proofs.YtdkhondfahebnaaGreat
open Go Go.RowKit
attribute [local go_sem] qUpon lUpon

abbrev GS := List (Int × Thing) × List ((Int × Int) × Thing)
section
variable {σ α : Type}
/-- the first error of a row of steps, or 0 -/
def fe (er : σ → α → Int) (st : σ → α → σ) : List α → σ → Int
  | [], _ => 0
  | x :: l, s => if er s x = 0 then fe er st l (st s x) else er s x
theorem fe_append (er : σ → α → Int) (st : σ → α → σ) : ∀ (l1 l2 : List α) (s : σ), fe er st (l1 ++ l2) s = if fe er st l1 s = 0 then fe er st l2 (l1.foldl st s) else fe er st l1 s
  | [], l2, s => by simp [fe]
  | x :: l1, l2, s => by
    simp only [List.cons_append, fe, List.foldl_cons]
    by_cases h : er s x = 0
    · simp only [h, if_true]
      exact fe_append er st l1 l2 _
    · simp [h]
theorem fe_step {er : σ → α → Int} {st : σ → α → σ} {l : List α} {s : σ} {k : Nat} (hk : k < l.length) (h0 : fe er st (l.take k) s = 0) (h1 : er ((l.take k).foldl st s) l[k] = 0) : fe er st (l.take (k + 1)) s = 0 := by
  rw [List.take_succ_eq_append_getElem hk, fe_append, if_pos h0]
  simp [fe, h1]
theorem fe_stop {er : σ → α → Int} {st : σ → α → σ} {l : List α} {s : σ} {k : Nat} (hk : k < l.length) (h0 : fe er st (l.take k) s = 0) (h1 : er ((l.take k).foldl st s) l[k] ≠ 0) : fe er st l s = er ((l.take k).foldl st s) l[k] := by
  conv => lhs; rw [← List.take_append_drop k l, List.drop_eq_getElem_cons hk]
  rw [fe_append, if_pos h0]
  simp [fe, h1]
theorem fold_step {st : σ → α → σ} {l : List α} {s : σ} {k : Nat} (hk : k < l.length) : (l.take (k + 1)).foldl st s = st ((l.take k).foldl st s) l[k] := by
  rw [List.take_succ_eq_append_getElem hk, List.foldl_append]; rfl
end
def erV (s : GS) (x : Int × Thing) : Int := wrongR 0 x.1 0 x.2.2 s.1 s.2
def stV (s : GS) (x : Int × Thing) : GS := (nxV 0 x.1 0 x.2.1 x.2.2 s.1 s.2, nxE 0 x.1 0 x.2.1 x.2.2 s.1 s.2)
def erE (s : GS) (x : (Int × Int) × Thing) : Int := wrongR 2 x.1.1 x.1.2 x.2.2 s.1 s.2
def stE (s : GS) (x : (Int × Int) × Thing) : GS := (nxV 2 x.1.1 x.1.2 x.2.1 x.2.2 s.1 s.2, nxE 2 x.1.1 x.1.2 x.2.1 x.2.2 s.1 s.2)
def bS1 (Vs : List (Int × Thing)) : GS := Vs.foldl stV ([], [])
def bS (Vs : List (Int × Thing)) (Es : List ((Int × Int) × Thing)) : GS := Es.foldl stE (bS1 Vs)
def bErr (Vs : List (Int × Thing)) (Es : List ((Int × Int) × Thing)) : Int := if fe erV stV Vs ([], []) = 0 then fe erE stE Es (bS1 Vs) else fe erV stV Vs ([], [])

/-- what Build leaves -/
def BuildPost (Vs : List (Int × Thing)) (Es : List ((Int × Int) × Thing)) (w : World) (e : Ending) (w' : World) : Prop :=
  (bErr Vs Es = 0 ∧ ∃ g bv be, e = .returned (.tuple #[.pointer (some ⟨g, 0, none⟩), .int .i64 0]) ∧ IsG w' g bv be (bS Vs Es).1 (bS Vs Es).2 ∧ Ext w w' ∧ w.heap.size ≤ g ∧ w.heap.size ≤ bv ∧ w.heap.size ≤ be) ∨
  (bErr Vs Es ≠ 0 ∧ e = .returned (.tuple #[.pointer none, .int .i64 (bErr Vs Es)]) ∧ Ext w w')
theorem bne0 {n : Int} (h : n ≠ 0) : (n != 0) = true := by simpa using h

set_option maxRecDepth 100000 in
set_option maxHeartbeats 4000000 in
theorem build_any (A B : Option Addr) (Vs : List (Int × Thing)) (Es : List ((Int × Int) × Thing)) (cV cE : Nat) (w : World) (hV : SlAt encV 3 w A Vs) (hE : SlAt encE 4 w B Es) (oV : ∀ d ∈ Vs, okV d) (oE : ∀ d ∈ Es, okEd d) (hl : Vs.length ≤ 9223372036854775807) (hle : Es.length ≤ 9223372036854775807) :
    Calls Tryz.prog 19 #[.slice A Vs.length cV, .slice B Es.length cE] w (BuildPost Vs Es w) := by
  have hV' := hide hV
  have hE' := hide hE
  have oV' := hide oV
  have oE' := hide oE
  clear hV hE oV oE
  go_enter Tryz.func19, Tryz.ntmps19
  go_wp2_with fail
  refine (new_rel _).mono ?_
  rintro e w1 ⟨g, bv, be, rfl, hg10, hx10, n1, n2, n3⟩
  have hg1 := hide hg10
  have hx1 := hide hx10
  have hn1 := hide (And.intro n1 (And.intro n2 n3))
  clear hg10 hx10 n1 n2 n3
  go_wp2_with fail
  go_loopw [16] (fun i wr => ∃ k : Nat, k ≤ Vs.length ∧ i = .int .i64 k ∧ fe erV stV (Vs.take k) ([], []) = 0 ∧ IsG wr g bv be ((Vs.take k).foldl stV ([], [])).1 ((Vs.take k).foldl stV ([], [])).2 ∧ Ext w wr) (fun i _ => Vs.length - (intOf i).toNat)
  case atStart => exact ⟨0, Nat.zero_le _, rfl, rfl, unhide hg1, unhide hx1⟩
  case round =>
    obtain ⟨k, hk, rfl, hf, hg, hx⟩ := hrel
    have hf' := hide hf
    have hg' := hide hg
    have hx' := hide hx
    clear hf hg hx hg1 hx1
    by_cases hlt : k < Vs.length
    · obtain ⟨b, off, rfl, c0, c1, c2⟩ := atV ((unhide hV').ext (unhide hx')) hlt
      have hd := unhide oV' Vs[k] (List.getElem_mem hlt)
      have hst := hide (fold_step (st := stV) (s := (([], []) : GS)) hlt)
      have hfs := hide (fun h => fe_step (er := erV) (st := stV) (s := (([], []) : GS)) hlt (unhide hf') h)
      have hfe := hide (fun h => fe_stop (er := erV) (st := stV) (s := (([], []) : GS)) hlt (unhide hf') h)
      generalize hS : (Vs.take k).foldl stV ([], []) = S at *
      clear hS
      obtain ⟨V, E⟩ := S
      generalize hy : Vs[k] = y at c0 c1 c2 hd hst hfs hfe
      obtain ⟨u, lab, wt⟩ := y
      have hok := hide hd.1
      clear hd hy
      simp only at c0 c1 c2
      by_cases h0 : wrongR 0 u 0 wt V E = 0
      · have h0' := hide h0
        clear h0
        go_wp2_with fail
        refine (apply_any g bv be V E 0 u 0 lab wt _ ((unhide hg').ext (ext_self1 _ _)) (unhide hok) (by unfold i64ok; omega)).mono ?_
        rw [unhide h0']
        rintro e wa ⟨rfl, hga, hka⟩
        have hxa := hide (((unhide hx').trans (ext_self1 _ _)).of_new hka (by have := unhide hn1; simp; omega))
        have hga' := hide hga
        clear hga hka c0 c1 c2
        go_wp2_with fail
        go_roundw
        case rel => exact ⟨k + 1, by omega, by go_num, unhide hfs (unhide h0'), by rw [unhide hst]; exact unhide hga', unhide hxa⟩
        case measure => simp [intOf]; omega
      · have hbe : bErr Vs Es = wrongR 0 u 0 wt V E := by
          have h1 := unhide hfe h0
          unfold bErr
          rw [h1]
          exact if_neg h0
        have hbe' := hide hbe
        have h0' := hide h0
        have hb := bne0 h0
        clear hbe h0
        generalize hno : wrongR 0 u 0 wt V E = no at hb
        have hno' := hide hno
        clear hno
        go_wp2_with fail
        refine (apply_any g bv be V E 0 u 0 lab wt _ ((unhide hg').ext (ext_self1 _ _)) (unhide hok) (by unfold i64ok; omega)).mono ?_
        rw [unhide hno']
        rintro e wa ⟨rfl, hga, hka⟩
        have hxa := hide (((unhide hx').trans (ext_self1 _ _)).of_new hka (by have := unhide hn1; simp; omega))
        clear hga hka c0 c1 c2
        go_wp2_with fail
        go_ret2
        exact .inr ⟨by rw [unhide hbe']; exact unhide h0', by rw [unhide hbe', unhide hno']; rfl, unhide hxa⟩
    · have hkV : k = Vs.length := by omega
      subst hkV
      rw [List.take_length] at hf' hg'
      have hF := hide (unhide hf')
      have hG := hide (unhide hg')
      have hX := hide (unhide hx')
      rename World => wV
      clear hf' hg' hx'
      go_wp2_with fail
      go_loopw [35] (fun i wr => ∃ k : Nat, k ≤ Es.length ∧ i = .int .i64 k ∧ fe erE stE (Es.take k) (bS1 Vs) = 0 ∧ IsG wr g bv be ((Es.take k).foldl stE (bS1 Vs)).1 ((Es.take k).foldl stE (bS1 Vs)).2 ∧ Ext w wr) (fun i _ => Es.length - (intOf i).toNat)
      case atStart => exact ⟨0, Nat.zero_le _, rfl, rfl, unhide hG, unhide hX⟩
      case round =>
        obtain ⟨k, hk, rfl, hf, hg, hx⟩ := hrel
        have hf' := hide hf
        have hg' := hide hg
        have hx' := hide hx
        clear hf hg hx hG hX
        by_cases hlt : k < Es.length
        · obtain ⟨b, off, rfl, c0, c1, c2, c3⟩ := atE ((unhide hE').ext (unhide hx')) hlt
          have hd := unhide oE' Es[k] (List.getElem_mem hlt)
          have hst := hide (fold_step (st := stE) (s := bS1 Vs) hlt)
          have hfs := hide (fun h => fe_step (er := erE) (st := stE) (s := bS1 Vs) hlt (unhide hf') h)
          have hfe := hide (fun h => fe_stop (er := erE) (st := stE) (s := bS1 Vs) hlt (unhide hf') h)
          generalize hS : (Es.take k).foldl stE (bS1 Vs) = S at *
          clear hS
          obtain ⟨V, E⟩ := S
          generalize hy : Es[k] = y at c0 c1 c2 c3 hd hst hfs hfe
          obtain ⟨⟨u, v⟩, ⟨lab, wt⟩⟩ := y
          have hok := hide hd.1
          have hok2 := hide hd.2.1
          clear hd hy
          simp only at c0 c1 c2 c3
          by_cases h0 : wrongR 2 u v wt V E = 0
          · have h0' := hide h0
            clear h0
            go_wp2_with fail
            refine (apply_any g bv be V E 2 u v lab wt _ ((unhide hg').ext (ext_self1 _ _)) (unhide hok) (unhide hok2)).mono ?_
            rw [unhide h0']
            rintro e wa ⟨rfl, hga, hka⟩
            have hxa := hide (((unhide hx').trans (ext_self1 _ _)).of_new hka (by have := unhide hn1; simp; omega))
            have hga' := hide hga
            clear hga hka c0 c1 c2 c3
            go_wp2_with fail
            go_roundw
            case rel => exact ⟨k + 1, by omega, by go_num, unhide hfs (unhide h0'), by rw [unhide hst]; exact unhide hga', unhide hxa⟩
            case measure => simp [intOf]; omega
          · have hbe : bErr Vs Es = wrongR 2 u v wt V E := by
              have h1 := unhide hfe h0
              unfold bErr
              rw [if_pos (unhide hF), h1]
              rfl
            have hbe' := hide hbe
            have h0' := hide h0
            have hb := bne0 h0
            clear hbe h0
            generalize hno : wrongR 2 u v wt V E = no at hb
            have hno' := hide hno
            clear hno
            go_wp2_with fail
            refine (apply_any g bv be V E 2 u v lab wt _ ((unhide hg').ext (ext_self1 _ _)) (unhide hok) (unhide hok2)).mono ?_
            rw [unhide hno']
            rintro e wa ⟨rfl, hga, hka⟩
            have hxa := hide (((unhide hx').trans (ext_self1 _ _)).of_new hka (by have := unhide hn1; simp; omega))
            clear hga hka c0 c1 c2 c3
            go_wp2_with fail
            go_ret2
            exact .inr ⟨by rw [unhide hbe']; exact unhide h0', by rw [unhide hbe', unhide hno']; rfl, unhide hxa⟩
        · have hkE : k = Es.length := by omega
          subst hkE
          rw [List.take_length] at hf' hg'
          go_wp2_with fail
          go_ret2
          obtain ⟨n1, n2, n3⟩ := unhide hn1
          exact .inl ⟨by unfold bErr; rw [if_pos (unhide hF), unhide hf'], g, bv, be, rfl, unhide hg', unhide hx', n1, n2, n3⟩
end Go.Proofs.YtdkhondfahebnaaGreat
/- law05.From: a reference graph made a graph; append to a slice of the call's own. Conditions: see each theorem. -/
namespace Go.Proofs.YtdkhondfahebnaaGreat
open Go Go.RowKit

theorem insP_end {α : Type} {gt : α → Bool} {x : α} : ∀ {l : List α}, (∀ y ∈ l, gt y = false) → insP gt x l = l ++ [x]
  | [], _ => rfl
  | y :: l, h => by
    unfold insP
    rw [h y List.mem_cons_self, if_neg (by simp), insP_end (fun z hz => h z (List.mem_cons_of_mem _ hz))]
    rfl
theorem hasV_false {u : Int} {V : List (Int × Thing)} (h : ∀ p ∈ V, p.1 ≠ u) : hasV u V = false := by
  rw [hasV_look, lookM_none.2 h]; rfl
theorem hasV_true {u : Int} {V : List (Int × Thing)} {t : Thing} (h : (u, t) ∈ V) : hasV u V = true := by
  rw [hasV_look, lookM_isSome]; exact ⟨_, h, rfl⟩
theorem hasE_false {u v : Int} {E : List ((Int × Int) × Thing)} (hlo : ∀ e ∈ E, e.1.1 < e.1.2) (h : ∀ p ∈ E, p.1 ≠ (min u v, max u v)) : hasE u v E = false := by
  rw [hasE_look hlo, lookM_none.2 h]; rfl

theorem redoV : ∀ (l acc : List (Int × Thing)), (acc ++ l).Pairwise ltV → (∀ p ∈ acc ++ l, idB p.1 = true) → (∀ p ∈ acc ++ l, heavyB p.2.2 = false) → l.foldl stV (acc, []) = (acc ++ l, []) ∧ fe erV stV l (acc, []) = 0
  | [], acc, _, _, _ => by simp [fe]
  | x :: l, acc, hs, hid, hw => by
    obtain ⟨u, lab, wt⟩ := x
    have hx : ∀ y ∈ acc, y.1 < u := fun y hy => (List.pairwise_append.1 hs).2.2 y hy _ List.mem_cons_self
    have h1 := hid (u, (lab, wt)) (by simp)
    have h2 := hw (u, (lab, wt)) (by simp)
    have hno : hasV u acc = false := hasV_false fun p hp e => by have := hx p hp; omega
    have he : wrongR 0 u 0 wt acc [] = 0 := by
      simp only at h1 h2
      unfold wrongR
      rw [if_neg (by simp [w1B]), if_neg (by simp [w2B, h1, h2, pairsB]), if_neg (by simp [w3B, pairsB]), if_pos rfl, hno]
      rfl
    have hst : stV (acc, []) (u, (lab, wt)) = (acc ++ [(u, (lab, wt))], []) := by
      unfold stV nxV nxE
      simp only [he, if_true]
      refine Prod.ext ?_ rfl
      show refV 0 u lab wt acc = _
      simp only [refV, if_true]
      rw [insF_eq, insP_end (fun y hy => by have := hx y hy; unfold gtV; simp; omega)]
    have ih := redoV l (acc ++ [(u, (lab, wt))]) (by simpa using hs) (by simpa using hid) (by simpa using hw)
    have her : erV (acc, []) (u, (lab, wt)) = 0 := he
    simp only [List.foldl_cons, fe, her, hst, if_true]
    rw [ih.1, ih.2]
    simp

theorem redoE (V : List (Int × Thing)) : ∀ (l acc : List ((Int × Int) × Thing)), GInv V (acc ++ l) → l.foldl stE (V, acc) = (V, acc ++ l) ∧ fe erE stE l (V, acc) = 0
  | [], acc, _ => by simp [fe]
  | x :: l, acc, hi => by
    obtain ⟨⟨u, v⟩, lab, wt⟩ := x
    have hx : ∀ y ∈ acc, ltE y ((u, v), (lab, wt)) := fun y hy => (List.pairwise_append.1 hi.se).2.2 y hy _ List.mem_cons_self
    have hm : ((u, v), (lab, wt)) ∈ acc ++ ((u, v), (lab, wt)) :: l := by simp
    have hlt := hi.lo _ hm
    obtain ⟨⟨t, ht⟩, ⟨s, hs⟩⟩ := hi.ends _ hm
    have h2 := hi.we _ hm
    have i1 := hi.ids _ ht
    have i2 := hi.ids _ hs
    have hn := hi.ne
    simp only at hlt ht hs h2 i1 i2
    simp only [List.length_append, List.length_cons] at hn
    have e1 : min u v = u := by omega
    have e2 : max u v = v := by omega
    have hno : hasE u v acc = false := hasE_false (fun e he => hi.lo e (List.mem_append_left _ he)) fun p hp e => by
      have := hx p hp
      unfold ltE at this
      rw [e, e1, e2] at this
      simp only at this
      omega
    have he : wrongR 2 u v wt V acc = 0 := by
      unfold wrongR
      rw [if_neg (by simp [w1B]), if_neg (by simp [w2B, h2, i1, i2, pairsB]), if_neg (by simp [w3B, pairsB]; omega), if_neg (by decide), if_neg (by simp [hasV_true ht, hasV_true hs]), if_pos rfl, hno, if_neg (by simp), if_neg (by omega)]
    have hst : stE (V, acc) ((u, v), (lab, wt)) = (V, acc ++ [((u, v), (lab, wt))]) := by
      unfold stE nxV nxE
      simp only [he, if_true]
      refine Prod.ext rfl ?_
      show refE 2 u v lab wt acc = _
      simp only [refE, Int.reduceEq, if_false, if_true, e1, e2]
      rw [insF_eq, insP_end (fun y hy => by have := hx y hy; unfold ltE at this; simp only at this; unfold gtE; simp; omega)]
    have ih := redoE V l (acc ++ [((u, v), (lab, wt))]) (by simpa using hi)
    have her : erE (V, acc) ((u, v), (lab, wt)) = 0 := he
    simp only [List.foldl_cons, fe, her, hst, if_true]
    rw [ih.1, ih.2]
    simp

/-- a reference graph, built anew out of its lists, is the same -/
theorem rebuild {V : List (Int × Thing)} {E : List ((Int × Int) × Thing)} (h : GInv V E) : bErr V E = 0 ∧ bS V E = (V, E) := by
  have h1 := redoV V [] (by simpa using h.sv) (by simpa using h.ids) (by simpa using h.wv)
  have h2 := redoE V E [] (by simpa using h)
  have e1 : bS1 V = (V, []) := h1.1
  unfold bErr bS
  rw [e1, if_pos h1.2]
  exact ⟨h2.2, h2.1⟩
theorem GInv.okV {V : List (Int × Thing)} {E : List ((Int × Int) × Thing)} (h : GInv V E) : ∀ d ∈ V, okV d := fun d hd => by
  have h1 := h.ids d hd
  have h2 := h.wv d hd
  unfold idB at h1
  unfold heavyB at h2
  simp at h1 h2
  unfold Go.Proofs.YtdkhondfahebnaaGreat.okV i64ok
  omega
theorem GInv.okE {V : List (Int × Thing)} {E : List ((Int × Int) × Thing)} (h : GInv V E) : ∀ d ∈ E, okEd d := fun d hd => by
  obtain ⟨⟨t, ht⟩, ⟨s, hs⟩⟩ := h.ends d hd
  have h1 := h.ids _ ht
  have h3 := h.ids _ hs
  have h2 := h.we d hd
  unfold idB at h1 h3
  unfold heavyB at h2
  simp at h1 h2 h3
  unfold okEd i64ok
  omega

/-- append of one element to a slice that the call has made -/
theorem wp_ap {α : Type} {enc : α → List Value} {T ST : TypeId} {k byt : Nat} (hi0 : (Tryz.prog.info? T).map (fun i => (i.zero.map (·.cells.size), i.size, i.bytes)) = some (some k, k, byt)) (hu : Tryz.prog.underlying ST = some (.slice T)) (hone : ∀ x, ∀ v ∈ enc x, v.oneCell' = true) (hlen : ∀ x, (enc x).length = k) (hk : 0 < k) (hby : byt ≤ 1000)
    {ops : Array Oper} {rest : List Oper} {o : Oper} {a : Act} {Q : Exit → Act → World → Prop} (w : World) (hgd : o.guard = none) (s x : Operand)
    (ho : o.op = .call { callee := .builtin .append, args := #[s, x], argTypes := #[ST, ST] }) (base : Nat) (v : Value) (n : Nat) (xs : List α) (e : α) (hn : xs.length = n) (g : Nat) (W : World) (hW : W = w.alloc (.cells (enc e).toArray T)) (hsg : w.heap.size = g) (hs : a.eval s = v) (hx : a.eval x = .slice (some ⟨g, 0, none⟩) 1 1)
    (hown : w.ownsRow base T k v n (xs.flatMap enc)) (hl : n ≤ 100000) (hb : base ≤ w.heap.size)
    (h : ∀ A' c' w', w'.ownsRow base T k (.slice A' (n + 1) c') (n + 1) ((xs ++ [e]).flatMap enc) → (w.alloc (.cells (enc e).toArray T)).grownBy w' v.ownBlock → wpList Tryz.prog ops Q rest (a.put o.dst (.slice A' (n + 1) c')) w') :
    wpList Tryz.prog ops Q (o :: rest) a W := by
  subst hW
  subst hn
  subst hsg
  obtain ⟨i0, hi, hi1⟩ := Option.map_eq_some_iff.1 hi0
  simp only [Prod.mk.injEq] at hi1
  obtain ⟨hz1, hz2, hz3⟩ := hi1
  obtain ⟨z0, hz, hz4⟩ := Option.map_eq_some_iff.1 hz1
  have hown' := own_ext hown ((Ext.refl w).alloc (.cells (enc e).toArray T))
  have hmul : (xs.length + 1) * byt ≤ 100001 * 1000 := Nat.mul_le_mul (by omega) hby
  refine wpList_append_own_at _ hgd s x _ ho base T i0 z0 k byt hu hi hz hz2 hz3 hz4 hk v xs.length _ hs hown' ⟨w.heap.size, 0, none⟩ 1 1 (enc e) hx (by rw [hlen]; simp) ?_ (hone e) (by unfold maxLen; omega) (by omega) (by simp; omega) ?_
  · intro j u hj
    have := (Blk.new w T (enc e).toArray).cell j
    rw [show (⟨w.heap.size, 0, none⟩ : Addr).add j = ⟨w.heap.size, j, none⟩ by simp [Addr.add]; omega, this]
    simpa using hj
  · intro v' w' h1 h2 _ _
    obtain ⟨A', c', rfl⟩ := own_slice h1
    exact h A' c' w' (by simpa using h1) h2
theorem infoGV : (Tryz.prog.info? 57).map (fun i => (i.zero.map (·.cells.size), i.size, i.bytes)) = some (some 3, 3, 24) := by kernel_rfl
theorem infoGE : (Tryz.prog.info? 60).map (fun i => (i.zero.map (·.cells.size), i.size, i.bytes)) = some (some 4, 4, 32) := by kernel_rfl
/-- what an append leaves in a loop that gathers -/
theorem app_step {α : Type} {enc : α → List Value} {wI wr w2 w' : World} {T k n : Nat} {v : Value} {xs : List α} (hx : Ext wI wr) (hown : wr.ownsRow wI.heap.size T k v n (xs.flatMap enc)) (hx2 : Ext wr w2) (hg : w2.grownBy w' v.ownBlock) : Ext wI w' :=
  (hx.trans hx2).grown hg (Nat.le_refl _) (own_ext hown hx2)

set_option maxRecDepth 100000 in
set_option maxHeartbeats 4000000 in
theorem from_any (A B : Option Addr) (V : List (Int × Thing)) (E : List ((Int × Int) × Thing)) (cA cB : Nat) (w : World) (hV : SlAt encV 3 w A V) (hE : SlAt encE 4 w B E) (hi : GInv V E) :
    Calls Tryz.prog 5 #[.agg #[.slice A V.length cA, .slice B E.length cB]] w fun e w' => ∃ g bv be, e = .returned (.pointer (some ⟨g, 0, none⟩)) ∧ IsG w' g bv be V E ∧ Ext w w' ∧ w.heap.size ≤ g ∧ w.heap.size ≤ bv ∧ w.heap.size ≤ be := by
  have hV' := hide hV
  have hE' := hide hE
  have hi' := hide hi
  have hlV := hi.nv
  have hlE := hi.ne
  clear hV hE hi
  go_enter Tryz.func5, Tryz.ntmps5
  go_wp2_with fail
  refine wp_abs (fun W => Ext w W ∧ Blk W w.heap.size 29 #[.slice A V.length cA, .slice B E.length cB]) ⟨ext_self1 _ _, Blk.new w _ _⟩ ?_
  rintro wI ⟨hxI, hbI⟩
  have q0 := hbI.cells 0 (v := .slice A V.length cA) rfl
  have q1 := hbI.cells 1 (v := .slice B E.length cB) rfl
  have hxI' := hide hxI
  clear hxI hbI
  go_loopw [3, 5] (fun l i wr => ∃ (k : Nat) (vs : Value), k ≤ V.length ∧ i = .int .i64 k ∧ vs = l ∧ wr.ownsRow wI.heap.size 57 3 vs k ((V.take k).flatMap encV) ∧ Ext wI wr) (fun _ i _ => V.length - (intOf i).toNat)
  case atStart => exact ⟨0, _, Nat.zero_le _, rfl, rfl, World.ownsRow_nil _ _ _ _, Ext.refl _⟩
  case round =>
    obtain ⟨k, vs, hk, rfl, hl3, hown, hx⟩ := hrel
    subst hl3
    have hown' := hide hown
    have hx' := hide hx
    clear hown
    by_cases hlt : k < V.length
    · obtain ⟨b, off, rfl, c0, c1, c2⟩ := atV ((unhide hV').ext ((unhide hxI').trans hx)) hlt
      have hst := List.take_succ_eq_append_getElem hlt
      generalize hy : V[k] = y at c0 c1 c2 hst
      obtain ⟨u, lab, wt⟩ := y
      have hst' := hide hst
      have hn' := hide (show k ≤ 100000 by omega)
      have hln := hide (show (V.take k).length = k by rw [List.length_take]; omega)
      clear hy hst
      simp only at c0 c1 c2
      go_wp2_with (at_builtin; refine wp_ap infoGV Tryz.underlying54 one_encV (fun _ => rfl) (by decide) (by decide) wr rfl _ _ rfl wI.heap.size vs k (V.take k) (u, (lab, wt)) (unhide hln) wr.heap.size _ (by rfl) rfl (by rfl) (by rfl) (unhide hown') (unhide hn') (Below.size (unhide hx')) ?_; intro A1 k1 w4 ho4 hg4; have hx4 := hide (app_step (unhide hx') (unhide hown') (ext_self1 _ _) hg4); have ho4' := hide ho4; clear ho4 hg4)
      go_roundw
      case rel => exact ⟨k + 1, _, by omega, by go_num, rfl, by have h := unhide ho4'; rw [unhide hst']; exact h, unhide hx4⟩
      case measure => simp [intOf]; omega
    · have hkV : k = V.length := by omega
      subst hkV
      rw [List.take_length] at hown'
      obtain ⟨A1, c1, rfl⟩ := own_slice (unhide hown')
      have hoV := hide (unhide hown')
      have hxV := hide hx
      have r1 := cell_ext (q1 wr hx)
      have r0 := q0 wr hx
      rename World => wV
      clear hown' hx' hx q0 q1
      go_wp2_with fail
      clear r0
      go_loopw [4, 6] (fun l i wr => ∃ (k : Nat) (vs : Value), k ≤ E.length ∧ i = .int .i64 k ∧ vs = l ∧ wr.ownsRow wV.heap.size 60 4 vs k ((E.take k).flatMap encE) ∧ Ext wV wr) (fun _ i _ => E.length - (intOf i).toNat)
      case atStart => exact ⟨0, _, Nat.zero_le _, rfl, rfl, World.ownsRow_nil _ _ _ _, Ext.refl _⟩
      case round =>
        obtain ⟨k, vs, hk, rfl, hl3, hown, hx⟩ := hrel
        subst hl3
        have hown' := hide hown
        have hx' := hide hx
        clear hown
        by_cases hlt : k < E.length
        · obtain ⟨b, off, rfl, c0, c1, c2, c3⟩ := atE ((unhide hE').ext (((unhide hxI').trans (unhide hxV)).trans hx)) hlt
          have hst := List.take_succ_eq_append_getElem hlt
          generalize hy : E[k] = y at c0 c1 c2 c3 hst
          obtain ⟨⟨u, v⟩, ⟨lab, wt⟩⟩ := y
          have hst' := hide hst
          have hn' := hide (show k ≤ 100000 by omega)
          have hln := hide (show (E.take k).length = k by rw [List.length_take]; omega)
          clear hy hst
          simp only at c0 c1 c2 c3
          go_wp2_with (at_builtin; refine wp_ap infoGE Tryz.underlying55 one_encE (fun _ => rfl) (by decide) (by decide) wr rfl _ _ rfl wV.heap.size vs k (E.take k) ((u, v), (lab, wt)) (unhide hln) wr.heap.size _ (by rfl) rfl (by rfl) (by rfl) (unhide hown') (unhide hn') (Below.size (unhide hx')) ?_; intro A1 k1 w4 ho4 hg4; have hx4 := hide (app_step (unhide hx') (unhide hown') (ext_self1 _ _) hg4); have ho4' := hide ho4; clear ho4 hg4)
          go_roundw
          case rel => exact ⟨k + 1, _, by omega, by go_num, rfl, by have h := unhide ho4'; rw [unhide hst']; exact h, unhide hx4⟩
          case measure => simp [intOf]; omega
        · have hkE : k = E.length := by omega
          subst hkE
          rw [List.take_length] at hown'
          obtain ⟨A2, c2, rfl⟩ := own_slice (unhide hown')
          have hinv := unhide hi'
          have hreb := rebuild hinv
          have hxIr := hide (((unhide hxI').trans (unhide hxV)).trans hx)
          have hsV := hide ((own_at (unhide hoV) (fun _ => rfl)).ext hx)
          have hsE := hide (own_at (unhide hown') (fun _ => rfl))
          have hoV' := hide hinv.okV
          have hoE' := hide hinv.okE
          have hr' := hide hreb
          have r1' := r1 wr hx
          clear hinv hreb hx hx' hown' hoV hxV r1
          go_wp2_with fail
          refine (build_any A1 A2 V E c1 c2 _ (unhide hsV) (unhide hsE) (unhide hoV') (unhide hoE') (by omega) (by omega)).mono ?_
          rintro e w5 (⟨-, g, bv, be, rfl, hg, hx5, n1, n2, n3⟩ | ⟨hbad, _⟩)
          · rw [(unhide hr').2] at hg
            have hg' := hide hg
            have hx5' := hide hx5
            have hn' := hide (And.intro n1 (And.intro n2 n3))
            clear hg hx5 n1 n2 n3
            go_wp2_with fail
            go_ret
            obtain ⟨n1, n2, n3⟩ := unhide hn'
            have hsz := Below.size (unhide hxIr)
            exact ⟨g, bv, be, rfl, unhide hg', (unhide hxIr).trans (unhide hx5'), by omega, by omega, by omega⟩
          · exact absurd (unhide hr').1 hbad
end Go.Proofs.YtdkhondfahebnaaGreat
/- SLICES OF INTS IN MEMORY: read, appended to, two of them side by side. Conditions: see each theorem. -/
namespace Go.Proofs.YtdkhondfahebnaaGreat
open Go Go.RowKit

def encI (n : Int) : List Value := [.int .i64 n]
theorem encI0 (x : Int) : ∃ u : Value, (encI x)[0]? = some u := ⟨_, rfl⟩
theorem encI_nu (x : Int) (m : Int) : (encI x)[0]? ≠ some (.int .u64 m) := by simp [encI]
theorem one_encI (x : Int) : ∀ v ∈ encI x, v.oneCell' = true := by
  intro v hv
  simp [encI] at hv
  subst hv
  rfl
theorem atI {w : World} {A : Option Addr} {L : List Int} (h : SlAt encI 1 w A L) {i : Nat} (hi : i < L.length) : ∃ b off, A = some ⟨b, off, none⟩ ∧ (∀ W, Ext w W → W.cell? ⟨b, off + i, none⟩ = some (.int .i64 L[i])) := by
  obtain ⟨b, off, hA, hc⟩ := h.at_ hi
  refine ⟨b, off, hA, ?_⟩
  have := hc 0 _ rfl
  simpa using this
theorem infoI : (Tryz.prog.info? 3).map (fun i => (i.zero.map (·.cells.size), i.size, i.bytes)) = some (some 1, 1, 8) := by kernel_rfl
/-- two slices of one's own that share no block -/
def apart2 (v1 v2 : Value) : Prop := ∀ g, v1.ownBlock = some g → v2.ownBlock ≠ some g
theorem apart2.symm {v1 v2 : Value} (h : apart2 v1 v2) : apart2 v2 v1 := fun g h1 h2 => h g h2 h1
theorem apart2_nil (A n c) : apart2 (.slice none 0 0) (.slice A n c) := fun g h => by cases h
/-- an append to one's own slice: it stays where it was or lies in new memory -/
theorem wp_ap2 {α : Type} {enc : α → List Value} {T ST : TypeId} {k byt : Nat} (hi0 : (Tryz.prog.info? T).map (fun i => (i.zero.map (·.cells.size), i.size, i.bytes)) = some (some k, k, byt)) (hu : Tryz.prog.underlying ST = some (.slice T)) (hone : ∀ x, ∀ v ∈ enc x, v.oneCell' = true) (hlen : ∀ x, (enc x).length = k) (hk : 0 < k) (hby : byt ≤ 1000)
    {ops : Array Oper} {rest : List Oper} {o : Oper} {a : Act} {Q : Exit → Act → World → Prop} (w : World) (hgd : o.guard = none) (s x : Operand)
    (ho : o.op = .call { callee := .builtin .append, args := #[s, x], argTypes := #[ST, ST] }) (base : Nat) (v : Value) (n : Nat) (xs : List α) (e : α) (hn : xs.length = n) (g : Nat) (W : World) (hW : W = w.alloc (.cells (enc e).toArray T)) (hsg : w.heap.size = g) (hs : a.eval s = v) (hx : a.eval x = .slice (some ⟨g, 0, none⟩) 1 1)
    (hown : w.ownsRow base T k v n (xs.flatMap enc)) (hl : n ≤ 100000) (hb : base ≤ w.heap.size)
    (h : ∀ A' c' w', w'.ownsRow base T k (.slice A' (n + 1) c') (n + 1) ((xs ++ [e]).flatMap enc) → (w.alloc (.cells (enc e).toArray T)).grownBy w' v.ownBlock → (Value.ownBlock (.slice A' (n + 1) c') = v.ownBlock ∨ Value.ownBlock (.slice A' (n + 1) c') = some (w.heap.size + 1)) → wpList Tryz.prog ops Q rest (a.put o.dst (.slice A' (n + 1) c')) w') :
    wpList Tryz.prog ops Q (o :: rest) a W := by
  subst hW
  subst hn
  subst hsg
  obtain ⟨i0, hi, hi1⟩ := Option.map_eq_some_iff.1 hi0
  simp only [Prod.mk.injEq] at hi1
  obtain ⟨hz1, hz2, hz3⟩ := hi1
  obtain ⟨z0, hz, hz4⟩ := Option.map_eq_some_iff.1 hz1
  have hown' := own_ext hown ((Ext.refl w).alloc (.cells (enc e).toArray T))
  have hmul : (xs.length + 1) * byt ≤ 100001 * 1000 := Nat.mul_le_mul (by omega) hby
  refine wpList_append_own_at _ hgd s x _ ho base T i0 z0 k byt hu hi hz hz2 hz3 hz4 hk v xs.length _ hs hown' ⟨w.heap.size, 0, none⟩ 1 1 (enc e) hx (by rw [hlen]; simp) ?_ (hone e) (by unfold maxLen; omega) (by omega) (by simp; omega) ?_
  · intro j u hj
    have := (Blk.new w T (enc e).toArray).cell j
    rw [show (⟨w.heap.size, 0, none⟩ : Addr).add j = ⟨w.heap.size, j, none⟩ by simp [Addr.add]; omega, this]
    simpa using hj
  · intro v' w' h1 h2 _ h4
    obtain ⟨A', c', rfl⟩ := own_slice h1
    exact h A' c' w' (by simpa using h1) h2 (by simpa using h4)
/-- what an append to the one does to the other -/
theorem rows2 {wr w2 w' : World} {b1 b2 T1 T2 k1 k2 n1 n2 : Nat} {v1 v1' v2 : Value} {xs1 xs2 : List Value} {o : Obj} (h2 : wr.ownsRow b2 T2 k2 v2 n2 xs2) (ha : apart2 v1 v2) (hx : Ext wr w2) (hg : (w2.alloc o).grownBy w' v1.ownBlock) (hv : v1'.ownBlock = v1.ownBlock ∨ v1'.ownBlock = some (w2.heap.size + 1))
    (_h1 : wr.ownsRow b1 T1 k1 v1 n1 xs1) : w'.ownsRow b2 T2 k2 v2 n2 xs2 ∧ apart2 v1' v2 := by
  have h22 := own_ext h2 (hx.trans (ext_self1 _ o))
  have hk : Keep v1.ownBlock.toList (w2.alloc o) w' := ⟨hg.os, hg.tape, hg.output, hg.size, fun i hi hne => hg.block i hi (by
    intro e
    rw [← e] at hne
    simp at hne)⟩
  refine ⟨own_keep h22 hk fun g hgm e => ?_, fun g h1 e => ?_⟩
  · exact ha g (by simpa using hgm) e
  · rcases hv with hv | hv
    · exact ha g (hv ▸ h1) e
    · rw [hv] at h1
      injection h1 with h1
      have := (own_base h2 e).2.1
      have hs := Below.size hx
      omega
theorem app_step2 {α : Type} {enc : α → List Value} {wI wr w2 w' : World} {base T k n : Nat} {v : Value} {xs : List α} (hx : Ext wI wr) (hown : wr.ownsRow base T k v n (xs.flatMap enc)) (hx2 : Ext wr w2) (hg : w2.grownBy w' v.ownBlock) (hb : wI.heap.size ≤ base) : Ext wI w' :=
  (hx.trans hx2).grown hg hb (own_ext hown hx2)
theorem own_base_le {w : World} {b b' T k n : Nat} {v : Value} {xs : List Value} (h : w.ownsRow b T k v n xs) (hb : b' ≤ b) : w.ownsRow b' T k v n xs :=
  ⟨h.1, h.2.imp id fun ⟨g, cap, cur, e, hg, r⟩ => ⟨g, cap, cur, e, Nat.le_trans hb hg, r⟩⟩
end Go.Proofs.YtdkhondfahebnaaGreat
/- law01.From: a list of numbers as a set. Conditions: see each theorem. -/
namespace Go.Proofs.YtdkhondfahebnaaGreat
open Go Go.RowKit
attribute [local go_sem] qUpon lUpon

theorem bitW_shl (n : Nat) : IntKind.u64.wrap (2 ^ (n % 64)) = bitW n := by
  rw [IntKind.wrap_u64]
  have h3 : 2 ^ (n % 64) < 2 ^ 64 := Nat.pow_lt_pow_right (by omega) (by omega)
  have e : ((2 : Int) ^ (n % 64)) = ((2 ^ (n % 64) : Nat) : Int) := by simp
  unfold bitW
  rw [e]
  generalize 2 ^ (n % 64) = m at h3
  omega
theorem bitW_shl' (n : Nat) : IntKind.u64.wrap (2 ^ ((n : Int) % 64).toNat) = bitW n := by
  rw [show ((n : Int) % 64).toNat = n % 64 by omega]
  exact bitW_shl n
theorem tmod64 (n : Nat) : ((n : Nat) : Int).tmod 64 = ((n % 64 : Nat) : Int) := by
  rw [Int.tmod_eq_emod_of_nonneg (by omega)]
  omega

/-- a set with one more element, in memory: all that the walk needs behind the store -/
theorem with_step {w wr w3 w4 : World} {b4 b2 n N : Nat} {T : TypeId} {A : Option Addr} {L : List Int} (hB : Blk wr b4 T (setC N)) (hA : Blk wr b2 T (setC 0)) (hs : SlAt encI 1 wr A L) (hx : Ext w wr) (hx3 : Ext wr w3) (hx4 : Ext (w3.setCell ⟨b4, n / 64, none⟩ (.int .u64 (bits .or .u64 (wd N (n / 64)) (bitW n)))) w4) (hb : w.heap.size ≤ b4) (hne : b2 ≠ b4) :
    Blk w4 b4 T (setC (N ||| 2 ^ n)) ∧ Blk w4 b2 T (setC 0) ∧ SlAt encI 1 w4 A L ∧ Ext w w4 := by
  have hk3 : Keep [b4] w3 (w3.setCell ⟨b4, n / 64, none⟩ (.int .u64 (bits .or .u64 (wd N (n / 64)) (bitW n)))) := Keep.setCell _ _ _ _
  refine ⟨?_, ((hA.ext hx3).keep hk3 (by simpa using hne)).ext hx4, ((hs.ext hx3).keep_S (hB.ext hx3) encI_nu encI0 hk3).ext hx4, ((hx.trans hx3).of_new hk3 (by simpa using hb)).trans hx4⟩
  have h := ((hB.ext hx3).set (n / 64) (.int .u64 (bits .or .u64 (wd N (n / 64)) (bitW n)))).ext hx4
  rwa [setC_with N n] at h
set_option maxRecDepth 100000 in
set_option maxHeartbeats 8000000 in
theorem from01_any (A : Option Addr) (L : List Int) (cL : Nat) (w : World) (hL : SlAt encI 1 w A L) (_hl : L.length ≤ 4096) :
    Calls Tryz.prog 16 #[.slice A L.length cL] w fun e w' => e = .returned (.agg (setC (fromS L))) ∧ Ext w w' := by
  have hB0 := hide (Blk.new w 25 (setC 0))
  have hs0 := hide hL
  clear hL
  go_enter Tryz.func16, Tryz.ntmps16
  go_wp2_with fail
  have hx1 := hide ((ext_self1 w (.cells (setC 0) 25)).trans (ext_self1 _ (.cells (setC 0) 25)))
  have hB2 := hide ((unhide hB0).ext (ext_self1 (w.alloc (.cells (setC 0) 25)) (.cells (setC 0) 25)))
  have hB4 := hide (Blk.new (w.alloc (.cells (setC 0) 25)) 25 (setC 0))
  have hs : (w.alloc (.cells (setC 0) 25)).heap.size = w.heap.size + 1 := World.size_alloc _ _
  rw [hs] at hB4
  clear hs hB0
  have hz : setC 0 = #[.int .u64 0, .int .u64 0, .int .u64 0, .int .u64 0, .int .u64 0, .int .u64 0, .int .u64 0, .int .u64 0, .int .u64 0, .int .u64 0, .int .u64 0, .int .u64 0, .int .u64 0, .int .u64 0, .int .u64 0, .int .u64 0] := rfl
  rw [hz] at hx1 hB2 hB4
  generalize (w.alloc (.cells #[.int .u64 0, .int .u64 0, .int .u64 0, .int .u64 0, .int .u64 0, .int .u64 0, .int .u64 0, .int .u64 0, .int .u64 0, .int .u64 0, .int .u64 0, .int .u64 0, .int .u64 0, .int .u64 0, .int .u64 0, .int .u64 0] 25)).alloc (.cells #[.int .u64 0, .int .u64 0, .int .u64 0, .int .u64 0, .int .u64 0, .int .u64 0, .int .u64 0, .int .u64 0, .int .u64 0, .int .u64 0, .int .u64 0, .int .u64 0, .int .u64 0, .int .u64 0, .int .u64 0, .int .u64 0] 25) = W1 at *
  rw [← hz] at hB4 hB2
  clear hz
  have hlo := hide (show w.heap.size ≤ w.heap.size + 1 ∧ w.heap.size ≠ w.heap.size + 1 by omega)
  have hlo2 := hide (Nat.le_refl w.heap.size)
  generalize hb4e : w.heap.size + 1 = b4 at *
  generalize hb2e : w.heap.size = b2 at *
  have hlo : Hid (w.heap.size ≤ b4 ∧ b2 ≠ b4) := by rw [hb2e]; exact hlo
  have hs1 := hide ((unhide hs0).ext (unhide hx1))
  clear hs0
  go_loopw [4] (fun i wr => ∃ k : Nat, k ≤ L.length ∧ i = .int .i64 k ∧ Blk wr b4 25 (setC (fromS (L.take k))) ∧ Blk wr b2 25 (setC 0) ∧ SlAt encI 1 wr A L ∧ Ext w wr) (fun i _ => L.length - (intOf i).toNat)
  case atStart => exact ⟨0, Nat.zero_le _, rfl, unhide hB4, unhide hB2, unhide hs1, unhide hx1⟩
  case round =>
    obtain ⟨k, hk, rfl, hB, hA, hs, hx⟩ := hrel
    have hB' := hide hB
    have hA' := hide hA
    have hs' := hide hs
    have hx' := hide hx
    clear hB4 hB2 hs1 hx1 hB hA hs hx
    by_cases hlt : k < L.length
    · have hB := unhide hB'
      obtain ⟨bb, off, rfl, c0⟩ := atI (unhide hs') hlt
      have hn' := hide (fromS_next L k hlt)
      generalize L[k] = x at c0 hn'
      generalize fromS (L.take k) = N at hB hB' hn'
      have hself := Ext.refl wr
      by_cases hf : fitB x = true
      · obtain ⟨n, rfl⟩ : ∃ n : Nat, x = n := ⟨x.toNat, by simp [fitB] at hf; omega⟩
        have hn : n < 1024 := by simp [fitB] at hf; omega
        have hN := hide (show withS N (n : Int) = N ||| 2 ^ n by rw [withS, if_pos hf, Int.toNat_natCast])
        obtain ⟨h1, hw, h6, h7, h8⟩ := idx_facts hn
        have h9 := tmod64 n
        have h10 := bitW_shl' n
        have k0 := cell_of hB hn
        have z0 : ¬ (n : Int) < 0 := by omega
        have z1 : (n : Int) < 1024 := by omega
        clear hB hf
        go_wp2_with fail
        refine wp_region_ext (P := Tryz.prog) [0,1,2,3,4,5,6,7,8,9,10,11,12,13,14,15,16,17,18,19] [20] 1 #[true,true,true,true,true,true,true,true,true,true,true,true,true,true,true,true,true,true,true,true,false] (by kernel_rfl) (by kernel_rfl) rfl (by rfl) ?_
        iterate 20
          refine ql_want (v := ?_) rfl (by rfl) (fun W hW => ?_) ?_
          rotate_left
          · go_simp
            first | done | rfl
          go_frame
        refine wpQL_nil (fun w3 hx3 => ?_)
        have c1 := k0 w3 hx3
        have f1 := ((unhide hB').ext hx3).frozen (n / 64)
        refine lx_one (i := 20) (by kernel_rfl) rfl (by rfl) #[true,true,true,true,true,true,true,true,true,true,true,true,true,true,true,true,true,true,true,true,true] (by rfl) ?_
        go_simp
        intro w4 hx4
        have hst := with_step (unhide hB') (unhide hA') (unhide hs') (unhide hx') hx3 hx4 (unhide hlo).1 (unhide hlo).2
        have hB3 := hide hst.1
        have hA3 := hide hst.2.1
        have hs3 := hide hst.2.2.1
        have hx5 := hide hst.2.2.2
        clear hB' hA' hs' hx' hx3 hx4 c0 c1 f1 k0 h1 hw h6 h7 h8 h9 h10 hst hself
        refine wpX_done (by kernel_rfl) ?_
        try go_frame
        go_wp2_with fail
        go_roundw
        case rel => exact ⟨k + 1, by omega, by go_num, by rw [unhide hn', unhide hN]; exact unhide hB3, unhide hA3, unhide hs3, unhide hx5⟩
        case measure => simp [intOf]; omega
      · have hN := hide (show withS N x = N by rw [withS, if_neg hf])
        clear hB
        by_cases h0 : x < 0
        · go_wp2_with fail
          go_roundw
          case rel => exact ⟨k + 1, by omega, by go_num, by rw [unhide hn', unhide hN]; exact unhide hB', unhide hA', unhide hs', unhide hx'⟩
          case measure => simp [intOf]; omega
        · have h1 : ¬ x < 1024 := by simp [fitB] at hf; omega
          go_wp2_with fail
          go_roundw
          case rel => exact ⟨k + 1, by omega, by go_num, by rw [unhide hn', unhide hN]; exact unhide hB', unhide hA', unhide hs', unhide hx'⟩
          case measure => simp [intOf]; omega
    · have hke : k = L.length := by omega
      have hB := unhide hB'
      have hA := unhide hA'
      rw [hke, List.take_length] at hB hB'
      have hself := Ext.refl wr
      clear hlt
      obtain ⟨N, hN⟩ : ∃ N, fromS L = N := ⟨_, rfl⟩
      rw [hN] at hB hB'
      have hN' := hide hN
      clear hN
      have e0 := hB.cells 0 (v := .int .u64 (wd N 0)) rfl
      have e1 := hB.cells 1 (v := .int .u64 (wd N 1)) rfl
      have e2 := hB.cells 2 (v := .int .u64 (wd N 2)) rfl
      have e3 := hB.cells 3 (v := .int .u64 (wd N 3)) rfl
      have e4 := hB.cells 4 (v := .int .u64 (wd N 4)) rfl
      have e5 := hB.cells 5 (v := .int .u64 (wd N 5)) rfl
      have e6 := hB.cells 6 (v := .int .u64 (wd N 6)) rfl
      have e7 := hB.cells 7 (v := .int .u64 (wd N 7)) rfl
      have e8 := hB.cells 8 (v := .int .u64 (wd N 8)) rfl
      have e9 := hB.cells 9 (v := .int .u64 (wd N 9)) rfl
      have e10 := hB.cells 10 (v := .int .u64 (wd N 10)) rfl
      have e11 := hB.cells 11 (v := .int .u64 (wd N 11)) rfl
      have e12 := hB.cells 12 (v := .int .u64 (wd N 12)) rfl
      have e13 := hB.cells 13 (v := .int .u64 (wd N 13)) rfl
      have e14 := hB.cells 14 (v := .int .u64 (wd N 14)) rfl
      have e15 := hB.cells 15 (v := .int .u64 (wd N 15)) rfl
      have g0 := hA.frozen 0
      have g1 := hA.frozen 1
      have g2 := hA.frozen 2
      have g3 := hA.frozen 3
      have g4 := hA.frozen 4
      have g5 := hA.frozen 5
      have g6 := hA.frozen 6
      have g7 := hA.frozen 7
      have g8 := hA.frozen 8
      have g9 := hA.frozen 9
      have g10 := hA.frozen 10
      have g11 := hA.frozen 11
      have g12 := hA.frozen 12
      have g13 := hA.frozen 13
      have g14 := hA.frozen 14
      have g15 := hA.frozen 15
      have z0 := hA.cells 0 (v := .int .u64 (wd 0 0)) rfl
      have z1 := hA.cells 1 (v := .int .u64 (wd 0 1)) rfl
      have z2 := hA.cells 2 (v := .int .u64 (wd 0 2)) rfl
      have z3 := hA.cells 3 (v := .int .u64 (wd 0 3)) rfl
      have z4 := hA.cells 4 (v := .int .u64 (wd 0 4)) rfl
      have z5 := hA.cells 5 (v := .int .u64 (wd 0 5)) rfl
      have z6 := hA.cells 6 (v := .int .u64 (wd 0 6)) rfl
      have z7 := hA.cells 7 (v := .int .u64 (wd 0 7)) rfl
      have z8 := hA.cells 8 (v := .int .u64 (wd 0 8)) rfl
      have z9 := hA.cells 9 (v := .int .u64 (wd 0 9)) rfl
      have z10 := hA.cells 10 (v := .int .u64 (wd 0 10)) rfl
      have z11 := hA.cells 11 (v := .int .u64 (wd 0 11)) rfl
      have z12 := hA.cells 12 (v := .int .u64 (wd 0 12)) rfl
      have z13 := hA.cells 13 (v := .int .u64 (wd 0 13)) rfl
      have z14 := hA.cells 14 (v := .int .u64 (wd 0 14)) rfl
      have z15 := hA.cells 15 (v := .int .u64 (wd 0 15)) rfl
      clear hB hA
      go_wp2_with fail
      refine bodyPost_ret (ret_cell1 rfl rfl (load_Set _ b2 N (Blk.set16 N (unhide hA')))) rfl ?_
      exact ⟨by rw [unhide hN'], (unhide hx').of_new (Keep.set16 wr b2 N) (by simp; omega)⟩
end Go.Proofs.YtdkhondfahebnaaGreat
/- law01.To, ref01.Without, ref05.in. Conditions: see each theorem. -/
namespace Go.Proofs.YtdkhondfahebnaaGreat
open Go Go.RowKit
attribute [local go_sem] qUpon lUpon

theorem bit_at (N j : Nat) : (bits .and .u64 (wd N (j / 64) / 2 ^ (j % 64)) 1 == 1) = N.testBit j := by
  have e : wd N (j / 64) / 2 ^ (j % 64) = ((wdN N (j / 64) / 2 ^ (j % 64) : Nat) : Int) := by
    unfold wd
    simp
  have hlt : wdN N (j / 64) / 2 ^ (j % 64) < 2 ^ 64 := Nat.lt_of_le_of_lt (Nat.div_le_self _ _) (wdN_lt _ _)
  rw [e, show (1 : Int) = ((1 : Nat) : Int) from rfl, u64_and_nat _ _ hlt (by decide)]
  have h := wdN_bit N (j / 64) (j % 64)
  rw [show 64 * (j / 64) + j % 64 = j by omega, decide_eq_true (show j % 64 < 64 by omega), Bool.true_and] at h
  rw [← h, Nat.testBit_eq_decide_div_mod_eq, Nat.and_one_is_mod, Bool.eq_iff_iff]
  simp only [beq_iff_eq, decide_eq_true_eq]
  omega

set_option maxRecDepth 100000 in
set_option maxHeartbeats 4000000 in
theorem to01_any (N : Nat) (w : World) :
    Calls Tryz.prog 10 #[.agg (setC N)] w fun e w' => ∃ A c, e = .returned (.slice A (toL N).length c) ∧ w'.ownsRow w.heap.size 3 1 (.slice A (toL N).length c) (toL N).length ((toL N).flatMap encI) ∧ Ext w w' := by
  have hB := hide (Blk.new w 25 (setC N))
  have ho := World.ownsRow_made (base := w.heap.size + 1) (e := 3) (size := 1) (w.alloc (.cells (setC N) 25)) #[] 0 (by rw [World.size_alloc]; omega) (by decide) rfl
  rw [World.size_alloc] at ho
  have ho' := hide ho
  have hs1 := hide (World.size_alloc w (.cells (setC N) 25))
  clear ho
  go_enter Tryz.func10, Tryz.ntmps10
  go_wp2_with fail
  have hx0 := hide (ext_self1 w (.cells (setC N) 25))
  generalize w.alloc (.cells (setC N) 25) = w1 at *
  generalize hgw : w.heap.size = gw at *
  have hxs := hide (ext_self1 w1 (.cells #[] 3))
  go_loopw [3, 4] (fun l i wr => ∃ (k : Nat) (vs : Value) (o : List Int), k ≤ 1024 ∧ i = .int .i64 k ∧ vs = l ∧ o = toK N k ∧ wr.ownsRow (gw + 1) 3 1 vs o.length (o.flatMap encI) ∧ Ext w1 wr) (fun _ i _ => 1024 - (intOf i).toNat)
  case atStart => exact ⟨0, _, [], by omega, rfl, rfl, rfl, unhide ho', unhide hxs⟩
  case round =>
    obtain ⟨k, vs, o, hk, rfl, hl3, ho, hown, hx⟩ := hrel
    subst hl3
    have hown' := hide hown
    have hx' := hide hx
    have hst := hide (toK_next N k)
    have hol' := hide (show o.length ≤ 100000 by
      rw [ho]
      have := toK_le N k
      omega)
    have hBr := (unhide hB).ext hx
    have ho2 := hide ho
    clear hown hx ho ho' hxs
    have hself := Ext.refl wr
    by_cases hlt : k < 1024
    · have c0 := cell_of hBr hlt
      obtain ⟨h1, hw, h6, h7, h8⟩ := idx_facts hlt
      have h9 := tmod64 k
      have h10 := bit_at N k
      clear hBr
      rcases hb : N.testBit k
      · rw [hb] at h10
        have hb' := hide hb
        clear hb
        go_wp2_with fail
        go_roundw
        case rel => exact ⟨k + 1, _, o, by omega, by go_num, rfl, by rw [unhide hst, unhide hb', unhide ho2]; rfl, unhide hown', unhide hx'⟩
        case measure => simp [intOf]; omega
      · rw [hb] at h10
        have hb' := hide hb
        clear hb
        go_wp2_with (at_builtin; refine wp_ap infoI Tryz.underlying38 one_encI (fun _ => rfl) (by decide) (by decide) wr rfl _ _ rfl (gw + 1) vs _ (o) ((k : Int)) rfl _ _ (by rfl) rfl (by rfl) (by rfl) (unhide hown') (unhide hol') (by rw [← unhide hs1]; exact Below.size (unhide hx')) ?_; intro A2 k1 w4 ho4 hg4; have hx4 := hide (app_step2 (unhide hx') (unhide hown') (ext_self1 _ _) hg4 (Nat.le_of_eq (unhide hs1))); have ho4' := hide ho4; clear ho4 hg4)
        go_roundw
        case rel => exact ⟨k + 1, _, o ++ [(k : Int)], by omega, by go_num, rfl, by rw [unhide hst, unhide hb', unhide ho2]; rfl, by have h := unhide ho4'; simpa using h, unhide hx4⟩
        case measure => simp [intOf]; omega
    · have hke : k = 1024 := by omega
      subst hke
      have hoN := unhide ho2
      subst hoN
      obtain ⟨A1, c1, rfl⟩ := own_slice (unhide hown')
      clear hBr
      go_wp2_with fail
      go_ret
      refine ⟨A1, c1, rfl, ?_, (unhide hx0).trans (unhide hx')⟩
      have h := unhide hown'
      exact own_base_le h (by omega)
end Go.Proofs.YtdkhondfahebnaaGreat
/- ref01.Without, ref05.in, ref05.Part. Conditions: see each theorem. -/
namespace Go.Proofs.YtdkhondfahebnaaGreat
open Go Go.RowKit
attribute [local go_sem] qUpon lUpon

set_option maxRecDepth 100000 in
theorem rin_any (A : Option Addr) (L : List Int) (cL : Nat) (n : Int) (w : World) (hL : SlAt encI 1 w A L) (hl : L.length ≤ 4096) :
    Calls Tryz.prog 24 #[.slice A L.length cL, .int .i64 n] w fun e w' => e = .returned (.bool (decide (n ∈ L))) ∧ w = w' := by
  have hL' := hide hL
  clear hL
  go_enter Tryz.func24, Tryz.ntmps24
  go_wp2_with fail
  go_loop [5] (fun i => ∃ k : Nat, k ≤ L.length ∧ i = .int .i64 k ∧ n ∉ L.take k) (fun i => L.length - (intOf i).toNat)
  case atStart => exact ⟨0, Nat.zero_le _, rfl, by simp⟩
  case round =>
    obtain ⟨k, hk, rfl, hno⟩ := hrel
    have hno' := hide hno
    clear hno
    by_cases hlt : k < L.length
    · obtain ⟨b, off, rfl, c0⟩ := atI (unhide hL') hlt
      have hst := hide (List.take_succ_eq_append_getElem hlt)
      have hmem := hide (List.getElem_mem hlt)
      generalize L[k] = x at c0 hst hmem
      have hself := Ext.refl w
      by_cases hx : x = n
      · subst hx
        go_wp2_with fail
        go_ret
        exact ⟨ret_bool (by simpa using unhide hmem), rfl⟩
      · have hX : (x == n) = false := by simpa using hx
        have hx' := hide hx
        clear hx
        go_wp2_with fail
        go_round
        case rel => exact ⟨k + 1, by omega, by go_num, by rw [unhide hst]; intro h; rcases List.mem_append.1 h with h | h; exact unhide hno' h; simp at h; exact unhide hx' h.symm⟩
        case measure => simp [intOf]; omega
    · have hke : k = L.length := by omega
      subst hke
      go_wp2_with fail
      go_ret
      have h := unhide hno'
      rw [List.take_length] at h
      exact ⟨ret_bool (by simpa using h), rfl⟩

def woL (n : Int) (L : List Int) : List Int := L.filter fun x => decide (x ≠ n)
theorem woL_next (n : Int) (L : List Int) (k : Nat) (h : k < L.length) : woL n (L.take (k + 1)) = woL n (L.take k) ++ (if L[k] = n then [] else [L[k]]) := by
  unfold woL
  rw [List.take_succ_eq_append_getElem h, List.filter_append]
  congr 1
  by_cases h0 : L[k] = n <;> simp [h0]
theorem woL_le (n : Int) (L : List Int) : (woL n L).length ≤ L.length := List.length_filter_le _ _
def WoPost (w : World) (M : List Int) (e : Ending) (w' : World) : Prop := ∃ A1 c1, e = .returned (.slice A1 M.length c1) ∧ SlAt encI 1 w' A1 M ∧ Ext w w'
set_option maxRecDepth 100000 in
set_option maxHeartbeats 4000000 in
theorem without_any (A : Option Addr) (L : List Int) (cL : Nat) (n : Int) (w : World) (hL : SlAt encI 1 w A L) (hl : L.length ≤ 4096) :
    Calls Tryz.prog 17 #[.slice A L.length cL, .int .i64 n] w (WoPost w (woL n L)) := by
  have hL' := hide hL
  have ho := World.ownsRow_made (base := w.heap.size) (e := 3) (size := 1) w #[] 0 (by omega) (by decide) rfl
  have ho' := hide ho
  have hxs := hide (ext_self1 w (.cells #[] 3))
  clear hL ho
  go_enter Tryz.func17, Tryz.ntmps17
  go_wp2_with fail
  go_loopw [5, 6] (fun l i wr => ∃ (k : Nat) (vs : Value) (o : List Int), k ≤ L.length ∧ i = .int .i64 k ∧ vs = l ∧ o = woL n (L.take k) ∧ wr.ownsRow w.heap.size 3 1 vs o.length (o.flatMap encI) ∧ Ext w wr) (fun _ i _ => L.length - (intOf i).toNat)
  case atStart => exact ⟨0, _, [], by omega, rfl, rfl, rfl, unhide ho', unhide hxs⟩
  case round =>
    obtain ⟨k, vs, o, hk, rfl, hl3, ho, hown, hx⟩ := hrel
    subst hl3
    have hown' := hide hown
    have hx' := hide hx
    have hol' := hide (show o.length ≤ 100000 by
      rw [ho]
      have := woL_le n (L.take k)
      rw [List.length_take] at this
      omega)
    have ho2 := hide ho
    clear hown hx ho ho' hxs
    have hself := Ext.refl wr
    by_cases hlt : k < L.length
    · obtain ⟨b, off, rfl, c0⟩ := atI ((unhide hL').ext (unhide hx')) hlt
      have hst := hide (woL_next n L k hlt)
      generalize L[k] = x at c0 hst
      by_cases hx : x = n
      · have hkeep := hide (show woL n (L.take (k + 1)) = o by rw [unhide hst, if_pos hx, unhide ho2, List.append_nil])
        subst hx
        go_wp2_with fail
        go_roundw
        case rel => exact ⟨k + 1, _, o, by omega, by go_num, rfl, (unhide hkeep).symm, unhide hown', unhide hx'⟩
        case measure => simp [intOf]; omega
      · have hX : (x == n) = false := by simpa using hx
        have hX2 : (x != n) = true := by simpa using hx
        have hkeep := hide (show woL n (L.take (k + 1)) = o ++ [x] by rw [unhide hst, if_neg hx, unhide ho2])
        clear hx
        go_wp2_with (at_builtin; refine wp_ap infoI Tryz.underlying38 one_encI (fun _ => rfl) (by decide) (by decide) wr rfl _ _ rfl w.heap.size vs _ o x rfl _ _ (by rfl) rfl (by rfl) (by rfl) (unhide hown') (unhide hol') (Below.size (unhide hx')) ?_; intro A2 k1 w4 ho4 hg4; have hx4 := hide (app_step (unhide hx') (unhide hown') (ext_self1 _ _) hg4); have ho4' := hide ho4; clear ho4 hg4)
        go_roundw
        case rel => exact ⟨k + 1, _, o ++ [x], by omega, by go_num, rfl, (unhide hkeep).symm, by have h := unhide ho4'; simpa using h, unhide hx4⟩
        case measure => simp [intOf]; omega
    · have hke : k = L.length := by omega
      subst hke
      rw [List.take_length] at ho2
      have hoN := unhide ho2
      subst hoN
      obtain ⟨A1, c1, rfl⟩ := own_slice (unhide hown')
      go_wp2_with fail
      go_ret
      unfold WoPost
      exact ⟨A1, c1, rfl, own_at (unhide hown') (fun _ => rfl), unhide hx'⟩
end Go.Proofs.YtdkhondfahebnaaGreat
/- ref05.Part. Conditions: see each theorem. -/
namespace Go.Proofs.YtdkhondfahebnaaGreat
open Go Go.RowKit
attribute [local go_sem] qUpon lUpon

theorem encI_ns (x : Int) (A : Option Addr) (n c : Nat) : (encI x)[0]? ≠ some (.slice A n c) := by simp [encI]
theorem partV_next (L : List Int) (V : List (Int × Thing)) (k : Nat) (h : k < V.length) : partV L (V.take (k + 1)) = partV L (V.take k) ++ (if V[k].1 ∈ L then [V[k]] else []) := by
  unfold partV
  rw [List.take_succ_eq_append_getElem h, List.filter_append]
  congr 1
  by_cases h0 : V[k].1 ∈ L <;> simp [h0]
theorem partE_next (L : List Int) (E : List ((Int × Int) × Thing)) (k : Nat) (h : k < E.length) : partE L (E.take (k + 1)) = partE L (E.take k) ++ (if E[k].1.1 ∈ L ∧ E[k].1.2 ∈ L then [E[k]] else []) := by
  unfold partE
  rw [List.take_succ_eq_append_getElem h, List.filter_append]
  congr 1
  by_cases h0 : E[k].1.1 ∈ L <;> by_cases h1 : E[k].1.2 ∈ L <;> simp [h0, h1]
theorem partV_le (L : List Int) (V : List (Int × Thing)) : (partV L V).length ≤ V.length := List.length_filter_le _ _
theorem partE_le (L : List Int) (E : List ((Int × Int) × Thing)) : (partE L E).length ≤ E.length := List.length_filter_le _ _
def PtPost (w : World) (V : List (Int × Thing)) (E : List ((Int × Int) × Thing)) (e : Ending) (w' : World) : Prop := ∃ A1 c1 B1 d1, e = .returned (.agg #[.slice A1 V.length c1, .slice B1 E.length d1]) ∧ SlAt encV 3 w' A1 V ∧ SlAt encE 4 w' B1 E ∧ Ext w w'

set_option maxRecDepth 100000 in
set_option maxHeartbeats 8000000 in
theorem rpart_any (A B C : Option Addr) (V : List (Int × Thing)) (E : List ((Int × Int) × Thing)) (L : List Int) (cA cB cC : Nat) (w : World) (hV : SlAt encV 3 w A V) (hE : SlAt encE 4 w B E) (hL : SlAt encI 1 w C L) (hlV : V.length ≤ 4096) (hlE : E.length ≤ 4096) (hlL : L.length ≤ 4096) :
    Calls Tryz.prog 9 #[.agg #[.slice A V.length cA, .slice B E.length cB], .slice C L.length cC] w (PtPost w (partV L V) (partE L E)) := by
  have hb0 := ((Blk.new w 29 #[.slice A V.length cA, .slice B E.length cB]).ext (ext_self1 _ (.cells #[.slice none 0 0, .slice none 0 0] 29))).ext (ext_self1 _ (.cells #[.slice none 0 0, .slice none 0 0] 29))
  have hb1 := (Blk.new (w.alloc (.cells #[.slice A V.length cA, .slice B E.length cB] 29)) 29 #[.slice none 0 0, .slice none 0 0]).ext (ext_self1 _ (.cells #[.slice none 0 0, .slice none 0 0] 29))
  have hb2 := Blk.new ((w.alloc (.cells #[.slice A V.length cA, .slice B E.length cB] 29)).alloc (.cells #[.slice none 0 0, .slice none 0 0] 29)) 29 #[.slice none 0 0, .slice none 0 0]
  have hxI := ext_self3 w (.cells #[.slice A V.length cA, .slice B E.length cB] 29) (.cells #[.slice none 0 0, .slice none 0 0] 29) (.cells #[.slice none 0 0, .slice none 0 0] 29)
  have hsI : (((w.alloc (.cells #[.slice A V.length cA, .slice B E.length cB] 29)).alloc (.cells #[.slice none 0 0, .slice none 0 0] 29)).alloc (.cells #[.slice none 0 0, .slice none 0 0] 29)).heap.size = w.heap.size + 1 + 1 + 1 := by simp
  simp only [World.size_alloc] at hb1 hb2
  have hb0' := hide hb0
  have hb1' := hide hb1
  have hb2' := hide hb2
  have hxI' := hide hxI
  have hsI' := hide hsI
  have hVI := hide (hV.ext hxI)
  have hEI := hide (hE.ext hxI)
  have hLI := hide (hL.ext hxI)
  clear hV hE hL hb0 hb1 hb2 hxI hsI
  go_enter Tryz.func9, Tryz.ntmps9
  go_wp2_with fail
  generalize ((w.alloc (.cells #[.slice A V.length cA, .slice B E.length cB] 29)).alloc (.cells #[.slice none 0 0, .slice none 0 0] 29)).alloc (.cells #[.slice none 0 0, .slice none 0 0] 29) = wI at *
  generalize hn0 : w.heap.size = n0 at *
  have hn0' := hide hn0
  clear hn0
  go_loopw [6] (fun i wr => ∃ (k : Nat) (vs : Value) (o : List (Int × Thing)), k ≤ V.length ∧ i = .int .i64 k ∧ o = partV L (V.take k) ∧ Keep [n0 + 1 + 1] wI wr ∧ Blk wr (n0 + 1 + 1) 29 #[vs, .slice none 0 0] ∧ wr.ownsRow wI.heap.size 58 3 vs o.length (o.flatMap encV)) (fun i _ => V.length - (intOf i).toNat)
  case atStart => exact ⟨0, _, [], Nat.zero_le _, rfl, rfl, Keep.refl _ _, unhide hb2', World.ownsRow_nil _ _ _ _⟩
  case round =>
    obtain ⟨k, vs, o, hk, rfl, ho, hkeep, hbk, hown⟩ := hrel
    have hkeep' := hide hkeep
    have hbk' := hide hbk
    have hown' := hide hown
    have ho' := hide ho
    have hol' := hide (show o.length ≤ 100000 by
      rw [ho]
      have := partV_le L (V.take k)
      rw [List.length_take] at this
      omega)
    have hsz' := hide (show wI.heap.size ≤ wr.heap.size from hkeep.size)
    have hnI' := hide (show n0 + 1 + 1 < wI.heap.size by have := unhide hsI'; omega)
    have hq0 := (unhide hb0').keep hkeep (by simp; omega)
    have r0 := hq0.cells 0 (v := .slice A V.length cA) rfl
    have r1 := hq0.cells 1 (v := .slice B E.length cB) rfl
    have hVr := hide ((unhide hVI).keep_G (unhide hb2') ⟨_, _, _, rfl⟩ ⟨_, _, _, rfl⟩ encV_ns encV0 hkeep)
    have hLr := hide ((unhide hLI).keep_G (unhide hb2') ⟨_, _, _, rfl⟩ ⟨_, _, _, rfl⟩ encI_ns encI0 hkeep)
    have hself := Ext.refl wr
    clear hkeep hbk hown ho hq0
    by_cases hlt : k < V.length
    · obtain ⟨b, off, rfl, c0, c1, c2⟩ := atV (unhide hVr) hlt
      have hst := hide (partV_next L V k hlt)
      generalize hy : V[k] = y at c0 c1 c2 hst
      obtain ⟨a, ⟨l, t⟩⟩ := y
      simp only at c0 c1 c2
      clear hy
      by_cases hin : a ∈ L
      · have hin' := hide hin
        clear hin
        go_wp2_with fail
        refine (rin_any C L cC a _ (unhide hLr) hlL).mono ?_
        rw [decide_eq_true (unhide hin')]
        rintro e wz ⟨rfl, rfl⟩
        go_wp2_with fail
        have rO := (unhide hbk').cells 0 (v := vs) rfl
        refine wp_region_still (P := Tryz.prog) [0,1,2,3,4,5,6] [8,9,10] 4 #[true,true,true,true,true,true,true,false,false,false,false] (by kernel_rfl) (by kernel_rfl) rfl (by rfl) ?_
        iterate 7
          refine ql_want (v := ?_) rfl (by rfl) (fun W hW => ?_) ?_
          rotate_left
          · go_simp
            first | done | rfl
          go_frame
        refine wpQL_nil (fun w3 hx3 => ?_)
        have hk3' := hide ((unhide hkeep').trans (hx3.keep _))
        have hb3' := hide ((unhide hbk').ext hx3)
        have ho3' := hide (own_ext (unhide hown') hx3)
        have hr0 := (unhide hb3').cells 0 (v := vs) rfl
        obtain ⟨v4, w4, hrun, ho4, hg4⟩ := run_rV w3 wI.heap.size vs o (a, (l, t)) (unhide ho3') (unhide hol') (Nat.le_trans (unhide hsz') (Below.size hx3)) 26
        obtain ⟨A6, k6, rfl⟩ := own_slice ho4
        obtain ⟨W6, hW6, f1, f2, hk6, hb6, ho6, _, _⟩ := fld_step (i := 0) (unhide hk3') (unhide hnI') (unhide hb3') (unhide ho3') (ext_self1 w3 _) ho4 hg4 (by simp)
        have hk6' := hide hk6
        have hb6' := hide hb6
        have ho6' := hide ho6
        clear hk6 hb6 ho6 ho4 hg4 r0 r1 rO
        generalize hgl : (o ++ [(a, (l, t))]).length = gl at *
        simp only [encV] at hrun
        refine lx_one (i := 7) (by kernel_rfl) rfl (by rfl) #[true,true,true,true,true,true,true,true,false,false,false] (by rfl) ?_
        go_simp
        refine lx_one (i := 8) (by kernel_rfl) rfl (by rfl) #[true,true,true,true,true,true,true,true,true,false,false] (by rfl) ?_
        rw [ex_append rfl (by rfl) (by rfl) hrun]
        go_simp
        refine lx_one (i := 9) (by kernel_rfl) rfl (by rfl) #[true,true,true,true,true,true,true,true,true,true,false] (by rfl) ?_
        go_simp
        refine lx_one (i := 10) (by kernel_rfl) rfl (by rfl) #[true,true,true,true,true,true,true,true,true,true,true] (by rfl) ?_
        go_simp
        refine wpX_done (by kernel_rfl) ?_
        try go_frame
        clear c0 c1 c2 hself
        go_wp2_with fail
        go_roundw
        case rel =>
          subst hgl
          exact ⟨k + 1, _, o ++ [(a, (l, t))], by omega, by go_num, by rw [unhide hst, if_pos (unhide hin'), unhide ho'], unhide hk6', unhide hb6', unhide ho6'⟩
        case measure => simp [intOf]; omega
      · have hin' := hide hin
        clear hin
        go_wp2_with fail
        refine (rin_any C L cC a _ (unhide hLr) hlL).mono ?_
        rw [decide_eq_false (unhide hin')]
        rintro e wz ⟨rfl, rfl⟩
        go_wp2_with fail
        go_roundw
        case rel => exact ⟨k + 1, _, o, by omega, by go_num, by rw [unhide hst, if_neg (unhide hin'), List.append_nil, unhide ho'], unhide hkeep', unhide hbk', unhide hown'⟩
        case measure => simp [intOf]; omega
    · have hkV : k = V.length := by omega
      subst hkV
      rw [List.take_length] at ho'
      have hoN := unhide ho'
      subst hoN
      obtain ⟨A1, c1, rfl⟩ := own_slice (unhide hown')
      have hoV := hide (unhide hown')
      have hb0V := hide ((unhide hb0').keep (unhide hkeep') (by simp; omega))
      have hb1V := hide ((unhide hb1').keep (unhide hkeep') (by simp))
      have hbV := hide (unhide hbk')
      have hEV := hide ((unhide hEI).keep_G (unhide hb2') ⟨_, _, _, rfl⟩ ⟨_, _, _, rfl⟩ encE_ns encE0 (unhide hkeep'))
      have hLV := hide (unhide hLr)
      have hxV := hide ((unhide hxI').of_new (unhide hkeep') (by have := unhide hn0'; simp; omega))
      have hszV := hide (unhide hsz')
      clear hkeep' hbk' hown' ho' hol' hsz' hnI' hVr hLr
      rename World => wV
      go_wp2_with fail
      clear r0 r1 hself
      go_loopw [7] (fun i wr => ∃ (k : Nat) (vs : Value) (o : List ((Int × Int) × Thing)), k ≤ E.length ∧ i = .int .i64 k ∧ o = partE L (E.take k) ∧ Keep [n0 + 1 + 1] wV wr ∧ Blk wr (n0 + 1 + 1) 29 #[.slice A1 (partV L V).length c1, vs] ∧ wr.ownsRow wV.heap.size 61 4 vs o.length (o.flatMap encE)) (fun i _ => E.length - (intOf i).toNat)
      case atStart => exact ⟨0, _, [], Nat.zero_le _, rfl, rfl, Keep.refl _ _, unhide hbV, World.ownsRow_nil _ _ _ _⟩
      case round =>
        obtain ⟨k, vs, o, hk, rfl, ho, hkeep, hbk, hown⟩ := hrel
        have hkeep' := hide hkeep
        have hbk' := hide hbk
        have hown' := hide hown
        have ho' := hide ho
        have hol' := hide (show o.length ≤ 100000 by
          rw [ho]
          have := partE_le L (E.take k)
          rw [List.length_take] at this
          omega)
        have hsz' := hide (show wV.heap.size ≤ wr.heap.size from hkeep.size)
        have hnI' := hide (show n0 + 1 + 1 < wV.heap.size by have := unhide hsI'; have := unhide hszV; omega)
        have hq0 := (unhide hb0V).keep hkeep (by simp; omega)
        have r0 := hq0.cells 0 (v := .slice A V.length cA) rfl
        have r1 := hq0.cells 1 (v := .slice B E.length cB) rfl
        have hEr := hide ((unhide hEV).keep_G (unhide hbV) ⟨_, _, _, rfl⟩ ⟨_, _, _, rfl⟩ encE_ns encE0 hkeep)
        have hLr := hide ((unhide hLV).keep_G (unhide hbV) ⟨_, _, _, rfl⟩ ⟨_, _, _, rfl⟩ encI_ns encI0 hkeep)
        have hself := Ext.refl wr
        by_cases hlt : k < E.length
        · clear hkeep hbk hown ho hq0
          obtain ⟨b, off, rfl, c0, c1', c2, c3⟩ := atE (unhide hEr) hlt
          have hst := hide (partE_next L E k hlt)
          generalize hy : E[k] = y at c0 c1' c2 c3 hst
          obtain ⟨⟨a, d⟩, ⟨l, t⟩⟩ := y
          simp only at c0 c1' c2 c3
          clear hy
          by_cases hin : a ∈ L
          · by_cases hin2 : d ∈ L
            · have hin' := hide hin
              have hin2' := hide hin2
              clear hin hin2
              go_wp2_with fail
              refine (rin_any C L cC a _ (unhide hLr) hlL).mono ?_
              rw [decide_eq_true (unhide hin')]
              rintro e wz ⟨rfl, rfl⟩
              go_wp2_with fail
              refine (rin_any C L cC d _ (unhide hLr) hlL).mono ?_
              rw [decide_eq_true (unhide hin2')]
              rintro e wz ⟨rfl, rfl⟩
              go_wp2_with fail
              have rO := (unhide hbk').cells 1 (v := vs) rfl
              refine wp_region_still (P := Tryz.prog) [0,1,2,3,4,5,6] [8,9,10] 4 #[true,true,true,true,true,true,true,false,false,false,false] (by kernel_rfl) (by kernel_rfl) rfl (by rfl) ?_
              iterate 7
                refine ql_want (v := ?_) rfl (by rfl) (fun W hW => ?_) ?_
                rotate_left
                · go_simp
                  first | done | rfl
                go_frame
              refine wpQL_nil (fun w3 hx3 => ?_)
              have hk3' := hide ((unhide hkeep').trans (hx3.keep _))
              have hb3' := hide ((unhide hbk').ext hx3)
              have ho3' := hide (own_ext (unhide hown') hx3)
              have hr0 := (unhide hb3').cells 1 (v := vs) rfl
              obtain ⟨v4, w4, hrun, ho4, hg4⟩ := run_rE w3 wV.heap.size vs o ((a, d), (l, t)) (unhide ho3') (unhide hol') (Nat.le_trans (unhide hsz') (Below.size hx3)) 27
              obtain ⟨A6, k6, rfl⟩ := own_slice ho4
              obtain ⟨W6, hW6, f1, f2, hk6, hb6, ho6, _, _⟩ := fld_step (i := 1) (unhide hk3') (unhide hnI') (unhide hb3') (unhide ho3') (ext_self1 w3 _) ho4 hg4 (by simp)
              have hk6' := hide hk6
              have hb6' := hide hb6
              have ho6' := hide ho6
              clear hk6 hb6 ho6 ho4 hg4 r0 r1 rO
              generalize hgl : (o ++ [((a, d), (l, t))]).length = gl at *
              simp only [encE] at hrun
              refine lx_one (i := 7) (by kernel_rfl) rfl (by rfl) #[true,true,true,true,true,true,true,true,false,false,false] (by rfl) ?_
              go_simp
              refine lx_one (i := 8) (by kernel_rfl) rfl (by rfl) #[true,true,true,true,true,true,true,true,true,false,false] (by rfl) ?_
              rw [ex_append rfl (by rfl) (by rfl) hrun]
              go_simp
              refine lx_one (i := 9) (by kernel_rfl) rfl (by rfl) #[true,true,true,true,true,true,true,true,true,true,false] (by rfl) ?_
              go_simp
              refine lx_one (i := 10) (by kernel_rfl) rfl (by rfl) #[true,true,true,true,true,true,true,true,true,true,true] (by rfl) ?_
              go_simp
              refine wpX_done (by kernel_rfl) ?_
              try go_frame
              clear c0 c1' c2 c3 hself
              go_wp2_with fail
              go_roundw
              case rel =>
                subst hgl
                exact ⟨k + 1, _, o ++ [((a, d), (l, t))], by omega, by go_num, by rw [unhide hst, if_pos ⟨unhide hin', unhide hin2'⟩, unhide ho'], unhide hk6', unhide hb6', unhide ho6'⟩
              case measure => simp [intOf]; omega
            · have hin' := hide hin
              have hin2' := hide hin2
              clear hin hin2
              go_wp2_with fail
              refine (rin_any C L cC a _ (unhide hLr) hlL).mono ?_
              rw [decide_eq_true (unhide hin')]
              rintro e wz ⟨rfl, rfl⟩
              go_wp2_with fail
              refine (rin_any C L cC d _ (unhide hLr) hlL).mono ?_
              rw [decide_eq_false (unhide hin2')]
              rintro e wz ⟨rfl, rfl⟩
              go_wp2_with fail
              go_roundw
              case rel => exact ⟨k + 1, _, o, by omega, by go_num, by rw [unhide hst, if_neg (fun h => unhide hin2' h.2), List.append_nil, unhide ho'], unhide hkeep', unhide hbk', unhide hown'⟩
              case measure => simp [intOf]; omega
          · have hin' := hide hin
            clear hin
            go_wp2_with fail
            refine (rin_any C L cC a _ (unhide hLr) hlL).mono ?_
            rw [decide_eq_false (unhide hin')]
            rintro e wz ⟨rfl, rfl⟩
            go_wp2_with fail
            go_roundw
            case rel => exact ⟨k + 1, _, o, by omega, by go_num, by rw [unhide hst, if_neg (fun h => unhide hin' h.1), List.append_nil, unhide ho'], unhide hkeep', unhide hbk', unhide hown'⟩
            case measure => simp [intOf]; omega
        · have hkE : k = E.length := by omega
          subst hkE
          rw [List.take_length] at ho'
          have hoN := unhide ho'
          subst hoN
          obtain ⟨A2, c2, rfl⟩ := own_slice (unhide hown')
          have hq4 := (unhide hb1V).keep hkeep (by simp)
          have s0 := hq4.cell 0
          have s1 := hq4.cell 1
          have s2 := hq4.frozen 0
          have s3 := hq4.frozen 1
          have u0 := hbk.cells 0 (v := .slice A1 (partV L V).length c1) rfl
          have u1 := hbk.cells 1 (v := .slice A2 (partE L E).length c2) rfl
          simp at s0 s1
          clear hkeep hbk hown ho hq0 hq4
          go_wp2_with fail
          refine bodyPost_ret (ret_cell1 rfl rfl (load_G2 wr (n0 + 1) _ _ _ _ s0 s1)) rfl ?_
          have hxr : Ext w wr := (unhide hxV).of_new (unhide hkeep') (by have := unhide hn0'; simp; omega)
          have hoV2 := own_keep1 (unhide hoV) (unhide hkeep') (by have := unhide hsI'; omega)
          obtain ⟨q1, q2⟩ := fin_row hxr (b4 := n0 + 1) (by have := unhide hn0'; omega) hoV2 (by have := unhide hsI'; omega) (.slice A1 (partV L V).length c1) (.slice A2 (partE L E).length c2)
          obtain ⟨q3, q4⟩ := fin_row hxr (b4 := n0 + 1) (by have := unhide hn0'; omega) (unhide hown') (by have := unhide hnI'; omega) (.slice A1 (partV L V).length c1) (.slice A2 (partE L E).length c2)
          unfold PtPost
          exact ⟨A1, c1, A2, c2, rfl, own_at q2 (fun _ => rfl), own_at q4 (fun _ => rfl), q1⟩
end Go.Proofs.YtdkhondfahebnaaGreat
/- graph.Len, graph.Edge. Conditions: see each theorem. -/
namespace Go.Proofs.YtdkhondfahebnaaGreat
open Go Go.RowKit
attribute [local go_sem] qUpon lUpon

def isX (x y : Int) (p : (Int × Int) × Thing) : Bool := p.1.1 == x && p.1.2 == y

theorem edgeC_any (a b l t x y : Int) (cb : Nat) (w : World) (h0 : w.cell? ⟨cb, 0, none⟩ = some (.int .i64 x)) (h1 : w.cell? ⟨cb, 1, none⟩ = some (.int .i64 y)) :
    Calls Tryz.prog 70 #[.agg #[.int .i64 a, .int .i64 b, .int .u8 l, .int .i64 t], .pointer (some ⟨cb, 0, none⟩)] w fun e w' => e = .returned (.bool (isX x y ((a, b), (l, t)))) ∧ Ext w w' := by
  have c0 := cell_ext h0
  have c1 := cell_ext h1
  clear h0 h1
  go_enter Tryz.func70, Tryz.ntmps70
  go_wp2
  all_goals (go_ret; exact ⟨ret_bool (by unfold isX; simp_all), ext_self1 _ _⟩)

set_option maxHeartbeats 1000000 in
theorem index_any (A : Option Addr) (E : List ((Int × Int) × Thing)) (cE : Nat) (x y : Int) (cb : Nat) (w : World) (hE : SlAt encE 4 w A E) (hl : E.length ≤ 4096) (h0 : w.cell? ⟨cb, 0, none⟩ = some (.int .i64 x)) (h1 : w.cell? ⟨cb, 1, none⟩ = some (.int .i64 y)) :
    Calls Tryz.prog 69 #[.slice A E.length cE, .func (.func 70) #[] #[.pointer (some ⟨cb, 0, none⟩)]] w fun e w' => e = .returned (.int .i64 (posI (isX x y) E)) ∧ Ext w w' := by
  have k0 := cell_ext h0
  have k1 := cell_ext h1
  have hE' := hide hE
  have k0' := hide k0
  have k1' := hide k1
  clear h0 h1 hE k0 k1
  go_enter Tryz.func69, Tryz.ntmps69
  go_wp2
  go_loopw [8] (fun i wr => ∃ k : Nat, k ≤ E.length ∧ i = .int .i64 k ∧ (∀ j (hj : j < k) (hj' : j < E.length), isX x y E[j] = false) ∧ Ext w wr) (fun i _ => E.length - (intOf i).toNat)
  case atStart => exact ⟨0, Nat.zero_le _, rfl, fun j hj => by omega, Ext.refl _⟩
  case round =>
    obtain ⟨k, hk, rfl, hno, hxr⟩ := hrel
    have hno' := hide hno
    clear hno
    by_cases hlt : k < E.length
    · obtain ⟨b, off, rfl, c0, c1, c2, c3⟩ := atE ((unhide hE').ext hxr) hlt
      generalize hy : E[k] = p at c0 c1 c2 c3
      have hy' := hide hy
      clear hy
      obtain ⟨⟨a, b0⟩, ⟨l, t⟩⟩ := p
      simp only at c0 c1 c2 c3
      generalize hq : isX x y ((a, b0), (l, t)) = q
      have hq' := hide hq
      clear hq
      cases q
      · go_wp2_with (go_at_call 70; refine (edgeC_any a b0 l t x y cb _ (unhide k0' _ hxr) (unhide k1' _ hxr)).mono ?_; rw [unhide hq']; rintro e w3 ⟨rfl, hx3⟩)
        go_roundw
        case rel =>
          refine ⟨k + 1, by omega, by go_num, fun j hj hj' => ?_, hxr.trans hx3⟩
          rcases Nat.lt_or_ge j k with h | h
          · exact unhide hno' j h hj'
          · have : j = k := by omega
            subst this
            rw [unhide hy']
            exact unhide hq'
        case measure => simp [intOf]; omega
      · go_wp2_with (go_at_call 70; refine (edgeC_any a b0 l t x y cb _ (unhide k0' _ hxr) (unhide k1' _ hxr)).mono ?_; rw [unhide hq']; rintro e w3 ⟨rfl, hx3⟩)
        go_ret
        exact ⟨ret_int (posI_hit hlt (by rw [unhide hy']; exact unhide hq') (fun j hj => unhide hno' j hj (by omega))).symm, hxr.trans hx3⟩
    · go_wp2
      go_ret
      exact ⟨ret_int (posI_miss (fun j hj => unhide hno' j (by omega) hj)).symm, hxr⟩

theorem len_any (g bv be : Nat) (V : List (Int × Thing)) (E : List ((Int × Int) × Thing)) (w : World) (hg : GraphAt w g bv be V E) :
    Calls Tryz.prog 31 #[.pointer (some ⟨g, 0, none⟩)] w fun e w' => e = .returned (.tuple #[.int .i64 V.length, .int .i64 E.length]) ∧ Ext w w' := by
  have d0 := hg.ptr0
  have d1 := hg.ptr1
  have l0 := fun (W : World) (hW : Ext w W) => (hg.vs.ext hW).len Tryz.underlying66
  have l1 := fun (W : World) (hW : Ext w W) => (hg.es.ext hW).len Tryz.underlying67
  clear hg
  go_enter Tryz.func31, Tryz.ntmps31
  go_wp2
  refine wp_region_still (P := Tryz.prog) [0,1,2,3,4,5,6,7,8,9,10,11] [] 0 #[true,true,true,true,true,true,true,true,true,true,true,true] (by kernel_rfl) (by kernel_rfl) rfl (by rfl) ?_
  iterate 12
    refine ql_want (v := ?_) rfl (by rfl) (fun W hW => ?_) ?_
    rotate_left
    · go_simp
      first | done | rfl | (fail)
    go_frame

  refine wpQL_nil (fun w2 hx2 => ?_)
  refine wpX_done (by kernel_rfl) ?_
  try go_frame
  go_wp2
  go_ret2
  exact ⟨rfl, hx2⟩

theorem ret_cell3 {P : Program} {fn : Func} {t T u1 u2 : Nat} {tmps : Array Value} {p : Addr} {W : World} {v : Value} (h : fn.results = #[.cell t T, .tmp u1, .tmp u2]) (hp : tmps.getD t undef = .pointer (some p)) (hl : (loadVar T p).run P W = .ok v W) :
    (results fn tmps).run P W = .ok (.tuple #[v, tmps.getD u1 undef, tmps.getD u2 undef]) W := by
  simp only [Array.getD_eq_getD_getElem?] at hp
  simp [results, h, hp, asAddr, hl]
theorem load_Ed (W : World) (b : Nat) (p q r s : Value) (h : Blk W b 60 #[p, q, r, s]) : (loadVar 60 ⟨b, 0, none⟩).run Tryz.prog W = .ok (.agg #[p, q, r, s]) W := by
  have h0 := h.cell 0
  have h1 := h.cell 1
  have h2 := h.cell 2
  have h3 := h.cell 3
  simp at h0 h1 h2 h3
  simp [loadVar, h0, h1, h2, h3, go_sem]

set_option maxRecDepth 100000 in
set_option maxHeartbeats 4000000 in
theorem gedge_miss (g bv be : Nat) (V : List (Int × Thing)) (E S : List ((Int × Int) × Thing)) (u v : Int) (w : World) (hg : GraphAt w g bv be V E) (hp : S.Perm E) (hS : S.Pairwise ltE) (hl : E.length ≤ 4096) (hpos : posI (isX (min u v) (max u v)) S = -1) :
    Calls Tryz.prog 30 #[.pointer (some ⟨g, 0, none⟩), .int .i64 u, .int .i64 v] w fun e w' => e = .returned (.tuple #[.agg #[.int .i64 0, .int .i64 0, .int .u8 0, .int .i64 0], .int .i64 0, .bool false]) ∧ Ext w w' := by
  have hlS : S.length ≤ 4096 := by rw [hp.length_eq]; exact hl
  have hg' := hide hg
  have hpos' := hide hpos
  have hb0 := hide (Blk.new w 60 #[.int .i64 0, .int .i64 0, .int .u8 0, .int .i64 0])
  clear hg hpos
  go_enter Tryz.func30, Tryz.ntmps30
  go_wp2_with (first
    | (go_at_call 48; refine (between_any _ _ _).mono ?_; rintro e w2 ⟨rfl, hx2⟩; have hx2' := hide hx2; clear hx2)
    | (go_at_call 21; refine (edges_any g bv be V E S _ ((unhide hg').ext (((ext_self1 _ _).trans (unhide hx2')).alloc _)) hp hS hl).mono ?_; rintro e w3 ⟨v3, rfl, ho3, hx3⟩; obtain ⟨Ae, ce, rfl⟩ := own_slice ho3; have hq := (Blk.new w2 _ _).ext hx3; have c0 := hq.cell 0; have c1 := hq.cell 1; simp at c0 c1; have ho3' := hide ho3; have hx3' := hide hx3; have c0' := hide c0; have c1' := hide c1; clear ho3 hx3 hq c0 c1)
    | (go_at_call 69; refine (index_any Ae S ce (min u v) (max u v) w2.heap.size _ (own_at (unhide ho3') (fun _ => rfl)) hlS (unhide c0') (unhide c1')).mono ?_; rw [unhide hpos']; rintro e w4 ⟨rfl, hx4⟩; have hx4' := hide hx4; have hb4 := ((((unhide hb0).ext (unhide hx2')).ext (ext_self1 _ _)).ext (unhide hx3')).ext hx4; have s0 := hb4.cell 0; have s1 := hb4.cell 1; have s2 := hb4.cell 2; have s3 := hb4.cell 3; have f0 := hb4.frozen 0; have f1 := hb4.frozen 1; have f2 := hb4.frozen 2; have f3 := hb4.frozen 3; simp at s0 s1 s2 s3; have hb4' := hide hb4; clear hx4 hb4))
  have hb4 := unhide hb4'
  have hxw : Ext w w4 := (((ext_self1 _ _).trans (unhide hx2')).trans (ext_self1 _ _)).trans ((unhide hx3').trans (unhide hx4'))
  refine bodyPost_ret (ret_cell3 rfl rfl (load_Ed _ w.heap.size _ _ _ _ ((((hb4.set 0 (.int .i64 0)).set 1 (.int .i64 0)).set 2 (.int .u8 0)).set 3 (.int .i64 0)))) rfl ?_
  exact ⟨rfl, Below.setCell (Below.setCell (Below.setCell (Below.setCell hxw (by simp) _) (by simp) _) (by simp) _) (by simp) _⟩

set_option maxRecDepth 100000 in
set_option maxHeartbeats 4000000 in
theorem gedge_hit (g bv be : Nat) (V : List (Int × Thing)) (E S : List ((Int × Int) × Thing)) (u v : Int) (w : World) (hg : GraphAt w g bv be V E) (hp : S.Perm E) (hS : S.Pairwise ltE) (hl : E.length ≤ 4096) (i : Nat) (hi : i < S.length) (hpos : posI (isX (min u v) (max u v)) S = i) :
    Calls Tryz.prog 30 #[.pointer (some ⟨g, 0, none⟩), .int .i64 u, .int .i64 v] w fun e w' => e = .returned (.tuple #[.agg #[.int .i64 S[i].1.1, .int .i64 S[i].1.2, .int .u8 S[i].2.1, .int .i64 S[i].2.2], .int .i64 i, .bool true]) ∧ Ext w w' := by
  have hlS : S.length ≤ 4096 := by rw [hp.length_eq]; exact hl
  have hg' := hide hg
  have hpos' := hide hpos
  have hb0 := hide (Blk.new w 60 #[.int .i64 0, .int .i64 0, .int .u8 0, .int .i64 0])
  clear hg hpos
  go_enter Tryz.func30, Tryz.ntmps30
  go_wp2_with (first
    | (go_at_call 48; refine (between_any _ _ _).mono ?_; rintro e w2 ⟨rfl, hx2⟩; have hx2' := hide hx2; clear hx2)
    | (go_at_call 21; refine (edges_any g bv be V E S _ ((unhide hg').ext (((ext_self1 _ _).trans (unhide hx2')).alloc _)) hp hS hl).mono ?_; rintro e w3 ⟨v3, rfl, ho3, hx3⟩; obtain ⟨Ae, ce, rfl⟩ := own_slice ho3; have hq := (Blk.new w2 _ _).ext hx3; have c0 := hq.cell 0; have c1 := hq.cell 1; simp at c0 c1; have ho3' := hide ho3; have hx3' := hide hx3; have c0' := hide c0; have c1' := hide c1; clear ho3 hx3 hq c0 c1)
    | (go_at_call 69; refine (index_any Ae S ce (min u v) (max u v) w2.heap.size _ (own_at (unhide ho3') (fun _ => rfl)) hlS (unhide c0') (unhide c1')).mono ?_; rw [unhide hpos']; rintro e w4 ⟨rfl, hx4⟩; have hx4' := hide hx4; have hb4 := ((((unhide hb0).ext (unhide hx2')).ext (ext_self1 _ _)).ext (unhide hx3')).ext hx4; have s0 := hb4.cell 0; have s1 := hb4.cell 1; have s2 := hb4.cell 2; have s3 := hb4.cell 3; have f0 := hb4.frozen 0; have f1 := hb4.frozen 1; have f2 := hb4.frozen 2; have f3 := hb4.frozen 3; simp at s0 s1 s2 s3; have hb4' := hide hb4; clear hx4 hb4; obtain ⟨bb, off, rfl, k0, k1, k2, k3⟩ := atE ((own_at (unhide ho3') (fun _ => rfl)).ext (unhide hx4')) hi))
  have hb4 := unhide hb4'
  have hxw : Ext w w4 := (((ext_self1 _ _).trans (unhide hx2')).trans (ext_self1 _ _)).trans ((unhide hx3').trans (unhide hx4'))
  refine bodyPost_ret (ret_cell3 rfl rfl (load_Ed _ w.heap.size _ _ _ _ ((((hb4.set 0 (.int .i64 S[i].1.1)).set 1 (.int .i64 S[i].1.2)).set 2 (.int .u8 S[i].2.1)).set 3 (.int .i64 S[i].2.2)))) rfl ?_
  exact ⟨rfl, Below.setCell (Below.setCell (Below.setCell (Below.setCell hxw (by simp) _) (by simp) _) (by simp) _) (by simp) _⟩

end Go.Proofs.YtdkhondfahebnaaGreat
/- known: the example answers true. Conditions: none but the world's. -/
namespace Go.Proofs.YtdkhondfahebnaaGreat
open Go Go.RowKit

def kV1 : List (Int × Thing) := [((3 : Int), ((0 : Int), (0 : Int)))]
def kV2 : List (Int × Thing) := [((1 : Int), ((0 : Int), (0 : Int))), (3, (0, 0))]
def kE : List ((Int × Int) × Thing) := [(((1 : Int), (3 : Int)), ((0 : Int), (0 : Int)))]

theorem known1 (g bv be : Nat) (w : World) (hg : IsG w g bv be [] []) : Calls Tryz.prog 13 #[.pointer (some ⟨g, 0, none⟩), .agg #[.int .i64 0, .int .i64 3, .int .i64 0, .int .u8 0, .int .i64 0]] w fun e w' => e = .returned (.int .i64 0) ∧ IsG w' g bv be kV1 [] ∧ Keep [bv, be] w w' := by
  have h := apply_any g bv be [] [] 0 3 0 0 0 w hg (by unfold i64ok; decide) (by unfold i64ok; decide)
  rw [show wrongR 0 3 0 0 [] [] = 0 by decide, show nxV 0 3 0 0 0 [] [] = kV1 by decide, show nxE 0 3 0 0 0 [] [] = [] by decide] at h
  exact h
theorem known2 (g bv be : Nat) (w : World) (hg : IsG w g bv be kV1 []) : Calls Tryz.prog 13 #[.pointer (some ⟨g, 0, none⟩), .agg #[.int .i64 0, .int .i64 1, .int .i64 0, .int .u8 0, .int .i64 0]] w fun e w' => e = .returned (.int .i64 0) ∧ IsG w' g bv be kV2 [] ∧ Keep [bv, be] w w' := by
  have h := apply_any g bv be kV1 [] 0 1 0 0 0 w hg (by unfold i64ok; decide) (by unfold i64ok; decide)
  rw [show wrongR 0 1 0 0 kV1 [] = 0 by decide, show nxV 0 1 0 0 0 kV1 [] = kV2 by decide, show nxE 0 1 0 0 0 kV1 [] = [] by decide] at h
  exact h
theorem known3 (g bv be : Nat) (w : World) (hg : IsG w g bv be kV2 []) : Calls Tryz.prog 13 #[.pointer (some ⟨g, 0, none⟩), .agg #[.int .i64 2, .int .i64 3, .int .i64 1, .int .u8 0, .int .i64 0]] w fun e w' => e = .returned (.int .i64 0) ∧ IsG w' g bv be kV2 kE ∧ Keep [bv, be] w w' := by
  have h := apply_any g bv be kV2 [] 2 3 1 0 0 w hg (by unfold i64ok; decide) (by unfold i64ok; decide)
  rw [show wrongR 2 3 1 0 kV2 [] = 0 by decide, show nxV 2 3 1 0 0 kV2 [] = kV2 by decide, show nxE 2 3 1 0 0 kV2 [] = kE by decide] at h
  exact h
theorem known4 (g bv be : Nat) (w : World) (hg : IsG w g bv be kV2 kE) : Calls Tryz.prog 13 #[.pointer (some ⟨g, 0, none⟩), .agg #[.int .i64 2, .int .i64 1, .int .i64 3, .int .u8 0, .int .i64 0]] w fun e w' => e = .returned (.int .i64 7) ∧ IsG w' g bv be kV2 kE ∧ Keep [bv, be] w w' := by
  have h := apply_any g bv be kV2 kE 2 1 3 0 0 w hg (by unfold i64ok; decide) (by unfold i64ok; decide)
  rw [show wrongR 2 1 3 0 kV2 kE = 7 by decide, show nxV 2 1 3 0 0 kV2 kE = kV2 by decide, show nxE 2 1 3 0 0 kV2 kE = kE by decide] at h
  exact h
theorem known5 (g bv be : Nat) (w : World) (hg : IsG w g bv be kV2 kE) : Calls Tryz.prog 30 #[.pointer (some ⟨g, 0, none⟩), .int .i64 3, .int .i64 1] w fun e w' => e = .returned (.tuple #[.agg #[.int .i64 1, .int .i64 3, .int .u8 0, .int .i64 0], .int .i64 0, .bool true]) ∧ Ext w w' := by
  obtain ⟨V', E', h1, hV, hE, hi⟩ := hg
  exact gedge_hit g bv be V' E' kE 3 1 w h1 hE hi.se (by rw [← hE.length_eq]; decide) 0 (by decide) (by decide)
theorem known6 (g bv be : Nat) (w : World) (hg : IsG w g bv be kV2 kE) : Calls Tryz.prog 31 #[.pointer (some ⟨g, 0, none⟩)] w fun e w' => e = .returned (.tuple #[.int .i64 2, .int .i64 1]) ∧ Ext w w' := by
  obtain ⟨V', E', h1, hV, hE, hi⟩ := hg
  have h := len_any g bv be V' E' w h1
  rw [← hV.length_eq, ← hE.length_eq] at h
  exact h

set_option maxRecDepth 100000 in
set_option maxHeartbeats 4000000 in
theorem known_any (w : World) : Calls Tryz.prog 14 #[] w fun e w' => e = .returned (.bool true) ∧ Ext w w' := by
  go_enter Tryz.func14, Tryz.ntmps14
  go_wp2_with fail
  refine (new_rel _).mono ?_
  rintro e w1 ⟨g, bv, be, rfl, hg10, hx10, n1, n2, n3⟩
  have hg1 := hide hg10
  have hx1 := hide hx10
  have hn1 := hide (And.intro n1 (And.intro n2 n3))
  clear hg10 hx10 n1 n2 n3
  go_wp2_with fail
  refine (known1 g bv be _ (unhide hg1)).mono ?_
  rintro e w2 ⟨rfl, hg20, hk20⟩
  have hg2 := hide hg20
  have hk2 := hide hk20
  clear hg20 hk20
  go_wp2_with fail
  refine (known2 g bv be _ (unhide hg2)).mono ?_
  rintro e w3 ⟨rfl, hg30, hk30⟩
  have hg3 := hide hg30
  have hk3 := hide hk30
  clear hg30 hk30
  go_wp2_with fail
  refine (known3 g bv be _ (unhide hg3)).mono ?_
  rintro e w4 ⟨rfl, hg40, hk40⟩
  have hg4 := hide hg40
  have hk4 := hide hk40
  clear hg40 hk40
  go_wp2_with fail
  refine (known5 g bv be _ (unhide hg4)).mono ?_
  rintro e w5 ⟨rfl, hx50⟩
  have hx5 := hide hx50
  clear hx50
  go_wp2_with fail
  refine (known6 g bv be _ (((unhide hg4).ext (unhide hx5)).ext (ext_self1 _ _))).mono ?_
  rintro e w6 ⟨rfl, hx60⟩
  have hb := (Blk.new w5 60 #[.int .i64 1, .int .i64 3, .int .u8 0, .int .i64 0]).ext hx60
  have c0 := hb.cell 0
  have c1 := hb.cell 1
  simp at c0 c1
  have hx6 := hide hx60
  clear hx60 hb
  go_wp2_with fail
  refine (known4 g bv be _ ((((unhide hg4).ext (unhide hx5)).ext (ext_self1 _ _)).ext (unhide hx6))).mono ?_
  rintro e w7 ⟨rfl, hg7, hk70⟩
  have hk7 := hide hk70
  clear hg7 hk70
  go_wp2_with fail
  go_ret
  have h1 := unhide hx1
  have h3 := ((unhide hk2).trans (unhide hk3)).trans (unhide hk4)
  have h6 := ((unhide hx5).trans (ext_self1 _ _)).trans (unhide hx6)
  obtain ⟨m1, m2, m3⟩ := unhide hn1
  exact ⟨rfl, h1.of_new ((h3.trans (h6.keep _)).trans (unhide hk7)) (by simp; omega)⟩
end Go.Proofs.YtdkhondfahebnaaGreat
/- law05.Made: the reference graph that edits make. Conditions: see each theorem. -/
namespace Go.Proofs.YtdkhondfahebnaaGreat
open Go Go.RowKit
attribute [local go_sem] qUpon lUpon

def stD (s : GS) (d : Ed) : GS := (nxV d.1 d.2.1 d.2.2.1 d.2.2.2.1 d.2.2.2.2 s.1 s.2, nxE d.1 d.2.1 d.2.2.1 d.2.2.2.1 d.2.2.2.2 s.1 s.2)
def mdS (L : List Ed) : GS := (L.take 60).foldl stD ([], [])
theorem fold_inv : ∀ (L : List Ed) (s : GS), GInv s.1 s.2 → GInv (L.foldl stD s).1 (L.foldl stD s).2
  | [], _, h => h
  | d :: L, s, h => fold_inv L (stD s d) (h.next _ _ _ _ _)
theorem mdS_inv (L : List Ed) : GInv (mdS L).1 (mdS L).2 := fold_inv _ _ GInv.nil

structure MdRel (w wr : World) (gw : Nat) (S : GS) (A B : Option Addr) (cA cB : Nat) : Prop where
  blk : Blk wr gw 29 #[.slice A S.1.length cA, .slice B S.2.length cB]
  sv : SlAt encV 3 wr A S.1
  se : SlAt encE 4 wr B S.2
  ext : Ext w wr
  lo : w.heap.size ≤ gw
theorem MdRel.go {w wr wr' : World} {gw : Nat} {S : GS} {A B : Option Addr} {cA cB : Nat} (h : MdRel w wr gw S A B cA cB) (k : Ext wr wr') : MdRel w wr' gw S A B cA cB :=
  ⟨h.blk.ext k, h.sv.ext k, h.se.ext k, h.ext.trans k, h.lo⟩

set_option maxRecDepth 100000 in
set_option maxHeartbeats 4000000 in
theorem made_any (A : Option Addr) (L : List Ed) (cL : Nat) (w : World) (hL : SlAt encD 5 w A L) :
    Calls Tryz.prog 4 #[.slice A L.length cL] w fun e w' => ∃ A1 cA B1 cB, e = .returned (.agg #[.slice A1 (mdS L).1.length cA, .slice B1 (mdS L).2.length cB]) ∧ SlAt encV 3 w' A1 (mdS L).1 ∧ SlAt encE 4 w' B1 (mdS L).2 ∧ Ext w w' := by
  have hL' := hide hL
  clear hL
  have hb0 := (Blk.new w 29 #[.slice none 0 0, .slice none 0 0]).ext (ext_self1 _ (.cells #[.slice none 0 0, .slice none 0 0] 29))
  have hb1 := Blk.new (w.alloc (.cells #[.slice none 0 0, .slice none 0 0] 29)) 29 #[.slice none 0 0, .slice none 0 0]
  simp only [World.size_alloc] at hb1
  have hb0' := hide hb0
  have hb1' := hide hb1
  clear hb0 hb1
  go_enter Tryz.func4, Tryz.ntmps4
  go_wp2_with fail
  refine wp_abs (fun W => Blk W w.heap.size 29 #[.slice none 0 0, .slice none 0 0] ∧ MdRel w W (w.heap.size + 1) ([], []) none none 0 0) ⟨unhide hb0', unhide hb1', SlAt.nil, SlAt.nil, ext_self2 _ _ _, by omega⟩ ?_
  rintro w2 ⟨hq0, hr0⟩
  have hr0' := hide hr0
  have hq0' := hide hq0
  have hne' := hide (show w.heap.size ≠ w.heap.size + 1 by omega)
  clear hr0 hq0 hb0' hb1'
  generalize hr1 : w.heap.size + 1 = gw at *
  generalize hr2 : w.heap.size = ge at *
  have hge' := hide hr2
  clear hr1 hr2
  go_loopw [4] (fun i wr => ∃ (k : Nat) (A1 B1 : Option Addr) (cA cB : Nat), k ≤ L.length ∧ k ≤ 60 ∧ i = .int .i64 k ∧ Blk wr ge 29 #[.slice none 0 0, .slice none 0 0] ∧ MdRel w wr gw ((L.take k).foldl stD ([], [])) A1 B1 cA cB) (fun i _ => L.length - (intOf i).toNat)
  case atStart => exact ⟨0, none, none, 0, 0, Nat.zero_le _, by omega, rfl, unhide hq0', unhide hr0'⟩
  case round =>
    obtain ⟨k, A1, B1, cA, cB, hk, hk60, rfl, hq, hr⟩ := hrel
    have hr' := hide hr
    have hq' := hide hq
    clear hr hr0' hq hq0'
    by_cases hlt : k < L.length
    · by_cases h60 : k < 60
      · obtain ⟨b, off, rfl, c0, c1, c2, c3, c4⟩ := atD ((unhide hL').ext (unhide hr').ext) hlt
        have hst := hide (fold_step (st := stD) (s := (([], []) : GS)) hlt)
        have hin := hide (fold_inv (L.take k) ([], []) GInv.nil)
        generalize (L.take k).foldl stD ([], []) = S at *
        obtain ⟨V, E⟩ := S
        generalize hy : L[k] = y at c0 c1 c2 c3 c4 hst
        obtain ⟨op, u, v, lab, wt⟩ := y
        have hB0 := (unhide hr').blk
        have q0 := hB0.cells 0 (v := .slice A1 V.length cA) rfl
        have q1 := hB0.cells 1 (v := .slice B1 E.length cB) rfl
        clear hy hB0
        simp only at c0 c1 c2 c3 c4
        go_wp2_with fail
        refine wp_region_ext (P := Tryz.prog) [0,1,2,3,4] [5,6,7,8,9] 5 #[true,true,true,true,true,false,false,false,false,false] (by kernel_rfl) (by kernel_rfl) rfl (by rfl) ?_
        iterate 5
          refine ql_want (v := ?_) rfl (by rfl) (fun W hW => ?_) ?_
          rotate_left
          · go_simp
            first | done | rfl
          go_frame
        refine wpQL_nil (fun w3 hx3 => ?_)
        clear q0 q1 c0 c1 c2 c3 c4
        refine lx_one (i := 5) (by kernel_rfl) rfl (by rfl) #[true,true,true,true,true,true,false,false,false,false] (by rfl) ?_
        go_simp
        have hr3 := (unhide hr').go hx3
        have hq3 := (unhide hq').ext hx3
        refine (do_any A1 B1 V E cA cB op u v lab wt _ hr3.sv hr3.se (Nat.le_trans (unhide hin).nv (by omega)) (Nat.le_trans (unhide hin).ne (by omega))).mono ?_
        rintro e w4 ⟨A2, cA2, B2, cB2, rfl, hs4, he4, hx4⟩
        refine ⟨_, rfl, fun w5 hx5 => ?_⟩
        have hx35 := hx4.trans hx5
        have hb5 := hr3.blk.ext hx35
        have hc5 := hide (GCls.refl hb5)
        have hG5 : ∃ A n c B m d, Blk w5 gw 29 #[.slice A n c, .slice B m d] := ⟨_, _, _, _, _, _, hb5⟩
        have hG5' := hide hG5
        have hq5 := hide (hq3.ext hx35)
        have hs5 := hide (hs4.ext hx5)
        have he5 := hide (he4.ext hx5)
        have hxw5 := hide (hr3.ext.trans hx35)
        have hlo := hide hr3.lo
        clear hr3 hq3 hs4 he4 hx4 hx5 hx35 hb5 hG5 hx3 hr' hq'
        refine lx_re (GCls gw w5) [6,7,8] 1 4 #[true,true,true,true,true,true,false,false,false,false] #[true,true,true,true,true,true,true,true,true,false] (by kernel_rfl) (by kernel_rfl) rfl (by rfl) Ext.refl (fun _ _ _ => Ext.trans) (fun _ _ h k => h.ext k) (unhide hc5) ?_
        iterate 3
          refine ql_want (v := ?_) rfl (by rfl) (fun W hW => ?_) ?_
          rotate_left
          · go_simp
            first | done | rfl
          go_frame
        refine wpQL_nil (fun w6 hc6 => ?_)
        have hc6' := hide hc6
        obtain ⟨hk6, A0, n0, k0, B0, m0, d0, hb6⟩ := hc6
        have s0 := hb6.cell 0
        have s1 := hb6.cell 1
        have f0 := hb6.frozen 0
        have f1 := hb6.frozen 1
        have hb6' := hide hb6
        simp at s0 s1
        clear hk6 hb6
        refine lx_one (i := 9) (by kernel_rfl) rfl (by rfl) #[true,true,true,true,true,true,true,true,true,true] (by rfl) ?_
        go_simp
        clear s0 s1 f0 f1
        have hc7 := (unhide hc6').set A2 B2 (nxV op u v lab wt V E).length cA2 (nxE op u v lab wt V E).length cB2
        have hb7 := (unhide hb6').set2 (p' := .slice A2 (nxV op u v lab wt V E).length cA2) (q' := .slice B2 (nxE op u v lab wt V E).length cB2)
        generalize ((w6.setCell ⟨gw, 0, none⟩ (.slice A2 (nxV op u v lab wt V E).length cA2)).setCell ⟨gw, 1, none⟩ (.slice B2 (nxE op u v lab wt V E).length cB2)) = w7 at *
        first | refine ⟨hc7, ?_⟩ | skip
        intro w8 hx8
        have hrel := MdRel.go (w := w) (S := stD (V, E) (op, (u, (v, (lab, wt))))) ⟨hb7, (unhide hs5).cls hc7 (unhide hG5') encV_ns encV0, (unhide he5).cls hc7 (unhide hG5') encE_ns encE0, (unhide hxw5).of_new hc7.1 (by have := unhide hlo; simpa using this), unhide hlo⟩ hx8
        have hq8 := hide (((unhide hq5).keep hc7.1 (by simpa using unhide hne')).ext hx8)
        have hrel' := hide hrel
        clear hrel hc7 hb7 hc6' hb6' hx8 hc5 hG5' hq5 hs5 he5 hxw5 hlo
        refine wpX_done (by kernel_rfl) ?_
        try go_frame
        go_wp2_with fail
        go_roundw
        case rel => exact ⟨k + 1, A2, B2, cA2, cB2, by omega, by omega, by go_num, unhide hq8, by rw [unhide hst]; exact unhide hrel'⟩
        case measure => simp [intOf]; omega
      · have hS : L.take k = L.take 60 := by rw [show k = 60 by omega]
        rw [hS] at hr'
        clear hS
        generalize hmd : (L.take 60).foldl stD ([], []) = S at *
        have hmd' : mdS L = S := hmd
        have hmd'' := hide hmd'
        clear hmd hmd'
        have hB0 := (unhide hr').blk
        have q0 := hB0.cell 0
        have q1 := hB0.cell 1
        have s0 := (unhide hq').cell 0
        have s1 := (unhide hq').cell 1
        have f0 := (unhide hq').frozen 0
        have f1 := (unhide hq').frozen 1
        clear hB0
        simp at q0 q1 s0 s1
        go_wp2_with fail
        refine bodyPost_ret (ret_cell1 rfl rfl (load_G2 wr ge _ _ _ _ s0 s1)) rfl ?_
        rw [unhide hmd'']
        have hk := Keep.set2 wr ge (.slice A1 S.1.length cA) (.slice B1 S.2.length cB)
        exact ⟨A1, cA, B1, cB, rfl, (unhide hr').sv.keep_G (unhide hq') ⟨_, _, _, rfl⟩ ⟨_, _, _, rfl⟩ encV_ns encV0 hk, (unhide hr').se.keep_G (unhide hq') ⟨_, _, _, rfl⟩ ⟨_, _, _, rfl⟩ encE_ns encE0 hk, (unhide hr').ext.of_new hk (by have := unhide hge'; simp; omega)⟩
    · have hS : L.take k = L.take 60 := by rw [List.take_of_length_le (by omega), List.take_of_length_le (by omega)]
      rw [hS] at hr'
      clear hS
      generalize hmd : (L.take 60).foldl stD ([], []) = S at *
      have hmd' : mdS L = S := hmd
      have hmd'' := hide hmd'
      clear hmd hmd'
      have hB0 := (unhide hr').blk
      have q0 := hB0.cell 0
      have q1 := hB0.cell 1
      have s0 := (unhide hq').cell 0
      have s1 := (unhide hq').cell 1
      have f0 := (unhide hq').frozen 0
      have f1 := (unhide hq').frozen 1
      clear hB0
      simp at q0 q1 s0 s1
      go_wp2_with fail
      refine bodyPost_ret (ret_cell1 rfl rfl (load_G2 wr ge _ _ _ _ s0 s1)) rfl ?_
      rw [unhide hmd'']
      have hk := Keep.set2 wr ge (.slice A1 S.1.length cA) (.slice B1 S.2.length cB)
      exact ⟨A1, cA, B1, cB, rfl, (unhide hr').sv.keep_G (unhide hq') ⟨_, _, _, rfl⟩ ⟨_, _, _, rfl⟩ encV_ns encV0 hk, (unhide hr').se.keep_G (unhide hq') ⟨_, _, _, rfl⟩ ⟨_, _, _, rfl⟩ encE_ns encE0 hk, (unhide hr').ext.of_new hk (by have := unhide hge'; simp; omega)⟩
end Go.Proofs.YtdkhondfahebnaaGreat
/- maps.Equal, graph.Equal. Conditions: see each theorem. -/
namespace Go.Proofs.YtdkhondfahebnaaGreat
open Go Go.RowKit
attribute [local go_sem] qUpon lUpon

def eqBV (M1 M2 : List (Int × Thing)) : Bool := decide (M1.length = M2.length) && M1.all fun p => decide (lookM M2 p.1 = some p.2)
set_option maxRecDepth 100000 in
set_option maxHeartbeats 4000000 in
theorem meqV_any (b1 b2 : Nat) (M1 M2 : List (Int × Thing)) (w : World) (h1 : MapIs ekV evT i64ok w b1 M1) (h2 : MapIs ekV evT i64ok w b2 M2) :
    Calls Tryz.prog 32 #[.map (some b1), .map (some b2)] w fun e w' => e = .returned (.bool (eqBV M1 M2)) ∧ Ext w w' := by
  have l1 := fun (W : World) (hW : Ext w W) => (h1.ext hW).len Tryz.underlying66
  have l2 := fun (W : World) (hW : Ext w W) => (h2.ext hW).len Tryz.underlying66
  by_cases hl : M1.length = M2.length
  · rw [← hl] at l2
    obtain ⟨w1, hrun, hit, hx1, hs1⟩ := h1.range Tryz.underlying66
    have hb1 := h1.lt
    have hb2 := h2.lt
    have h2' := hide h2
    have hit' := hide hit
    have hx1' := hide hx1
    have hl' := hide hl
    clear h1 h2 hit hs1 hl hx1
    go_enter Tryz.func32, Tryz.ntmps32
    have hself := Ext.refl w
    go_wp2_with fail
    clear hrun l1 l2 hself
    try go_frame
    generalize hr : w.heap.size = r at *
    have hr' := hide hr
    clear hr
    go_loopw [] (fun wr => ∃ done left : List (Int × Thing), M1.Perm (done ++ left) ∧ (∀ p ∈ done, lookM M2 p.1 = some p.2) ∧ IterIs ekV evT i64ok wr r b1 M1 left ∧ Ext w wr) (fun wr => wr.rangeLeft b1 r)
    case atStart => exact ⟨[], M1, List.Perm.refl _, by simp, unhide hit', unhide hx1'⟩
    case round =>
      obtain ⟨done, left, hpd, hdn, hit, hxr⟩ := hrel
      have hlt := hit.left_eq
      rcases hit.next (P := Tryz.prog) 0 with ⟨hl0, hrun⟩ | ⟨p, l1, l2, w2, hl0, hrun, hit2, hk2, hs2, hen⟩
      · have hrun : ∀ ty, (Instr.next (.pointer (some ⟨r, 0, none⟩)) false ty).run Tryz.prog wr = .ok (.tuple #[.bool false]) wr := fun _ => hrun
        subst hl0
        rw [List.append_nil] at hpd
        have hres : eqBV M1 M2 = true := by
          unfold eqBV
          rw [decide_eq_true (unhide hl'), Bool.true_and, List.all_eq_true]
          exact fun p hp => decide_eq_true (hdn p (hpd.mem_iff.1 hp))
        have hres' := hide hres
        have hxr' := hide hxr
        clear hit hlt hpd hdn hres hit' hxr
        go_wp2_with fail
        go_ret
        exact ⟨ret_bool (unhide hres').symm, unhide hxr'⟩
      · have hrun : ∀ ty, (Instr.next (.pointer (some ⟨r, 0, none⟩)) false ty).run Tryz.prog wr = .ok (.tuple #[.bool true, ekV p.1, evT p.2]) w2 := fun _ => hrun
        subst hl0
        have hpm : p ∈ M1 := hpd.mem_iff.2 (by simp)
        have hokp : i64ok p.1 := hit.map.okk p hpm
        have hx2 : Ext w w2 := hxr.of_new hk2 (by have := unhide hr'; simp; omega)
        have hm2 := (unhide h2').ext hx2
        have hlk := fun (W : World) (hW : Ext w2 W) => (hm2.ext hW).lookup2 keV Tryz.underlying66 (zeroT W) hokp
        have hne : lookM M2 p.1 ≠ some p.2 → eqBV M1 M2 = false := fun hq => by
          unfold eqBV
          rw [Bool.and_eq_false_iff]
          exact .inr (Bool.eq_false_iff.2 fun ha => hq (of_decide_eq_true (List.all_eq_true.1 ha p hpm)))
        have hgo : lookM M2 p.1 = some p.2 → ∀ q ∈ done ++ [p], lookM M2 q.1 = some q.2 := fun hq q hm => by
          rcases List.mem_append.1 hm with h | h
          · exact hdn q h
          · rw [List.mem_singleton.1 h]; exact hq
        have hpd2 : M1.Perm ((done ++ [p]) ++ (l1 ++ l2)) := hpd.trans (by
          rw [List.append_assoc]
          exact List.Perm.append_left _ (List.perm_middle))
        have hpd' := hide hpd2
        have hgo' := hide hgo
        have hne' := hide hne
        have hit2' := hide hit2
        have hx2' := hide hx2
        have hlt' := hide hlt
        have hself := Ext.refl w2
        clear hit hlt hpd hdn hpm hokp hm2 hne hgo hpd2 hit2 hx2 hxr hit'
        obtain ⟨a, ⟨lab0, wt0⟩⟩ := p
        simp only [ekV, evT] at hrun hen hlk
        cases hq : lookM M2 a with
        | none =>
          have hnf := hide (unhide hne' (by rw [hq]; simp))
          rw [hq] at hlk
          clear hq
          simp only [Option.getD_none, Option.isSome_none] at hlk
          go_wp2_with fail
          go_ret
          exact ⟨ret_bool (unhide hnf).symm, (unhide hx2').trans (ext_self2 _ _ _)⟩
        | some q =>
          obtain ⟨lq, tq⟩ := q
          rw [hq] at hlk
          have hq' := hide hq
          clear hq
          simp only [Option.getD_some, Option.isSome_some] at hlk
          by_cases hh : lq = lab0 ∧ tq = wt0
          · obtain ⟨rfl, rfl⟩ := hh
            go_wp2_with fail
            go_roundw
            case rel => exact ⟨_, _, unhide hpd', unhide hgo' (unhide hq'), (unhide hit2').ext (ext_self2 _ _ _), (unhide hx2').trans (ext_self2 _ _ _)⟩
            case measure =>
              rw [((unhide hit2').ext (ext_self2 _ _ _)).left_eq, unhide hlt']
              simp
          · have hnf := hide (unhide hne' (by rw [unhide hq']; simpa using hh))
            have hh' : ¬ (lab0 = lq ∧ wt0 = tq) := fun h => hh ⟨h.1.symm, h.2.symm⟩
            have hh2 := hide hh'
            clear hh hh'
            go_wp2_with fail
            all_goals first
              | (go_ret; exact ⟨ret_bool (unhide hnf).symm, (unhide hx2').trans (ext_self2 _ _ _)⟩)
              | (exfalso; have h := unhide hh2; simp_all; done)
  · have hres : eqBV M1 M2 = false := by unfold eqBV; rw [decide_eq_false hl, Bool.false_and]
    have hres' := hide hres
    have hb : ((M1.length : Int) != (M2.length : Int)) = true := by simp; omega
    clear hres hl h1 h2
    have hself := Ext.refl w
    go_enter Tryz.func32, Tryz.ntmps32
    go_wp2_with fail
    go_ret
    exact ⟨ret_bool (unhide hres').symm, Ext.refl _⟩

def eqBE (M1 M2 : List ((Int × Int) × Thing)) : Bool := decide (M1.length = M2.length) && M1.all fun p => decide (lookM M2 p.1 = some p.2)
set_option maxRecDepth 100000 in
set_option maxHeartbeats 4000000 in
theorem meqE_any (b1 b2 : Nat) (M1 M2 : List ((Int × Int) × Thing)) (w : World) (h1 : MapIs ekE evT okE w b1 M1) (h2 : MapIs ekE evT okE w b2 M2) :
    Calls Tryz.prog 33 #[.map (some b1), .map (some b2)] w fun e w' => e = .returned (.bool (eqBE M1 M2)) ∧ Ext w w' := by
  have l1 := fun (W : World) (hW : Ext w W) => (h1.ext hW).len Tryz.underlying67
  have l2 := fun (W : World) (hW : Ext w W) => (h2.ext hW).len Tryz.underlying67
  by_cases hl : M1.length = M2.length
  · rw [← hl] at l2
    obtain ⟨w1, hrun, hit, hx1, hs1⟩ := h1.range Tryz.underlying67
    have hb1 := h1.lt
    have hb2 := h2.lt
    have h2' := hide h2
    have hit' := hide hit
    have hx1' := hide hx1
    have hl' := hide hl
    clear h1 h2 hit hs1 hl hx1
    go_enter Tryz.func33, Tryz.ntmps33
    have hself := Ext.refl w
    go_wp2_with fail
    clear hrun l1 l2 hself
    try go_frame
    generalize hr : w.heap.size = r at *
    have hr' := hide hr
    clear hr
    go_loopw [] (fun wr => ∃ done left : List ((Int × Int) × Thing), M1.Perm (done ++ left) ∧ (∀ p ∈ done, lookM M2 p.1 = some p.2) ∧ IterIs ekE evT okE wr r b1 M1 left ∧ Ext w wr) (fun wr => wr.rangeLeft b1 r)
    case atStart => exact ⟨[], M1, List.Perm.refl _, by simp, unhide hit', unhide hx1'⟩
    case round =>
      obtain ⟨done, left, hpd, hdn, hit, hxr⟩ := hrel
      have hlt := hit.left_eq
      rcases hit.next (P := Tryz.prog) 0 with ⟨hl0, hrun⟩ | ⟨p, l1, l2, w2, hl0, hrun, hit2, hk2, hs2, hen⟩
      · have hrun : ∀ ty, (Instr.next (.pointer (some ⟨r, 0, none⟩)) false ty).run Tryz.prog wr = .ok (.tuple #[.bool false]) wr := fun _ => hrun
        subst hl0
        rw [List.append_nil] at hpd
        have hres : eqBE M1 M2 = true := by
          unfold eqBE
          rw [decide_eq_true (unhide hl'), Bool.true_and, List.all_eq_true]
          exact fun p hp => decide_eq_true (hdn p (hpd.mem_iff.1 hp))
        have hres' := hide hres
        have hxr' := hide hxr
        clear hit hlt hpd hdn hres hit' hxr
        go_wp2_with fail
        go_ret
        exact ⟨ret_bool (unhide hres').symm, unhide hxr'⟩
      · have hrun : ∀ ty, (Instr.next (.pointer (some ⟨r, 0, none⟩)) false ty).run Tryz.prog wr = .ok (.tuple #[.bool true, ekE p.1, evT p.2]) w2 := fun _ => hrun
        subst hl0
        have hpm : p ∈ M1 := hpd.mem_iff.2 (by simp)
        have hokp : okE p.1 := hit.map.okk p hpm
        have hx2 : Ext w w2 := hxr.of_new hk2 (by have := unhide hr'; simp; omega)
        have hm2 := (unhide h2').ext hx2
        have hlk := fun (W : World) (hW : Ext w2 W) => (hm2.ext hW).lookup2 keE Tryz.underlying67 (zeroT W) hokp
        have hne : lookM M2 p.1 ≠ some p.2 → eqBE M1 M2 = false := fun hq => by
          unfold eqBE
          rw [Bool.and_eq_false_iff]
          exact .inr (Bool.eq_false_iff.2 fun ha => hq (of_decide_eq_true (List.all_eq_true.1 ha p hpm)))
        have hgo : lookM M2 p.1 = some p.2 → ∀ q ∈ done ++ [p], lookM M2 q.1 = some q.2 := fun hq q hm => by
          rcases List.mem_append.1 hm with h | h
          · exact hdn q h
          · rw [List.mem_singleton.1 h]; exact hq
        have hpd2 : M1.Perm ((done ++ [p]) ++ (l1 ++ l2)) := hpd.trans (by
          rw [List.append_assoc]
          exact List.Perm.append_left _ (List.perm_middle))
        have hpd' := hide hpd2
        have hgo' := hide hgo
        have hne' := hide hne
        have hit2' := hide hit2
        have hx2' := hide hx2
        have hlt' := hide hlt
        have hself := Ext.refl w2
        clear hit hlt hpd hdn hpm hokp hm2 hne hgo hpd2 hit2 hx2 hxr hit'
        obtain ⟨⟨a, b⟩, ⟨lab0, wt0⟩⟩ := p
        simp only [ekE, evT] at hrun hen hlk
        cases hq : lookM M2 (a, b) with
        | none =>
          have hnf := hide (unhide hne' (by rw [hq]; simp))
          rw [hq] at hlk
          clear hq
          simp only [Option.getD_none, Option.isSome_none] at hlk
          go_wp2_with fail
          go_ret
          exact ⟨ret_bool (unhide hnf).symm, (unhide hx2').trans (ext_self3 _ _ _ _)⟩
        | some q =>
          obtain ⟨lq, tq⟩ := q
          rw [hq] at hlk
          have hq' := hide hq
          clear hq
          simp only [Option.getD_some, Option.isSome_some] at hlk
          by_cases hh : lq = lab0 ∧ tq = wt0
          · obtain ⟨rfl, rfl⟩ := hh
            go_wp2_with fail
            go_roundw
            case rel => exact ⟨_, _, unhide hpd', unhide hgo' (unhide hq'), (unhide hit2').ext (ext_self3 _ _ _ _), (unhide hx2').trans (ext_self3 _ _ _ _)⟩
            case measure =>
              rw [((unhide hit2').ext (ext_self3 _ _ _ _)).left_eq, unhide hlt']
              simp
          · have hnf := hide (unhide hne' (by rw [unhide hq']; simpa using hh))
            have hh' : ¬ (lab0 = lq ∧ wt0 = tq) := fun h => hh ⟨h.1.symm, h.2.symm⟩
            have hh2 := hide hh'
            clear hh hh'
            go_wp2_with fail
            all_goals first
              | (go_ret; exact ⟨ret_bool (unhide hnf).symm, (unhide hx2').trans (ext_self3 _ _ _ _)⟩)
              | (exfalso; have h := unhide hh2; simp_all; done)
  · have hres : eqBE M1 M2 = false := by unfold eqBE; rw [decide_eq_false hl, Bool.false_and]
    have hres' := hide hres
    have hb : ((M1.length : Int) != (M2.length : Int)) = true := by simp; omega
    clear hres hl h1 h2
    have hself := Ext.refl w
    go_enter Tryz.func33, Tryz.ntmps33
    go_wp2_with fail
    go_ret
    exact ⟨ret_bool (unhide hres').symm, Ext.refl _⟩

theorem sub_perm {α : Type} [DecidableEq α] : ∀ (M1 M2 : List α), M1.Nodup → M1 ⊆ M2 → M2.length ≤ M1.length → M1.Perm M2
  | [], M2, _, _, h => by
    have : M2 = [] := List.eq_nil_of_length_eq_zero (by simpa using h)
    rw [this]
  | a :: l, M2, hn, hs, h => by
    obtain ⟨h1, h2⟩ := List.nodup_cons.1 hn
    have ha : a ∈ M2 := hs List.mem_cons_self
    have hp := List.perm_cons_erase ha
    have hl := hp.length_eq
    simp only [List.length_cons] at hl h
    refine ((sub_perm l (M2.erase a) h2 (fun x hx => ?_) (by omega)).cons a).trans hp.symm
    refine (List.mem_erase_of_ne ?_).2 (hs (List.mem_cons_of_mem _ hx))
    rintro rfl
    exact h1 hx
theorem eqB_plain {κ τ : Type} [DecidableEq κ] [DecidableEq τ] {lt : κ × τ → κ × τ → Prop} (hirr : ∀ a b, lt a b → ¬ lt b a) {M1 M2 S1 S2 : List (κ × τ)} (hn1 : (M1.map (·.1)).Nodup) (hn2 : (M2.map (·.1)).Nodup) (p1 : S1.Perm M1) (p2 : S2.Perm M2) (s1 : S1.Pairwise lt) (s2 : S2.Pairwise lt) :
    (decide (M1.length = M2.length) && M1.all fun p => decide (lookM M2 p.1 = some p.2)) = decide (S1 = S2) := by
  rw [Bool.eq_iff_iff]
  simp only [Bool.and_eq_true, decide_eq_true_eq, List.all_eq_true]
  constructor
  · rintro ⟨hl, ha⟩
    have hsub : M1 ⊆ M2 := fun p hp => (lookM_some hn2).1 (ha p hp)
    have hnd1 : M1.Nodup := (List.pairwise_map.1 hn1).imp fun h e => h (by rw [e])
    have hp : M1.Perm M2 := sub_perm M1 M2 hnd1 hsub (by omega)
    exact ((p1.trans hp).trans p2.symm).eq_of_pairwise (fun a b _ _ h1 h2 => absurd h2 (hirr a b h1)) s1 s2
  · rintro rfl
    have hp : M1.Perm M2 := p1.symm.trans p2
    exact ⟨hp.length_eq, fun p hm => (lookM_some hn2).2 (hp.mem_iff.1 hm)⟩
theorem IsG.eqV {w : World} {g1 v1 e1 g2 v2 e2 : Nat} {V1 V2 V1' V2' : List (Int × Thing)} {E1' E2' : List ((Int × Int) × Thing)} (h1 : GraphAt w g1 v1 e1 V1' E1') (h2 : GraphAt w g2 v2 e2 V2' E2') (p1 : V1.Perm V1') (p2 : V2.Perm V2') (s1 : V1.Pairwise ltV) (s2 : V2.Pairwise ltV) : eqBV V1' V2' = decide (V1 = V2) :=
  eqB_plain (fun a b h h' => by unfold ltV at h h'; omega) h1.vs.nodup h2.vs.nodup p1 p2 s1 s2
theorem IsG.eqE {w : World} {g1 v1 e1 g2 v2 e2 : Nat} {V1' V2' : List (Int × Thing)} {E1 E2 E1' E2' : List ((Int × Int) × Thing)} (h1 : GraphAt w g1 v1 e1 V1' E1') (h2 : GraphAt w g2 v2 e2 V2' E2') (p1 : E1.Perm E1') (p2 : E2.Perm E2') (s1 : E1.Pairwise ltE) (s2 : E2.Pairwise ltE) : eqBE E1' E2' = decide (E1 = E2) :=
  eqB_plain (fun a b h h' => by unfold ltE at h h'; omega) h1.es.nodup h2.es.nodup p1 p2 s1 s2

set_option maxRecDepth 100000 in
set_option maxHeartbeats 4000000 in
theorem equal_any (g1 v1 e1 g2 v2 e2 : Nat) (V1 V2 : List (Int × Thing)) (E1 E2 : List ((Int × Int) × Thing)) (w : World) (h1 : IsG w g1 v1 e1 V1 E1) (h2 : IsG w g2 v2 e2 V2 E2) :
    Calls Tryz.prog 15 #[.pointer (some ⟨g1, 0, none⟩), .pointer (some ⟨g2, 0, none⟩)] w fun e w' => e = .returned (.bool (decide (V1 = V2) && decide (E1 = E2))) ∧ Ext w w' := by
  obtain ⟨V1', E1', k1, p1, q1, i1⟩ := h1
  obtain ⟨V2', E2', k2, p2, q2, i2⟩ := h2
  have hqV := hide (IsG.eqV k1 k2 p1 p2 i1.sv i2.sv)
  have hqE := hide (IsG.eqE k1 k2 q1 q2 i1.se i2.se)
  have c0 := k1.ptr0
  have c1 := k1.ptr1
  have d0 := k2.ptr0
  have d1 := k2.ptr1
  have m1 := hide k1.vs
  have m2 := hide k2.vs
  have n1 := hide k1.es
  have n2 := hide k2.es
  clear k1 k2 p1 p2 q1 q2 i1 i2
  cases hv : decide (V1 = V2)
  · rw [hv] at hqV
    clear hv
    go_enter Tryz.func15, Tryz.ntmps15
    go_wp2_with fail
    refine wp_region_ext (P := Tryz.prog) [0,1,2,3,4,5,6,7,8,9,10,11,12,13,14,15,16,17,18,19,20] [] 0 #[true,true,true,true,true,true,true,true,true,true,true,true,true,true,true,true,true,true,true,true,true] (by kernel_rfl) (by kernel_rfl) rfl (by rfl) ?_
    iterate 10
      refine ql_want (v := ?_) rfl (by rfl) (fun W hW => ?_) ?_
      rotate_left
      · go_simp
        first | done | rfl | (go_at_call 32; refine (meqV_any v1 v2 V1' V2' _ ((unhide m1).ext hW) ((unhide m2).ext hW)).mono ?_; rw [unhide hqV]; rintro _ _ ⟨h1, h2⟩; refine ⟨_, h1, ?_, h2⟩; rfl)
      go_frame
    iterate 9
      refine ql_skip rfl (by rfl) ?_
      go_frame
    iterate 2
      refine ql_want (v := ?_) rfl (by rfl) (fun W hW => ?_) ?_
      rotate_left
      · go_simp
        first | done | rfl
      go_frame
    refine wpQL_nil (fun w3 hx3 => ?_)
    refine wpX_done (by kernel_rfl) ?_
    try go_frame
    go_wp2_with fail
    go_ret
    exact ⟨rfl, hx3⟩
  · rw [hv] at hqV
    clear hv
    go_enter Tryz.func15, Tryz.ntmps15
    go_wp2_with fail
    refine wp_region_ext (P := Tryz.prog) [0,1,2,3,4,5,6,7,8,9,10,11,12,13,14,15,16,17,18,19,20] [] 0 #[true,true,true,true,true,true,true,true,true,true,true,true,true,true,true,true,true,true,true,true,true] (by kernel_rfl) (by kernel_rfl) rfl (by rfl) ?_
    iterate 21
      refine ql_want (v := ?_) rfl (by rfl) (fun W hW => ?_) ?_
      rotate_left
      · go_simp
        first | done | rfl | (go_at_call 32; refine (meqV_any v1 v2 V1' V2' _ ((unhide m1).ext hW) ((unhide m2).ext hW)).mono ?_; rw [unhide hqV]; rintro _ _ ⟨h1, h2⟩; refine ⟨_, h1, ?_, h2⟩; rfl) | (go_at_call 33; refine (meqE_any e1 e2 E1' E2' _ ((unhide n1).ext hW) ((unhide n2).ext hW)).mono ?_; rw [unhide hqE]; rintro _ _ ⟨h1, h2⟩; refine ⟨_, h1, ?_, h2⟩; rfl)
      go_frame
    refine wpQL_nil (fun w3 hx3 => ?_)
    refine wpX_done (by kernel_rfl) ?_
    try go_frame
    go_wp2_with fail
    go_ret
    exact ⟨rfl, hx3⟩

theorem equal_self (g1 v1 e1 g2 v2 e2 : Nat) (V : List (Int × Thing)) (E : List ((Int × Int) × Thing)) (w : World) (h1 : IsG w g1 v1 e1 V E) (h2 : IsG w g2 v2 e2 V E) :
    Calls Tryz.prog 15 #[.pointer (some ⟨g1, 0, none⟩), .pointer (some ⟨g2, 0, none⟩)] w fun e w' => e = .returned (.bool true) ∧ Ext w w' := by
  have h := equal_any g1 v1 e1 g2 v2 e2 V V E E w h1 h2
  simpa using h
end Go.Proofs.YtdkhondfahebnaaGreat
/- maps.Clone, graph.Clone. Conditions: see each theorem. -/
namespace Go.Proofs.YtdkhondfahebnaaGreat
open Go Go.RowKit
attribute [local go_sem] qUpon lUpon

set_option maxRecDepth 100000 in
set_option maxHeartbeats 2000000 in
theorem mcloneV_any (b : Nat) (M : List (Int × Thing)) (w : World) (h : MapIs ekV evT i64ok w b M) :
    Calls Tryz.prog 25 #[.map (some b)] w fun e w' => ∃ c, e = .returned (.map (some c)) ∧ MapIs ekV evT i64ok w' c M ∧ Ext w w' ∧ w.heap.size ≤ c := by
  obtain ⟨es, clock, hb, hs, hm, hk⟩ := h
  have hq := fun w => run_eql_map_nil_sl (P := Tryz.prog) w 66 _ _ (some b) Tryz.underlying66
  have hmm := hide (And.intro hs (And.intro hm hk))
  clear hs hm hk
  go_enter Tryz.func25, Tryz.ntmps25
  go_wp2_with fail
  rw [run_callFunc_extern Tryz.func47 (by kernel_rfl) (by kernel_rfl) (by kernel_rfl) (e := Extern.MapsClone.clone) (by kernel_rfl), run_maps_clone_sl w 66 hb]
  simp only [Result.andThen]
  rw [Oper.upon_value]
  go_wp2_with fail
  rw [run_typeAssert_map_sl _ 66 20 _ _ _ Tryz.underlying66]
  simp only [Result.andThen]
  rw [Oper.upon_value]
  go_wp2_with fail
  go_ret
  obtain ⟨hs, hm, hk⟩ := unhide hmm
  exact ⟨w.heap.size, rfl, ⟨es, clock, (MapKept.heap_alloc w _).1, hs, hm, hk⟩, ext_self1 _ _, Nat.le_refl _⟩

set_option maxRecDepth 100000 in
set_option maxHeartbeats 2000000 in
theorem mcloneE_any (b : Nat) (M : List ((Int × Int) × Thing)) (w : World) (h : MapIs ekE evT okE w b M) :
    Calls Tryz.prog 26 #[.map (some b)] w fun e w' => ∃ c, e = .returned (.map (some c)) ∧ MapIs ekE evT okE w' c M ∧ Ext w w' ∧ w.heap.size ≤ c := by
  obtain ⟨es, clock, hb, hs, hm, hk⟩ := h
  have hq := fun w => run_eql_map_nil_sl (P := Tryz.prog) w 67 _ _ (some b) Tryz.underlying67
  have hmm := hide (And.intro hs (And.intro hm hk))
  clear hs hm hk
  go_enter Tryz.func26, Tryz.ntmps26
  go_wp2_with fail
  rw [run_callFunc_extern Tryz.func47 (by kernel_rfl) (by kernel_rfl) (by kernel_rfl) (e := Extern.MapsClone.clone) (by kernel_rfl), run_maps_clone_sl w 67 hb]
  simp only [Result.andThen]
  rw [Oper.upon_value]
  go_wp2_with fail
  rw [run_typeAssert_map_sl _ 67 20 _ _ _ Tryz.underlying67]
  simp only [Result.andThen]
  rw [Oper.upon_value]
  go_wp2_with fail
  go_ret
  obtain ⟨hs, hm, hk⟩ := unhide hmm
  exact ⟨w.heap.size, rfl, ⟨es, clock, (MapKept.heap_alloc w _).1, hs, hm, hk⟩, ext_self1 _ _, Nat.le_refl _⟩

set_option maxRecDepth 100000 in
set_option maxHeartbeats 4000000 in
theorem clone_any (g bv be : Nat) (V : List (Int × Thing)) (E : List ((Int × Int) × Thing)) (w : World) (hg : IsG w g bv be V E) :
    Calls Tryz.prog 11 #[.pointer (some ⟨g, 0, none⟩)] w fun e w' => ∃ o ov oe, e = .returned (.pointer (some ⟨o, 0, none⟩)) ∧ IsG w' o ov oe V E ∧ Ext w w' ∧ w.heap.size ≤ o ∧ w.heap.size ≤ ov ∧ w.heap.size ≤ oe := by
  obtain ⟨V', E', h1, p1, p2, hi⟩ := hg
  have c0 := h1.ptr0
  have c1 := h1.ptr1
  have m1 := hide h1.vs
  have m2 := hide h1.es
  have hp := hide (And.intro p1 (And.intro p2 hi))
  clear h1 p1 p2 hi
  go_enter Tryz.func11, Tryz.ntmps11
  go_wp2_with fail
  refine wp_region_ext (P := Tryz.prog) [0,1,2,3,5,6,7,8] [] 5 #[true,true,true,true,false,true,true,true,true,false,false,false,false] (by kernel_rfl) (by kernel_rfl) rfl (by rfl) ?_
  iterate 8
    refine ql_want (v := ?_) rfl (by rfl) (fun W hW => ?_) ?_
    rotate_left
    · go_simp
      first | done | rfl
    go_frame
  refine wpQL_nil (fun w1 hx1 => ?_)
  clear c0 c1
  refine lx_one (i := 4) (by kernel_rfl) rfl (by rfl) #[true,true,true,true,true,true,true,true,true,false,false,false,false] (by rfl) ?_
  go_simp
  refine (mcloneV_any bv V' _ ((unhide m1).ext hx1)).mono ?_
  rintro e w2 ⟨ov, rfl, hm2, hx2, n2⟩
  refine ⟨_, rfl, hx1.trans hx2, fun w3 hx3 => ?_⟩
  refine lx_one (i := 9) (by kernel_rfl) rfl (by rfl) #[true,true,true,true,true,true,true,true,true,true,false,false,false] (by rfl) ?_
  go_simp
  refine (mcloneE_any be E' _ ((unhide m2).ext ((hx1.trans hx2).trans hx3))).mono ?_
  rintro e w4 ⟨oe, rfl, hm4, hx4, n4⟩
  have hx14 := ((hx1.trans hx2).trans hx3).trans hx4
  refine ⟨_, rfl, hx14, fun w5 hx5 => ?_⟩
  have hne : ov ≠ oe := by
    have := hm2.lt
    have := Below.size hx3
    omega
  have s1 := Below.size hx1
  have s2 := Below.size ((hx1.trans hx2).trans hx3)
  have hv5 := (hm2.ext (hx3.trans hx4)).ext hx5
  have he5 := hm4.ext hx5
  have hx15 := hx14.trans hx5
  clear hx1 hx2 hx3 hx4 hx5 hx14 hm2 hm4
  refine lx_one (i := 10) (by kernel_rfl) rfl (by rfl) #[true,true,true,true,true,true,true,true,true,true,true,false,false] (by rfl) ?_
  go_simp
  intro w6 hx6
  refine lx_one (i := 11) (by kernel_rfl) rfl (by rfl) #[true,true,true,true,true,true,true,true,true,true,true,true,false] (by rfl) ?_
  go_simp
  have hb7 := Blk.new w6 69 #[.map (some ov), .map (some oe)]
  have hx67 := ext_self1 w6 (.cells #[.map (some ov), .map (some oe)] 69)
  have s3 := Below.size (hx15.trans hx6)
  have hx17 := (hx15.trans hx6).trans hx67
  have hv7 := (hv5.ext hx6).ext hx67
  have he7 := (he5.ext hx6).ext hx67
  generalize w6.heap.size = o at *
  generalize w6.alloc (.cells #[.map (some ov), .map (some oe)] 69) = w7 at *
  first | refine ⟨(by assumption), ?_⟩ | skip
  intro w8 hx8
  refine lx_one (i := 12) (by kernel_rfl) rfl (by rfl) #[true,true,true,true,true,true,true,true,true,true,true,true,true] (by rfl) ?_
  go_simp
  first | refine ⟨hx17.trans hx8, ?_⟩ | skip
  intro w9 hx9
  have hx19 := (hx17.trans hx8).trans hx9
  have hv9 := (hv7.ext hx8).ext hx9
  have he9 := (he7.ext hx8).ext hx9
  have hb9 := (hb7.ext hx8).ext hx9
  have hfin := hide (And.intro hx19 (And.intro hv9 (And.intro he9 hb9)))
  have hsz := hide (And.intro s1 (And.intro s2 s3))
  clear hx19 hv9 he9 hb9 hx17 hx8 hx9 hv7 he7 hb7 hx67 hx6 hv5 he5 hx15 s1 s2 s3
  refine wpX_done (by kernel_rfl) ?_
  try go_frame
  go_wp2_with fail
  go_ret
  obtain ⟨hx19, hv9, he9, hb9⟩ := unhide hfin
  obtain ⟨p1, p2, hi⟩ := unhide hp
  obtain ⟨s1, s2, s3⟩ := unhide hsz
  exact ⟨o, ov, oe, rfl, ⟨V', E', ⟨hb9, hv9, he9, hne⟩, p1, p2, hi⟩, hx19, by omega, by omega, by omega⟩
end Go.Proofs.YtdkhondfahebnaaGreat
/- TWO EQUAL SETS COMPARED. Conditions: see each theorem. -/
namespace Go.Proofs.YtdkhondfahebnaaGreat
open Go Go.RowKit

theorem items_same {P : Program} (w : World) (d : Nat) (e : TypeId) (he : P.underlying e = some (.int .u64)) (xs : Array Value) (h : ∀ i, i < 16 → ∃ m, xs[i]? = some (.int .u64 m)) :
    ∀ is : List Nat, (∀ i ∈ is, i < 16) → (Op.eqItems (d + 1) e 1 xs xs is).run P w = .ok true w
  | [], _ => by simp [Op.eqItems]
  | i :: is, hi => by
    obtain ⟨m, hm⟩ := h i (hi i (by simp))
    have px : (part e xs (i * 1)).run P w = .ok (.int .u64 m) w := by
      simp [part, isAgg, run_underlying he, hm]
    have pe : (Op.equalIn (d + 1) e (.int .u64 m) (.int .u64 m)).run P w = .ok true w := by
      rw [run_equalIn_int w d e .u64 .u64 _ _ he]
      simp
    simp only [Op.eqItems, Sem.run_bind, px, pe, Result.andThen_ok, Bool.not_true, Bool.false_eq_true, if_false]
    exact items_same w d e he xs h is (fun j hj => hi j (by simp [hj]))
set_option maxRecDepth 100000 in
theorem eq_Set (w : World) (N : Nat) : (Op.equalIn 10000 25 (.agg (setC N)) (.agg (setC N))).run Tryz.prog w = .ok true w := by
  have hc : Tryz.prog.cellsOf 23 = 1 := by kernel_rfl
  obtain ⟨i, hi⟩ : ∃ i, Tryz.prog.info? 23 = some i := ⟨_, rfl⟩
  have h := run_equalIn_array w 9999 (setC N) (setC N) Tryz.underlying25 hi
  rw [hc] at h
  exact h.trans (items_same w 9998 23 Tryz.underlying23 (setC N) (fun i hi => ⟨_, setC_get N hi⟩) (List.range 16) (fun i hi => List.mem_range.1 hi))
theorem eq_Set0 (w : World) : (Op.equalIn 10000 25 (.agg #[.int .u64 0, .int .u64 0, .int .u64 0, .int .u64 0, .int .u64 0, .int .u64 0, .int .u64 0, .int .u64 0, .int .u64 0, .int .u64 0, .int .u64 0, .int .u64 0, .int .u64 0, .int .u64 0, .int .u64 0, .int .u64 0]) (.agg #[.int .u64 0, .int .u64 0, .int .u64 0, .int .u64 0, .int .u64 0, .int .u64 0, .int .u64 0, .int .u64 0, .int .u64 0, .int .u64 0, .int .u64 0, .int .u64 0, .int .u64 0, .int .u64 0, .int .u64 0, .int .u64 0])).run Tryz.prog w = .ok true w := eq_Set w 0
end Go.Proofs.YtdkhondfahebnaaGreat
