/- Parts of a proof, laid together: Hq, Ob3, Os, L1. Each part says its own conditions. -/
import Derived.Test.YtmfkkkhddigkfaaGreatDoorB16
import Derived.Test.YtmfkkkhddigkfaaGreatDoorB4
import Derived.Test.YtmfkkkhddigkfaaGreatDoorB7
import Derived.LaidMore
import Derived.Stop.Joined
import Derived.MakeChecks
import Derived.Test.YtmfkkkhddigkfaaGreatDoorB1
import Derived.WalkKit
import Derived.ProofKit
import Derived.WideShapes
import Derived.OpenShut
import Derived.Test.YtmfkkkhddigkfaaGreatDoorB20
import Derived.Test.YtmfkkkhddigkfaaGreatDoorB21
/- THE REFERENCE'S SEARCH FOR A HOLE, plain: it finds what package chordal finds. No program in sight. Conditions: see each theorem. -/
namespace Go.Proofs.YtmfkkkhddigkfaaGreatDoor
open Go

section
variable {V : List (Int × Thing)} {E : List ((Int × Int) × Thing)}
/-- the new vertex is adjacent to no earlier one, but that the last one may be to the first -/
def fitsR (E : List ((Int × Int) × Thing)) (n : Nat) (way : List Int) (v : Int) : Bool :=
  (List.range (way.length - 1)).all fun k => !(decide (way[k]?.getD 0 = v) || (hasE (way[k]?.getD 0) v E && !(decide (k = 0) && decide (way.length + 1 = n))))
def holeQ (V : List (Int × Thing)) (E : List ((Int × Int) × Thing)) (n : Nat) : Nat → List Int → Option (List Int)
  | 0, way => if hasE (way[0]?.getD 0) (way.getLastD 0) E = true then some way else none
  | f + 1, way => (V.map (·.1)).findSome? fun v => if v ≤ way[0]?.getD 0 ∨ ¬ hasE (way.getLastD 0) v E = true then none else if fitsR E n way v = true then holeQ V E n f (way ++ [v]) else none
def holeTop (V : List (Int × Thing)) (E : List ((Int × Int) × Thing)) : Option (List Int) :=
  (List.range (V.length - 3)).findSome? fun i => (V.map (·.1)).findSome? fun s => holeQ V E (i + 4) (i + 3) [s]

/-- the beginning of a hole of length n, as far as it goes -/
def Okw (E : List ((Int × Int) × Thing)) (n : Nat) (w : List Int) : Prop := ∀ (i k : Nat) (h1 : i < w.length) (h2 : k < w.length), i < k → w[i] ≠ w[k] ∧ (¬ (i = 0 ∧ k + 1 = n) → (hasE w[i] w[k] E = true ↔ k = i + 1)) ∧ (i = 0 → w[i] < w[k])
theorem good_okw {n : Nat} {c : List Int} (hn : 4 ≤ n) : Good E n c ↔ c.length = n ∧ Okw E n c ∧ ∀ (h0 : 0 < c.length) (h1 : c.length - 1 < c.length), hasE c[0] c[c.length - 1] E = true := by
  constructor
  · rintro ⟨h1, h2, h3⟩
    refine ⟨h1, fun i k hi hk hik => ⟨(h2.2 i k hi hk hik).1, fun hne => (h2.2 i k hi hk hik).2.trans ⟨fun h => ?_, fun h => .inl h⟩, fun h0 => ?_⟩, fun h0 h4 => ?_⟩
    · rcases h with h | h
      · exact h
      · exact absurd ⟨h.1, by omega⟩ hne
    · subst h0
      exact h3 k hk (by omega)
    · exact (h2.2 0 (c.length - 1) h0 h4 (by omega)).2.2 (.inr ⟨rfl, by omega⟩)
  · rintro ⟨h1, h2, h3⟩
    refine ⟨h1, ⟨by omega, fun i k hi hk hik => ⟨(h2 i k hi hk hik).1, ?_⟩⟩, fun k hk h0 => (h2 0 k (by omega) hk h0).2.2 rfl⟩
    by_cases he : i = 0 ∧ k + 1 = n
    · obtain ⟨rfl, he⟩ := he
      have hk2 : k = c.length - 1 := by omega
      subst hk2
      exact ⟨fun _ => .inr ⟨rfl, by omega⟩, fun _ => h3 (by omega) hk⟩
    · refine ((h2 i k hi hk hik).2.1 he).trans ⟨fun h => .inl h, fun h => ?_⟩
      rcases h with h | h
      · exact h
      · exact absurd ⟨h.1, by omega⟩ he
theorem Okw.pre {n : Nat} {w c : List Int} (h : Okw E n c) (hp : w <+: c) : Okw E n w := fun i k h1 h2 h3 => by
  have hl := hp.length_le
  have := h i k (by omega) (by omega) h3
  obtain ⟨r, rfl⟩ := hp
  rw [List.getElem_append_left h1, List.getElem_append_left h2] at this
  exact this
theorem last_get {w : List Int} (h : 0 < w.length) : w.getLastD 0 = w[w.length - 1] := by
  have hne : w ≠ [] := List.length_pos_iff.1 h
  rw [List.getLastD_eq_getLast?, List.getLast?_eq_some_getLast hne, List.getLast_eq_getElem hne]
  rfl
theorem first_get {w : List Int} (h : 0 < w.length) : w[0]?.getD 0 = w[0] := by rw [List.getElem?_eq_getElem h]; rfl
/-- a step of the search -/
theorem okw_step (hi : GInv V E) {n : Nat} (hn : 4 ≤ n) {w : List Int} {v : Int} (h0 : 0 < w.length) (hw : Okw E n w) : Okw E n (w ++ [v]) ∧ v ∈ V.map (·.1) ↔ (¬ (v ≤ w[0]?.getD 0 ∨ ¬ hasE (w.getLastD 0) v E = true)) ∧ fitsR E n w v = true := by
  rw [last_get h0, first_get h0]
  have hlen : (w ++ [v]).length = w.length + 1 := by simp
  have hv : ∀ (h : w.length < (w ++ [v]).length), (w ++ [v])[w.length] = v := fun h => by simp
  have hfit : fitsR E n w v = true ↔ ∀ k (hk : k < w.length), k + 1 < w.length → w[k] ≠ v ∧ (hasE w[k] v E = true → k = 0 ∧ w.length + 1 = n) := by
    unfold fitsR
    rw [List.all_eq_true]
    constructor
    · intro h k hk hk1
      have := h k (List.mem_range.2 (by omega))
      rw [List.getElem?_eq_getElem hk] at this
      simp only [Option.getD_some, Bool.not_eq_true', Bool.or_eq_false_iff, decide_eq_false_iff_not, Bool.and_eq_false_iff, Bool.not_eq_false', Bool.and_eq_true, decide_eq_true_eq] at this
      refine ⟨this.1, fun he => ?_⟩
      rcases this.2 with h2 | h2
      · rw [he] at h2; cases h2
      · exact h2
    · intro h k hk
      have hk2 := List.mem_range.1 hk
      have := h k (by omega) (by omega)
      rw [List.getElem?_eq_getElem (show k < w.length by omega)]
      simp only [Option.getD_some, Bool.not_eq_true', Bool.or_eq_false_iff, decide_eq_false_iff_not, Bool.and_eq_false_iff, Bool.not_eq_false', Bool.and_eq_true, decide_eq_true_eq]
      refine ⟨this.1, ?_⟩
      cases he : hasE w[k] v E
      · exact .inl rfl
      · exact .inr (this.2 he)
  rw [hfit]
  constructor
  · rintro ⟨h, hm⟩
    have hk : ∀ k (hk : k < w.length), w[k] ≠ v ∧ (¬ (k = 0 ∧ w.length + 1 = n) → (hasE w[k] v E = true ↔ w.length = k + 1)) ∧ (k = 0 → w[k] < v) := fun k hk => by
      have := h k w.length (by omega) (by omega) hk
      rw [List.getElem_append_left hk, hv] at this
      exact this
    refine ⟨fun hc => ?_, fun k hk1 hk2 => ⟨(hk k hk1).1, fun he => ?_⟩⟩
    · rcases hc with hc | hc
      · have := (hk 0 h0).2.2 rfl
        omega
      · exact hc (((hk (w.length - 1) (by omega)).2.1 (by omega)).2 (by omega))
    · by_cases hx : k = 0 ∧ w.length + 1 = n
      · exact hx
      · have := ((hk k hk1).2.1 hx).1 he
        omega
  · rintro ⟨h1, h2⟩
    have h3 : w[0] < v := by
      rcases Int.lt_or_le w[0] v with h | h
      · exact h
      · exact absurd (.inl h) h1
    have h4 : hasE w[w.length - 1] v E = true := by
      cases he : hasE w[w.length - 1] v E
      · exact absurd (.inr (by rw [he]; simp)) h1
      · rfl
    refine ⟨fun i k hi1 hk1 hik => ?_, (hasE_rng hi h4).2⟩
    rw [hlen] at hi1 hk1
    by_cases hk : k < w.length
    · rw [List.getElem_append_left (by omega), List.getElem_append_left hk]
      exact hw i k (by omega) hk hik
    · have hke : k = w.length := by omega
      subst hke
      rw [List.getElem_append_left (by omega), hv]
      by_cases hlast : i + 1 = w.length
      · have hie : i = w.length - 1 := by omega
        subst hie
        exact ⟨hasE_ne hi h4, fun _ => ⟨fun _ => by omega, fun _ => h4⟩, fun h => by
          have e : w[w.length - 1] = w[0] := by congr 1
          rw [e]; exact h3⟩
      · have := h2 i (by omega) (by omega)
        refine ⟨this.1, fun hne => ⟨fun he => absurd (this.2 he) hne, fun he => by omega⟩, fun h => by subst h; exact h3⟩
theorem pre_snoc {w c : List Int} (hp : w <+: c) (h : w.length < c.length) : w ++ [c[w.length]] <+: c := by
  have := take_snoc h
  rwa [← List.prefix_iff_eq_take.1 hp] at this
theorem take_pre {w c : List Int} (hp : w <+: c) : c.take w.length = w := (List.prefix_iff_eq_take.1 hp).symm
/-- what the search from a beginning finds -/
def HoleOk (E : List ((Int × Int) × Thing)) (n : Nat) (way : List Int) : Option (List Int) → Prop
  | none => ∀ c, Good E n c → ¬ way <+: c
  | some c => Good E n c ∧ way <+: c ∧ ∀ j (hj : j < c.length), way.length ≤ j → ∀ v, v < c[j] → ¬ Pre E n (c.take j ++ [v])
/-- the least of those that go, out of a rising list -/
theorem least_of {n : Nat} (hs : (V.map (·.1)).Pairwise (· < ·)) {way : List Int} {g : Int → Option (List Int)} (hlt : way.length < n)
    (hg : ∀ v, v ∈ V.map (·.1) → (g v = none ∧ ∀ c, Good E n c → ¬ (way ++ [v]) <+: c) ∨ HoleOk E n (way ++ [v]) (g v)) (hm : ∀ c, Good E n c → ∀ k (hk : k < c.length), c[k] ∈ V.map (·.1)) : HoleOk E n way ((V.map (·.1)).findSome? g) := by
  have hno : ∀ v, v ∈ V.map (·.1) → g v = none → ∀ c, Good E n c → ¬ (way ++ [v]) <+: c := fun v hv hn => by
    rcases hg v hv with h | h
    · exact h.2
    · rw [hn] at h; exact h
  cases hr : (V.map (·.1)).findSome? g with
  | none =>
    intro c hc hp
    have hl : way.length < c.length := by rw [hc.1]; exact hlt
    have hv := hm c hc _ hl
    exact hno _ hv (List.findSome?_eq_none_iff.1 hr _ hv) c hc (pre_snoc hp hl)
  | some c =>
    obtain ⟨l1, v, l2, he, hgv, hpre⟩ := List.findSome?_eq_some_iff.1 hr
    have hv : v ∈ V.map (·.1) := by rw [he]; simp
    rcases hg v hv with h | h
    · rw [h.1] at hgv; cases hgv
    · rw [hgv] at h
      obtain ⟨h1, h2, h3⟩ := h
      have hp : way <+: c := (List.prefix_append way [v]).trans h2
      refine ⟨h1, hp, fun j hj hw v' hv' => ?_⟩
      rcases Nat.eq_or_lt_of_le hw with e | hlt2
      · subst e
        have hcv : c[way.length] = v := by
          have := List.prefix_iff_getElem?.1 h2 way.length (by simp)
          rw [List.getElem?_eq_getElem hj] at this
          simpa using this
        rw [hcv] at hv'
        rw [take_pre hp]
        rintro ⟨d, hd, hdp⟩
        have hdl : way.length < d.length := by rw [hd.1]; exact hlt
        have hdv : d[way.length] = v' := by
          have := List.prefix_iff_getElem?.1 hdp way.length (by simp)
          rw [List.getElem?_eq_getElem hdl] at this
          simpa using this
        have hmem := hm d hd _ hdl
        rw [hdv, he] at hmem
        rw [he] at hs
        rcases List.mem_append.1 hmem with h4 | h4
        · exact hno v' (by rw [he]; simp [h4]) (hpre v' h4) d hd hdp
        · rcases List.mem_cons.1 h4 with h4 | h4
          · omega
          · have := (List.pairwise_cons.1 (List.pairwise_append.1 hs).2.1).1 v' h4
            omega
      · exact h3 j hj (by simp; omega) v' hv'
theorem good_mem (hi : GInv V E) {n : Nat} (c : List Int) (h : Good E n c) (k : Nat) (hk : k < c.length) : c[k] ∈ V.map (·.1) := by
  have h4 := h.2.1.1
  by_cases h0 : k + 1 < c.length
  · exact (hasE_rng hi ((h.2.1.2 k (k + 1) hk h0 (by omega)).2.2 (.inl rfl))).1
  · have := (hasE_rng hi ((h.2.1.2 (k - 1) k (by omega) hk (by omega)).2.2 (.inl (by omega)))).2
    exact this
theorem holeQ_ok (hi : GInv V E) {n : Nat} (hn : 4 ≤ n) : ∀ (f : Nat) (way : List Int), way.length + f = n → 0 < way.length → Okw E n way → HoleOk E n way (holeQ V E n f way)
  | 0, way, hl, h0, hw => by
    rw [holeQ, last_get h0, first_get h0]
    have key : hasE way[0] way[way.length - 1] E = true ↔ Good E n way := by
      rw [good_okw hn]
      exact ⟨fun h => ⟨by omega, hw, fun _ _ => h⟩, fun h => h.2.2 h0 (by omega)⟩
    split
    · rename_i h
      refine ⟨key.1 h, List.prefix_refl _, fun j hj hw => by omega⟩
    · rename_i h
      intro c hc hp
      have : way = c := hp.eq_of_length (by rw [hc.1]; omega)
      subst this
      exact h (key.2 hc)
  | f + 1, way, hl, h0, hw => by
    rw [holeQ]
    refine least_of (sv_map.1 hi.sv) (by omega) (fun v hv => ?_) (good_mem hi)
    have hst := okw_step hi hn (v := v) h0 hw
    by_cases h1 : v ≤ way[0]?.getD 0 ∨ ¬ hasE (way.getLastD 0) v E = true
    · rw [if_pos h1]
      refine .inl ⟨rfl, fun c hc hp => ?_⟩
      exact (hst.1 ⟨(((good_okw hn).1 hc).2.1).pre hp, hv⟩).1 h1
    · rw [if_neg h1]
      by_cases h2 : fitsR E n way v = true
      · rw [if_pos h2]
        exact .inr (holeQ_ok hi hn f (way ++ [v]) (by simp; omega) (by simp) (hst.2 ⟨h1, h2⟩).1)
      · rw [if_neg h2]
        refine .inl ⟨rfl, fun c hc hp => ?_⟩
        exact h2 (hst.1 ⟨(((good_okw hn).1 hc).2.1).pre hp, hv⟩).2
theorem good_len (hi : GInv V E) {n : Nat} {c : List Int} (h : Good E n c) : n ≤ V.length := by
  have h1 : c.Nodup := by
    rw [List.nodup_iff_pairwise_ne, List.pairwise_iff_getElem]
    exact fun i j h1 h2 h3 => (h.2.1.2 i j h1 h2 h3).1
  have := len_le_sub c (V.map (·.1)) h1 (fun x hx => by
    obtain ⟨k, hk, rfl⟩ := List.getElem_of_mem hx
    exact good_mem hi c h k hk)
  rw [h.1, List.length_map] at this
  exact this
theorem okw_one {n : Nat} {s : Int} : Okw E n [s] := fun i k h1 h2 h3 => by simp at h1 h2; omega
theorem holeTop_ok (hi : GInv V E) : match holeTop V E with
    | none => ∀ n c, ¬ Good E n c
    | some c => ∃ n, Good E n c ∧ Greedy E n c ∧ ∀ n' c', Good E n' c' → n ≤ n' := by
  have h0 : ∀ i, HoleOk E (i + 4) [] ((V.map (·.1)).findSome? fun s => holeQ V E (i + 4) (i + 3) [s]) := fun i =>
    least_of (sv_map.1 hi.sv) (by simp) (fun s _ => .inr (holeQ_ok hi (by omega) (i + 3) [s] (by simp; omega) (by simp) okw_one)) (good_mem hi)
  unfold holeTop
  cases hr : (List.range (V.length - 3)).findSome? fun i => (V.map (·.1)).findSome? fun s => holeQ V E (i + 4) (i + 3) [s] with
  | none =>
    intro n c hc
    have h4 := hc.four
    have hl := good_len hi hc
    have h1 := List.findSome?_eq_none_iff.1 hr (n - 4) (List.mem_range.2 (by omega))
    have h2 := h0 (n - 4)
    rw [h1, show n - 4 + 4 = n by omega] at h2
    exact h2 c hc (List.nil_prefix)
  | some c =>
    obtain ⟨l1, i, l2, he, hgv, hpre⟩ := List.findSome?_eq_some_iff.1 hr
    have h2 := h0 i
    rw [hgv] at h2
    refine ⟨i + 4, h2.1, fun j hj v hv => h2.2.2 j hj (Nat.zero_le _) v hv, fun n' c' hc' => ?_⟩
    rcases Nat.lt_or_ge n' (i + 4) with hlt | hge
    · exfalso
      have h4 := hc'.four
      have hm : n' - 4 ∈ List.range (V.length - 3) := List.mem_range.2 (by have := good_len hi hc'; omega)
      have hpw := @List.pairwise_lt_range (V.length - 3)
      rw [he] at hm hpw
      have hin : n' - 4 ∈ l1 := by
        rcases List.mem_append.1 hm with h | h
        · exact h
        · rcases List.mem_cons.1 h with h | h
          · omega
          · have := (List.pairwise_cons.1 (List.pairwise_append.1 hpw).2.1).1 _ h
            omega
      have h5 := h0 (n' - 4)
      rw [hpre _ hin, show n' - 4 + 4 = n' by omega] at h5
      exact h5 c' hc' List.nil_prefix
    · exact hge
/-- PACKAGE chordal AND THE REFERENCE FIND THE SAME -/
theorem hole_refQ (hi : GInv V E) (hf : V.length ≤ 1024) : holeS V E = ((holeTop V E).getD [], (holeTop V E).isSome) := by
  have htop := holeTop_ok hi
  have hpo : peoS V E = ordR V E 1025 (V.map (·.1)) := by
    unfold peoS
    rw [poS_ordR hi 1025 (vS V) (fun x hx => (mem_vS hi).1 hx) (by rw [toL_vS hi, List.length_map]; omega), toL_vS hi]
  have hnd : (V.map (·.1)).Nodup := (sv_map.1 hi.sv).imp fun h => Int.ne_of_lt h
  have hcho := ordR_iff hi (f := 1025) hnd (fun x hx => hx) (by rw [List.length_map]; omega)
  unfold holeS
  rw [hpo]
  by_cases hc : Cho E (V.map (·.1))
  · rw [if_pos (hcho.2 hc)]
    have hno : ∀ n c, ¬ Good E n c := fun n c h => no_cyc hi hc (c := c) (fun x hx => by
      obtain ⟨k, hk, rfl⟩ := List.getElem_of_mem hx
      exact good_mem hi c h k hk) h.2.1
    cases ht : holeTop V E with
    | none => rfl
    | some c =>
      rw [ht] at htop
      obtain ⟨n, h, _⟩ := htop
      exact absurd h (hno n c)
  · rw [if_neg (fun h => hc (hcho.1 h))]
    have hex : ∃ n c, Good E n c := by
      apply Classical.byContradiction
      intro hno
      refine hc (cho_of hi _ _ (Nat.le_refl _) hnd fun c _ hcy => ?_)
      obtain ⟨d, hd⟩ := good_of hcy
      exact hno ⟨_, d, hd⟩
    rcases hole_spec hi with h | ⟨n, c, h1, h2, h3, h4⟩
    · obtain ⟨n, c, h2⟩ := hex
      exact absurd h2 (h.1 n c)
    · rw [h1]
      cases ht : holeTop V E with
      | none =>
        rw [ht] at htop
        exact absurd h2 (htop n c)
      | some d =>
        rw [ht] at htop
        obtain ⟨m, k1, k2, k3⟩ := htop
        have hnm : n = m := Nat.le_antisymm (h4 m d k1) (k3 n c h2)
        subst hnm
        rw [greedy_uniq h2 k1 h3 k2]
        rfl
end
end Go.Proofs.YtmfkkkhddigkfaaGreatDoor
/- ARGUMENTS OPENED, further: slices of ints; the table that the row lists as laid. Conditions: see each theorem. -/
namespace Go.Proofs.YtmfkkkhddigkfaaGreatDoor
open Go Go.RowKit Go.ChangeShapes Go.WideShapes Go.Deep

section
variable {H : Type} {enc : TypeId × Value → H} {w : World} {base : Nat} {spare : Nat → Bool} {held : Bool} {fuel : Nat} {x : DataW H × List MemPlace} {a : Option Addr} {len cap : Nat}
theorem open_ints (h : DataW.trod enc Tryz.prog w base spare held fuel 31 [.slice a len cap] = some x) : ∃ L : List Int, L.length = len ∧ SlAt encI 1 w a L ∧ (∀ d ∈ L, i64ok d) ∧ len ≤ 9223372036854775807 ∧ len ≤ cap := by
  rcases open_slice Tryz.underlying31 h with h0 | ⟨a', len', cap', m, n, D, Pl, hcs, hb, hl, hm, hmm, hx, hi⟩
  · have h0 := h0.1
    simp at h0
    obtain ⟨rfl, rfl, rfl⟩ := h0
    exact ⟨[], rfl, SlAt.nil, by simp, by omega, by omega⟩
  · simp at hcs
    obtain ⟨rfl, rfl, rfl⟩ := hcs
    obtain ⟨L, h1, h2, h3⟩ := slAt_of (α := Int) (enc := encI) (k := 1) (w := w) (a := a') (len := len) (p := i64ok) (fun x => ⟨_, rfl⟩) (fun i hil => by
      have hle : len ≤ m := by rw [hmm]; split <;> omega
      obtain ⟨cs', hc, ht'⟩ := hi i (by omega)
      obtain ⟨k, e, _, wk⟩ := DataW.trod_int Tryz.underlying3 ht'
      subst e
      obtain ⟨_, hcl, hat⟩ := World.cells?_some hc
      have hk : Tryz.prog.cellsOf 3 = 1 := by kernel_rfl
      refine ⟨k, fun j u hu => ?_, i64_of_wf wk⟩
      match j, hu with
      | 0, hu =>
        simp [encI] at hu
        subst hu
        have h0 := hat 0 (by rw [hk]; omega)
        rw [hk] at h0
        rw [Go.Deep.add_add] at h0
        simpa using h0)
    exact ⟨L, h1, h2, h3, by have := hm; unfold maxLen at this; omega, hl⟩
end

theorem gTab : Tryz.prog.globalNamed "math/bits.deBruijn64tab" = some 0 := by kernel_rfl
theorem tTab : (Tryz.prog.globals[0]?).map (·.type) = some 176 := by kernel_rfl
def laidL : List (String × DataW Unit) := [("math/bits.deBruijn64tab", Rows.laid_math_bits_deBruijn64tab)]
theorem laid_list {H : Type} : (Rows.laid_math_bits_deBruijn64tab : DataW H) = .agg (Lib.deBruijn64tab.map fun (n : Nat) => DataW.lit (.int .u8 (n : Int))) := by kernel_rfl
theorem tab_len : Lib.deBruijn64tab.length = 64 := by decide
theorem tab_of_laid {W : World} (h : laidMetH Tryz.prog laidL W) : Tab W := by
  rw [MakeChecks.laidMetH_plain _ _ _ (by kernel_rfl)] at h
  obtain ⟨ps, ⟨g0, t0, cs0, f0, p0, q0, hg0, ht0, hv0, hd0, _⟩, _⟩ := h
  obtain rfl := Option.some.inj (gTab.symm.trans hg0)
  obtain rfl := Option.some.inj (tTab.symm.trans ht0)
  obtain ⟨xs, m1, rfl, hx1, hlen, hn3, hel⟩ := DataW.trod_array Tryz.underlying176 hd0
  rw [laid_list] at hx1
  simp only [Prod.mk.injEq, DataW.agg.injEq] at hx1
  have hc8 : Tryz.prog.cellsOf 5 = 1 := by kernel_rfl
  intro j hj
  have hj64 : j < 64 := by rw [tab_len] at hj; exact hj
  have hjx : j < xs.length := by omega
  have h0 := hel j hj64
  rw [List.getElem?_eq_getElem hjx] at h0
  obtain ⟨k, e1, e2, _⟩ := DataW.trod_int Tryz.underlying5 h0
  have hl := congrArg (fun l => l[j]?) hx1.1
  simp only [List.getElem?_map, List.getElem?_eq_getElem hjx, List.getElem?_eq_getElem hj, Option.map_some, e2, Option.some.injEq, DataW.lit.injEq, Lit.int.injEq, true_and] at hl
  rw [World.var?_cell hg0 hv0 j]
  rw [hc8, Nat.mul_one] at e1
  have e3 : (cs0.toList.drop j)[0]? = some (.int .u8 k) := by
    have := congrArg (fun l => l[0]?) e1
    simpa using this
  rw [List.getElem?_drop, Nat.add_zero, Array.getElem?_toList] at e3
  rw [e3, ← hl]
  simp [hj]
end Go.Proofs.YtmfkkkhddigkfaaGreatDoor
/- ARGUMENTS OPENED, further: a set by value. Conditions: see each theorem. -/
namespace Go.Proofs.YtmfkkkhddigkfaaGreatDoor
open Go Go.RowKit Go.ChangeShapes Go.WideShapes Go.Deep

/-- the number whose words are given -/
def packN (s : Nat → Nat) : Nat → Nat
  | 0 => 0
  | k + 1 => packN s k + s k * 2 ^ (64 * k)
theorem packN_lt (s : Nat → Nat) (h : ∀ i, s i < 18446744073709551616) : ∀ k, packN s k < 2 ^ (64 * k)
  | 0 => by simp [packN]
  | k + 1 => by
    have ih := packN_lt s h k
    have hk := h k
    have e : 2 ^ (64 * (k + 1)) = 18446744073709551616 * 2 ^ (64 * k) := by rw [show 64 * (k + 1) = 64 + 64 * k by omega, Nat.pow_add]
    rw [packN, e]
    have : (s k + 1) * 2 ^ (64 * k) ≤ 18446744073709551616 * 2 ^ (64 * k) := Nat.mul_le_mul_right _ hk
    rw [Nat.add_mul, Nat.one_mul] at this
    omega
theorem packN_word (s : Nat → Nat) (h : ∀ i, s i < 18446744073709551616) : ∀ k i, i < k → wdN (packN s k) i = s i
  | 0, i, hi => by omega
  | k + 1, i, hi => by
    have hlt := packN_lt s h k
    by_cases he : i = k
    · subst he
      unfold wdN
      rw [packN, Nat.shiftRight_eq_div_pow, Nat.add_mul_div_right _ _ (Nat.pow_pos (by decide)), Nat.div_eq_of_lt hlt, Nat.zero_add]
      exact Nat.mod_eq_of_lt (h i)
    · have ih := packN_word s h k i (by omega)
      rw [← ih]
      apply Nat.eq_of_testBit_eq
      intro j
      rw [wdN_bit, wdN_bit]
      by_cases hj : j < 64
      · simp only [hj, decide_true, Bool.true_and]
        rw [packN, Nat.add_comm, Nat.mul_comm, Nat.testBit_two_pow_mul_add _ hlt]
        rw [if_pos (by omega)]
      · simp [hj]
section
variable {H : Type} {enc : TypeId × Value → H} {w : World} {base : Nat} {spare : Nat → Bool} {held : Bool}
set_option maxRecDepth 100000 in
theorem open_set {v : Value} {d : DataW H} {p : List MemPlace} {r : Reach} {b0 : Nat} (hv : Value.okWide Tryz.prog w r b0 51 v) (h : DataW.Trod enc Tryz.prog w base spare held 51 v d p) :
    ∃ N : Nat, v = .agg (setC N) ∧ N < 2 ^ (64 * 16) := by
  have hv2 := hv
  unfold Value.okWide at hv2
  rw [Tryz.underlying51] at hv2
  obtain ⟨cs, rfl, hsz, _⟩ := hv2
  have h16 : cs.size = 16 := hsz.trans (by kernel_rfl)
  obtain ⟨fuel, hf⟩ := h
  obtain ⟨xs, m, _, _, _, hlen, hg⟩ := DataW.trod_array Tryz.underlying51 hf
  have hce : Program.cellsOf Tryz.prog 49 = 1 := by kernel_rfl
  have hall : ∀ i, i < 16 → ∃ n : Nat, cs[i]? = some (.int .u64 (n : Int)) ∧ n < 18446744073709551616 := by
    intro i hi
    have h1 := hg i hi
    rw [hce, Nat.mul_one] at h1
    have hc : cs[i]? = some (cs[i]'(by omega)) := Array.getElem?_eq_getElem (by omega)
    have hd : (cs.toList.drop i).take 1 = [cs[i]'(by omega)] := by
      rw [List.drop_eq_getElem_cons (by simpa using (show i < cs.size by omega))]
      simp
    have h2 : DataW.trod enc Tryz.prog w base spare held m 49 [cs[i]'(by omega)] = some (xs[i]'(by omega)) := by
      rw [← hd]
      exact h1.trans (List.getElem?_eq_getElem (by omega))
    obtain ⟨z, ez, _, wz⟩ := DataW.trod_int Tryz.underlying49 h2
    simp only [List.cons.injEq, and_true] at ez
    have hb := Go.bounds_u64 wz
    refine ⟨z.toNat, ?_, by omega⟩
    rw [hc, ez, show ((z.toNat : Nat) : Int) = z by omega]
  obtain ⟨f, hf2⟩ := choose_lt hall
  have hN : ∀ i, (if i < 16 then f i else 0) < 18446744073709551616 := by
    intro i
    split
    · exact (hf2 i (by omega)).2
    · decide
  refine ⟨packN (fun i => if i < 16 then f i else 0) 16, ?_, packN_lt _ hN 16⟩
  congr 1
  apply Array.ext_getElem?
  intro i
  by_cases hi : i < 16
  · rw [setC_get _ hi, (hf2 i hi).1]
    unfold wd
    rw [packN_word _ hN 16 i hi, if_pos hi]
  · have h1 : ∀ a : Array Value, a.size = 16 → a[i]? = none := fun a h => Array.getElem?_eq_none (by omega)
    rw [h1 _ h16, h1 _ (setC_size _)]
end
end Go.Proofs.YtmfkkkhddigkfaaGreatDoor
/- palmettelaw24.ChordalPerfectOrder answers true. Conditions: see each theorem. -/
namespace Go.Proofs.YtmfkkkhddigkfaaGreatDoor
open Go Go.RowKit Go.Shelf
attribute [local go_sem] qUpon lUpon
attribute [local irreducible] wpO wpX wpQL

theorem find_congr {α β : Type} {f g : α → Option β} : ∀ {l : List α}, (∀ x ∈ l, f x = g x) → l.findSome? f = l.findSome? g
  | [], _ => rfl
  | x :: l, h => by
    rw [List.findSome?_cons, List.findSome?_cons, h x (by simp), find_congr (fun y hy => h y (by simp [hy]))]
theorem ordR_fuel (V : List (Int × Thing)) (E : List ((Int × Int) × Thing)) (f : Nat) : ∀ (f' : Nat) (L : List Int), L.length < f → L.length < f' → ordR V E f L = ordR V E f' L := by
  induction f with
  | zero => intro f' L h; omega
  | succ f ih =>
    intro f' L h h'
    cases f' with
    | zero => omega
    | succ f' =>
      by_cases hL : L = []
      · rw [ordR, ordR, if_pos hL, if_pos hL]
      · rw [ordR_step V E f hL, ordR_step V E f' hL]
        refine find_congr fun x hx => ?_
        unfold ordG
        have := out_len hx
        rw [ih f' (outR L x) (by omega) (by omega)]
theorem peo_ref {V : List (Int × Thing)} {E : List ((Int × Int) × Thing)} (hi : GInv V E) : ordR V E 4097 (V.map (·.1)) = peoS V E := by
  have hl : (V.map (·.1)).length ≤ 1024 := by rw [List.length_map]; exact hi.nv
  unfold peoS
  rw [poS_ordR hi 1025 (vS V) (fun x hx => (mem_vS hi).1 hx) (by rw [toL_vS hi]; omega), toL_vS hi]
  exact ordR_fuel V E 4097 1025 _ (by omega) (by omega)
theorem peo_len {V : List (Int × Thing)} {E : List ((Int × Int) × Thing)} : ((peoS V E).getD []).length ≤ 1025 := by
  cases h : peoS V E with
  | none => simp
  | some o => exact (poS_mem _ _ _ h).1

set_option maxRecDepth 100000 in
set_option maxHeartbeats 16000000 in
theorem chordalPerfectOrder_walk (A : Option Addr) (L : List Ed) (cL : Nat) (w : World) (hL : SlAt encD 5 w A L) (hT : Tab w) :
    Calls Tryz.prog 3 #[.slice A L.length cL] w fun e w' => e = .returned (.bool true) ∧ Ext w w' := by
  have hL' := hide hL
  have hT' := hide hT
  clear hL hT
  have hP := hide (Sp.new w)
  refine callsIn_wide.1 (callsIn_of_wp_marks (n := 0) Tryz.func3 rfl trivial (wpIn_wide.2 ?_))
  simp only [Tryz.ntmps3, List.size_toArray, List.length_cons, List.length_nil, Nat.reduceAdd, Nat.reduceSub, Array.replicate_succ, Array.replicate_zero, List.push_toArray, List.append_toArray, List.nil_append, List.cons_append]
  try dsimp only
  repeat ((fail_if_success (with_reducible refine wp_reg (id := 1) ?_)); (first | go_values | go_skip | go_step | go_guarded | go_upon | go_in | go_back | fail))
  with_reducible refine wp_reg (id := 1) ?_
  refine wpO_want rfl ?_
  go_simp
  refine (known24_any _ ((unhide hT').ext (unhide hP).extf)).mono ?_
  rintro _ y1 ⟨rfl, hxc⟩
  refine ⟨_, rfl, ?_⟩
  replace hP : Hid (Sp w [] w [] [] [] y1) := hide ((unhide hP).ext hxc)
  clear hxc
  refine wpO_want rfl ?_
  go_simp
  refine wpO_done ?_
  try go_frame
  try dsimp only
  repeat ((fail_if_success (with_reducible refine wp_reg (id := 3) ?_)); (first | go_values | go_skip | go_step | go_guarded | go_upon | go_in | go_back | fail))
  with_reducible refine wp_reg (id := 3) ?_
  refine wpO_val rfl (run_move rfl rfl) ?_
  go_frame
  refine wpO_want rfl ?_
  go_simp
  have hca := take_any A L cL 7 y1 ((unhide hL').ext (unhide hP).extf)
  have hi := hide (mdS_inv L)
  refine hca.mono ?_
  clear hca
  generalize mdS L = S at *
  obtain ⟨V, E⟩ := S
  try dsimp only at hi ⊢
  rintro _ y2 ⟨g, bv, be, A1, B1, cA, cB, rfl, hg0, hs0, he0, hxc⟩
  refine ⟨_, rfl, ?_⟩
  replace hP : Hid (Sp w [] w [] [] [] y2) := hide ((unhide hP).ext hxc)
  have hg := hide hg0
  have hsV := hide hs0
  have hsE := hide he0
  obtain ⟨q, hq⟩ : ∃ q, q = decide ((V.length : Int) ≤ 7) := ⟨_, rfl⟩
  rw [← hq]
  have hq' := hide hq
  have hnV := hide hg0.nV
  have hnE := hide hg0.nE
  clear hxc hg0 hs0 he0 hq
  generalize htu0 : Value.tuple _ = tu
  have htu := hide htu0
  clear htu0
  refine wpO_val rfl (run_move rfl rfl) ?_
  go_frame
  refine wpO_val rfl (run_extract (i := 0) (v := .pointer (some ⟨g, 0, none⟩)) rfl (unhide htu).symm rfl) ?_
  go_frame
  refine wpO_val rfl (run_extract (i := 1) (v := .agg #[.slice A1 V.length cA, .slice B1 E.length cB]) rfl (unhide htu).symm rfl) ?_
  go_frame
  refine wpO_val rfl (run_extract (i := 2) (v := .bool q) rfl (unhide htu).symm rfl) ?_
  go_frame
  refine (unhide hP).allocT 28 #[.slice none 0 0, .slice none 0 0] rfl (by go_simp) ?_
  intro r4 y3 hQ hxa hga
  replace hP : Hid (Sp w [] w [] [(r4, 28, #[.slice none 0 0, .slice none 0 0])] [] y3) := hide hQ
  clear hQ
  try go_frame
  refine wpO_want rfl ?_
  go_simp
  refine (unhide hP).setT 0 #[.slice A1 V.length cA, .slice B1 E.length cB] rfl rfl (fun hb => run_store_row (v := .agg #[.slice A1 V.length cA, .slice B1 E.length cB]) rfl (by rfl) (by rfl) (by simp [go_sem]) hb rfl (fun u hu => by simp [Value.cells] at hu; rcases hu with rfl | rfl <;> rfl)) ?_
  intro y4 hQ hkq
  replace hP : Hid (Sp w [] w [] [(r4, 28, #[.slice A1 V.length cA, .slice B1 E.length cB])] [] y4) := hide hQ
  have hxs := hxa.of_new hkq (fun x hx => by rw [List.mem_singleton] at hx; rw [hx]; exact hga)
  clear hQ hkq hxa hga
  try go_frame
  replace hg := hide ((unhide hg).ext (hxs))
  replace hsV := hide ((unhide hsV).ext (hxs))
  replace hsE := hide ((unhide hsE).ext (hxs))
  clear hxs
  refine wpO_want rfl ?_
  go_simp
  refine wpO_done ?_
  try go_frame
  clear htu
  cases q
  · skip
    go_wp2_with fail
    refine Sp.leaves0 ?_
    exact ⟨_, results_tmp rfl _ _ _, rfl, (unhide hP).extf⟩
  · skip
    have href := hide (peo_ref (unhide hi))
    have hpl := hide (peo_len (V := V) (E := E))
    obtain ⟨po, hpo⟩ : ∃ po, po = peoS V E := ⟨_, rfl⟩
    rw [← hpo] at href hpl
    obtain ⟨lo, hlo⟩ : ∃ lo, lo = po.getD [] := ⟨_, rfl⟩
    obtain ⟨n, hn⟩ : ∃ n, n = lo.length := ⟨_, rfl⟩
    obtain ⟨pb, hpb⟩ : ∃ pb, pb = po.isSome := ⟨_, rfl⟩
    rw [← hlo, ← hn] at hpl
    have hn' := hide hn
    have hlo' := hide hlo
    have hpb' := hide hpb
    have hpo' := hide hpo
    clear hn hlo hpb hpo
    try dsimp only
    repeat ((fail_if_success (with_reducible refine wp_reg (id := 6) ?_)); (first | go_values | go_skip | go_step | go_guarded | go_upon | go_in | go_back | fail))
    with_reducible refine wp_reg (id := 6) ?_
    refine wpO_val rfl (run_move rfl rfl) ?_
    go_frame
    refine wpO_want rfl ?_
    go_simp
    have hca := perfect_any (some ⟨g, 0, none⟩) V E y4 (GL.of (unhide hg)) ((unhide hT').ext (unhide hP).extf)
    rw [← unhide hpo'] at hca
    refine (hca).mono ?_
    rintro _ y5 ⟨Ap, cp, rfl, ho, hxc⟩
    rw [← unhide hlo', ← unhide hn'] at ho
    rw [← unhide hlo', ← unhide hn', ← unhide hpb']
    clear hca
    refine ⟨_, rfl, ?_⟩
    replace hP : Hid (Sp w [] w [] [(r4, 28, #[.slice A1 V.length cA, .slice B1 E.length cB])] [(3, 1, .slice Ap n cp, n, lo.flatMap encI)] y5) := hide ((unhide hP).addRow hxc ho)
    replace hg := hide ((unhide hg).ext (hxc))
    replace hsV := hide ((unhide hsV).ext (hxc))
    replace hsE := hide ((unhide hsE).ext (hxc))
    clear hxc ho
    generalize htu0 : Value.tuple _ = tu
    have htu := hide htu0
    clear htu0
    refine wpO_val rfl (run_move rfl rfl) ?_
    go_frame
    refine wpO_val rfl (run_extract (i := 0) (v := .slice Ap n cp) rfl (unhide htu).symm rfl) ?_
    go_frame
    refine wpO_val rfl (run_extract (i := 1) (v := .bool pb) rfl (unhide htu).symm rfl) ?_
    go_frame
    iterate 2
      refine wpO_want rfl ?_
      go_simp
    refine wpO_done ?_
    try go_frame
    clear htu
    try dsimp only
    repeat ((fail_if_success (with_reducible refine wp_reg (id := 7) ?_)); (first | go_values | go_skip | go_step | go_guarded | go_upon | go_in | go_back | fail))
    with_reducible refine wp_reg (id := 7) ?_
    have q0 := (unhide hP).cell 0 0 (v := .slice A1 V.length cA) rfl rfl
    have q1 := (unhide hP).cell 0 1 (v := .slice B1 E.length cB) rfl rfl
    have hself := Ext.refl y5
    refine wpO_want rfl ?_
    go_simp
    clear q0 q1 hself
    refine wpO_want rfl ?_
    go_simp
    have hca := OrderR_any A1 B1 V E cA cB y5 (unhide hsV) (unhide hnV) (unhide hsE) (unhide hnE)
    rw [unhide href] at hca
    refine (hca).mono ?_
    rintro _ y6 ⟨Aq, cq, rfl, ho, hxc⟩
    rw [← unhide hlo', ← unhide hn'] at ho
    rw [← unhide hlo', ← unhide hn', ← unhide hpb']
    clear hca
    refine ⟨_, rfl, ?_⟩
    replace hP : Hid (Sp w [] w [] [(r4, 28, #[.slice A1 V.length cA, .slice B1 E.length cB])] [(3, 1, .slice Ap n cp, n, lo.flatMap encI), (3, 1, .slice Aq n cq, n, lo.flatMap encI)] y6) := hide ((unhide hP).addRow hxc ho)
    replace hg := hide ((unhide hg).ext (hxc))
    replace hsV := hide ((unhide hsV).ext (hxc))
    replace hsE := hide ((unhide hsE).ext (hxc))
    clear hxc ho
    generalize htu0 : Value.tuple _ = tu
    have htu := hide htu0
    clear htu0
    refine wpO_val rfl (run_move rfl rfl) ?_
    go_frame
    refine wpO_val rfl (run_extract (i := 0) (v := .slice Aq n cq) rfl (unhide htu).symm rfl) ?_
    go_frame
    refine wpO_val rfl (run_extract (i := 1) (v := .bool pb) rfl (unhide htu).symm rfl) ?_
    go_frame
    iterate 2
      refine wpO_want rfl ?_
      go_simp
    refine wpO_done ?_
    try go_frame
    clear htu
    have hbb : (pb == pb) = true := by cases pb <;> rfl
    try dsimp only
    repeat ((fail_if_success (with_reducible refine wp_reg (id := 8) ?_)); (first | go_values | go_skip | go_step | go_guarded | go_upon | go_in | go_back | fail))
    with_reducible refine wp_reg (id := 8) ?_
    iterate 7
      refine wpO_want rfl ?_
      go_simp
    have hca := same_ints Ap Aq lo lo n n cp cq y6 (own_at (enc := encI) (by have h := (unhide hP).row 0 rfl; rw [unhide hn'] at h; exact h) (fun _ => rfl)) (own_at (enc := encI) (by have h := (unhide hP).row 1 rfl; rw [unhide hn'] at h; exact h) (fun _ => rfl)) (unhide hn') (unhide hn') (by have := unhide hpl; omega) (by have := unhide hpl; omega)
    rw [decide_eq_true rfl] at hca
    refine (hca).mono ?_
    rintro _ y7 ⟨rfl, hxc⟩
    clear hca
    refine ⟨_, rfl, ?_⟩
    replace hP : Hid (Sp w [] w [] [(r4, 28, #[.slice A1 V.length cA, .slice B1 E.length cB])] [(3, 1, .slice Ap n cp, n, lo.flatMap encI), (3, 1, .slice Aq n cq, n, lo.flatMap encI)] y7) := hide ((unhide hP).ext hxc)
    replace hg := hide ((unhide hg).ext (hxc))
    replace hsV := hide ((unhide hsV).ext (hxc))
    replace hsE := hide ((unhide hsE).ext (hxc))
    clear hxc
    iterate 2
      refine wpO_want rfl ?_
      go_simp
    refine wpO_done ?_
    try go_frame
    go_wp2_with fail
    refine Sp.leaves0 ?_
    exact ⟨_, results_tmp rfl _ _ _, rfl, (unhide hP).extf⟩
end Go.Proofs.YtmfkkkhddigkfaaGreatDoor
