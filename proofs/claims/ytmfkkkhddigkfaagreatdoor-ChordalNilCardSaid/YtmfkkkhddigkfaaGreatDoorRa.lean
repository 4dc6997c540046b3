/- THE REFERENCE's SMALL FUNCTIONS: pair, heavy, Find, Edge. Conditions: see each theorem. -/
import Derived.Test.YtmfkkkhddigkfaaGreatDoorSa
namespace Go.Proofs.YtmfkkkhddigkfaaGreatDoor
open Go Go.RowKit

/-- the slice at A reads as xs, k cells an element -/
def SlAt {α : Type} (enc : α → List Value) (k : Nat) (w : World) (A : Option Addr) (xs : List α) : Prop :=
  xs ≠ [] → ∃ b off, A = some ⟨b, off, none⟩ ∧ b < w.heap.size ∧ ∀ i x, xs[i]? = some x → ∀ j u, (enc x)[j]? = some u → w.cell? ⟨b, off + i * k + j, none⟩ = some u
theorem SlAt.of_blocks {α : Type} {enc : α → List Value} {k : Nat} {w w' : World} {A : Option Addr} {xs : List α} (h : SlAt enc k w A xs) (hs : w.heap.size ≤ w'.heap.size) (hb : ∀ b off, A = some ⟨b, off, none⟩ → b < w.heap.size → w'.heap[b]? = w.heap[b]?) : SlAt enc k w' A xs := fun hne => by
  obtain ⟨b, off, hA, hlt, hc⟩ := h hne
  refine ⟨b, off, hA, by omega, fun i x hx j u hu => ?_⟩
  rw [World.cell?_of_block (hb b off hA hlt)]
  exact hc i x hx j u hu
theorem SlAt.ext {α : Type} {enc : α → List Value} {k : Nat} {w w' : World} {A : Option Addr} {xs : List α} (h : SlAt enc k w A xs) (hx : Ext w w') : SlAt enc k w' A xs :=
  h.of_blocks (Below.size hx) (fun b _ _ hlt => hx.block b hlt)
theorem SlAt.nil {α : Type} {enc : α → List Value} {k : Nat} {w : World} {A : Option Addr} : SlAt enc k w A ([] : List α) := fun h => absurd rfl h
/-- element i, in every world that comes -/
theorem SlAt.at_ {α : Type} {enc : α → List Value} {k : Nat} {w : World} {A : Option Addr} {xs : List α} (h : SlAt enc k w A xs) {i : Nat} (hi : i < xs.length) :
    ∃ b off, A = some ⟨b, off, none⟩ ∧ ∀ j u, (enc xs[i])[j]? = some u → ∀ W, Ext w W → W.cell? ⟨b, off + i * k + j, none⟩ = some u := by
  obtain ⟨b, off, hA, _, hc⟩ := h (by intro e; rw [e] at hi; simp at hi)
  exact ⟨b, off, hA, fun j u hu => cell_ext (hc i xs[i] (List.getElem?_eq_getElem hi) j u hu)⟩

def encV (x : Int × Thing) : List Value := [.int .i64 x.1, .int .u8 x.2.1, .int .i64 x.2.2]
def encE (x : (Int × Int) × Thing) : List Value := [.int .i64 x.1.1, .int .i64 x.1.2, .int .u8 x.2.1, .int .i64 x.2.2]

theorem atV {w : World} {A : Option Addr} {V : List (Int × Thing)} (h : SlAt encV 3 w A V) {i : Nat} (hi : i < V.length) :
    ∃ b off, A = some ⟨b, off, none⟩ ∧ (∀ W, Ext w W → W.cell? ⟨b, off + i * 3, none⟩ = some (.int .i64 V[i].1)) ∧ (∀ W, Ext w W → W.cell? ⟨b, off + i * 3 + 1, none⟩ = some (.int .u8 V[i].2.1)) ∧ (∀ W, Ext w W → W.cell? ⟨b, off + i * 3 + 2, none⟩ = some (.int .i64 V[i].2.2)) := by
  obtain ⟨b, off, hA, hc⟩ := h.at_ hi
  exact ⟨b, off, hA, hc 0 _ rfl, hc 1 _ rfl, hc 2 _ rfl⟩
theorem atE {w : World} {A : Option Addr} {E : List ((Int × Int) × Thing)} (h : SlAt encE 4 w A E) {i : Nat} (hi : i < E.length) :
    ∃ b off, A = some ⟨b, off, none⟩ ∧ (∀ W, Ext w W → W.cell? ⟨b, off + i * 4, none⟩ = some (.int .i64 E[i].1.1)) ∧ (∀ W, Ext w W → W.cell? ⟨b, off + i * 4 + 1, none⟩ = some (.int .i64 E[i].1.2)) ∧
      (∀ W, Ext w W → W.cell? ⟨b, off + i * 4 + 2, none⟩ = some (.int .u8 E[i].2.1)) ∧ (∀ W, Ext w W → W.cell? ⟨b, off + i * 4 + 3, none⟩ = some (.int .i64 E[i].2.2)) := by
  obtain ⟨b, off, hA, hc⟩ := h.at_ hi
  exact ⟨b, off, hA, hc 0 _ rfl, hc 1 _ rfl, hc 2 _ rfl, hc 3 _ rfl⟩

/-- the place of the first that p lets, or -1 -/
def posI {α : Type} (p : α → Bool) (xs : List α) : Int := match xs.findIdx? p with | some i => (i : Int) | none => -1

theorem posI_hit {α : Type} {p : α → Bool} {xs : List α} {i : Nat} (hi : i < xs.length) (hp : p xs[i] = true) (hno : ∀ j (hj : j < i), p (xs[j]'(by omega)) = false) : posI p xs = i := by
  unfold posI
  rw [show xs.findIdx? p = some i from List.findIdx?_eq_some_iff_getElem.2 ⟨hi, hp, fun j hj => by rw [hno j hj]; simp⟩]
theorem posI_miss {α : Type} {p : α → Bool} {xs : List α} (hno : ∀ j (hj : j < xs.length), p xs[j] = false) : posI p xs = -1 := by
  unfold posI
  rw [show xs.findIdx? p = none from List.findIdx?_eq_none_iff.2 fun x hx => by
    obtain ⟨j, hj, rfl⟩ := List.getElem_of_mem hx
    exact hno j hj]

theorem pair_any (op u v lab wt : Int) (w : World) : Calls Tryz.prog 98 #[.agg #[.int .i64 op, .int .i64 u, .int .i64 v, .int .u8 lab, .int .i64 wt]] w fun e w' => e = .returned (.bool (pairsB op)) ∧ Ext w w' := by
  go_enter Tryz.func98, Tryz.ntmps98
  go_wp2
  all_goals (go_ret; exact ⟨ret_bool (by unfold pairsB; simp [*]), ext_self1 _ _⟩)
theorem rheavy_any (op u v lab wt : Int) (w : World) : Calls Tryz.prog 137 #[.agg #[.int .i64 op, .int .i64 u, .int .i64 v, .int .u8 lab, .int .i64 wt]] w fun e w' => e = .returned (.bool (weighsB op)) ∧ Ext w w' := by
  go_enter Tryz.func137, Tryz.ntmps137
  go_wp2
  all_goals (go_ret; exact ⟨ret_bool (by unfold weighsB; simp [*]), ext_self1 _ _⟩)

set_option maxHeartbeats 1000000 in
theorem find_any (A B : Option Addr) (V : List (Int × Thing)) (cV nE cE : Nat) (id : Int) (w : World) (hV : SlAt encV 3 w A V) (hl : V.length ≤ 4096) :
    Calls Tryz.prog 21 #[.agg #[.slice A V.length cV, .slice B nE cE], .int .i64 id] w fun e w' => e = .returned (.int .i64 (posI (fun p => p.1 == id) V)) ∧ Ext w w' := by
  go_enter Tryz.func21, Tryz.ntmps21
  go_wp2
  refine wp_abs (fun W => Ext w W ∧ Blk W w.heap.size 28 #[.slice A V.length cV, .slice B nE cE]) ⟨ext_self1 _ _, Blk.new w _ _⟩ ?_
  rintro w1 ⟨hx1, hb⟩
  have c0 : ∀ W, Ext w1 W → W.cell? ⟨w.heap.size, 0, none⟩ = some (.slice A V.length cV) := hb.cells 0 rfl
  have hV1 := hV.ext hx1
  clear hb hV
  go_loop [5] (fun i => ∃ k : Nat, k ≤ V.length ∧ i = .int .i64 k ∧ ∀ j (hj : j < k) (hj' : j < V.length), (V[j].1 == id) = false) (fun i => V.length - (intOf i).toNat)
  case atStart => exact ⟨0, Nat.zero_le _, rfl, fun j hj => by omega⟩
  case round =>
    obtain ⟨k, hk, rfl, hno⟩ := hrel
    have hno' := hide hno
    clear hno
    by_cases hlt : k < V.length
    · obtain ⟨b, off, rfl, c1, _, _⟩ := atV hV1 hlt
      clear hV1
      cases hh : V[k].1 == id
      · have hh' := hide hh
        go_wp2
        go_round
        case rel =>
          refine ⟨k + 1, by omega, by go_num, fun j hj hj' => ?_⟩
          rcases Nat.lt_or_ge j k with h | h
          · exact unhide hno' j h hj'
          · have : j = k := by omega
            subst this
            exact unhide hh'
        case measure => simp [intOf]; omega
      · have hh' := hide hh
        go_wp2
        go_ret
        exact ⟨ret_int (posI_hit hlt (unhide hh') (fun j hj => unhide hno' j hj (by omega))).symm, hx1⟩
    · go_wp2
      go_ret
      exact ⟨ret_int (posI_miss (fun j hj => unhide hno' j (by omega) hj)).symm, hx1⟩

/-- the edge between u and v, in either order -/
def isE (u v : Int) (p : (Int × Int) × Thing) : Bool := p.1.1 == u && p.1.2 == v || p.1.1 == v && p.1.2 == u

set_option maxHeartbeats 1000000 in
theorem redge_any (A B : Option Addr) (E : List ((Int × Int) × Thing)) (nV cV cE : Nat) (u v : Int) (w : World) (hE : SlAt encE 4 w B E) (hl : E.length ≤ 4096) :
    Calls Tryz.prog 33 #[.agg #[.slice A nV cV, .slice B E.length cE], .int .i64 u, .int .i64 v] w fun e w' => e = .returned (.int .i64 (posI (isE u v) E)) ∧ Ext w w' := by
  generalize hq : isE u v = q
  have hq' : ∀ p, q p = isE u v p := fun p => by rw [hq]
  have hq'' := hide hq'
  clear hq hq'
  go_enter Tryz.func33, Tryz.ntmps33
  go_wp2
  refine wp_abs (fun W => Ext w W ∧ Blk W w.heap.size 28 #[.slice A nV cV, .slice B E.length cE]) ⟨ext_self1 _ _, Blk.new w _ _⟩ ?_
  rintro w1 ⟨hx1, hb⟩
  have c0 : ∀ W, Ext w1 W → W.cell? ⟨w.heap.size, 1, none⟩ = some (.slice B E.length cE) := hb.cells 1 rfl
  have hE1 := hE.ext hx1
  clear hb hE
  go_loop [7] (fun i => ∃ k : Nat, k ≤ E.length ∧ i = .int .i64 k ∧ ∀ j (hj : j < k) (hj' : j < E.length), q E[j] = false) (fun i => E.length - (intOf i).toNat)
  case atStart => exact ⟨0, Nat.zero_le _, rfl, fun j hj => by omega⟩
  case round =>
    obtain ⟨k, hk, rfl, hno⟩ := hrel
    have hno' := hide hno
    clear hno
    by_cases hlt : k < E.length
    · obtain ⟨b, off, rfl, c1, c2, _, _⟩ := atE hE1 hlt
      clear hE1
      generalize hp : E[k] = p at c1 c2
      obtain ⟨⟨a, b'⟩, t⟩ := p
      have hp' := hide hp
      clear hp
      have no : q ((a, b'), t) = false → ∀ j (hj : j < k + 1) (hj' : j < E.length), q E[j] = false := fun h j hj hj' => by
        rcases Nat.lt_or_ge j k with h1 | h1
        · exact unhide hno' j h1 hj'
        · have : j = k := by omega
          subst this
          rw [unhide hp']
          exact h
      have yes : q ((a, b'), t) = true → posI q E = k := fun h => posI_hit hlt (by rw [unhide hp']; exact h) (fun j hj => unhide hno' j hj (by omega))
      have no' := hide no
      have yes' := hide yes
      clear no yes
      go_wp2
      all_goals first
        | (go_ret; exact ⟨ret_int (unhide yes' (by rw [unhide hq'']; unfold isE; simp_all)).symm, hx1⟩)
        | (go_round
           case rel => exact ⟨k + 1, by omega, by go_num, unhide no' (by rw [unhide hq'']; unfold isE; simp_all)⟩
           case measure => simp [intOf]; omega)
    · go_wp2
      go_ret
      exact ⟨ret_int (posI_miss (fun j hj => unhide hno' j (by omega) hj)).symm, hx1⟩

end Go.Proofs.YtmfkkkhddigkfaaGreatDoor
