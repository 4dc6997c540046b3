/- Parts of a proof, laid together: Gk, Bw, Pu, Rn, Ro, Bo, Mo, Tk, El. Each part says its own conditions. -/
import Derived.Test.YtjehhilijeajnaaGreatDoorC1
import Derived.Test.YtjehhilijeajnaaGreatDoorRx
import Derived.Test.YtjehhilijeajnaaGreatDoorBt
import Derived.Test.YtjehhilijeajnaaGreatDoorAp
import Derived.Test.YtjehhilijeajnaaGreatDoorMap
import Derived.OrdersIn
import Derived.RangeFuncNested
import Derived.RangeFuncBound
import Derived.RangeFuncCalls
import Derived.RangeFuncLeaves
import Derived.Shelf.Abstract
import Derived.OwnWalkIn
import Derived.Test.YtjehhilijeajnaaGreatDoorMem
import Derived.Laws.Cells
import Derived.Laws.Rows
import Derived.Test.YtjehhilijeajnaaGreatDoorExt
import Derived.Laws.BitsAllLaws
import Derived.Test.YtjehhilijeajnaaGreatDoorGb
import Derived.Test.YtjehhilijeajnaaGreatDoorBs
import Derived.Lib.TrailingZeros
/- LISTS AND GRAPHS KEPT where other blocks turn; a cell of the reference's graph. Conditions: see each theorem. -/
namespace Go.Proofs.YtjehhilijeajnaaGreatDoor
open Go Go.RowKit

theorem atD {w : World} {A : Option Addr} {L : List Ed} (h : SlAt encD 5 w A L) {i : Nat} (hi : i < L.length) :
    ∃ b off, A = some ⟨b, off, none⟩ ∧ (∀ W, Ext w W → W.cell? ⟨b, off + i * 5, none⟩ = some (.int .i64 L[i].1)) ∧ (∀ W, Ext w W → W.cell? ⟨b, off + i * 5 + 1, none⟩ = some (.int .i64 L[i].2.1)) ∧
      (∀ W, Ext w W → W.cell? ⟨b, off + i * 5 + 2, none⟩ = some (.int .i64 L[i].2.2.1)) ∧ (∀ W, Ext w W → W.cell? ⟨b, off + i * 5 + 3, none⟩ = some (.int .u8 L[i].2.2.2.1)) ∧ (∀ W, Ext w W → W.cell? ⟨b, off + i * 5 + 4, none⟩ = some (.int .i64 L[i].2.2.2.2)) := by
  obtain ⟨b, off, hA, hc⟩ := h.at_ hi
  exact ⟨b, off, hA, hc 0 _ rfl, hc 1 _ rfl, hc 2 _ rfl, hc 3 _ rfl, hc 4 _ rfl⟩

theorem blkG_off (p q : Value) (hp : ∃ A n c, p = .slice A n c) (hq : ∃ A n c, q = .slice A n c) : ∀ (i : Nat) (u : Value), (#[p, q] : Array Value)[i]? = some u → ∃ A n c, u = .slice A n c := by
  intro i u h
  match i, h with
  | 0, h => simp at h; subst h; exact hp
  | 1, h => simp at h; subst h; exact hq
theorem encV_ns (x : Int × Thing) (A : Option Addr) (n c : Nat) : (encV x)[0]? ≠ some (.slice A n c) := by simp [encV]
theorem encE_ns (x : (Int × Int) × Thing) (A : Option Addr) (n c : Nat) : (encE x)[0]? ≠ some (.slice A n c) := by simp [encE]
theorem encD_ns (x : Ed) (A : Option Addr) (n c : Nat) : (encD x)[0]? ≠ some (.slice A n c) := by simp [encD]
theorem IsG.off_G {w : World} {g bv be : Nat} {V : List (Int × Thing)} {E : List ((Int × Int) × Thing)} (h : IsG w g bv be V E) {b : Nat} {T : TypeId} {A B : Option Addr} {n m c d : Nat} (hb : Blk w b T #[.slice A n c, .slice B m d]) : b ≠ g ∧ b ≠ bv ∧ b ≠ be := by
  obtain ⟨V', E', h1, _⟩ := h
  have e0 := h1.blk
  obtain ⟨es, c1, e1, _⟩ := h1.vs
  obtain ⟨es', c2, e2, _⟩ := h1.es
  unfold Blk at hb e0
  refine ⟨?_, ?_, ?_⟩
  · rintro rfl; rw [hb] at e0; simp at e0
  · rintro rfl; rw [hb] at e1; simp at e1
  · rintro rfl; rw [hb] at e2; simp at e2
theorem Blk.set2 {w : World} {b : Nat} {T : TypeId} {p q p' q' : Value} (h : Blk w b T #[p, q]) : Blk ((w.setCell ⟨b, 0, none⟩ p').setCell ⟨b, 1, none⟩ q') b T #[p', q'] := by
  have := (h.set 0 p').set 1 q'
  simpa using this
theorem Keep.set2 (w : World) (b : Nat) (p q : Value) : Keep [b] w ((w.setCell ⟨b, 0, none⟩ p).setCell ⟨b, 1, none⟩ q) := (Keep.setCell w b 0 p).trans (Keep.setCell _ b 1 q)
theorem same_refl (A B A' B' : Option Addr) (V : List (Int × Thing)) (E : List ((Int × Int) × Thing)) (cV cE cV' cE' : Nat) (w : World) (hV : SlAt encV 3 w A V) (hE : SlAt encE 4 w B E) (hV' : SlAt encV 3 w A' V) (hE' : SlAt encE 4 w B' E) (hl : V.length ≤ 4096) (hle : E.length ≤ 4096) :
    Calls Tryz.prog 25 #[.agg #[.slice A V.length cV, .slice B E.length cE], .agg #[.slice A' V.length cV', .slice B' E.length cE']] w fun e w' => e = .returned (.bool true) ∧ Ext w w' := by
  have h := same_any A B A' B' V V E E cV cE cV' cE' w hV hE hV' hE' hl hle
  simpa using h
/-- a list stays where only a block of two slices turns -/
theorem SlAt.keep_G {α : Type} {enc : α → List Value} {k : Nat} {w w' : World} {A : Option Addr} {xs : List α} {b : Nat} {T : TypeId} {p q : Value} (h : SlAt enc k w A xs) (hb : Blk w b T #[p, q]) (hp : ∃ A n c, p = .slice A n c) (hq : ∃ A n c, q = .slice A n c)
    (hns : ∀ (x : α) A n c, (enc x)[0]? ≠ some (.slice A n c)) (hen : ∀ x : α, ∃ u : Value, (enc x)[0]? = some u) (hk : Keep [b] w w') : SlAt enc k w' A xs :=
  h.off hb (fun i u hu x => by obtain ⟨A', n', c', rfl⟩ := blkG_off p q hp hq i u hu; exact hns x _ _ _) hen hk.size (fun j hj hlt => hk.block j hlt (by simpa using hj))


/-- the class of worlds in which the block of one reference graph turns, and nothing else -/
def GCls (b : Nat) (w W : World) : Prop := Keep [b] w W ∧ ∃ A n c B m d, Blk W b 28 #[.slice A n c, .slice B m d]
theorem GCls.refl {b : Nat} {w : World} {A B : Option Addr} {n c m d : Nat} (h : Blk w b 28 #[.slice A n c, .slice B m d]) : GCls b w w := ⟨Keep.refl _ _, _, _, _, _, _, _, h⟩
theorem GCls.ext {b : Nat} {w W W' : World} (h : GCls b w W) (k : Ext W W') : GCls b w W' := ⟨h.1.trans (k.keep _), by
  obtain ⟨A, n, c, B, m, d, h⟩ := h.2
  exact ⟨A, n, c, B, m, d, h.ext k⟩⟩
theorem GCls.set {b : Nat} {w W : World} (h : GCls b w W) (A B : Option Addr) (n c m d : Nat) : GCls b w ((W.setCell ⟨b, 0, none⟩ (.slice A n c)).setCell ⟨b, 1, none⟩ (.slice B m d)) := ⟨h.1.trans (Keep.set2 _ _ _ _), by
  obtain ⟨_, _, _, _, _, _, h⟩ := h.2
  exact ⟨_, _, _, _, _, _, h.set2⟩⟩
theorem SlAt.cls {α : Type} {enc : α → List Value} {k : Nat} {w W : World} {A : Option Addr} {xs : List α} {b : Nat} (h : SlAt enc k w A xs) (hc : GCls b w W) (hb : ∃ A n c B m d, Blk w b 28 #[.slice A n c, .slice B m d])
    (hns : ∀ (x : α) A n c, (enc x)[0]? ≠ some (.slice A n c)) (hen : ∀ x : α, ∃ u : Value, (enc x)[0]? = some u) : SlAt enc k W A xs := by
  obtain ⟨A', n, c, B, m, d, hb⟩ := hb
  exact h.keep_G hb ⟨_, _, _, rfl⟩ ⟨_, _, _, rfl⟩ hns hen hc.1
/-- what holds at a round's head -/
structure ApRel (w wr : World) (g bv be gw : Nat) (V : List (Int × Thing)) (E : List ((Int × Int) × Thing)) (A B : Option Addr) (cA cB : Nat) : Prop where
  isg : IsG wr g bv be V E
  blk : Blk wr gw 28 #[.slice A V.length cA, .slice B E.length cB]
  sv : SlAt encV 3 wr A V
  se : SlAt encE 4 wr B E
  ext : Ext w wr
  lo : w.heap.size ≤ g ∧ w.heap.size ≤ bv ∧ w.heap.size ≤ be ∧ w.heap.size ≤ gw
theorem ApRel.go {w wr wr' : World} {g bv be gw : Nat} {V : List (Int × Thing)} {E : List ((Int × Int) × Thing)} {A B : Option Addr} {cA cB : Nat} (h : ApRel w wr g bv be gw V E A B cA cB) (k : Ext wr wr') : ApRel w wr' g bv be gw V E A B cA cB :=
  ⟨h.isg.ext k, h.blk.ext k, h.sv.ext k, h.se.ext k, h.ext.trans k, h.lo⟩
/-- the law's graph stays where another graph's maps turn -/
theorem ApRel.other {w wr wr' : World} {g bv be gw o ov oe : Nat} {V V2 : List (Int × Thing)} {E E2 : List ((Int × Int) × Thing)} {A B : Option Addr} {cA cB : Nat} (h : ApRel w wr g bv be gw V E A B cA cB) (ho : IsG wr o ov oe V2 E2) (hk : Keep [ov, oe] wr wr')
    (hv : ov ≠ g ∧ ov ≠ bv ∧ ov ≠ be ∧ w.heap.size ≤ ov) (he : oe ≠ g ∧ oe ≠ bv ∧ oe ≠ be ∧ w.heap.size ≤ oe) : ApRel w wr' g bv be gw V E A B cA cB := by
  have h6 := ho.off_G h.blk
  obtain ⟨v1, v2, v3, v4⟩ := hv
  obtain ⟨e1, e2, e3, e4⟩ := he
  exact ⟨h.isg.keep hk (by simp [Ne.symm v1, Ne.symm e1]) (by simp [Ne.symm v2, Ne.symm e2]) (by simp [Ne.symm v3, Ne.symm e3]), h.blk.keep hk (by simp [h6.2.1, h6.2.2]), h.sv.keep_maps encV0 ho hk, h.se.keep_maps encE0 ho hk, h.ext.of_new hk (by simp; omega), h.lo⟩
end Go.Proofs.YtjehhilijeajnaaGreatDoor
/- THE SETS OF package bitset: With. Conditions: see each theorem. -/
namespace Go.Proofs.YtjehhilijeajnaaGreatDoor
open Go Go.RowKit
attribute [local go_sem] qUpon lUpon

set_option maxRecDepth 100000 in
theorem load_Set (W : World) (b : Nat) (N : Nat) (h : Blk W b 56 (setC N)) : (loadVar 56 ⟨b, 0, none⟩).run Tryz.prog W = .ok (.agg (setC N)) W := by
  have c0 := h.cell 0
  have c1 := h.cell 1
  have c2 := h.cell 2
  have c3 := h.cell 3
  have c4 := h.cell 4
  have c5 := h.cell 5
  have c6 := h.cell 6
  have c7 := h.cell 7
  have c8 := h.cell 8
  have c9 := h.cell 9
  have c10 := h.cell 10
  have c11 := h.cell 11
  have c12 := h.cell 12
  have c13 := h.cell 13
  have c14 := h.cell 14
  have c15 := h.cell 15
  simp [setC] at c0 c1 c2 c3 c4 c5 c6 c7 c8 c9 c10 c11 c12 c13 c14 c15
  simp [loadVar, c0, c1, c2, c3, c4, c5, c6, c7, c8, c9, c10, c11, c12, c13, c14, c15, go_sem, setC]
theorem set16 {α : Type} (a0 a1 a2 a3 a4 a5 a6 a7 a8 a9 a10 a11 a12 a13 a14 a15 b0 b1 b2 b3 b4 b5 b6 b7 b8 b9 b10 b11 b12 b13 b14 b15 : α) : ((((((((((((((((#[a0, a1, a2, a3, a4, a5, a6, a7, a8, a9, a10, a11, a12, a13, a14, a15].setIfInBounds 0 b0).setIfInBounds 1 b1).setIfInBounds 2 b2).setIfInBounds 3 b3).setIfInBounds 4 b4).setIfInBounds 5 b5).setIfInBounds 6 b6).setIfInBounds 7 b7).setIfInBounds 8 b8).setIfInBounds 9 b9).setIfInBounds 10 b10).setIfInBounds 11 b11).setIfInBounds 12 b12).setIfInBounds 13 b13).setIfInBounds 14 b14).setIfInBounds 15 b15) = #[b0, b1, b2, b3, b4, b5, b6, b7, b8, b9, b10, b11, b12, b13, b14, b15] := by simp
theorem Blk.set16g {w : World} {b : Nat} {T : TypeId} (a0 a1 a2 a3 a4 a5 a6 a7 a8 a9 a10 a11 a12 a13 a14 a15 b0 b1 b2 b3 b4 b5 b6 b7 b8 b9 b10 b11 b12 b13 b14 b15 : Value) (h : Blk w b T #[a0, a1, a2, a3, a4, a5, a6, a7, a8, a9, a10, a11, a12, a13, a14, a15]) : Blk ((((((((((((((((w.setCell ⟨b, 0, none⟩ b0).setCell ⟨b, 1, none⟩ b1).setCell ⟨b, 2, none⟩ b2).setCell ⟨b, 3, none⟩ b3).setCell ⟨b, 4, none⟩ b4).setCell ⟨b, 5, none⟩ b5).setCell ⟨b, 6, none⟩ b6).setCell ⟨b, 7, none⟩ b7).setCell ⟨b, 8, none⟩ b8).setCell ⟨b, 9, none⟩ b9).setCell ⟨b, 10, none⟩ b10).setCell ⟨b, 11, none⟩ b11).setCell ⟨b, 12, none⟩ b12).setCell ⟨b, 13, none⟩ b13).setCell ⟨b, 14, none⟩ b14).setCell ⟨b, 15, none⟩ b15) b T #[b0, b1, b2, b3, b4, b5, b6, b7, b8, b9, b10, b11, b12, b13, b14, b15] := by
  have h1 := ((((((((((((((((h.set 0 b0).set 1 b1).set 2 b2).set 3 b3).set 4 b4).set 5 b5).set 6 b6).set 7 b7).set 8 b8).set 9 b9).set 10 b10).set 11 b11).set 12 b12).set 13 b13).set 14 b14).set 15 b15)
  rwa [set16] at h1
/-- all words written anew -/
theorem Blk.set16 {w : World} {b : Nat} {M : Nat} (N : Nat) (h : Blk w b 56 (setC M)) : Blk ((((((((((((((((w.setCell ⟨b, 0, none⟩ (.int .u64 (wd N 0))).setCell ⟨b, 1, none⟩ (.int .u64 (wd N 1))).setCell ⟨b, 2, none⟩ (.int .u64 (wd N 2))).setCell ⟨b, 3, none⟩ (.int .u64 (wd N 3))).setCell ⟨b, 4, none⟩ (.int .u64 (wd N 4))).setCell ⟨b, 5, none⟩ (.int .u64 (wd N 5))).setCell ⟨b, 6, none⟩ (.int .u64 (wd N 6))).setCell ⟨b, 7, none⟩ (.int .u64 (wd N 7))).setCell ⟨b, 8, none⟩ (.int .u64 (wd N 8))).setCell ⟨b, 9, none⟩ (.int .u64 (wd N 9))).setCell ⟨b, 10, none⟩ (.int .u64 (wd N 10))).setCell ⟨b, 11, none⟩ (.int .u64 (wd N 11))).setCell ⟨b, 12, none⟩ (.int .u64 (wd N 12))).setCell ⟨b, 13, none⟩ (.int .u64 (wd N 13))).setCell ⟨b, 14, none⟩ (.int .u64 (wd N 14))).setCell ⟨b, 15, none⟩ (.int .u64 (wd N 15))) b 56 (setC N) := Blk.set16g _ _ _ _ _ _ _ _ _ _ _ _ _ _ _ _ _ _ _ _ _ _ _ _ _ _ _ _ _ _ _ _ h
theorem Keep.set16 (w : World) (b : Nat) (N : Nat) : Keep [b] w ((((((((((((((((w.setCell ⟨b, 0, none⟩ (.int .u64 (wd N 0))).setCell ⟨b, 1, none⟩ (.int .u64 (wd N 1))).setCell ⟨b, 2, none⟩ (.int .u64 (wd N 2))).setCell ⟨b, 3, none⟩ (.int .u64 (wd N 3))).setCell ⟨b, 4, none⟩ (.int .u64 (wd N 4))).setCell ⟨b, 5, none⟩ (.int .u64 (wd N 5))).setCell ⟨b, 6, none⟩ (.int .u64 (wd N 6))).setCell ⟨b, 7, none⟩ (.int .u64 (wd N 7))).setCell ⟨b, 8, none⟩ (.int .u64 (wd N 8))).setCell ⟨b, 9, none⟩ (.int .u64 (wd N 9))).setCell ⟨b, 10, none⟩ (.int .u64 (wd N 10))).setCell ⟨b, 11, none⟩ (.int .u64 (wd N 11))).setCell ⟨b, 12, none⟩ (.int .u64 (wd N 12))).setCell ⟨b, 13, none⟩ (.int .u64 (wd N 13))).setCell ⟨b, 14, none⟩ (.int .u64 (wd N 14))).setCell ⟨b, 15, none⟩ (.int .u64 (wd N 15))) := by
  refine (((((((((((((((Keep.setCell w b 0 _).trans (Keep.setCell _ b 1 _)).trans (Keep.setCell _ b 2 _)).trans (Keep.setCell _ b 3 _)).trans (Keep.setCell _ b 4 _)).trans (Keep.setCell _ b 5 _)).trans (Keep.setCell _ b 6 _)).trans (Keep.setCell _ b 7 _)).trans (Keep.setCell _ b 8 _)).trans (Keep.setCell _ b 9 _)).trans (Keep.setCell _ b 10 _)).trans (Keep.setCell _ b 11 _)).trans (Keep.setCell _ b 12 _)).trans (Keep.setCell _ b 13 _)).trans (Keep.setCell _ b 14 _)).trans (Keep.setCell _ b 15 _)
/-- a set with one more -/
def withS (N : Nat) (n : Int) : Nat := if fitB n = true then N ||| 2 ^ n.toNat else N
theorem setC_with (N k : Nat) : (setC N).setIfInBounds (k / 64) (.int .u64 (bits .or .u64 (wd N (k / 64)) (bitW k))) = setC (N ||| 2 ^ k) := by
  have hX : bits .or .u64 (wd N (k / 64)) (bitW k) = wd (N ||| 2 ^ k) (k / 64) := by
    have h3 : 2 ^ (k % 64) < 2 ^ 64 := Nat.pow_lt_pow_right (by omega) (by omega)
    unfold wd bitW
    rw [u64_or_nat _ _ (wdN_lt _ _) h3, wdN_with, if_pos rfl]
  rw [hX]
  apply Array.ext_getElem?
  intro i
  by_cases hi : i < 16
  · rw [setC_get _ hi]
    by_cases he : k / 64 = i
    · subst he
      rw [Array.getElem?_setIfInBounds_self_of_lt (by rw [setC_size]; omega)]
    · rw [Array.getElem?_setIfInBounds_ne he, setC_get _ hi]
      unfold wd
      rw [wdN_with, if_neg (Ne.symm he)]
  · have h1 : ∀ a : Array Value, a.size = 16 → a[i]? = none := fun a h => Array.getElem?_eq_none (by omega)
    rw [h1 _ (by simp [setC_size]), h1 _ (setC_size _)]

set_option maxRecDepth 100000 in
set_option maxHeartbeats 4000000 in
theorem with_any (N : Nat) (n : Int) (w : World) :
    Calls Tryz.prog 113 #[.agg (setC N), .int .i64 n] w fun e w' => e = .returned (.agg (setC (withS N n))) ∧ Ext w w' := by
  have hB0 := Blk.new w 56 (setC N)
  by_cases hf : fitB n = true
  · obtain ⟨k, rfl⟩ : ∃ k : Nat, n = k := ⟨n.toNat, by simp [fitB] at hf; omega⟩
    have hk : k < 1024 := by simp [fitB] at hf; omega
    obtain ⟨h1, hw, h6, h7, h8⟩ := idx_facts hk
    have h5 : fitB (k : Int) = true := hf
    have hN : withS N (k : Int) = N ||| 2 ^ k := by rw [withS, if_pos h5, Int.toNat_natCast]
    have hN' := hide hN
    have hB0' := hide hB0
    clear hf hB0 hN
    go_enter Tryz.func113, Tryz.ntmps113
    go_wp2_with fail
    have hx1 := hide ((ext_self1 w (.cells (setC N) 56)).trans (ext_self1 _ (.cells (setC 0) 56)))
    have hB2 := hide ((unhide hB0').ext (ext_self1 (w.alloc (.cells (setC N) 56)) (.cells (setC 0) 56)))
    have hB4 := hide (Blk.new (w.alloc (.cells (setC N) 56)) 56 (setC 0))
    have hs : (w.alloc (.cells (setC N) 56)).heap.size = w.heap.size + 1 := World.size_alloc _ _
    rw [hs] at hB4
    clear hs hB0'
    have hz : setC 0 = #[.int .u64 0, .int .u64 0, .int .u64 0, .int .u64 0, .int .u64 0, .int .u64 0, .int .u64 0, .int .u64 0, .int .u64 0, .int .u64 0, .int .u64 0, .int .u64 0, .int .u64 0, .int .u64 0, .int .u64 0, .int .u64 0] := rfl
    rw [hz] at hx1 hB2 hB4
    generalize (w.alloc (.cells (setC N) 56)).alloc (.cells #[.int .u64 0, .int .u64 0, .int .u64 0, .int .u64 0, .int .u64 0, .int .u64 0, .int .u64 0, .int .u64 0, .int .u64 0, .int .u64 0, .int .u64 0, .int .u64 0, .int .u64 0, .int .u64 0, .int .u64 0, .int .u64 0] 56) = W1 at *
    rw [← hz] at hB4
    clear hz
    have hbb := hide (show w.heap.size + 1 ≠ w.heap.size by omega)
    generalize hb4e : w.heap.size + 1 = b4 at *
    generalize hb2e : w.heap.size = b2 at *
    refine (fits_any _ _).mono ?_
    rw [h5]
    rintro e w2 ⟨rfl, hx2⟩
    have c0 := cell_of ((unhide hB2).ext hx2) hk
    have hB2' := hide ((unhide hB2).ext hx2)
    have hB4' := hide ((unhide hB4).ext hx2)
    have hx2' := hide ((unhide hx1).trans hx2)
    clear hx2 hB2 hB4 hx1
    go_wp2_with fail
    refine wp_region_ext (P := Tryz.prog) [0,1,2,3,4,5,6,7] [8] 1 #[true,true,true,true,true,true,true,true,false] (by kernel_rfl) (by kernel_rfl) rfl (by rfl) ?_
    iterate 8
      refine ql_want (v := ?_) rfl (by rfl) (fun W hW => ?_) ?_
      rotate_left
      · go_simp
        first | done | rfl | ((go_at_call 60; refine (bit_any k hk _).mono ?_; rintro _ _ ⟨h1, h2⟩; refine ⟨_, h1, ?_, h2⟩; rfl))
      go_frame
    refine wpQL_nil (fun w3 hx3 => ?_)
    have c1 := c0 w3 hx3
    have f1 := ((unhide hB2').ext hx3).frozen (k / 64)
    refine lx_one (i := 8) (by kernel_rfl) rfl (by rfl) #[true,true,true,true,true,true,true,true,true] (by rfl) ?_
    go_simp
    intro w4 hx4
    have hB2 := ((((unhide hB2').ext hx3).set (k / 64) (.int .u64 (bits .or .u64 (wd N (k / 64)) (bitW k)))).ext hx4)
    rw [setC_with N k] at hB2
    have hB4 := ((((unhide hB4').ext hx3).keep (Keep.setCell w3 b2 (k / 64) (.int .u64 (bits .or .u64 (wd N (k / 64)) (bitW k)))) (by simpa using unhide hbb)).ext hx4)
    have hx5 := hide ((((unhide hx2').trans hx3).of_new (Keep.setCell w3 b2 (k / 64) (.int .u64 (bits .or .u64 (wd N (k / 64)) (bitW k)))) (by simp [hb2e])).trans hx4)
    refine wpX_done (by kernel_rfl) ?_
    try go_frame
    clear hB2' hB4' hx2' hx3 hx4 c0 c1 f1 h1 hw h6 h7 h8
    generalize N ||| 2 ^ k = M at *
    have hself := Ext.refl w4
    have e0 := hB2.cells 0 (v := .int .u64 (wd M 0)) rfl
    have e1 := hB2.cells 1 (v := .int .u64 (wd M 1)) rfl
    have e2 := hB2.cells 2 (v := .int .u64 (wd M 2)) rfl
    have e3 := hB2.cells 3 (v := .int .u64 (wd M 3)) rfl
    have e4 := hB2.cells 4 (v := .int .u64 (wd M 4)) rfl
    have e5 := hB2.cells 5 (v := .int .u64 (wd M 5)) rfl
    have e6 := hB2.cells 6 (v := .int .u64 (wd M 6)) rfl
    have e7 := hB2.cells 7 (v := .int .u64 (wd M 7)) rfl
    have e8 := hB2.cells 8 (v := .int .u64 (wd M 8)) rfl
    have e9 := hB2.cells 9 (v := .int .u64 (wd M 9)) rfl
    have e10 := hB2.cells 10 (v := .int .u64 (wd M 10)) rfl
    have e11 := hB2.cells 11 (v := .int .u64 (wd M 11)) rfl
    have e12 := hB2.cells 12 (v := .int .u64 (wd M 12)) rfl
    have e13 := hB2.cells 13 (v := .int .u64 (wd M 13)) rfl
    have e14 := hB2.cells 14 (v := .int .u64 (wd M 14)) rfl
    have e15 := hB2.cells 15 (v := .int .u64 (wd M 15)) rfl
    have g0 := hB4.frozen 0
    have g1 := hB4.frozen 1
    have g2 := hB4.frozen 2
    have g3 := hB4.frozen 3
    have g4 := hB4.frozen 4
    have g5 := hB4.frozen 5
    have g6 := hB4.frozen 6
    have g7 := hB4.frozen 7
    have g8 := hB4.frozen 8
    have g9 := hB4.frozen 9
    have g10 := hB4.frozen 10
    have g11 := hB4.frozen 11
    have g12 := hB4.frozen 12
    have g13 := hB4.frozen 13
    have g14 := hB4.frozen 14
    have g15 := hB4.frozen 15
    have z0 := hB4.cells 0 (v := .int .u64 (wd 0 0)) rfl
    have z1 := hB4.cells 1 (v := .int .u64 (wd 0 1)) rfl
    have z2 := hB4.cells 2 (v := .int .u64 (wd 0 2)) rfl
    have z3 := hB4.cells 3 (v := .int .u64 (wd 0 3)) rfl
    have z4 := hB4.cells 4 (v := .int .u64 (wd 0 4)) rfl
    have z5 := hB4.cells 5 (v := .int .u64 (wd 0 5)) rfl
    have z6 := hB4.cells 6 (v := .int .u64 (wd 0 6)) rfl
    have z7 := hB4.cells 7 (v := .int .u64 (wd 0 7)) rfl
    have z8 := hB4.cells 8 (v := .int .u64 (wd 0 8)) rfl
    have z9 := hB4.cells 9 (v := .int .u64 (wd 0 9)) rfl
    have z10 := hB4.cells 10 (v := .int .u64 (wd 0 10)) rfl
    have z11 := hB4.cells 11 (v := .int .u64 (wd 0 11)) rfl
    have z12 := hB4.cells 12 (v := .int .u64 (wd 0 12)) rfl
    have z13 := hB4.cells 13 (v := .int .u64 (wd 0 13)) rfl
    have z14 := hB4.cells 14 (v := .int .u64 (wd 0 14)) rfl
    have z15 := hB4.cells 15 (v := .int .u64 (wd 0 15)) rfl
    have hB4' := hide hB4
    clear hB2 hB4
    go_wp2_with fail
    rw [unhide hN']
    refine bodyPost_ret (ret_cell1 rfl rfl (load_Set _ b4 M (Blk.set16 M (unhide hB4')))) rfl ?_
    exact ⟨rfl, (unhide hx5).of_new (Keep.set16 w4 b4 M) (by simp; omega)⟩
  · have h5 : fitB n = false := by simpa using hf
    have hN : withS N n = N := by rw [withS, if_neg hf]
    have hN' := hide hN
    have hB0' := hide hB0
    clear hf hB0 hN
    go_enter Tryz.func113, Tryz.ntmps113
    go_wp2_with fail
    have hx1 := hide ((ext_self1 w (.cells (setC N) 56)).trans (ext_self1 _ (.cells (setC 0) 56)))
    have hB2 := hide ((unhide hB0').ext (ext_self1 (w.alloc (.cells (setC N) 56)) (.cells (setC 0) 56)))
    have hB4 := hide (Blk.new (w.alloc (.cells (setC N) 56)) 56 (setC 0))
    have hs : (w.alloc (.cells (setC N) 56)).heap.size = w.heap.size + 1 := World.size_alloc _ _
    rw [hs] at hB4
    clear hs hB0'
    have hz : setC 0 = #[.int .u64 0, .int .u64 0, .int .u64 0, .int .u64 0, .int .u64 0, .int .u64 0, .int .u64 0, .int .u64 0, .int .u64 0, .int .u64 0, .int .u64 0, .int .u64 0, .int .u64 0, .int .u64 0, .int .u64 0, .int .u64 0] := rfl
    rw [hz] at hx1 hB2 hB4
    generalize (w.alloc (.cells (setC N) 56)).alloc (.cells #[.int .u64 0, .int .u64 0, .int .u64 0, .int .u64 0, .int .u64 0, .int .u64 0, .int .u64 0, .int .u64 0, .int .u64 0, .int .u64 0, .int .u64 0, .int .u64 0, .int .u64 0, .int .u64 0, .int .u64 0, .int .u64 0] 56) = W1 at *
    rw [← hz] at hB4
    clear hz
    generalize hb4e : w.heap.size + 1 = b4 at *
    generalize hb2e : w.heap.size = b2 at *
    refine (fits_any _ _).mono ?_
    rw [h5]
    rintro e w4 ⟨rfl, hx2⟩
    have hB2 := (unhide hB2).ext hx2
    have hB4 := (unhide hB4).ext hx2
    have hx5 := hide ((unhide hx1).trans hx2)
    clear hx2 hx1
    have hself := Ext.refl w4
    have e0 := hB2.cells 0 (v := .int .u64 (wd N 0)) rfl
    have e1 := hB2.cells 1 (v := .int .u64 (wd N 1)) rfl
    have e2 := hB2.cells 2 (v := .int .u64 (wd N 2)) rfl
    have e3 := hB2.cells 3 (v := .int .u64 (wd N 3)) rfl
    have e4 := hB2.cells 4 (v := .int .u64 (wd N 4)) rfl
    have e5 := hB2.cells 5 (v := .int .u64 (wd N 5)) rfl
    have e6 := hB2.cells 6 (v := .int .u64 (wd N 6)) rfl
    have e7 := hB2.cells 7 (v := .int .u64 (wd N 7)) rfl
    have e8 := hB2.cells 8 (v := .int .u64 (wd N 8)) rfl
    have e9 := hB2.cells 9 (v := .int .u64 (wd N 9)) rfl
    have e10 := hB2.cells 10 (v := .int .u64 (wd N 10)) rfl
    have e11 := hB2.cells 11 (v := .int .u64 (wd N 11)) rfl
    have e12 := hB2.cells 12 (v := .int .u64 (wd N 12)) rfl
    have e13 := hB2.cells 13 (v := .int .u64 (wd N 13)) rfl
    have e14 := hB2.cells 14 (v := .int .u64 (wd N 14)) rfl
    have e15 := hB2.cells 15 (v := .int .u64 (wd N 15)) rfl
    have g0 := hB4.frozen 0
    have g1 := hB4.frozen 1
    have g2 := hB4.frozen 2
    have g3 := hB4.frozen 3
    have g4 := hB4.frozen 4
    have g5 := hB4.frozen 5
    have g6 := hB4.frozen 6
    have g7 := hB4.frozen 7
    have g8 := hB4.frozen 8
    have g9 := hB4.frozen 9
    have g10 := hB4.frozen 10
    have g11 := hB4.frozen 11
    have g12 := hB4.frozen 12
    have g13 := hB4.frozen 13
    have g14 := hB4.frozen 14
    have g15 := hB4.frozen 15
    have z0 := hB4.cells 0 (v := .int .u64 (wd 0 0)) rfl
    have z1 := hB4.cells 1 (v := .int .u64 (wd 0 1)) rfl
    have z2 := hB4.cells 2 (v := .int .u64 (wd 0 2)) rfl
    have z3 := hB4.cells 3 (v := .int .u64 (wd 0 3)) rfl
    have z4 := hB4.cells 4 (v := .int .u64 (wd 0 4)) rfl
    have z5 := hB4.cells 5 (v := .int .u64 (wd 0 5)) rfl
    have z6 := hB4.cells 6 (v := .int .u64 (wd 0 6)) rfl
    have z7 := hB4.cells 7 (v := .int .u64 (wd 0 7)) rfl
    have z8 := hB4.cells 8 (v := .int .u64 (wd 0 8)) rfl
    have z9 := hB4.cells 9 (v := .int .u64 (wd 0 9)) rfl
    have z10 := hB4.cells 10 (v := .int .u64 (wd 0 10)) rfl
    have z11 := hB4.cells 11 (v := .int .u64 (wd 0 11)) rfl
    have z12 := hB4.cells 12 (v := .int .u64 (wd 0 12)) rfl
    have z13 := hB4.cells 13 (v := .int .u64 (wd 0 13)) rfl
    have z14 := hB4.cells 14 (v := .int .u64 (wd 0 14)) rfl
    have z15 := hB4.cells 15 (v := .int .u64 (wd 0 15)) rfl
    have hB4' := hide hB4
    clear hB2 hB4
    go_wp2_with fail
    rw [unhide hN']
    refine bodyPost_ret (ret_cell1 rfl rfl (load_Set _ b4 N (Blk.set16 N (unhide hB4')))) rfl ?_
    exact ⟨rfl, (unhide hx5).of_new (Keep.set16 w4 b4 N) (by simp; omega)⟩
end Go.Proofs.YtjehhilijeajnaaGreatDoor
/- A SET IN MEMORY, read and written as one. Conditions: see each theorem. -/
namespace Go.Proofs.YtjehhilijeajnaaGreatDoor
open Go Go.RowKit

/-- the world with a set written -/
def putS (w : World) (b : Nat) (N : Nat) : World := ((((((((((((((((w.setCell ⟨b, 0, none⟩ (.int .u64 (wd N 0))).setCell ⟨b, 1, none⟩ (.int .u64 (wd N 1))).setCell ⟨b, 2, none⟩ (.int .u64 (wd N 2))).setCell ⟨b, 3, none⟩ (.int .u64 (wd N 3))).setCell ⟨b, 4, none⟩ (.int .u64 (wd N 4))).setCell ⟨b, 5, none⟩ (.int .u64 (wd N 5))).setCell ⟨b, 6, none⟩ (.int .u64 (wd N 6))).setCell ⟨b, 7, none⟩ (.int .u64 (wd N 7))).setCell ⟨b, 8, none⟩ (.int .u64 (wd N 8))).setCell ⟨b, 9, none⟩ (.int .u64 (wd N 9))).setCell ⟨b, 10, none⟩ (.int .u64 (wd N 10))).setCell ⟨b, 11, none⟩ (.int .u64 (wd N 11))).setCell ⟨b, 12, none⟩ (.int .u64 (wd N 12))).setCell ⟨b, 13, none⟩ (.int .u64 (wd N 13))).setCell ⟨b, 14, none⟩ (.int .u64 (wd N 14))).setCell ⟨b, 15, none⟩ (.int .u64 (wd N 15)))
theorem Blk.putS {w : World} {b M : Nat} (N : Nat) (h : Blk w b 56 (setC M)) : Blk (putS w b N) b 56 (setC N) := Blk.set16 N h
theorem Keep.putS (w : World) (b : Nat) (N : Nat) : Keep [b] w (putS w b N) := Keep.set16 w b N
set_option maxRecDepth 100000 in
set_option maxHeartbeats 4000000 in
theorem store_Set {w : World} {b M : Nat} (N : Nat) (h : Blk w b 56 (setC M)) : (storeCells ⟨b, 0, none⟩ (setC N).toList).run Tryz.prog w = .ok () (putS w b N) := by
  have c0 := h.cell 0
  have f0 := h.frozen 0
  have c1 := h.cell 1
  have f1 := h.frozen 1
  have c2 := h.cell 2
  have f2 := h.frozen 2
  have c3 := h.cell 3
  have f3 := h.frozen 3
  have c4 := h.cell 4
  have f4 := h.frozen 4
  have c5 := h.cell 5
  have f5 := h.frozen 5
  have c6 := h.cell 6
  have f6 := h.frozen 6
  have c7 := h.cell 7
  have f7 := h.frozen 7
  have c8 := h.cell 8
  have f8 := h.frozen 8
  have c9 := h.cell 9
  have f9 := h.frozen 9
  have c10 := h.cell 10
  have f10 := h.frozen 10
  have c11 := h.cell 11
  have f11 := h.frozen 11
  have c12 := h.cell 12
  have f12 := h.frozen 12
  have c13 := h.cell 13
  have f13 := h.frozen 13
  have c14 := h.cell 14
  have f14 := h.frozen 14
  have c15 := h.cell 15
  have f15 := h.frozen 15
  simp [setC] at c0 c1 c2 c3 c4 c5 c6 c7 c8 c9 c10 c11 c12 c13 c14 c15
  simp [setC, putS, c0, f0, c1, f1, c2, f2, c3, f3, c4, f4, c5, f5, c6, f6, c7, f7, c8, f8, c9, f9, c10, f10, c11, f11, c12, f12, c13, f13, c14, f14, c15, f15, go_sem]
end Go.Proofs.YtjehhilijeajnaaGreatDoor
/- RANGES OVER A FUNCTION: regions that draw their order in a round; the statement's law for iterators that keep cells of their own; the marks at a function's end. Conditions: see each theorem. -/
namespace Go.Proofs.YtjehhilijeajnaaGreatDoor
open Go Go.RowKit Go.Shelf

/-- the fence of a round of the loop l -/
abbrev RF (l : Nat) : Fence := Fence.wide.inRound l
theorem calls_in {P : Program} {f : FuncId} {args : Array Value} {w : World} {R : Ending → World → Prop} (l n : Nat) (h : Calls P f args w R) : CallsIn (RF l) n P f args w R := CallsIn.inRound l (callsIn_wide.2 h)

def noDefer (ops : Array Oper) : Bool := ops.all fun o => match o.op with | .defer _ => false | _ => true
theorem noDefer_at {ops : Array Oper} (h : noDefer ops = true) {i : Nat} {o : Oper} (ho : ops[i]? = some o) : ∀ c, o.op ≠ .defer c := by
  intro c hc
  have h1 := Array.all_eq_true'.1 h o (Array.mem_of_getElem? ho)
  simp [hc] at h1

section
variable {P : Program} {ops : Array Oper} {R : World → World → Prop} {C : World → Prop} {safe : Nat → Bool}
theorem wpOpIn_of_xStep {Q : Exit → Act → World → Prop} {l n i : Nat} {K : Act → World → Prop} {a : Act} {w : World} (hnd : noDefer ops = true) (hx : xStep P ops i K a w) : wpOpIn (RF l) n P ops Q i K a w := by
  unfold xStep at hx
  unfold wpOpIn
  split
  · rename_i ho; simp only [ho] at hx; exact hx
  · rename_i o ho
    simp only [ho] at hx
    have hnd' := noDefer_at hnd ho
    split
    · rename_i hw
      simp only [hw, if_true] at hx
      unfold Oper.wpIn
      refine ⟨fun _ _ => trivial, ?_⟩
      rw [Oper.semAt_plain _ _ _ hnd']
      generalize (execOp a.eval o).run P w = r at *
      cases r with
      | ok x w' =>
        cases x <;> simp only [lUpon] at hx <;> simp only [Oper.uponIn]
        case value v => exact hx
        case skip => exact hx
        case enter f args => exact ⟨fun h => by simp [Fence.wide] at h, (calls_in l _ hx).mono fun e w'' ⟨v, he, hk⟩ => by subst he; exact hk⟩
      | halt x w' => simp only [lUpon] at hx
    · rename_i hw; simp only [hw] at hx; exact ⟨fun _ _ => trivial, hx⟩

theorem wpAnyIn_of_wpX {Q : Act → World → Prop} {Q' : Exit → Act → World → Prop} {l m : Nat} (hnd : noDefer ops = true) (hR : ∀ w, R w w) (hQ : ∀ a w, Q a w → Q' .normal a w) : ∀ (n : Nat) (listed : Array Bool) (a : Act) (w : World), wpX P ops R C safe Q n listed a w → wpAnyIn (RF l) m P .any ops Q' n listed a w
  | 0, _, _, _, h => ⟨h.1, hQ _ _ h.2⟩
  | n + 1, _, _, _, h => ⟨fun h0 => hQ _ _ (h.1 h0), fun i hi => wpOpIn_of_xStep hnd (xStep_mono (fun a' w' hk => wpAnyIn_of_wpX hnd hR hQ n _ a' w' (hk.2 w' (hR w'))) (h.2 i hi))⟩

/-- .. in a round -/
theorem wpI_region_ql {id l0 m : Nat} {Q : Exit → Act → World → Prop} {a : Act} {w : World} {l : List Oper} (R : World → World → Prop) (C : World → Prop) (qs ts : List Nat) (n : Nat) (listed : Array Bool)
    (hm : P.follows .mixedOrders = true) (hnd : noDefer l.toArray = true) (hB : qlB l.toArray qs ts (ancTab l.toArray) = true) (hn : n + qs.length = l.length) (hlst : qlListed l.toArray qs (Array.replicate l.length false) = listed)
    (hR : ∀ w, R w w) (hRt : ∀ a b c, R a b → R b c → R a c) (hCR : ∀ w w', C w → R w w' → C w') (hC : C w.drew)
    (h : wpQL P l.toArray R C (fun a' => ∀ w', C w' → wpX P l.toArray R C (fun j => !ts.contains j) (fun a w => Q .normal a w) n listed a' w') qs a) : (Code.region id l.toArray true).wpIn (RF l0) m P Q a w := by
  subst hlst
  simp only [qlB, Bool.and_eq_true] at hB
  obtain ⟨⟨⟨h1, h2⟩, h3⟩, h4⟩ := hB
  refine wpIn_region_any hm ?_
  have hsz : l.toArray.size = l.length := by simp
  rw [hsz] at h4 ⊢
  have := wpX_ql (P := P) (Q := fun a w => Q .normal a w) (ancOk_of h1) (fun j hj => by
    simp only [Bool.not_eq_true', List.contains_eq_mem, decide_eq_false_iff_not]
    intro hin
    have := List.all_eq_true.1 h3 j hin
    simp at this
    omega) h2 hR hRt hCR n qs (Array.replicate l.length false) a w.drew
    (fun j oj _ hl => by
      exfalso
      rcases Nat.lt_or_ge j l.length with hj | hj
      · simp [hj] at hl
      · simp [hj] at hl) h4 hC h
  rw [hn] at this
  exact wpAnyIn_of_wpX hnd hR (fun _ _ h => h) _ _ _ _ this
theorem wpI_region_still {id l0 m : Nat} {Q : Exit → Act → World → Prop} {a : Act} {w : World} {l : List Oper} (qs ts : List Nat) (n : Nat) (listed : Array Bool)
    (hm : P.follows .mixedOrders = true) (hnd : noDefer l.toArray = true) (hB : qlB l.toArray qs ts (ancTab l.toArray) = true) (hn : n + qs.length = l.length) (hlst : qlListed l.toArray qs (Array.replicate l.length false) = listed)
    (h : wpQL P l.toArray (fun a b => b = a) (Ext w) (fun a' => ∀ w', Ext w w' → wpX P l.toArray (fun a b => b = a) (Ext w) (fun j => !ts.contains j) (fun a w => Q .normal a w) n listed a' w') qs a) : (Code.region id l.toArray true).wpIn (RF l0) m P Q a w :=
  wpI_region_ql (fun a b => b = a) (Ext w) qs ts n listed hm hnd hB hn hlst (fun _ => rfl) (fun _ _ _ h1 h2 => h2.trans h1) (fun _ _ h e => by rw [e]; exact h) (Ext.refl w).drew h
theorem wpI_region_ext {id l0 m : Nat} {Q : Exit → Act → World → Prop} {a : Act} {w : World} {l : List Oper} (qs ts : List Nat) (n : Nat) (listed : Array Bool)
    (hm : P.follows .mixedOrders = true) (hnd : noDefer l.toArray = true) (hB : qlB l.toArray qs ts (ancTab l.toArray) = true) (hn : n + qs.length = l.length) (hlst : qlListed l.toArray qs (Array.replicate l.length false) = listed)
    (h : wpQL P l.toArray Ext (Ext w) (fun a' => ∀ w', Ext w w' → wpX P l.toArray Ext (Ext w) (fun j => !ts.contains j) (fun a w => Q .normal a w) n listed a' w') qs a) : (Code.region id l.toArray true).wpIn (RF l0) m P Q a w :=
  wpI_region_ql Ext (Ext w) qs ts n listed hm hnd hB hn hlst Ext.refl (fun _ _ _ => Ext.trans) (fun _ _ h e => h.trans e) (Ext.refl w).drew h
end

/-- the n blocks from B on -/
def privs (B n : Nat) : List Nat := (List.range n).map (B + ·)
theorem mem_privs {B n x : Nat} : x ∈ privs B n ↔ B ≤ x ∧ x < B + n := by
  unfold privs
  simp only [List.mem_map, List.mem_range]
  exact ⟨fun ⟨i, h, e⟩ => by omega, fun h => ⟨x - B, by omega, by omega⟩⟩
theorem inX {B n x : Nat} {ex : List Nat} (h : B ≤ x ∧ x < B + n) : x ∈ privs B n ++ ex := List.mem_append.2 (.inl (mem_privs.2 h))
/-- these blocks lie as they lay -/
def Same (X : List Nat) (W W' : World) : Prop := ∀ b ∈ X, W'.heap[b]? = W.heap[b]?
theorem Same.refl (X : List Nat) (W : World) : Same X W W := fun _ _ => rfl
theorem Same.trans {X : List Nat} {A B C : World} (h : Same X A B) (k : Same X B C) : Same X A C := fun b hb => (k b hb).trans (h b hb)
theorem Same.of_keep {X S : List Nat} {W W' : World} (h : Keep S W W') (hX : ∀ x ∈ X, x < W.heap.size ∧ x ∉ S) : Same X W W' := fun b hb => h.block b (hX b hb).1 (hX b hb).2
theorem Keep.putObj (W : World) (l : Nat) (o : Obj) : Keep [l] W (W.putObj l o) := ⟨rfl, rfl, rfl, by simp, fun k _ hn => World.putObj_heap_other (by simpa using hn)⟩
theorem Keep.of_grown {W W' : World} {row : Option Nat} (h : W.grownBy W' row) : Keep row.toList W W' := ⟨h.os, h.tape, h.output, h.size, fun i hi hne => h.block i hi (by
  intro e
  rw [← e] at hne
  simp at hne)⟩

section
variable {P : Program} {α : Type}
/-- WHAT AN ITERATOR DOES: it hands over xs, one by one, or stops where a round says so; np blocks of its own lie behind what lay when it was called; all else that it does to the heap is new. -/
def Iter1 (P : Program) (g : Nat) (lb : Array Value) (encs : α → Array Value) (xs : List α) (np : Nat) (ex : List Nat) (w0 : World) : Prop :=
  ∀ (l : Nat) (J Jx : List α → World → Prop) (W : World), Ext w0 W →
    (∀ s A B, J s A → Keep (privs W.heap.size np) A B → J s B) → (∀ s A B, Jx s A → Keep (privs W.heap.size np) A B → Jx s B) →
    (∀ pre x A, J pre A → (pre ++ [x]) <+: xs → W.heap.size + np ≤ A.heap.size → YieldAt Fence.wide 0 P l (encs x) A fun e B =>
      ((e = .returned (.bool true) ∧ J (pre ++ [x]) B) ∨ (e = .returned (.bool false) ∧ Jx (pre ++ [x]) B)) ∧ Same (privs W.heap.size np ++ ex) A B ∧ A.heap.size ≤ B.heap.size) →
    J [] W →
    CallsIn Fence.wide 0 P g (#[.func (.yield l) #[] #[]] ++ lb) W fun e W' => (∃ v, e = .returned v) ∧ (J xs W' ∨ ∃ pre, Jx pre W')

/-- how the body of a round may be left -/
def rPost (X : List Nat) (I : List α → World → Prop) (Ix : Code → List α → World → Prop) (xs : List α) (W : World) : Exit → Act → World → Prop
  | .normal, _, W' => W.heap.size ≤ W'.heap.size ∧ Same X W W' ∧ I xs W'
  | .ret, _, W' => W.heap.size ≤ W'.heap.size ∧ Same X W W' ∧ Ix .ret xs W'
  | .exit id, _, W' => W.heap.size ≤ W'.heap.size ∧ Same X W W' ∧ Ix (.exit id) xs W'
  | .goto t, _, W' => W.heap.size ≤ W'.heap.size ∧ Same X W W' ∧ Ix (.goto t) xs W'
  | .panic _, _, _ => False
  | .outgrown, _, _ => False

/-- THE STATEMENT: an outermost loop. Its blocks: the deferred calls' at w.heap.size, the record behind it, then the iterator's own. -/
theorem wp_range {g : Operand} {ps : Array Tmp} {assign body : Code} {Q : Exit → Act → World → Prop} {a : Act} {w : World} {gf : Nat} {lb : Array Value}
    (hg : a.eval g = .func (.func gf) #[] lb) (eg : ∀ args w, (callFunc gf args).run P w = .ok (.enter gf args) w)
    {encs : α → Array Value} {xs : List α} {np : Nat} {ex : List Nat} (hex : ∀ b ∈ ex, b < w.heap.size) (hit : Iter1 P gf lb encs xs np ex w) (hps : ∀ x, (encs x).size = ps.size)
    (I : List α → World → Prop) (Ix : Code → List α → World → Prop) (Ia : Array Value → List α → α → Act → World → Prop)
    (hI : ∀ s A B, I s A → Keep (privs w.heap.size (2 + np)) A B → I s B) (hIx : ∀ c s A B, Ix c s A → Keep (privs w.heap.size (2 + np)) A B → Ix c s B)
    (hIa : ∀ s x a1 A B, Ia a.tmps s x a1 A → Keep (privs w.heap.size (2 + np)) A B → Ia a.tmps s x a1 B) (h0 : I [] w)
    (hassign : ∀ (pre : List α) (x : α) (W : World) (K : Act → World → Prop), I pre W → (pre ++ [x]) <+: xs → w.heap.size + (2 + np) ≤ W.heap.size →
      (∀ a1 W1, Ia a.tmps pre x a1 W1 → Same (privs w.heap.size (2 + np) ++ ex) W W1 → W.heap.size ≤ W1.heap.size → K a1 W1) →
      assign.wpIn (RF (w.heap.size + 1)) 0 P (Exit.then K (fun _ _ _ => False)) { tmps := (ps.zip (encs x)).foldl (fun t (p, v) => t.setIfInBounds p v) a.tmps, defers := [] } W)
    (hbody : ∀ (pre : List α) (x : α) (a1 : Act) (W : World), Ia a.tmps pre x a1 W → (pre ++ [x]) <+: xs → w.heap.size + (2 + np) ≤ W.heap.size → (∃ r, W.heap[w.heap.size + 1]? = some (.loop r)) →
      body.wpIn (RF (w.heap.size + 1)) 0 P (rPost (privs w.heap.size (2 + np) ++ ex) I Ix (pre ++ [x]) W) a1 W)
    (hdone : ∀ W : World, I xs W → W.heap[w.heap.size]? = some (.deferred (some [])) → Q .normal { a with defers := { target := .collected w.heap.size, args := #[] } :: a.defers } W)
    (hstop : ∀ (c : Code) (pre : List α) (W : World), Ix c pre W → W.heap[w.heap.size]? = some (.deferred (some [])) → c.wp P Q { a with defers := { target := .collected w.heap.size, args := #[] } :: a.defers } W) :
    (Code.rangeFunc g ps assign body).wp P Q a w := by
  refine wpIn_wide (n := 0) |>.1 (wpIn_rangeFunc ?_)
  intro fn _
  obtain ⟨rec, hrec⟩ : ∃ rec : LoopState → Option Code → Loop, rec = fun st pe => { state := st, pending := pe, fn, tmps := a.tmps, params := ps, assign, body, defers := w.heap.size } := ⟨_, rfl⟩
  obtain ⟨W1, hW1⟩ : ∃ W1, (w.alloc (.deferred (some []))).alloc (.loop (rec .ready none)) = W1 := ⟨_, rfl⟩
  have hs1 : W1.heap.size = w.heap.size + 2 := by rw [← hW1]; simp
  have hL1 : W1.heap[w.heap.size + 1]? = some (.loop (rec .ready none)) := by
    rw [← hW1]; have := World.alloc_heap_new (w.alloc (.deferred (some []))) (.loop (rec .ready none)); rwa [World.size_alloc] at this
  have hK1 : W1.heap[w.heap.size]? = some (.deferred (some [])) := by
    rw [← hW1]; exact (Below.heap_alloc _ _ _ (by simp)).trans (World.alloc_heap_new w _)
  have hx1 : Ext w W1 := by rw [← hW1]; exact ((Ext.refl w).alloc _).alloc _
  have hsub : ∀ {A B : World}, Keep (privs W1.heap.size np) A B → Keep (privs w.heap.size (2 + np)) A B := fun h => h.mono fun x hx => by
    rw [mem_privs] at hx ⊢; omega
  have hkl : ∀ (A : World) (o : Obj), Keep (privs w.heap.size (2 + np)) A (A.putObj (w.heap.size + 1) o) := fun A o => (Keep.putObj A _ o).mono fun x hx => by
    simp only [List.mem_singleton] at hx; subst hx; rw [mem_privs]; omega
  have hI1 : I [] W1 := hI _ _ _ h0 (hx1.keep _)
  refine ⟨w.heap.size + 1, [{ target := .collected w.heap.size, args := #[] }], W1, { target := .fn (.func gf) lb, args := #[.func (.yield (w.heap.size + 1)) #[] #[]] }, W1, gf,
    #[.func (.yield (w.heap.size + 1)) #[] #[]] ++ lb, W1, ?_, ?_, ?_, ?_, fun h => by simp [Fence.wide] at h, ?_⟩
  · rw [← hW1, hrec]; exact run_enterLoop_outer _ _ _ _ _
  · simp only [resolve, hg]
    simp [go_sem]
  · intro _ _; trivial
  · simp [invoke, go_sem, eg]
  · refine (hit (w.heap.size + 1)
      (fun pre W => I pre W ∧ W.heap[w.heap.size + 1]? = some (.loop (rec .ready none)) ∧ W.heap[w.heap.size]? = some (.deferred (some [])) ∧ w.heap.size + 2 ≤ W.heap.size)
      (fun pre W => ∃ c, Ix c pre W ∧ W.heap[w.heap.size + 1]? = some (.loop (rec .done (some c))) ∧ W.heap[w.heap.size]? = some (.deferred (some [])))
      W1 hx1 ?_ ?_ ?_ ⟨hI1, hL1, hK1, by omega⟩).mono ?_
    · rintro s A B ⟨h1, h2, h3, h4⟩ hk
      exact ⟨hI _ _ _ h1 (hsub hk), (hk.block _ (by omega) (by rw [mem_privs]; omega)).trans h2, (hk.block _ (by omega) (by rw [mem_privs]; omega)).trans h3, Nat.le_trans h4 hk.size⟩
    · rintro s A B ⟨c, h1, h2, h3⟩ hk
      have hlt := (Array.getElem?_eq_some_iff.1 h2).1
      exact ⟨c, hIx _ _ _ _ h1 (hsub hk), (hk.block _ (by omega) (by rw [mem_privs]; omega)).trans h2, (hk.block _ (by omega) (by rw [mem_privs]; omega)).trans h3⟩
    · -- ONE ROUND
      rintro pre x W ⟨hi, hl, hk, hsz⟩ hpre hnp
      have hy := run_yield (P := P) (args := encs x) hl (by rw [hrec]; exact hps x)
      rw [hrec] at hy
      refine ⟨fn, _, assign, body, hy, roundIn_of_wpIn trivial (hassign pre x W _ hi hpre (by omega) ?_)⟩
      clear hy
      intro a1 Wa hia hsa hza
      have hla : Wa.heap[w.heap.size + 1]? = some (.loop (rec .ready none)) := (hsa _ (inX (by omega))).trans hl
      have hka : Wa.heap[w.heap.size]? = some (.deferred (some [])) := (hsa _ (inX (by omega))).trans hk
      refine ⟨_, run_beginRound hla (by rw [hrec]), ?_⟩
      have hlt : w.heap.size + 1 < Wa.heap.size := (Array.getElem?_eq_some_iff.1 hla).1
      have hl2 : (Wa.putObj (w.heap.size + 1) (.loop { rec .ready none with state := .busy })).heap[w.heap.size + 1]? = some (.loop { rec .ready none with state := .busy }) := World.putObj_heap_same hlt
      have hk2 : (Wa.putObj (w.heap.size + 1) (.loop { rec .ready none with state := .busy })).heap[w.heap.size]? = some (.deferred (some [])) := (World.putObj_heap_other (by omega)).trans hka
      have hp2 : Same (privs W1.heap.size np ++ ex) W (Wa.putObj (w.heap.size + 1) (.loop { rec .ready none with state := .busy })) := fun b hb => by
        rcases List.mem_append.1 hb with hb | hb
        · rw [mem_privs] at hb
          exact (World.putObj_heap_other (by omega)).trans (hsa b (inX (by omega)))
        · have := hex b hb
          exact (World.putObj_heap_other (by omega)).trans (hsa b (List.mem_append.2 (.inr hb)))
      have hz2 : (Wa.putObj (w.heap.size + 1) (.loop { rec .ready none with state := .busy })).heap.size = Wa.heap.size := by simp
      have hb := hbody pre x a1 (Wa.putObj (w.heap.size + 1) (.loop { rec .ready none with state := .busy })) (hIa _ _ _ _ _ hia (hkl Wa (.loop { rec .ready none with state := .busy }))) hpre (by omega) ⟨_, hl2⟩
      generalize Wa.putObj (w.heap.size + 1) (.loop { rec .ready none with state := .busy }) = W2 at *
      refine wpIn_mono hb ?_
      have fin : ∀ (jump : Option Code) (W3 : World), Same (privs w.heap.size (2 + np) ++ ex) W2 W3 → W2.heap.size ≤ W3.heap.size →
          (Instr.endRound (w.heap.size + 1) jump).run P W3 = .ok (.bool jump.isNone) (W3.putObj (w.heap.size + 1) (.loop (rec (if jump.isNone then .ready else .done) jump))) ∧
          (W3.putObj (w.heap.size + 1) (.loop (rec (if jump.isNone then .ready else .done) jump))).heap[w.heap.size + 1]? = some (.loop (rec (if jump.isNone then .ready else .done) jump)) ∧
          (W3.putObj (w.heap.size + 1) (.loop (rec (if jump.isNone then .ready else .done) jump))).heap[w.heap.size]? = some (.deferred (some [])) ∧
          Same (privs W1.heap.size np ++ ex) W (W3.putObj (w.heap.size + 1) (.loop (rec (if jump.isNone then .ready else .done) jump))) ∧
          W.heap.size ≤ (W3.putObj (w.heap.size + 1) (.loop (rec (if jump.isNone then .ready else .done) jump))).heap.size := fun jump W3 hk3 hz3 => by
        have hl3 := (hk3 _ (inX (by omega))).trans hl2
        have hk4 := (hk3 _ (inX (by omega))).trans hk2
        have := run_endRound (P := P) jump hl3
        rw [hrec] at this ⊢
        refine ⟨this, World.putObj_heap_same (Array.getElem?_eq_some_iff.1 hl3).1, (World.putObj_heap_other (by omega)).trans hk4, fun b hb => ?_, by simp; omega⟩
        have hb' := hb
        rcases List.mem_append.1 hb with hb | hb
        · rw [mem_privs] at hb
          exact (World.putObj_heap_other (by omega)).trans ((hk3 b (inX (by omega))).trans (hp2 b hb'))
        · have := hex b hb
          exact (World.putObj_heap_other (by omega)).trans ((hk3 b (List.mem_append.2 (.inr hb))).trans (hp2 b hb'))
      rintro e a3 W3 hp
      cases e with
      | normal =>
        obtain ⟨hz3, hk3, hi3⟩ := hp
        obtain ⟨hr, hl4, hk4, hs4, hz4⟩ := fin none W3 hk3 hz3
        exact ⟨_, _, hr, .inl ⟨rfl, hI _ _ _ hi3 (hkl _ _), hl4, hk4, by omega⟩, hs4, hz4⟩
      | ret =>
        obtain ⟨hz3, hk3, hi3⟩ := hp
        obtain ⟨hr, hl4, hk4, hs4, hz4⟩ := fin (some .ret) W3 hk3 hz3
        exact ⟨_, _, hr, .inr ⟨rfl, .ret, hIx _ _ _ _ hi3 (hkl _ _), hl4, hk4⟩, hs4, hz4⟩
      | exit id =>
        obtain ⟨hz3, hk3, hi3⟩ := hp
        obtain ⟨hr, hl4, hk4, hs4, hz4⟩ := fin (some (.exit id)) W3 hk3 hz3
        exact ⟨_, _, hr, .inr ⟨rfl, .exit id, hIx _ _ _ _ hi3 (hkl _ _), hl4, hk4⟩, hs4, hz4⟩
      | goto t =>
        obtain ⟨hz3, hk3, hi3⟩ := hp
        obtain ⟨hr, hl4, hk4, hs4, hz4⟩ := fin (some (.goto t)) W3 hk3 hz3
        exact ⟨_, _, hr, .inr ⟨rfl, .goto t, hIx _ _ _ _ hi3 (hkl _ _), hl4, hk4⟩, hs4, hz4⟩
      | panic ch => exact hp.elim
      | outgrown => exact hp.elim
    · -- BEHIND THE ITERATOR
      rintro e W2 ⟨⟨v, rfl⟩, (⟨hi, hl, hk, _⟩ | ⟨pre, c, hi, hl, hk⟩)⟩
      · exact ⟨none, _, by have := run_endLoop (P := P) hl (by rw [hrec]; simp); rw [hrec] at this; exact this, hdone _ (hI _ _ _ hi (hkl _ _)) ((World.putObj_heap_other (by omega)).trans hk)⟩
      · exact ⟨some c, _, by have := run_endLoop (P := P) hl (by rw [hrec]; simp); rw [hrec] at this; exact this, wpIn_wide.2 (hstop c pre _ (hIx _ _ _ _ hi (hkl _ _)) ((World.putObj_heap_other (by omega)).trans hk))⟩

/-- THE STATEMENT within a round of the loop l₀. Its blocks: the record at w.heap.size, then the iterator's own. -/
theorem wpI_range {g : Operand} {ps : Array Tmp} {assign body : Code} {Q : Exit → Act → World → Prop} {a : Act} {w : World} {gf : Nat} {lb : Array Value} {l₀ : Nat} {r₀ : Loop} (hl₀ : w.heap[l₀]? = some (.loop r₀))
    (hg : a.eval g = .func (.func gf) #[] lb) (eg : ∀ args w, (callFunc gf args).run P w = .ok (.enter gf args) w)
    {encs : α → Array Value} {xs : List α} {np : Nat} {ex : List Nat} (hex : ∀ b ∈ ex, b < w.heap.size) (hit : Iter1 P gf lb encs xs np ex w) (hps : ∀ x, (encs x).size = ps.size)
    (I : List α → World → Prop) (Ix : Code → List α → World → Prop) (Ia : Array Value → List α → α → Act → World → Prop)
    (hI : ∀ s A B, I s A → Keep (privs w.heap.size (1 + np)) A B → I s B) (hIx : ∀ c s A B, Ix c s A → Keep (privs w.heap.size (1 + np)) A B → Ix c s B)
    (hIa : ∀ s x a1 A B, Ia a.tmps s x a1 A → Keep (privs w.heap.size (1 + np)) A B → Ia a.tmps s x a1 B) (h0 : I [] w)
    (hassign : ∀ (pre : List α) (x : α) (W : World) (K : Act → World → Prop), I pre W → (pre ++ [x]) <+: xs → w.heap.size + (1 + np) ≤ W.heap.size →
      (∀ a1 W1, Ia a.tmps pre x a1 W1 → Same (privs w.heap.size (1 + np) ++ ex) W W1 → W.heap.size ≤ W1.heap.size → K a1 W1) →
      assign.wpIn (RF w.heap.size) 0 P (Exit.then K (fun _ _ _ => False)) { tmps := (ps.zip (encs x)).foldl (fun t (p, v) => t.setIfInBounds p v) a.tmps, defers := [] } W)
    (hbody : ∀ (pre : List α) (x : α) (a1 : Act) (W : World), Ia a.tmps pre x a1 W → (pre ++ [x]) <+: xs → w.heap.size + (1 + np) ≤ W.heap.size → (∃ r, W.heap[w.heap.size]? = some (.loop r)) →
      body.wpIn (RF w.heap.size) 0 P (rPost (privs w.heap.size (1 + np) ++ ex) I Ix (pre ++ [x]) W) a1 W)
    (hdone : ∀ W : World, I xs W → Q .normal a W)
    (hstop : ∀ (c : Code) (pre : List α) (W : World), Ix c pre W → c.wpIn (RF l₀) 0 P Q a W) :
    (Code.rangeFunc g ps assign body).wpIn (RF l₀) 0 P Q a w := by
  refine wpIn_rangeFunc ?_
  intro fn _
  obtain ⟨rec, hrec⟩ : ∃ rec : LoopState → Option Code → Loop, rec = fun st pe => { state := st, pending := pe, fn, tmps := a.tmps, params := ps, assign, body, defers := r₀.defers } := ⟨_, rfl⟩
  obtain ⟨W1, hW1⟩ : ∃ W1, w.alloc (.loop (rec .ready none)) = W1 := ⟨_, rfl⟩
  have hs1 : W1.heap.size = w.heap.size + 1 := by rw [← hW1]; simp
  have hL1 : W1.heap[w.heap.size]? = some (.loop (rec .ready none)) := by rw [← hW1]; exact World.alloc_heap_new w _
  have hx1 : Ext w W1 := by rw [← hW1]; exact (Ext.refl w).alloc _
  have hsub : ∀ {A B : World}, Keep (privs W1.heap.size np) A B → Keep (privs w.heap.size (1 + np)) A B := fun h => h.mono fun x hx => by
    rw [mem_privs] at hx ⊢; omega
  have hkl : ∀ (A : World) (o : Obj), Keep (privs w.heap.size (1 + np)) A (A.putObj w.heap.size o) := fun A o => (Keep.putObj A _ o).mono fun x hx => by
    simp only [List.mem_singleton] at hx; subst hx; rw [mem_privs]; omega
  have hI1 : I [] W1 := hI _ _ _ h0 (hx1.keep _)
  refine ⟨w.heap.size, [], W1, { target := .fn (.func gf) lb, args := #[.func (.yield w.heap.size) #[] #[]] }, W1, gf,
    #[.func (.yield w.heap.size) #[] #[]] ++ lb, W1, ?_, ?_, ?_, ?_, fun h => by simp [Fence.wide] at h, ?_⟩
  · rw [← hW1, hrec]; exact run_enterLoop_inner hl₀ _ _ _ _ _
  · simp only [resolve, hg]
    simp [go_sem]
  · intro _ _; trivial
  · simp [invoke, go_sem, eg]
  · refine CallsIn.inRound l₀ ((hit w.heap.size
      (fun pre W => I pre W ∧ W.heap[w.heap.size]? = some (.loop (rec .ready none)) ∧ w.heap.size + 1 ≤ W.heap.size)
      (fun pre W => ∃ c, Ix c pre W ∧ W.heap[w.heap.size]? = some (.loop (rec .done (some c))))
      W1 hx1 ?_ ?_ ?_ ⟨hI1, hL1, by omega⟩).mono ?_)
    · rintro s A B ⟨h1, h2, h4⟩ hk
      exact ⟨hI _ _ _ h1 (hsub hk), (hk.block _ (by omega) (by rw [mem_privs]; omega)).trans h2, Nat.le_trans h4 hk.size⟩
    · rintro s A B ⟨c, h1, h2⟩ hk
      have hlt := (Array.getElem?_eq_some_iff.1 h2).1
      exact ⟨c, hIx _ _ _ _ h1 (hsub hk), (hk.block _ (by omega) (by rw [mem_privs]; omega)).trans h2⟩
    · rintro pre x W ⟨hi, hl, hsz⟩ hpre hnp
      have hy := run_yield (P := P) (args := encs x) hl (by rw [hrec]; exact hps x)
      rw [hrec] at hy
      refine ⟨fn, _, assign, body, hy, roundIn_of_wpIn trivial (hassign pre x W _ hi hpre (by omega) ?_)⟩
      clear hy
      intro a1 Wa hia hsa hza
      have hla : Wa.heap[w.heap.size]? = some (.loop (rec .ready none)) := (hsa _ (inX (by omega))).trans hl
      refine ⟨_, run_beginRound hla (by rw [hrec]), ?_⟩
      have hlt : w.heap.size < Wa.heap.size := (Array.getElem?_eq_some_iff.1 hla).1
      have hl2 : (Wa.putObj w.heap.size (.loop { rec .ready none with state := .busy })).heap[w.heap.size]? = some (.loop { rec .ready none with state := .busy }) := World.putObj_heap_same hlt
      have hp2 : Same (privs W1.heap.size np ++ ex) W (Wa.putObj w.heap.size (.loop { rec .ready none with state := .busy })) := fun b hb => by
        rcases List.mem_append.1 hb with hb | hb
        · rw [mem_privs] at hb
          exact (World.putObj_heap_other (by omega)).trans (hsa b (inX (by omega)))
        · have := hex b hb
          exact (World.putObj_heap_other (by omega)).trans (hsa b (List.mem_append.2 (.inr hb)))
      have hz2 : (Wa.putObj w.heap.size (.loop { rec .ready none with state := .busy })).heap.size = Wa.heap.size := by simp
      have hb := hbody pre x a1 (Wa.putObj w.heap.size (.loop { rec .ready none with state := .busy })) (hIa _ _ _ _ _ hia (hkl Wa (.loop { rec .ready none with state := .busy }))) hpre (by omega) ⟨_, hl2⟩
      generalize Wa.putObj w.heap.size (.loop { rec .ready none with state := .busy }) = W2 at *
      refine wpIn_mono hb ?_
      have fin : ∀ (jump : Option Code) (W3 : World), Same (privs w.heap.size (1 + np) ++ ex) W2 W3 → W2.heap.size ≤ W3.heap.size →
          (Instr.endRound w.heap.size jump).run P W3 = .ok (.bool jump.isNone) (W3.putObj w.heap.size (.loop (rec (if jump.isNone then .ready else .done) jump))) ∧
          (W3.putObj w.heap.size (.loop (rec (if jump.isNone then .ready else .done) jump))).heap[w.heap.size]? = some (.loop (rec (if jump.isNone then .ready else .done) jump)) ∧
          Same (privs W1.heap.size np ++ ex) W (W3.putObj w.heap.size (.loop (rec (if jump.isNone then .ready else .done) jump))) ∧
          W.heap.size ≤ (W3.putObj w.heap.size (.loop (rec (if jump.isNone then .ready else .done) jump))).heap.size := fun jump W3 hk3 hz3 => by
        have hl3 := (hk3 _ (inX (by omega))).trans hl2
        have := run_endRound (P := P) jump hl3
        rw [hrec] at this ⊢
        refine ⟨this, World.putObj_heap_same (Array.getElem?_eq_some_iff.1 hl3).1, fun b hb => ?_, by simp; omega⟩
        have hb' := hb
        rcases List.mem_append.1 hb with hb | hb
        · rw [mem_privs] at hb
          exact (World.putObj_heap_other (by omega)).trans ((hk3 b (inX (by omega))).trans (hp2 b hb'))
        · have := hex b hb
          exact (World.putObj_heap_other (by omega)).trans ((hk3 b (List.mem_append.2 (.inr hb))).trans (hp2 b hb'))
      rintro e a3 W3 hp
      cases e with
      | normal =>
        obtain ⟨hz3, hk3, hi3⟩ := hp
        obtain ⟨hr, hl4, hs4, hz4⟩ := fin none W3 hk3 hz3
        exact ⟨_, _, hr, .inl ⟨rfl, hI _ _ _ hi3 (hkl _ _), hl4, by omega⟩, hs4, hz4⟩
      | ret =>
        obtain ⟨hz3, hk3, hi3⟩ := hp
        obtain ⟨hr, hl4, hs4, hz4⟩ := fin (some .ret) W3 hk3 hz3
        exact ⟨_, _, hr, .inr ⟨rfl, .ret, hIx _ _ _ _ hi3 (hkl _ _), hl4⟩, hs4, hz4⟩
      | exit id =>
        obtain ⟨hz3, hk3, hi3⟩ := hp
        obtain ⟨hr, hl4, hs4, hz4⟩ := fin (some (.exit id)) W3 hk3 hz3
        exact ⟨_, _, hr, .inr ⟨rfl, .exit id, hIx _ _ _ _ hi3 (hkl _ _), hl4⟩, hs4, hz4⟩
      | goto t =>
        obtain ⟨hz3, hk3, hi3⟩ := hp
        obtain ⟨hr, hl4, hs4, hz4⟩ := fin (some (.goto t)) W3 hk3 hz3
        exact ⟨_, _, hr, .inr ⟨rfl, .goto t, hIx _ _ _ _ hi3 (hkl _ _), hl4⟩, hs4, hz4⟩
      | panic ch => exact hp.elim
      | outgrown => exact hp.elim
    · rintro e W2 ⟨⟨v, rfl⟩, (⟨hi, hl, _⟩ | ⟨pre, c, hi, hl⟩)⟩
      · exact ⟨none, _, by have := run_endLoop (P := P) hl (by rw [hrec]; simp); rw [hrec] at this; exact this, hdone _ (hI _ _ _ hi (hkl _ _))⟩
      · exact ⟨some c, _, by have := run_endLoop (P := P) hl (by rw [hrec]; simp); rw [hrec] at this; exact this, hstop c pre _ (hIx _ _ _ _ hi (hkl _ _))⟩
end

/-- marks of loops that are over, laid from B on -/
inductive Marks (B : Nat) : List Deferred → World → Prop
  | nil (w : World) : Marks B [] w
  | cons {D : Nat} {ds : List Deferred} {w : World} (hB : B ≤ D) (hD : w.heap[D]? = some (.deferred (some []))) (hne : ∀ d ∈ ds, d.target ≠ .collected D) (h : Marks B ds w) : Marks B ({ target := .collected D, args := #[] } :: ds) w
theorem Marks.keep {B : Nat} {ds : List Deferred} {w w' : World} {S : List Nat} (h : Marks B ds w) (k : Keep S w w') (hS : ∀ D ∈ S, ∀ d ∈ ds, d.target ≠ .collected D) : Marks B ds w' := by
  induction h with
  | nil => exact .nil _
  | @cons D ds w hB hD hne h ih =>
    refine .cons hB ((k.block D (Array.getElem?_eq_some_iff.1 hD).1 fun hm => hS D hm { target := .collected D, args := #[] } (by simp) rfl).trans hD) hne (ih k fun D' hD' d hd => hS D' hD' d (by simp [hd]))
theorem Marks.lt {B : Nat} {ds : List Deferred} {w : World} (h : Marks B ds w) : ∀ d ∈ ds, ∃ D, d.target = .collected D ∧ B ≤ D ∧ w.heap[D]? = some (.deferred (some [])) := by
  induction h with
  | nil => simp
  | @cons D ds w hB hD hne h ih =>
    intro d hd
    rcases List.mem_cons.1 hd with rfl | hd
    · exact ⟨D, rfl, hB, hD⟩
    · exact ih d hd
/-- the function's end: the marks are taken off, one by one -/
theorem leaves_marks {P : Program} {fn : Func} {tmps : Array Value} {R : Ending → World → Prop} {B : Nat} : ∀ (ds : List Deferred) (w : World), Marks B ds w →
    (∀ w', (∃ S : List Nat, (∀ x ∈ S, ∃ d ∈ ds, d.target = .collected x) ∧ Keep S w w') → LeavesIn Fence.wide 0 P fn tmps R [] .returning w') → LeavesInM Fence.wide 0 P fn tmps R ds .returning w
  | [], w, _, h => h w ⟨[], by simp, Keep.refl _ _⟩
  | d :: ds, w, hm, h => by
    cases hm with
    | @cons D _ _ hB hD hne hm =>
      refine ⟨by simp, .inl ⟨D, _, rfl, run_takeDeferred hD, leaves_marks ds _ (hm.keep (Keep.putObj w D _) fun D' hD' d hd => ?_) fun w' ⟨S, hS, hk⟩ => h w' ⟨D :: S, ?_, ?_⟩⟩⟩
      · simp only [List.mem_singleton] at hD'
        subst hD'
        exact hne d hd
      · intro x hx
        rcases List.mem_cons.1 hx with rfl | hx
        · exact ⟨{ target := .collected x, args := #[] }, by simp, rfl⟩
        · obtain ⟨d, hd, e⟩ := hS x hx
          exact ⟨d, by simp [hd], e⟩
      · exact ((Keep.putObj w D _).mono (by simp)).trans (hk.mono fun x hx => by simp [hx])
end Go.Proofs.YtjehhilijeajnaaGreatDoor
/- REGIONS IN THE ORDER OF THE TEXT, operation by operation; aggregates read and written as one. Conditions: see each theorem. -/
namespace Go.Proofs.YtjehhilijeajnaaGreatDoor
open Go Go.RowKit

def wpO (P : Program) (l : List Oper) (K : Act → World → Prop) : List Oper → Act → World → Prop
  | [], a, w => K a w
  | o :: r, a, w => if Region.wanted o (yielded l.toArray a.tmps) = true then lUpon P (fun v w' => wpO P l K r (a.put o.dst v) w') ((execOp a.eval o).run P w) else wpO P l K r (a.put o.dst undef) w

section
variable {P : Program} {l : List Oper} {K : Act → World → Prop} {r : List Oper} {o : Oper} {a : Act} {w w' : World} {v : Value}
theorem wpO_want (hw : Region.wanted o (yielded l.toArray a.tmps) = true) (h : lUpon P (fun v w' => wpO P l K r (a.put o.dst v) w') ((execOp a.eval o).run P w)) : wpO P l K (o :: r) a w := by
  rw [wpO, if_pos hw]; exact h
theorem wpO_out (hw : Region.wanted o (yielded l.toArray a.tmps) = false) (h : wpO P l K r (a.put o.dst undef) w) : wpO P l K (o :: r) a w := by
  rw [wpO, if_neg (by rw [hw]; simp)]; exact h
theorem wpO_val (hw : Region.wanted o (yielded l.toArray a.tmps) = true) (h : (execOp a.eval o).run P w = .ok (.value v) w') (hk : wpO P l K r (a.put o.dst v) w') : wpO P l K (o :: r) a w :=
  wpO_want hw (by rw [h]; exact hk)
theorem wpO_skip (hw : Region.wanted o (yielded l.toArray a.tmps) = true) (h : (execOp a.eval o).run P w = .ok .skip w') (hk : wpO P l K r (a.put o.dst undef) w') : wpO P l K (o :: r) a w :=
  wpO_want hw (by rw [h]; exact hk)
theorem wpO_done (h : K a w) : wpO P l K [] a w := h
theorem wpO_mono {K' : Act → World → Prop} (h : ∀ a w, K a w → K' a w) : ∀ (r : List Oper) (a : Act) (w : World), wpO P l K r a w → wpO P l K' r a w
  | [], _, _, hk => h _ _ hk
  | o :: r, a, w, hk => by
    rw [wpO] at hk ⊢
    split at hk
    · rename_i hw; rw [if_pos hw]; exact lUpon_mono (fun v w' h1 => wpO_mono h r _ _ h1) hk
    · rename_i hw; rw [if_neg hw]; exact wpO_mono h r _ _ hk
end

theorem wpOps_of_wpO {P : Program} {l : List Oper} {Q : Exit → Act → World → Prop} : ∀ (r pre : List Oper) (a : Act) (w : World), l = pre ++ r → wpO P l (fun a w => Q .normal a w) r a w → wpOps P l.toArray Q (List.range' pre.length r.length) a w
  | [], pre, a, w, _, h => h
  | o :: r, pre, a, w, e, h => by
    have ho : l.toArray[pre.length]? = some o := by rw [e]; simp
    rw [List.length_cons, List.range'_succ, wpOps, ho]
    simp only
    have ih := fun a w h => wpOps_of_wpO (P := P) (l := l) (Q := Q) r (pre ++ [o]) a w (by rw [e]; simp) h
    rw [List.length_append, List.length_singleton] at ih
    rw [wpO] at h
    split at h
    · rename_i hw
      rw [if_pos hw]
      refine .inl ?_
      unfold Oper.wp
      generalize (execOp a.eval o).run P w = res at *
      cases res with
      | ok n w' =>
        cases n <;> simp only [lUpon] at h <;> simp only [Oper.upon]
        case value v => exact ih _ _ h
        case skip => exact ih _ _ h
        case enter f args => exact h.mono fun e w'' ⟨v, he, hk⟩ => by subst he; exact ih _ _ hk
      | halt x w' => simp only [lUpon] at h
    · rename_i hw
      rw [if_neg hw]
      exact ih _ _ h
theorem wp_reg {P : Program} {id : Nat} {l : List Oper} {Q : Exit → Act → World → Prop} {a : Act} {w : World} (h : wpO P l (fun a w => Q .normal a w) l a w) : (Code.region id l.toArray false).wp P Q a w := by
  refine wp_region ?_
  have := wpOps_of_wpO (P := P) (Q := Q) l [] a w rfl h
  simpa [List.range_eq_range'] using this
theorem wpOpsIn_of_wpO {P : Program} {l0 m : Nat} {l : List Oper} {Q : Exit → Act → World → Prop} (hnd : noDefer l.toArray = true) : ∀ (r pre : List Oper) (a : Act) (w : World), l = pre ++ r → wpO P l (fun a w => Q .normal a w) r a w → wpOpsIn (RF l0) m P l.toArray Q (List.range' pre.length r.length) a w
  | [], pre, a, w, _, h => h
  | o :: r, pre, a, w, e, h => by
    have ho : l.toArray[pre.length]? = some o := by rw [e]; simp
    have hd := noDefer_at hnd ho
    rw [List.length_cons, List.range'_succ, wpOpsIn, ho]
    simp only
    have ih := fun a w h => wpOpsIn_of_wpO (P := P) (l0 := l0) (m := m) (l := l) (Q := Q) hnd r (pre ++ [o]) a w (by rw [e]; simp) h
    rw [List.length_append, List.length_singleton] at ih
    rw [wpO] at h
    split at h
    · rename_i hw
      rw [if_pos hw]
      unfold Oper.wpIn
      refine ⟨fun _ _ => trivial, ?_⟩
      rw [Oper.semAt_plain _ _ _ hd]
      generalize (execOp a.eval o).run P w = res at *
      cases res with
      | ok n w' =>
        cases n <;> simp only [lUpon] at h <;> simp only [Oper.uponIn]
        case value v => exact ih _ _ h
        case skip => exact ih _ _ h
        case enter f args => exact ⟨fun h => by simp [Fence.wide] at h, (calls_in l0 _ h).mono fun e w'' ⟨v, he, hk⟩ => by subst he; exact ih _ _ hk⟩
      | halt x w' => simp only [lUpon] at h
    · rename_i hw
      rw [if_neg hw]
      exact ⟨fun _ _ => trivial, ih _ _ h⟩
theorem wpI_reg {P : Program} {id l0 m : Nat} {l : List Oper} {Q : Exit → Act → World → Prop} {a : Act} {w : World} (hnd : noDefer l.toArray = true) (h : wpO P l (fun a w => Q .normal a w) l a w) : (Code.region id l.toArray false).wpIn (RF l0) m P Q a w := by
  refine wpIn_region ?_
  have := wpOpsIn_of_wpO (P := P) (l0 := l0) (m := m) (Q := Q) hnd l [] a w rfl h
  simpa [List.range_eq_range'] using this

theorem wpOpsW_of_wpO {P : Program} {m : Nat} {l : List Oper} {Q : Exit → Act → World → Prop} (hnd : noDefer l.toArray = true) : ∀ (r pre : List Oper) (a : Act) (w : World), l = pre ++ r → wpO P l (fun a w => Q .normal a w) r a w → wpOpsIn Fence.wide m P l.toArray Q (List.range' pre.length r.length) a w
  | [], pre, a, w, _, h => h
  | o :: r, pre, a, w, e, h => by
    have ho : l.toArray[pre.length]? = some o := by rw [e]; simp
    have hd := noDefer_at hnd ho
    rw [List.length_cons, List.range'_succ, wpOpsIn, ho]
    simp only
    have ih := fun a w h => wpOpsW_of_wpO (P := P) (m := m) (l := l) (Q := Q) hnd r (pre ++ [o]) a w (by rw [e]; simp) h
    rw [List.length_append, List.length_singleton] at ih
    rw [wpO] at h
    split at h
    · rename_i hw
      rw [if_pos hw]
      unfold Oper.wpIn
      refine ⟨fun _ _ => trivial, ?_⟩
      rw [Oper.semAt_plain _ _ _ hd]
      generalize (execOp a.eval o).run P w = res at *
      cases res with
      | ok n w' =>
        cases n <;> simp only [lUpon] at h <;> simp only [Oper.uponIn]
        case value v => exact ih _ _ h
        case skip => exact ih _ _ h
        case enter f args => exact ⟨fun h => by simp [Fence.wide] at h, (callsIn_wide.2 h).mono fun e w'' ⟨v, he, hk⟩ => by subst he; exact ih _ _ hk⟩
      | halt x w' => simp only [lUpon] at h
    · rename_i hw
      rw [if_neg hw]
      exact ⟨fun _ _ => trivial, ih _ _ h⟩
theorem wpW_reg {P : Program} {id m : Nat} {l : List Oper} {Q : Exit → Act → World → Prop} {a : Act} {w : World} (hnd : noDefer l.toArray = true) (h : wpO P l (fun a w => Q .normal a w) l a w) : (Code.region id l.toArray false).wpIn Fence.wide m P Q a w := by
  refine wpIn_region ?_
  have := wpOpsW_of_wpO (P := P) (m := m) (Q := Q) hnd l [] a w rfl h
  simpa [List.range_eq_range'] using this

/-- an aggregate read from a row of cells -/
theorem run_load_agg {P : Program} {ρ : Operand → Value} {o : Oper} {T : TypeId} {x : Operand} {w : World} {b off : Nat} {cs : Array Value} (ho : o.op = .load T x) (hx : ρ x = .pointer (some ⟨b, off, none⟩))
    (ha : (isAgg T).run P w = .ok true w) (hs : (sizeOf T).run P w = .ok cs.size w) (hc : ∀ (j : Nat) v, cs[j]? = some v → w.cell? ⟨b, off + j, none⟩ = some v) : (execOp ρ o).run P w = .ok (.value (.agg cs)) w := by
  have hl := run_loadCells_list (P := P) w ⟨b, off, none⟩ cs.toList (fun j v hv => by
    have hadd : (⟨b, off, none⟩ : Addr).add j = ⟨b, off + j, none⟩ := by unfold Addr.add; split <;> simp_all
    rw [hadd]
    exact hc j v (by simpa using hv))
  simp only [Array.length_toList, Array.toArray_toList] at hl
  unfold execOp
  simp only [ho, hx]
  simp [Instr.loadAt, Instr.sureAddr, loadVar, Sem.run_bind, ha, hs, hl, Result.andThen]
theorem Blk.sub {w : World} {b : Nat} {t : TypeId} {cs ds : Array Value} {off : Nat} (h : Blk w b t cs) (hd : ∀ (j : Nat) v, ds[j]? = some v → cs[off + j]? = some v) : ∀ (j : Nat) v, ds[j]? = some v → w.cell? ⟨b, off + j, none⟩ = some v := fun j v hv => (h.cell _).trans (hd j v hv)
theorem Blk.whole {w : World} {b : Nat} {t : TypeId} {cs : Array Value} (h : Blk w b t cs) : ∀ (j : Nat) v, cs[j]? = some v → w.cell? ⟨b, 0 + j, none⟩ = some v := h.sub (off := 0) fun j v hv => by rw [Nat.zero_add]; exact hv
end Go.Proofs.YtjehhilijeajnaaGreatDoor
/- THE SETS OF package bitset: Minus, Union. Conditions: see each theorem. -/
namespace Go.Proofs.YtjehhilijeajnaaGreatDoor
open Go Go.RowKit
attribute [local go_sem] qUpon lUpon

/-- the difference of two sets -/
def minusS (N M : Nat) : Nat := N ^^^ (N &&& M)
theorem minusS_bit (N M k : Nat) : (minusS N M).testBit k = (N.testBit k && !M.testBit k) := by
  unfold minusS
  rw [Nat.testBit_xor, Nat.testBit_and]
  cases N.testBit k <;> cases M.testBit k <;> rfl
theorem wdN_minus (N M i : Nat) : wdN (minusS N M) i = wdN N i &&& (18446744073709551615 - wdN M i) := by
  apply Nat.eq_of_testBit_eq
  intro k
  have h : (18446744073709551615 - wdN M i).testBit k = (decide (k < 64) && !(wdN M i).testBit k) := by
    rw [show 18446744073709551615 - wdN M i = 2 ^ 64 - (wdN M i + 1) by have := wdN_lt M i; omega, Nat.testBit_two_pow_sub_succ (wdN_lt M i)]
  rw [Nat.testBit_and, h, wdN_bit, wdN_bit, wdN_bit, minusS_bit]
  cases decide (k < 64) <;> cases N.testBit (64 * i + k) <;> simp
theorem wd_minus (N M i : Nat) : bits .andNot .u64 (wd N i) (wd M i) = wd (minusS N M) i := by
  unfold wd
  rw [u64_andNot_nat _ _ (wdN_lt _ _) (wdN_lt _ _), wdN_minus]
theorem wdN_and (N M i : Nat) : wdN (N &&& M) i = wdN N i &&& wdN M i := by
  apply Nat.eq_of_testBit_eq
  intro k
  rw [wdN_bit, Nat.testBit_and, Nat.testBit_and, wdN_bit, wdN_bit]
  cases decide (k < 64) <;> simp
theorem wd_or (N M i : Nat) : bits .or .u64 (wd N i) (wd M i) = wd (N ||| M) i := by
  unfold wd
  rw [u64_or_nat _ _ (wdN_lt _ _) (wdN_lt _ _), wdN_or]
theorem wd_and (N M i : Nat) : bits .and .u64 (wd N i) (wd M i) = wd (N &&& M) i := by
  unfold wd
  rw [u64_and_nat _ _ (wdN_lt _ _) (wdN_lt _ _), wdN_and]
theorem setC_ext {N M : Nat} (h : ∀ i, i < 16 → wdN N i = wdN M i) : setC N = setC M := by
  apply Array.ext_getElem?
  intro i
  by_cases hi : i < 16
  · rw [setC_get _ hi, setC_get _ hi]
    unfold wd
    rw [h i hi]
  · have h1 : ∀ a : Array Value, a.size = 16 → a[i]? = none := fun a h => Array.getElem?_eq_none (by omega)
    rw [h1 _ (setC_size _), h1 _ (setC_size _)]
/-- the first k words of R, the others of N -/
def mixS (R N k : Nat) : Nat := 2 ^ (64 * k) * (N >>> (64 * k)) + R % 2 ^ (64 * k)
theorem mixS_bit (R N k j : Nat) : (mixS R N k).testBit j = if j < 64 * k then R.testBit j else N.testBit j := by
  unfold mixS
  rw [Nat.testBit_two_pow_mul_add _ (Nat.mod_lt _ (Nat.pow_pos (by decide)))]
  by_cases h : j < 64 * k
  · rw [if_pos h, if_pos h, Nat.testBit_mod_two_pow]
    simp [h]
  · rw [if_neg h, if_neg h, Nat.testBit_shiftRight]
    congr 1
    omega
theorem mixS_word (R N k i : Nat) : wdN (mixS R N k) i = if i < k then wdN R i else wdN N i := by
  apply Nat.eq_of_testBit_eq
  intro j
  rw [wdN_bit, mixS_bit]
  by_cases hj : j < 64
  · by_cases h : i < k
    · rw [if_pos (by omega), if_pos h, wdN_bit]
    · rw [if_neg (by omega), if_neg h, wdN_bit]
  · have : decide (j < 64) = false := by simp [hj]
    rw [this, Bool.false_and]
    split <;> rw [wdN_bit, this, Bool.false_and]
theorem mixS_at (R N k : Nat) : wd (mixS R N k) k = wd N k := by
  unfold wd
  rw [mixS_word, if_neg (by omega)]
theorem setC_mix0 (R N : Nat) : setC (mixS R N 0) = setC N := setC_ext fun i _ => by rw [mixS_word, if_neg (by omega)]
theorem setC_mix16 (R N : Nat) : setC (mixS R N 16) = setC R := setC_ext fun i hi => by rw [mixS_word, if_pos hi]
theorem setC_mix (R N k : Nat) (_hk : k < 16) : (setC (mixS R N k)).setIfInBounds k (.int .u64 (wd R k)) = setC (mixS R N (k + 1)) := by
  apply Array.ext_getElem?
  intro i
  by_cases hi : i < 16
  · rw [setC_get _ hi]
    by_cases he : k = i
    · subst he
      rw [Array.getElem?_setIfInBounds_self_of_lt (by rw [setC_size]; omega)]
      unfold wd
      rw [mixS_word, if_pos (by omega)]
    · rw [Array.getElem?_setIfInBounds_ne he, setC_get _ hi]
      unfold wd
      rw [mixS_word, mixS_word]
      by_cases h : i < k
      · rw [if_pos h, if_pos (by omega)]
      · rw [if_neg h, if_neg (by omega)]
  · have h1 : ∀ a : Array Value, a.size = 16 → a[i]? = none := fun a h => Array.getElem?_eq_none (by omega)
    rw [h1 _ (by simp [setC_size]), h1 _ (setC_size _)]
set_option maxRecDepth 100000 in
/-- a set read and written as one -/
theorem load_SetR {ρ : Operand → Value} {o : Oper} {x : Operand} {w : World} {b off N : Nat} (ho : o.op = .load 56 x) (hx : ρ x = .pointer (some ⟨b, off, none⟩)) (hc : ∀ (j : Nat) v, (setC N)[j]? = some v → w.cell? ⟨b, off + j, none⟩ = some v) : (execOp ρ o).run Tryz.prog w = .ok (.value (.agg (setC N))) w :=
  run_load_agg ho hx (by simp [go_sem]) (by simp [go_sem]; rfl) hc
theorem setC_one (N : Nat) : ∀ u ∈ (setC N).toList, u.oneCell' = true := by
  intro u hu
  obtain ⟨i, hi, rfl⟩ := List.getElem_of_mem hu
  have h16 : i < 16 := by simpa [setC_size] using hi
  have := setC_get N h16
  rw [← Array.getElem?_toList, List.getElem?_eq_getElem hi] at this
  injection this with this
  rw [this]
  rfl
set_option maxRecDepth 100000 in
theorem store_SetR {ρ : Operand → Value} {o : Oper} {p x : Operand} {w : World} {b N M : Nat} (ho : o.op = .store 56 p x) (hp : ρ p = .pointer (some ⟨b, 0, none⟩)) (hx : ρ x = .agg (setC N)) (hb : Blk w b 56 (setC M)) : (execOp ρ o).run Tryz.prog w = .ok .skip (w.setRow b (setC N)) :=
  run_store_row (v := .agg (setC N)) ho hp hx (by simp [go_sem]; rfl) hb rfl (setC_one N)

set_option maxRecDepth 100000 in
set_option maxHeartbeats 4000000 in
theorem minus_any (N M : Nat) (w : World) : Calls Tryz.prog 74 #[.agg (setC N), .agg (setC M)] w fun e w' => e = .returned (.agg (setC (minusS N M))) ∧ Ext w w' := by
  obtain ⟨R, hR⟩ : ∃ R, R = minusS N M := ⟨_, rfl⟩
  rw [← hR]
  have hR' := hide hR
  clear hR
  have hB2 := hide (((Blk.new w 56 (setC N)).ext (ext_self1 _ (.cells (setC M) 56))).ext (ext_self1 _ (.cells (setC 0) 56)))
  have hB3 := hide ((Blk.new (w.alloc (.cells (setC N) 56)) 56 (setC M)).ext (ext_self1 _ (.cells (setC 0) 56)))
  have hB4 := hide (Blk.new ((w.alloc (.cells (setC N) 56)).alloc (.cells (setC M) 56)) 56 (setC 0))
  have hx1 := hide (ext_self3 w (.cells (setC N) 56) (.cells (setC M) 56) (.cells (setC 0) 56))
  simp only [World.size_alloc] at hB3 hB4
  go_enter Tryz.func74, Tryz.ntmps74
  go_wp2_with fail
  have hz : setC 0 = #[.int .u64 0, .int .u64 0, .int .u64 0, .int .u64 0, .int .u64 0, .int .u64 0, .int .u64 0, .int .u64 0, .int .u64 0, .int .u64 0, .int .u64 0, .int .u64 0, .int .u64 0, .int .u64 0, .int .u64 0, .int .u64 0] := rfl
  rw [hz] at hx1 hB2 hB3 hB4
  generalize ((w.alloc (.cells (setC N) 56)).alloc (.cells (setC M) 56)).alloc (.cells #[.int .u64 0, .int .u64 0, .int .u64 0, .int .u64 0, .int .u64 0, .int .u64 0, .int .u64 0, .int .u64 0, .int .u64 0, .int .u64 0, .int .u64 0, .int .u64 0, .int .u64 0, .int .u64 0, .int .u64 0, .int .u64 0] 56) = W1 at *
  rw [← hz] at hB4
  clear hz
  have hne := hide (show w.heap.size ≠ w.heap.size + 1 ∧ w.heap.size ≠ w.heap.size + 1 + 1 ∧ w.heap.size + 1 ≠ w.heap.size + 1 + 1 by omega)
  have hge := hide (show w.heap.size ≤ w.heap.size ∧ w.heap.size ≤ w.heap.size + 1 + 1 by omega)
  generalize hb4e : w.heap.size + 1 + 1 = b4 at *
  generalize hb3e : w.heap.size + 1 = b3 at *
  generalize hb2e : w.heap.size = b2 at *
  rw [← hb2e] at hge
  rw [hb2e] at hge
  have hsz := hide hb2e
  clear hb2e hb3e hb4e
  go_loopw [6] (fun i wr => ∃ k : Nat, k ≤ 16 ∧ i = .int .i64 k ∧ Blk wr b2 56 (setC (mixS R N k)) ∧ Blk wr b3 56 (setC M) ∧ Blk wr b4 56 (setC 0) ∧ Ext w wr) (fun i _ => 16 - (intOf i).toNat)
  case atStart => exact ⟨0, Nat.zero_le _, rfl, by rw [setC_mix0]; exact unhide hB2, unhide hB3, unhide hB4, unhide hx1⟩
  case round =>
    obtain ⟨k, hk, rfl, hB, hC, hA, hx⟩ := hrel
    have hB' := hide hB
    have hC' := hide hC
    have hA' := hide hA
    have hx' := hide hx
    clear hB2 hB3 hB4 hx1
    by_cases hlt : k < 16
    · have c0 := hB.cells k (setC_get (mixS R N k) hlt)
      rw [mixS_at] at c0
      have c1 := hC.cells k (setC_get M hlt)
      have hself := Ext.refl wr
      clear hB hC hA hx
      go_wp2_with fail
      refine wp_region_still (P := Tryz.prog) [0,1,2,3,4,5,6,7] [8] 1 #[true,true,true,true,true,true,true,true,false] (by kernel_rfl) (by kernel_rfl) rfl (by rfl) ?_
      iterate 8
        refine ql_want (v := ?_) rfl (by rfl) (fun W hW => ?_) ?_
        rotate_left
        · go_simp
          first | done | rfl
        go_frame
      refine wpQL_nil (fun w3 hx3 => ?_)
      have c2 := c0 w3 hx3
      have f2 := ((unhide hB').ext hx3).frozen k
      refine lx_one (i := 8) (by kernel_rfl) rfl (by rfl) #[true,true,true,true,true,true,true,true,true] (by rfl) ?_
      go_simp
      rw [wd_minus, ← unhide hR']
      refine wpX_done (by kernel_rfl) ?_
      try go_frame
      have hB4' := hide (((unhide hB').ext hx3).set k (.int .u64 (wd R k)))
      have hC4' := hide (((unhide hC').ext hx3).keep (Keep.setCell w3 b2 k (.int .u64 (wd R k))) (by simpa using (unhide hne).1.symm))
      have hA4' := hide (((unhide hA').ext hx3).keep (Keep.setCell w3 b2 k (.int .u64 (wd R k))) (by simpa using (unhide hne).2.1.symm))
      have hx4' := hide (((unhide hx').trans hx3).of_new (Keep.setCell w3 b2 k (.int .u64 (wd R k))) (by rw [← unhide hsz]; simp))
      clear hB' hC' hA' hx' hx3 c0 c1 c2 f2 hself
      go_wp2_with fail
      go_roundw
      case rel => exact ⟨k + 1, by omega, by go_num, by have h := unhide hB4'; rw [setC_mix _ _ _ hlt] at h; exact h, unhide hC4', unhide hA4', unhide hx4'⟩
      case measure => simp [intOf]; omega
    · have hke : k = 16 := by omega
      subst hke
      rw [setC_mix16] at hB hB'
      have hself := Ext.refl wr
      clear hB hC hA hx
      repeat (first | (with_reducible refine wp_reg (id := 6) ?_) | go_step | go_guarded | go_upon | go_in | go_back | fail)
      refine wpO_val rfl (load_SetR rfl rfl (unhide hB').whole) (wpO_skip rfl (store_SetR rfl rfl rfl (unhide hA')) (wpO_done ?_))
      go_wp2_with fail
      refine bodyPost_ret (ret_cell1 rfl rfl (load_Set _ b4 R ((unhide hA').row _))) rfl ?_
      exact ⟨rfl, (unhide hx').of_new (Keep.setRow wr b4 _) (by have := (unhide hne).2.1; have := unhide hsz; have := (unhide hge).2; simp; omega)⟩

set_option maxRecDepth 100000 in
set_option maxHeartbeats 4000000 in
theorem union_any (N M : Nat) (w : World) : Calls Tryz.prog 76 #[.agg (setC N), .agg (setC M)] w fun e w' => e = .returned (.agg (setC (N ||| M))) ∧ Ext w w' := by
  obtain ⟨R, hR⟩ : ∃ R, R = N ||| M := ⟨_, rfl⟩
  rw [← hR]
  have hR' := hide hR
  clear hR
  have hB2 := hide (((Blk.new w 56 (setC N)).ext (ext_self1 _ (.cells (setC M) 56))).ext (ext_self1 _ (.cells (setC 0) 56)))
  have hB3 := hide ((Blk.new (w.alloc (.cells (setC N) 56)) 56 (setC M)).ext (ext_self1 _ (.cells (setC 0) 56)))
  have hB4 := hide (Blk.new ((w.alloc (.cells (setC N) 56)).alloc (.cells (setC M) 56)) 56 (setC 0))
  have hx1 := hide (ext_self3 w (.cells (setC N) 56) (.cells (setC M) 56) (.cells (setC 0) 56))
  simp only [World.size_alloc] at hB3 hB4
  go_enter Tryz.func76, Tryz.ntmps76
  go_wp2_with fail
  have hz : setC 0 = #[.int .u64 0, .int .u64 0, .int .u64 0, .int .u64 0, .int .u64 0, .int .u64 0, .int .u64 0, .int .u64 0, .int .u64 0, .int .u64 0, .int .u64 0, .int .u64 0, .int .u64 0, .int .u64 0, .int .u64 0, .int .u64 0] := rfl
  rw [hz] at hx1 hB2 hB3 hB4
  generalize ((w.alloc (.cells (setC N) 56)).alloc (.cells (setC M) 56)).alloc (.cells #[.int .u64 0, .int .u64 0, .int .u64 0, .int .u64 0, .int .u64 0, .int .u64 0, .int .u64 0, .int .u64 0, .int .u64 0, .int .u64 0, .int .u64 0, .int .u64 0, .int .u64 0, .int .u64 0, .int .u64 0, .int .u64 0] 56) = W1 at *
  rw [← hz] at hB4
  clear hz
  have hne := hide (show w.heap.size ≠ w.heap.size + 1 ∧ w.heap.size ≠ w.heap.size + 1 + 1 ∧ w.heap.size + 1 ≠ w.heap.size + 1 + 1 by omega)
  have hge := hide (show w.heap.size ≤ w.heap.size ∧ w.heap.size ≤ w.heap.size + 1 + 1 by omega)
  generalize hb4e : w.heap.size + 1 + 1 = b4 at *
  generalize hb3e : w.heap.size + 1 = b3 at *
  generalize hb2e : w.heap.size = b2 at *
  rw [← hb2e] at hge
  rw [hb2e] at hge
  have hsz := hide hb2e
  clear hb2e hb3e hb4e
  go_loopw [6] (fun i wr => ∃ k : Nat, k ≤ 16 ∧ i = .int .i64 k ∧ Blk wr b2 56 (setC (mixS R N k)) ∧ Blk wr b3 56 (setC M) ∧ Blk wr b4 56 (setC 0) ∧ Ext w wr) (fun i _ => 16 - (intOf i).toNat)
  case atStart => exact ⟨0, Nat.zero_le _, rfl, by rw [setC_mix0]; exact unhide hB2, unhide hB3, unhide hB4, unhide hx1⟩
  case round =>
    obtain ⟨k, hk, rfl, hB, hC, hA, hx⟩ := hrel
    have hB' := hide hB
    have hC' := hide hC
    have hA' := hide hA
    have hx' := hide hx
    clear hB2 hB3 hB4 hx1
    by_cases hlt : k < 16
    · have c0 := hB.cells k (setC_get (mixS R N k) hlt)
      rw [mixS_at] at c0
      have c1 := hC.cells k (setC_get M hlt)
      have hself := Ext.refl wr
      clear hB hC hA hx
      go_wp2_with fail
      refine wp_region_still (P := Tryz.prog) [0,1,2,3,4,5,6,7] [8] 1 #[true,true,true,true,true,true,true,true,false] (by kernel_rfl) (by kernel_rfl) rfl (by rfl) ?_
      iterate 8
        refine ql_want (v := ?_) rfl (by rfl) (fun W hW => ?_) ?_
        rotate_left
        · go_simp
          first | done | rfl
        go_frame
      refine wpQL_nil (fun w3 hx3 => ?_)
      have c2 := c0 w3 hx3
      have f2 := ((unhide hB').ext hx3).frozen k
      refine lx_one (i := 8) (by kernel_rfl) rfl (by rfl) #[true,true,true,true,true,true,true,true,true] (by rfl) ?_
      go_simp
      rw [wd_or, ← unhide hR']
      refine wpX_done (by kernel_rfl) ?_
      try go_frame
      have hB4' := hide (((unhide hB').ext hx3).set k (.int .u64 (wd R k)))
      have hC4' := hide (((unhide hC').ext hx3).keep (Keep.setCell w3 b2 k (.int .u64 (wd R k))) (by simpa using (unhide hne).1.symm))
      have hA4' := hide (((unhide hA').ext hx3).keep (Keep.setCell w3 b2 k (.int .u64 (wd R k))) (by simpa using (unhide hne).2.1.symm))
      have hx4' := hide (((unhide hx').trans hx3).of_new (Keep.setCell w3 b2 k (.int .u64 (wd R k))) (by rw [← unhide hsz]; simp))
      clear hB' hC' hA' hx' hx3 c0 c1 c2 f2 hself
      go_wp2_with fail
      go_roundw
      case rel => exact ⟨k + 1, by omega, by go_num, by have h := unhide hB4'; rw [setC_mix _ _ _ hlt] at h; exact h, unhide hC4', unhide hA4', unhide hx4'⟩
      case measure => simp [intOf]; omega
    · have hke : k = 16 := by omega
      subst hke
      rw [setC_mix16] at hB hB'
      have hself := Ext.refl wr
      clear hB hC hA hx
      repeat (first | (with_reducible refine wp_reg (id := 6) ?_) | go_step | go_guarded | go_upon | go_in | go_back | fail)
      refine wpO_val rfl (load_SetR rfl rfl (unhide hB').whole) (wpO_skip rfl (store_SetR rfl rfl rfl (unhide hA')) (wpO_done ?_))
      go_wp2_with fail
      refine bodyPost_ret (ret_cell1 rfl rfl (load_Set _ b4 R ((unhide hA').row _))) rfl ?_
      exact ⟨rfl, (unhide hx').of_new (Keep.setRow wr b4 _) (by have := (unhide hne).2.1; have := unhide hsz; have := (unhide hge).2; simp; omega)⟩
end Go.Proofs.YtjehhilijeajnaaGreatDoor
/- MAP OPERATIONS, each by one law; a map from ints to sets. Conditions: see each theorem. -/
namespace Go.Proofs.YtjehhilijeajnaaGreatDoor
open Go Go.RowKit

section
variable {P : Program} {κ τ : Type} [DecidableEq κ] {ek : κ → Value} {ev : τ → Value} {ok : κ → Prop} {kt et t : TypeId} {w : World} {b : Nat} {m : List (κ × τ)}
theorem run_lookup1_op (K : KE P kt ek ok) (ht : P.underlying t = some (.map kt et)) (h : MapIs ek ev ok w b m) {z0 : τ} (hz : (zeroValue et).run P w = .ok (ev z0) w) {x : κ} (hx : ok x)
    {ρ : Operand → Value} {o : Oper} {p q : Operand} (ho : o.op = .lookup t p q false) (hp : ρ p = .map (some b)) (hq : ρ q = ek x) : (execOp ρ o).run P w = .ok (.value (ev ((lookM m x).getD z0))) w := by
  have := h.lookup1 K ht hz hx
  unfold execOp
  simp only [ho, hp, hq]
  simp [this, go_sem]
theorem run_lookup2_op (K : KE P kt ek ok) (ht : P.underlying t = some (.map kt et)) (h : MapIs ek ev ok w b m) {z0 : τ} (hz : (zeroValue et).run P w = .ok (ev z0) w) {x : κ} (hx : ok x)
    {ρ : Operand → Value} {o : Oper} {p q : Operand} (ho : o.op = .lookup t p q true) (hp : ρ p = .map (some b)) (hq : ρ q = ek x) : (execOp ρ o).run P w = .ok (.value (.tuple #[ev ((lookM m x).getD z0), .bool (lookM m x).isSome])) w := by
  have := h.lookup2 K ht hz hx
  unfold execOp
  simp only [ho, hp, hq]
  simp [this, go_sem]
theorem run_update_op (K : KE P kt ek ok) (ht : P.underlying t = some (.map kt et)) (h : MapIs ek ev ok w b m) {x : κ} (hx : ok x) (v : τ)
    {ρ : Operand → Value} {o : Oper} {p q r : Operand} (ho : o.op = .mapUpdate t p q r) (hp : ρ p = .map (some b)) (hq : ρ q = ek x) (hr : ρ r = ev v) :
    ∃ w', (execOp ρ o).run P w = .ok .skip w' ∧ MapIs ek ev ok w' b (putM m x v) ∧ Keep [b] w w' ∧ w'.heap.size = w.heap.size := by
  obtain ⟨w', h1, h2, h3, h4⟩ := h.update K ht hx v
  refine ⟨w', ?_, h2, h3, h4⟩
  unfold execOp
  simp only [ho, hp, hq, hr]
  simp [h1, go_sem]
end
def evS (N : Nat) : Value := .agg (setC N)
theorem zeroS (w : World) : (zeroValue 56).run Tryz.prog w = .ok (evS 0) w := by kernel_rfl
/-- an int read as a map's key -/
theorem okK {x : Int} (h : 0 ≤ x ∧ x < 1024) : i64ok x := by unfold i64ok; omega
end Go.Proofs.YtjehhilijeajnaaGreatDoor
/- THE ELEMENTS OF A SET, in ascending order. No program in sight. Conditions: see each theorem. -/
namespace Go.Proofs.YtjehhilijeajnaaGreatDoor

def toK (N k : Nat) : List Int := ((List.range k).filter N.testBit).map fun (i : Nat) => (i : Int)
def toL (N : Nat) : List Int := toK N 1024
theorem toK_next (N k : Nat) : toK N (k + 1) = if N.testBit k = true then toK N k ++ [(k : Int)] else toK N k := by
  unfold toK
  rw [List.range_succ, List.filter_append, List.map_append]
  cases hb : N.testBit k <;> simp [hb]
theorem toK_le (N k : Nat) : (toK N k).length ≤ k := by
  unfold toK
  rw [List.length_map]
  have := List.length_filter_le N.testBit (List.range k)
  simpa using this
end Go.Proofs.YtjehhilijeajnaaGreatDoor
/- THE ELEMENTS OF A SET, further: the least one, the others. No program in sight. Conditions: see each theorem. -/
namespace Go.Proofs.YtjehhilijeajnaaGreatDoor

theorem mem_toL' {N : Nat} {x : Int} : x ∈ toL N ↔ 0 ≤ x ∧ x < 1024 ∧ N.testBit x.toNat = true := by
  unfold toL toK
  rw [List.mem_map]
  simp only [List.mem_filter, List.mem_range]
  constructor
  · rintro ⟨i, ⟨h1, h2⟩, rfl⟩
    exact ⟨by omega, by omega, by rw [Int.toNat_natCast]; exact h2⟩
  · rintro ⟨h1, h2, h3⟩
    exact ⟨x.toNat, ⟨by omega, h3⟩, by omega⟩
theorem toL_sorted (N : Nat) : (toL N).Pairwise (· < ·) := by
  unfold toL toK
  rw [List.pairwise_map]
  refine (List.pairwise_lt_range.filter _).imp fun {a b} h => ?_
  omega
theorem toL_nodup (N : Nat) : (toL N).Nodup := (toL_sorted N).imp fun {_ _} h => by omega
theorem toL_congr {N M : Nat} (h : ∀ k, k < 1024 → N.testBit k = M.testBit k) : toL N = toL M := by
  unfold toL toK
  rw [List.filter_congr (q := M.testBit) fun k hk => h k (List.mem_range.1 hk)]
theorem toL_nil {N : Nat} (h : ∀ k, k < 1024 → N.testBit k = false) : toL N = [] := by
  unfold toL toK
  rw [List.map_eq_nil_iff, List.filter_eq_nil_iff]
  intro k hk
  rw [h k (List.mem_range.1 hk)]
  simp
theorem toL_cons {N j : Nat} (hj : j < 1024) (h0 : ∀ k, k < j → N.testBit k = false) (h1 : N.testBit j = true) : toL N = (j : Int) :: toL (minusS N (2 ^ j)) := by
  unfold toL toK
  have e : List.range 1024 = List.range' 0 j ++ ([j] ++ List.range' (j + 1) (1023 - j)) := by
    rw [List.range_eq_range']
    have a1 := List.range'_append (s := j) (m := 1) (n := 1023 - j) (step := 1)
    have a2 := List.range'_append (s := 0) (m := j) (n := 1 + (1023 - j)) (step := 1)
    simp only [Nat.one_mul, Nat.zero_add] at a1 a2
    rw [show List.range' j 1 = [j] from rfl] at a1
    rw [a1, a2]
    congr 1
    omega
  rw [e, List.filter_append, List.filter_append, List.filter_append, List.filter_append]
  have z1 : (List.range' 0 j).filter N.testBit = [] := by
    rw [List.filter_eq_nil_iff]
    intro k hk
    rw [List.mem_range'_1] at hk
    rw [h0 k (by omega)]; simp
  have z2 : (List.range' 0 j).filter (minusS N (2 ^ j)).testBit = [] := by
    rw [List.filter_eq_nil_iff]
    intro k hk
    rw [List.mem_range'_1] at hk
    rw [minusS_bit, h0 k (by omega)]; simp
  have z3 : [j].filter (minusS N (2 ^ j)).testBit = [] := by
    rw [List.filter_eq_nil_iff]
    intro k hk
    have : k = j := by simpa using hk
    subst this
    rw [minusS_bit, Nat.testBit_two_pow_self]; simp
  have z4 : [j].filter N.testBit = [j] := by simp [h1]
  rw [z1, z2, z3, z4, List.nil_append, List.nil_append, List.nil_append, List.map_append]
  have z5 : (List.range' (j + 1) (1023 - j)).filter N.testBit = (List.range' (j + 1) (1023 - j)).filter (minusS N (2 ^ j)).testBit := by
    refine List.filter_congr fun k hk => ?_
    rw [List.mem_range'_1] at hk
    rw [minusS_bit, Nat.testBit_two_pow]
    have : decide (j = k) = false := by simp; omega
    rw [this]; simp
  rw [z5]
  rfl

/-- the least bit of a word that is not 0 -/
theorem ctz_bit {x : Nat} (h0 : x ≠ 0) (h : x < 18446744073709551616) : Lib.ctz 64 x < 64 ∧ x.testBit (Lib.ctz 64 x) = true ∧ ∀ i, i < Lib.ctz 64 x → x.testBit i = false := by
  obtain ⟨m, hm, hk⟩ := Lib.ctzFrom_spec 64 x (by omega) h
  have e : Lib.ctz 64 x = Lib.ctzFrom 64 x := by simp [Lib.ctz, h0]
  rw [e]
  generalize Lib.ctzFrom 64 x = c at *
  refine ⟨hk, ?_, fun i hi => ?_⟩
  · rw [hm, Nat.testBit_two_pow_mul]
    simp [Nat.testBit_zero]
  · rw [hm, Nat.testBit_two_pow_mul]
    simp; omega
/-- the first words are 0 -/
def zeroTo (N k : Nat) : Prop := ∀ j, j < 64 * k → N.testBit j = false
theorem zeroTo_next {N k : Nat} (h : zeroTo N k) (hw : wdN N k = 0) : zeroTo N (k + 1) := by
  intro j hj
  by_cases h1 : j < 64 * k
  · exact h j h1
  · have := wdN_bit N k (j - 64 * k)
    rw [hw, Nat.zero_testBit, show 64 * k + (j - 64 * k) = j by omega] at this
    have h2 : decide (j - 64 * k < 64) = true := by simp; omega
    rw [h2, Bool.true_and] at this
    exact this.symm
theorem toL_zero {N : Nat} (h : zeroTo N 16) : toL N = [] := toL_nil fun k hk => h k (by omega)
theorem toL_word {N k : Nat} (hk : k < 16) (h : zeroTo N k) (hw : wdN N k ≠ 0) : toL N = ((64 * k + Lib.ctz 64 (wdN N k) : Nat) : Int) :: toL (minusS N (2 ^ (64 * k + Lib.ctz 64 (wdN N k)))) := by
  obtain ⟨h1, h2, h3⟩ := ctz_bit hw (wdN_lt N k)
  generalize Lib.ctz 64 (wdN N k) = c at *
  refine toL_cons (by omega) (fun j hj => ?_) ?_
  · by_cases hj2 : j < 64 * k
    · exact h j hj2
    · have := h3 (j - 64 * k) (by omega)
      rw [wdN_bit, show 64 * k + (j - 64 * k) = j by omega] at this
      have h4 : decide (j - 64 * k < 64) = true := by simp; omega
      rw [h4, Bool.true_and] at this
      exact this
  · rw [wdN_bit] at h2
    simp only [Bool.and_eq_true] at h2
    exact h2.2
/-- what Min hands back -/
def minV (N : Nat) : Int := (toL N).headD 0
def anyB (N : Nat) : Bool := !(toL N).isEmpty
theorem min_nil {N : Nat} (h : toL N = []) : minV N = 0 ∧ anyB N = false := by unfold minV anyB; rw [h]; exact ⟨rfl, rfl⟩
theorem min_cons {N : Nat} {x : Int} {r : List Int} (h : toL N = x :: r) : minV N = x ∧ anyB N = true := by unfold minV anyB; rw [h]; exact ⟨rfl, rfl⟩
end Go.Proofs.YtjehhilijeajnaaGreatDoor
