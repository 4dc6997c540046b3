/- LISTS AND GRAPHS KEPT where other blocks turn; a cell of the reference's graph. Conditions: see each theorem. -/
import Derived.Test.YtdkhondfahebnaaGreatNx
import Derived.Test.YtdkhondfahebnaaGreatRx
import Derived.Test.YtdkhondfahebnaaGreatOp
namespace Go.Proofs.YtdkhondfahebnaaGreat
open Go Go.RowKit

theorem atD {w : World} {A : Option Addr} {L : List Ed} (h : SlAt encD 5 w A L) {i : Nat} (hi : i < L.length) :
    ∃ b off, A = some ⟨b, off, none⟩ ∧ (∀ W, Ext w W → W.cell? ⟨b, off + i * 5, none⟩ = some (.int .i64 L[i].1)) ∧ (∀ W, Ext w W → W.cell? ⟨b, off + i * 5 + 1, none⟩ = some (.int .i64 L[i].2.1)) ∧
      (∀ W, Ext w W → W.cell? ⟨b, off + i * 5 + 2, none⟩ = some (.int .i64 L[i].2.2.1)) ∧ (∀ W, Ext w W → W.cell? ⟨b, off + i * 5 + 3, none⟩ = some (.int .u8 L[i].2.2.2.1)) ∧ (∀ W, Ext w W → W.cell? ⟨b, off + i * 5 + 4, none⟩ = some (.int .i64 L[i].2.2.2.2)) := by
  obtain ⟨b, off, hA, hc⟩ := h.at_ hi
  exact ⟨b, off, hA, hc 0 _ rfl, hc 1 _ rfl, hc 2 _ rfl, hc 3 _ rfl, hc 4 _ rfl⟩

theorem blkG_off (p q : Value) (hp : ∃ A n c, p = .slice A n c) (hq : ∃ A n c, q = .slice A n c) : ∀ (i : Nat) (u : Value), (#[p, q] : Array Value)[i]? = some u → ∃ A n c, u = .slice A n c := by
  intro i u h
  match i, h with
  | 0, h => simp at h; subst h; exact hp
  | 1, h => simp at h; subst h; exact hq
theorem encV_ns (x : Int × Thing) (A : Option Addr) (n c : Nat) : (encV x)[0]? ≠ some (.slice A n c) := by simp [encV]
theorem encE_ns (x : (Int × Int) × Thing) (A : Option Addr) (n c : Nat) : (encE x)[0]? ≠ some (.slice A n c) := by simp [encE]
theorem encD_ns (x : Ed) (A : Option Addr) (n c : Nat) : (encD x)[0]? ≠ some (.slice A n c) := by simp [encD]
theorem IsG.off_G {w : World} {g bv be : Nat} {V : List (Int × Thing)} {E : List ((Int × Int) × Thing)} (h : IsG w g bv be V E) {b : Nat} {T : TypeId} {A B : Option Addr} {n m c d : Nat} (hb : Blk w b T #[.slice A n c, .slice B m d]) : b ≠ g ∧ b ≠ bv ∧ b ≠ be := by
  obtain ⟨V', E', h1, _⟩ := h
  have e0 := h1.blk
  obtain ⟨es, c1, e1, _⟩ := h1.vs
  obtain ⟨es', c2, e2, _⟩ := h1.es
  unfold Blk at hb e0
  refine ⟨?_, ?_, ?_⟩
  · rintro rfl; rw [hb] at e0; simp at e0
  · rintro rfl; rw [hb] at e1; simp at e1
  · rintro rfl; rw [hb] at e2; simp at e2
theorem Blk.set2 {w : World} {b : Nat} {T : TypeId} {p q p' q' : Value} (h : Blk w b T #[p, q]) : Blk ((w.setCell ⟨b, 0, none⟩ p').setCell ⟨b, 1, none⟩ q') b T #[p', q'] := by
  have := (h.set 0 p').set 1 q'
  simpa using this
theorem Keep.set2 (w : World) (b : Nat) (p q : Value) : Keep [b] w ((w.setCell ⟨b, 0, none⟩ p).setCell ⟨b, 1, none⟩ q) := (Keep.setCell w b 0 p).trans (Keep.setCell _ b 1 q)
theorem same_refl (A B A' B' : Option Addr) (V : List (Int × Thing)) (E : List ((Int × Int) × Thing)) (cV cE cV' cE' : Nat) (w : World) (hV : SlAt encV 3 w A V) (hE : SlAt encE 4 w B E) (hV' : SlAt encV 3 w A' V) (hE' : SlAt encE 4 w B' E) (hl : V.length ≤ 4096) (hle : E.length ≤ 4096) :
    Calls Tryz.prog 6 #[.agg #[.slice A V.length cV, .slice B E.length cE], .agg #[.slice A' V.length cV', .slice B' E.length cE']] w fun e w' => e = .returned (.bool true) ∧ Ext w w' := by
  have h := same_any A B A' B' V V E E cV cE cV' cE' w hV hE hV' hE' hl hle
  simpa using h
/-- a list stays where only a block of two slices turns -/
theorem SlAt.keep_G {α : Type} {enc : α → List Value} {k : Nat} {w w' : World} {A : Option Addr} {xs : List α} {b : Nat} {T : TypeId} {p q : Value} (h : SlAt enc k w A xs) (hb : Blk w b T #[p, q]) (hp : ∃ A n c, p = .slice A n c) (hq : ∃ A n c, q = .slice A n c)
    (hns : ∀ (x : α) A n c, (enc x)[0]? ≠ some (.slice A n c)) (hen : ∀ x : α, ∃ u : Value, (enc x)[0]? = some u) (hk : Keep [b] w w') : SlAt enc k w' A xs :=
  h.off hb (fun i u hu x => by obtain ⟨A', n', c', rfl⟩ := blkG_off p q hp hq i u hu; exact hns x _ _ _) hen hk.size (fun j hj hlt => hk.block j hlt (by simpa using hj))


/-- the class of worlds in which the block of one reference graph turns, and nothing else -/
def GCls (b : Nat) (w W : World) : Prop := Keep [b] w W ∧ ∃ A n c B m d, Blk W b 29 #[.slice A n c, .slice B m d]
theorem GCls.refl {b : Nat} {w : World} {A B : Option Addr} {n c m d : Nat} (h : Blk w b 29 #[.slice A n c, .slice B m d]) : GCls b w w := ⟨Keep.refl _ _, _, _, _, _, _, _, h⟩
theorem GCls.ext {b : Nat} {w W W' : World} (h : GCls b w W) (k : Ext W W') : GCls b w W' := ⟨h.1.trans (k.keep _), by
  obtain ⟨A, n, c, B, m, d, h⟩ := h.2
  exact ⟨A, n, c, B, m, d, h.ext k⟩⟩
theorem GCls.set {b : Nat} {w W : World} (h : GCls b w W) (A B : Option Addr) (n c m d : Nat) : GCls b w ((W.setCell ⟨b, 0, none⟩ (.slice A n c)).setCell ⟨b, 1, none⟩ (.slice B m d)) := ⟨h.1.trans (Keep.set2 _ _ _ _), by
  obtain ⟨_, _, _, _, _, _, h⟩ := h.2
  exact ⟨_, _, _, _, _, _, h.set2⟩⟩
theorem SlAt.cls {α : Type} {enc : α → List Value} {k : Nat} {w W : World} {A : Option Addr} {xs : List α} {b : Nat} (h : SlAt enc k w A xs) (hc : GCls b w W) (hb : ∃ A n c B m d, Blk w b 29 #[.slice A n c, .slice B m d])
    (hns : ∀ (x : α) A n c, (enc x)[0]? ≠ some (.slice A n c)) (hen : ∀ x : α, ∃ u : Value, (enc x)[0]? = some u) : SlAt enc k W A xs := by
  obtain ⟨A', n, c, B, m, d, hb⟩ := hb
  exact h.keep_G hb ⟨_, _, _, rfl⟩ ⟨_, _, _, rfl⟩ hns hen hc.1
/-- what holds at a round's head -/
structure ApRel (w wr : World) (g bv be gw : Nat) (V : List (Int × Thing)) (E : List ((Int × Int) × Thing)) (A B : Option Addr) (cA cB : Nat) : Prop where
  isg : IsG wr g bv be V E
  blk : Blk wr gw 29 #[.slice A V.length cA, .slice B E.length cB]
  sv : SlAt encV 3 wr A V
  se : SlAt encE 4 wr B E
  ext : Ext w wr
  lo : w.heap.size ≤ g ∧ w.heap.size ≤ bv ∧ w.heap.size ≤ be ∧ w.heap.size ≤ gw
theorem ApRel.go {w wr wr' : World} {g bv be gw : Nat} {V : List (Int × Thing)} {E : List ((Int × Int) × Thing)} {A B : Option Addr} {cA cB : Nat} (h : ApRel w wr g bv be gw V E A B cA cB) (k : Ext wr wr') : ApRel w wr' g bv be gw V E A B cA cB :=
  ⟨h.isg.ext k, h.blk.ext k, h.sv.ext k, h.se.ext k, h.ext.trans k, h.lo⟩
/-- the law's graph stays where another graph's maps turn -/
theorem ApRel.other {w wr wr' : World} {g bv be gw o ov oe : Nat} {V V2 : List (Int × Thing)} {E E2 : List ((Int × Int) × Thing)} {A B : Option Addr} {cA cB : Nat} (h : ApRel w wr g bv be gw V E A B cA cB) (ho : IsG wr o ov oe V2 E2) (hk : Keep [ov, oe] wr wr')
    (hv : ov ≠ g ∧ ov ≠ bv ∧ ov ≠ be ∧ w.heap.size ≤ ov) (he : oe ≠ g ∧ oe ≠ bv ∧ oe ≠ be ∧ w.heap.size ≤ oe) : ApRel w wr' g bv be gw V E A B cA cB := by
  have h6 := ho.off_G h.blk
  obtain ⟨v1, v2, v3, v4⟩ := hv
  obtain ⟨e1, e2, e3, e4⟩ := he
  exact ⟨h.isg.keep hk (by simp [Ne.symm v1, Ne.symm e1]) (by simp [Ne.symm v2, Ne.symm e2]) (by simp [Ne.symm v3, Ne.symm e3]), h.blk.keep hk (by simp [h6.2.1, h6.2.2]), h.sv.keep_maps encV0 ho hk, h.se.keep_maps encE0 ho hk, h.ext.of_new hk (by simp; omega), h.lo⟩
end Go.Proofs.YtdkhondfahebnaaGreat
