/- Parts of a proof, laid together. Each part says its own conditions. -/
import Derived.Test.YtoacpebmhbkmbaaGreatDoorC8
import Derived.Test.YtoacpebmhbkmbaaGreatDoorRows
import Derived.Deep.Slices
import Derived.Deep.Fields
import Derived.ChangeSame
import Derived.OpenShut
import Derived.Test.YtoacpebmhbkmbaaGreatDoorC17
import Derived.Test.YtoacpebmhbkmbaaGreatDoorC14
import Derived.Test.YtoacpebmhbkmbaaGreatDoorC11
namespace Go.Proofs.YtoacpebmhbkmbaaGreatDoor
open Go Go.RowKit Go.ChangeShapes Go.WideShapes Go.Deep
section
variable {H : Type} {enc : TypeId × Value → H} {P : Program} {w : World} {base : Nat} {spare : Nat → Bool} {held : Bool}
theorem open_slice_fields {t e : TypeId} {fs : Array Field} {fuel : Nat} {cs : List Value} {x : DataW H × List MemPlace} (ht : P.underlying t = some (.slice e)) (he : P.underlying e = some (.struct fs))
  (hone : oneCellFields P fs = true) (hC : P.cellsOf e = fs.size) (h : DataW.trod enc P w base spare held fuel t cs = some x) :
  cs = [.slice none 0 0] ∨
  ∃ (a : Addr) (len cap n : Nat),cs = [.slice (some a) len cap] ∧ len ≤ cap ∧ cap ≤ maxLen ∧
   ∀ i,i < len → ∀ (j : Nat) (f : Field),fs[j]? = some f → ∃ (v : Value) (y : DataW H × List MemPlace),w.cell? (a.add (i * fs.size + j)) = some v ∧ DataW.trod enc P w base spare held n f.type [v] = some y := by
 rcases open_slice ht h with h0 | ⟨a,len,cap,m,n,D,Pl,hcs,hb,hl,hm,hmm,hx,hi⟩
 ·exact .inl h0.1
 ·cases n with
  | zero =>
   refine .inr ⟨a,len,cap,0,hcs,hl,hm,fun i hil => ?_⟩
   have hle : len ≤ m := by rw [hmm]; split <;> omega
   obtain ⟨cs',hc,ht'⟩ := hi i (by omega)
   cases ht'
  | succ n =>
   refine .inr ⟨a,len,cap,n,hcs,hl,hm,fun i hil j f hj => ?_⟩
   have hle : len ≤ m := by rw [hmm]; split <;> omega
   obtain ⟨cs',hc,ht'⟩ := hi i (by omega)
   rw [hC] at hc
   obtain ⟨ys,n',hn',hy,hlen,hyl,hf⟩ := DataW.trod_struct he ht'
   obtain rfl : n' = n := by omega
   obtain ⟨_,hcl,hat⟩ := World.cells?_some hc
   obtain ⟨ho,hk⟩ := hone_of hone j f hj
   have hjl : j < fs.size := (Array.getElem?_eq_some_iff.1 hj).1
   have hcell := hat j hjl
   have hv : cs'[j]? = some (cs'[j]'(by omega)) := List.getElem?_eq_getElem (by omega)
   have h1 := hf j f hj
   rw [ho,hk] at h1
   have hone' : (cs'.drop j).take 1 = [cs'[j]'(by omega)] := by
    rw [List.drop_eq_getElem_cons (by omega)]
    rfl
   rw [hone'] at h1
   have hys : ys[j]? = some (ys[j]'(by omega)) := List.getElem?_eq_getElem (by omega)
   refine ⟨_,_, ?_,h1.trans hys⟩
   rw [← Go.Deep.add_add,hcell,hv]
end
theorem slAt_of {α : Type} [Inhabited α] {enc : α → List Value} {k : Nat} {w : World} {a : Addr} {len : Nat} {p : α → Prop} (h0 : ∀ x, ∃ u : Value,(enc x)[0]? = some u)
  (h : ∀ i,i < len → ∃ x : α,(∀ j u,(enc x)[j]? = some u → w.cell? (a.add (i * k + j)) = some u) ∧ p x) : ∃ L : List α,L.length = len ∧ SlAt enc k w (some a) L ∧ ∀ x ∈ L,p x := by
 obtain ⟨f,hf⟩ := choose_lt h
 refine ⟨(List.range len).map f,by simp,fun hne => ?_,fun x hx => ?_⟩
 ·have hpos : 0 < len := by
   rcases Nat.eq_zero_or_pos len with h | h
   ·subst h; simp at hne
   ·exact h
  obtain ⟨u,hu⟩ := h0 (f 0)
  have hc := (hf 0 hpos).1 0 u hu
  obtain ⟨b,off,spot⟩ := a
  have hspot : spot = none := by simpa [Addr.add] using World.cell?_spot hc
  subst hspot
  have hlt := World.block_lt_of_cell? w _ hc
  refine ⟨b,off,rfl,by simpa [Addr.add] using hlt,fun i x hx j u hu => ?_⟩
  rw [List.getElem?_map] at hx
  obtain ⟨i',hi',rfl⟩ := Option.map_eq_some_iff.1 hx
  obtain ⟨hil,rfl⟩ := List.getElem?_eq_some_iff.1 hi'
  simp only [List.getElem_range] at hu
  have := (hf i (by simpa using hil)).1 j u hu
  unfold Addr.add at this
  split at this
  ·rename_i hz
   rw [show off + i * k + j = off by omega]
   exact this
  ·rw [show off + i * k + j = off + (i * k + j) by omega]
   exact this
 ·obtain ⟨i,hi,rfl⟩ := List.mem_map.1 hx
  exact (hf i (List.mem_range.1 hi)).2
abbrev Ed := Int × Int × Int × Int × Int
def encD (d : Ed) : List Value := [.int .i64 d.1, .int .i64 d.2.1, .int .i64 d.2.2.1, .int .u8 d.2.2.2.1, .int .i64 d.2.2.2.2]
def okD (d : Ed) : Prop := i64ok d.1 ∧ i64ok d.2.1 ∧ i64ok d.2.2.1 ∧ i64ok d.2.2.2.2
def okV (d : Int × Thing) : Prop := i64ok d.1 ∧ i64ok d.2.2
def okEd (d : (Int × Int) × Thing) : Prop := i64ok d.1.1 ∧ i64ok d.1.2 ∧ i64ok d.2.2
theorem i64_of_wf {n : Int} (h : (Lit.int .i64 n).wf = true) : i64ok n := by
 have := Go.bounds_i64 h
 unfold i64ok
 omega
section
variable {H : Type} {enc : TypeId × Value → H} {w : World} {base : Nat} {spare : Nat → Bool} {held : Bool} {fuel : Nat} {x : DataW H × List MemPlace} {a : Option Addr} {len cap : Nat}
theorem open_edits (h : DataW.trod enc Tryz.prog w base spare held fuel 37 [.slice a len cap] = some x) : ∃ L : List Ed,L.length = len ∧ SlAt encD 5 w a L ∧ (∀ d ∈ L,okD d) ∧ len ≤ 9223372036854775807 ∧ len ≤ cap := by
 rcases open_slice_fields Tryz.underlying37 Tryz.underlying29 (by kernel_rfl) (by kernel_rfl) h with h0 | ⟨a',len',cap',n,hcs,hl,hm,hf⟩
 ·simp at h0
  obtain ⟨rfl,rfl,rfl⟩ := h0
  exact ⟨[],rfl,SlAt.nil,by simp,by omega,by omega⟩
 ·simp at hcs
  obtain ⟨rfl,rfl,rfl⟩ := hcs
  obtain ⟨L,h1,h2,h3⟩ := slAt_of (α := Ed) (enc := encD) (k := 5) (w := w) (a := a') (len := len) (p := okD) (fun x => ⟨_,rfl⟩) (fun i hi => by
   obtain ⟨v0,y0,c0,r0⟩ := hf i hi 0 _ rfl
   obtain ⟨v1,y1,c1,r1⟩ := hf i hi 1 _ rfl
   obtain ⟨v2,y2,c2,r2⟩ := hf i hi 2 _ rfl
   obtain ⟨v3,y3,c3,r3⟩ := hf i hi 3 _ rfl
   obtain ⟨v4,y4,c4,r4⟩ := hf i hi 4 _ rfl
   obtain ⟨n0,e0,_,w0⟩ := DataW.trod_int Tryz.underlying3 r0
   obtain ⟨n1,e1,_,w1⟩ := DataW.trod_int Tryz.underlying3 r1
   obtain ⟨n2,e2,_,w2⟩ := DataW.trod_int Tryz.underlying3 r2
   obtain ⟨n3,e3,_,w3⟩ := DataW.trod_int Tryz.underlying5 r3
   obtain ⟨n4,e4,_,w4⟩ := DataW.trod_int Tryz.underlying3 r4
   simp at e0 e1 e2 e3 e4
   subst e0 e1 e2 e3 e4
   refine ⟨(n0,n1,n2,n3,n4),fun j u hu => ?_,i64_of_wf w0,i64_of_wf w1,i64_of_wf w2,i64_of_wf w4⟩
   match j,hu with
   | 0,hu => simp [encD] at hu; subst hu; exact c0
   | 1,hu => simp [encD] at hu; subst hu; exact c1
   | 2,hu => simp [encD] at hu; subst hu; exact c2
   | 3,hu => simp [encD] at hu; subst hu; exact c3
   | 4,hu => simp [encD] at hu; subst hu; exact c4)
  exact ⟨L,h1,h2,h3,by unfold maxLen at hm; omega,hl⟩
end
end Go.Proofs.YtoacpebmhbkmbaaGreatDoor
namespace Go.Proofs.YtoacpebmhbkmbaaGreatDoor
open Go Go.RowKit
theorem atD {w : World} {A : Option Addr} {L : List Ed} (h : SlAt encD 5 w A L) {i : Nat} (hi : i < L.length) :
  ∃ b off,A = some ⟨b,off,none⟩ ∧ (∀ W,Ext w W → W.cell? ⟨b,off + i * 5,none⟩ = some (.int .i64 L[i].1)) ∧ (∀ W,Ext w W → W.cell? ⟨b,off + i * 5 + 1,none⟩ = some (.int .i64 L[i].2.1)) ∧
   (∀ W,Ext w W → W.cell? ⟨b,off + i * 5 + 2,none⟩ = some (.int .i64 L[i].2.2.1)) ∧ (∀ W,Ext w W → W.cell? ⟨b,off + i * 5 + 3,none⟩ = some (.int .u8 L[i].2.2.2.1)) ∧ (∀ W,Ext w W → W.cell? ⟨b,off + i * 5 + 4,none⟩ = some (.int .i64 L[i].2.2.2.2)) := by
 obtain ⟨b,off,hA,hc⟩ := h.at_ hi
 exact ⟨b,off,hA,hc 0 _ rfl,hc 1 _ rfl,hc 2 _ rfl,hc 3 _ rfl,hc 4 _ rfl⟩
theorem blkG_off (p q : Value) (hp : ∃ A n c,p = .slice A n c) (hq : ∃ A n c,q = .slice A n c) : ∀ (i : Nat) (u : Value),(#[p,q] : Array Value)[i]? = some u → ∃ A n c,u = .slice A n c := by
 intro i u h
 match i,h with
 | 0,h => simp at h; subst h; exact hp
 | 1,h => simp at h; subst h; exact hq
theorem encV_ns (x : Int × Thing) (A : Option Addr) (n c : Nat) : (encV x)[0]? ≠ some (.slice A n c) := by simp [encV]
theorem encE_ns (x : (Int × Int) × Thing) (A : Option Addr) (n c : Nat) : (encE x)[0]? ≠ some (.slice A n c) := by simp [encE]
theorem Blk.set2 {w : World} {b : Nat} {T : TypeId} {p q p' q' : Value} (h : Blk w b T #[p,q]) : Blk ((w.setCell ⟨b,0,none⟩ p').setCell ⟨b,1,none⟩ q') b T #[p',q'] := by
 have := (h.set 0 p').set 1 q'
 simpa using this
theorem Keep.set2 (w : World) (b : Nat) (p q : Value) : Keep [b] w ((w.setCell ⟨b,0,none⟩ p).setCell ⟨b,1,none⟩ q) := (Keep.setCell w b 0 p).trans (Keep.setCell _ b 1 q)
theorem SlAt.keep_G {α : Type} {enc : α → List Value} {k : Nat} {w w' : World} {A : Option Addr} {xs : List α} {b : Nat} {T : TypeId} {p q : Value} (h : SlAt enc k w A xs) (hb : Blk w b T #[p,q]) (hp : ∃ A n c,p = .slice A n c) (hq : ∃ A n c,q = .slice A n c)
  (hns : ∀ (x : α) A n c,(enc x)[0]? ≠ some (.slice A n c)) (hen : ∀ x : α, ∃ u : Value,(enc x)[0]? = some u) (hk : Keep [b] w w') : SlAt enc k w' A xs :=
 h.off hb (fun i u hu x => by obtain ⟨A',n',c',rfl⟩ := blkG_off p q hp hq i u hu; exact hns x _ _ _) hen hk.size (fun j hj hlt => hk.block j hlt (by simpa using hj))
def GCls (b : Nat) (w W : World) : Prop := Keep [b] w W ∧ ∃ A n c B m d,Blk W b 41 #[.slice A n c, .slice B m d]
theorem GCls.refl {b : Nat} {w : World} {A B : Option Addr} {n c m d : Nat} (h : Blk w b 41 #[.slice A n c, .slice B m d]) : GCls b w w := ⟨Keep.refl _ _,_,_,_,_,_,_,h⟩
theorem GCls.ext {b : Nat} {w W W' : World} (h : GCls b w W) (k : Ext W W') : GCls b w W' := ⟨h.1.trans (k.keep _),by
 obtain ⟨A,n,c,B,m,d,h⟩ := h.2
 exact ⟨A,n,c,B,m,d,h.ext k⟩⟩
theorem GCls.set {b : Nat} {w W : World} (h : GCls b w W) (A B : Option Addr) (n c m d : Nat) : GCls b w ((W.setCell ⟨b,0,none⟩ (.slice A n c)).setCell ⟨b,1,none⟩ (.slice B m d)) := ⟨h.1.trans (Keep.set2 _ _ _ _),by
 obtain ⟨_,_,_,_,_,_,h⟩ := h.2
 exact ⟨_,_,_,_,_,_,h.set2⟩⟩
theorem SlAt.cls {α : Type} {enc : α → List Value} {k : Nat} {w W : World} {A : Option Addr} {xs : List α} {b : Nat} (h : SlAt enc k w A xs) (hc : GCls b w W) (hb : ∃ A n c B m d,Blk w b 41 #[.slice A n c, .slice B m d])
  (hns : ∀ (x : α) A n c,(enc x)[0]? ≠ some (.slice A n c)) (hen : ∀ x : α, ∃ u : Value,(enc x)[0]? = some u) : SlAt enc k W A xs := by
 obtain ⟨A',n,c,B,m,d,hb⟩ := hb
 exact h.keep_G hb ⟨_,_,_,rfl⟩ ⟨_,_,_,rfl⟩ hns hen hc.1
end Go.Proofs.YtoacpebmhbkmbaaGreatDoor
namespace Go.Proofs.YtoacpebmhbkmbaaGreatDoor
open Go Go.RowKit
attribute [local go_sem] qUpon lUpon
set_option maxRecDepth 100000 in
theorem load_Set (W : World) (b : Nat) (N : Nat) (h : Blk W b 76 (setC N)) : (loadVar 76 ⟨b,0,none⟩).run Tryz.prog W = .ok (.agg (setC N)) W := by
 have c0 := h.cell 0
 have c1 := h.cell 1
 have c2 := h.cell 2
 have c3 := h.cell 3
 have c4 := h.cell 4
 have c5 := h.cell 5
 have c6 := h.cell 6
 have c7 := h.cell 7
 have c8 := h.cell 8
 have c9 := h.cell 9
 have c10 := h.cell 10
 have c11 := h.cell 11
 have c12 := h.cell 12
 have c13 := h.cell 13
 have c14 := h.cell 14
 have c15 := h.cell 15
 simp [setC] at c0 c1 c2 c3 c4 c5 c6 c7 c8 c9 c10 c11 c12 c13 c14 c15
 simp [loadVar,c0,c1,c2,c3,c4,c5,c6,c7,c8,c9,c10,c11,c12,c13,c14,c15,go_sem,setC]
theorem set16 {α : Type} (a0 a1 a2 a3 a4 a5 a6 a7 a8 a9 a10 a11 a12 a13 a14 a15 b0 b1 b2 b3 b4 b5 b6 b7 b8 b9 b10 b11 b12 b13 b14 b15 : α) : ((((((((((((((((#[a0,a1,a2,a3,a4,a5,a6,a7,a8,a9,a10,a11,a12,a13,a14,a15].setIfInBounds 0 b0).setIfInBounds 1 b1).setIfInBounds 2 b2).setIfInBounds 3 b3).setIfInBounds 4 b4).setIfInBounds 5 b5).setIfInBounds 6 b6).setIfInBounds 7 b7).setIfInBounds 8 b8).setIfInBounds 9 b9).setIfInBounds 10 b10).setIfInBounds 11 b11).setIfInBounds 12 b12).setIfInBounds 13 b13).setIfInBounds 14 b14).setIfInBounds 15 b15) = #[b0,b1,b2,b3,b4,b5,b6,b7,b8,b9,b10,b11,b12,b13,b14,b15] := by simp
theorem Blk.set16g {w : World} {b : Nat} {T : TypeId} (a0 a1 a2 a3 a4 a5 a6 a7 a8 a9 a10 a11 a12 a13 a14 a15 b0 b1 b2 b3 b4 b5 b6 b7 b8 b9 b10 b11 b12 b13 b14 b15 : Value) (h : Blk w b T #[a0,a1,a2,a3,a4,a5,a6,a7,a8,a9,a10,a11,a12,a13,a14,a15]) : Blk ((((((((((((((((w.setCell ⟨b,0,none⟩ b0).setCell ⟨b,1,none⟩ b1).setCell ⟨b,2,none⟩ b2).setCell ⟨b,3,none⟩ b3).setCell ⟨b,4,none⟩ b4).setCell ⟨b,5,none⟩ b5).setCell ⟨b,6,none⟩ b6).setCell ⟨b,7,none⟩ b7).setCell ⟨b,8,none⟩ b8).setCell ⟨b,9,none⟩ b9).setCell ⟨b,10,none⟩ b10).setCell ⟨b,11,none⟩ b11).setCell ⟨b,12,none⟩ b12).setCell ⟨b,13,none⟩ b13).setCell ⟨b,14,none⟩ b14).setCell ⟨b,15,none⟩ b15) b T #[b0,b1,b2,b3,b4,b5,b6,b7,b8,b9,b10,b11,b12,b13,b14,b15] := by
 have h1 := ((((((((((((((((h.set 0 b0).set 1 b1).set 2 b2).set 3 b3).set 4 b4).set 5 b5).set 6 b6).set 7 b7).set 8 b8).set 9 b9).set 10 b10).set 11 b11).set 12 b12).set 13 b13).set 14 b14).set 15 b15)
 rwa [set16] at h1
theorem Blk.set16 {w : World} {b : Nat} {M : Nat} (N : Nat) (h : Blk w b 76 (setC M)) : Blk ((((((((((((((((w.setCell ⟨b,0,none⟩ (.int .u64 (wd N 0))).setCell ⟨b,1,none⟩ (.int .u64 (wd N 1))).setCell ⟨b,2,none⟩ (.int .u64 (wd N 2))).setCell ⟨b,3,none⟩ (.int .u64 (wd N 3))).setCell ⟨b,4,none⟩ (.int .u64 (wd N 4))).setCell ⟨b,5,none⟩ (.int .u64 (wd N 5))).setCell ⟨b,6,none⟩ (.int .u64 (wd N 6))).setCell ⟨b,7,none⟩ (.int .u64 (wd N 7))).setCell ⟨b,8,none⟩ (.int .u64 (wd N 8))).setCell ⟨b,9,none⟩ (.int .u64 (wd N 9))).setCell ⟨b,10,none⟩ (.int .u64 (wd N 10))).setCell ⟨b,11,none⟩ (.int .u64 (wd N 11))).setCell ⟨b,12,none⟩ (.int .u64 (wd N 12))).setCell ⟨b,13,none⟩ (.int .u64 (wd N 13))).setCell ⟨b,14,none⟩ (.int .u64 (wd N 14))).setCell ⟨b,15,none⟩ (.int .u64 (wd N 15))) b 76 (setC N) := Blk.set16g _ _ _ _ _ _ _ _ _ _ _ _ _ _ _ _ _ _ _ _ _ _ _ _ _ _ _ _ _ _ _ _ h
theorem Keep.set16 (w : World) (b : Nat) (N : Nat) : Keep [b] w ((((((((((((((((w.setCell ⟨b,0,none⟩ (.int .u64 (wd N 0))).setCell ⟨b,1,none⟩ (.int .u64 (wd N 1))).setCell ⟨b,2,none⟩ (.int .u64 (wd N 2))).setCell ⟨b,3,none⟩ (.int .u64 (wd N 3))).setCell ⟨b,4,none⟩ (.int .u64 (wd N 4))).setCell ⟨b,5,none⟩ (.int .u64 (wd N 5))).setCell ⟨b,6,none⟩ (.int .u64 (wd N 6))).setCell ⟨b,7,none⟩ (.int .u64 (wd N 7))).setCell ⟨b,8,none⟩ (.int .u64 (wd N 8))).setCell ⟨b,9,none⟩ (.int .u64 (wd N 9))).setCell ⟨b,10,none⟩ (.int .u64 (wd N 10))).setCell ⟨b,11,none⟩ (.int .u64 (wd N 11))).setCell ⟨b,12,none⟩ (.int .u64 (wd N 12))).setCell ⟨b,13,none⟩ (.int .u64 (wd N 13))).setCell ⟨b,14,none⟩ (.int .u64 (wd N 14))).setCell ⟨b,15,none⟩ (.int .u64 (wd N 15))) := by
 refine (((((((((((((((Keep.setCell w b 0 _).trans (Keep.setCell _ b 1 _)).trans (Keep.setCell _ b 2 _)).trans (Keep.setCell _ b 3 _)).trans (Keep.setCell _ b 4 _)).trans (Keep.setCell _ b 5 _)).trans (Keep.setCell _ b 6 _)).trans (Keep.setCell _ b 7 _)).trans (Keep.setCell _ b 8 _)).trans (Keep.setCell _ b 9 _)).trans (Keep.setCell _ b 10 _)).trans (Keep.setCell _ b 11 _)).trans (Keep.setCell _ b 12 _)).trans (Keep.setCell _ b 13 _)).trans (Keep.setCell _ b 14 _)).trans (Keep.setCell _ b 15 _)
def withS (N : Nat) (n : Int) : Nat := if fitB n = true then N ||| 2 ^ n.toNat else N
theorem setC_with (N k : Nat) : (setC N).setIfInBounds (k / 64) (.int .u64 (bits .or .u64 (wd N (k / 64)) (bitW k))) = setC (N ||| 2 ^ k) := by
 have hX : bits .or .u64 (wd N (k / 64)) (bitW k) = wd (N ||| 2 ^ k) (k / 64) := by
  have h3 : 2 ^ (k % 64) < 2 ^ 64 := Nat.pow_lt_pow_right (by omega) (by omega)
  unfold wd bitW
  rw [u64_or_nat _ _ (wdN_lt _ _) h3,wdN_with,if_pos rfl]
 rw [hX]
 apply Array.ext_getElem?
 intro i
 by_cases hi : i < 16
 ·rw [setC_get _ hi]
  by_cases he : k / 64 = i
  ·subst he
   rw [Array.getElem?_setIfInBounds_self_of_lt (by rw [setC_size]; omega)]
  ·rw [Array.getElem?_setIfInBounds_ne he,setC_get _ hi]
   unfold wd
   rw [wdN_with,if_neg (Ne.symm he)]
 ·have h1 : ∀ a : Array Value,a.size = 16 → a[i]? = none := fun a h => Array.getElem?_eq_none (by omega)
  rw [h1 _ (by simp [setC_size]),h1 _ (setC_size _)]
set_option maxRecDepth 100000 in
set_option maxHeartbeats 4000000 in
theorem with_any (N : Nat) (n : Int) (w : World) :
  Calls Tryz.prog 59 #[.agg (setC N), .int .i64 n] w fun e w' => e = .returned (.agg (setC (withS N n))) ∧ Ext w w' := by
 have hB0 := Blk.new w 76 (setC N)
 by_cases hf : fitB n = true
 ·obtain ⟨k,rfl⟩ : ∃ k : Nat,n = k := ⟨n.toNat,by simp [fitB] at hf; omega⟩
  have hk : k < 1024 := by simp [fitB] at hf; omega
  obtain ⟨h1,hw,h6,h7,h8⟩ := idx_facts hk
  have h5 : fitB (k : Int) = true := hf
  have hN : withS N (k : Int) = N ||| 2 ^ k := by rw [withS,if_pos h5,Int.toNat_natCast]
  have hN' := hide hN
  have hB0' := hide hB0
  clear hf hB0 hN
  go_enter Tryz.func59,Tryz.ntmps59
  go_wp2_with fail
  have hx1 := hide ((ext_self1 w (.cells (setC N) 76)).trans (ext_self1 _ (.cells (setC 0) 76)))
  have hB2 := hide ((unhide hB0').ext (ext_self1 (w.alloc (.cells (setC N) 76)) (.cells (setC 0) 76)))
  have hB4 := hide (Blk.new (w.alloc (.cells (setC N) 76)) 76 (setC 0))
  have hs : (w.alloc (.cells (setC N) 76)).heap.size = w.heap.size + 1 := World.size_alloc _ _
  rw [hs] at hB4
  clear hs hB0'
  have hz : setC 0 = #[.int .u64 0, .int .u64 0, .int .u64 0, .int .u64 0, .int .u64 0, .int .u64 0, .int .u64 0, .int .u64 0, .int .u64 0, .int .u64 0, .int .u64 0, .int .u64 0, .int .u64 0, .int .u64 0, .int .u64 0, .int .u64 0] := rfl
  rw [hz] at hx1 hB2 hB4
  generalize (w.alloc (.cells (setC N) 76)).alloc (.cells #[.int .u64 0, .int .u64 0, .int .u64 0, .int .u64 0, .int .u64 0, .int .u64 0, .int .u64 0, .int .u64 0, .int .u64 0, .int .u64 0, .int .u64 0, .int .u64 0, .int .u64 0, .int .u64 0, .int .u64 0, .int .u64 0] 76) = W1 at *
  rw [← hz] at hB4
  clear hz
  have hbb := hide (show w.heap.size + 1 ≠ w.heap.size by omega)
  generalize hb4e : w.heap.size + 1 = b4 at *
  generalize hb2e : w.heap.size = b2 at *
  refine (fits_any _ _).mono ?_
  rw [h5]
  rintro e w2 ⟨rfl,hx2⟩
  have c0 := cell_of ((unhide hB2).ext hx2) hk
  have hB2' := hide ((unhide hB2).ext hx2)
  have hB4' := hide ((unhide hB4).ext hx2)
  have hx2' := hide ((unhide hx1).trans hx2)
  clear hx2 hB2 hB4 hx1
  go_wp2_with fail
  refine wp_region_ext (P := Tryz.prog) [0,1,2,3,4,5,6,7] [8] 1 #[true,true,true,true,true,true,true,true,false] (by kernel_rfl) (by kernel_rfl) rfl (by rfl) ?_
  iterate 8
   refine ql_want (v := ?_) rfl (by rfl) (fun W hW => ?_) ?_
   rotate_left
   ·go_simp
    first | done | rfl | ((go_at_call 83; refine (bit_any k hk _).mono ?_; rintro _ _ ⟨h1,h2⟩; refine ⟨_,h1, ?_,h2⟩; rfl))
   go_frame
  refine wpQL_nil (fun w3 hx3 => ?_)
  have c1 := c0 w3 hx3
  have f1 := ((unhide hB2').ext hx3).frozen (k / 64)
  refine lx_one (i := 8) (by kernel_rfl) rfl (by rfl) #[true,true,true,true,true,true,true,true,true] (by rfl) ?_
  go_simp
  intro w4 hx4
  have hB2 := ((((unhide hB2').ext hx3).set (k / 64) (.int .u64 (bits .or .u64 (wd N (k / 64)) (bitW k)))).ext hx4)
  rw [setC_with N k] at hB2
  have hB4 := ((((unhide hB4').ext hx3).keep (Keep.setCell w3 b2 (k / 64) (.int .u64 (bits .or .u64 (wd N (k / 64)) (bitW k)))) (by simpa using unhide hbb)).ext hx4)
  have hx5 := hide ((((unhide hx2').trans hx3).of_new (Keep.setCell w3 b2 (k / 64) (.int .u64 (bits .or .u64 (wd N (k / 64)) (bitW k)))) (by simp [hb2e])).trans hx4)
  refine wpX_done (by kernel_rfl) ?_
  try go_frame
  clear hB2' hB4' hx2' hx3 hx4 c0 c1 f1 h1 hw h6 h7 h8
  generalize N ||| 2 ^ k = M at *
  have hself := Ext.refl w4
  have e0 := hB2.cells 0 (v := .int .u64 (wd M 0)) rfl
  have e1 := hB2.cells 1 (v := .int .u64 (wd M 1)) rfl
  have e2 := hB2.cells 2 (v := .int .u64 (wd M 2)) rfl
  have e3 := hB2.cells 3 (v := .int .u64 (wd M 3)) rfl
  have e4 := hB2.cells 4 (v := .int .u64 (wd M 4)) rfl
  have e5 := hB2.cells 5 (v := .int .u64 (wd M 5)) rfl
  have e6 := hB2.cells 6 (v := .int .u64 (wd M 6)) rfl
  have e7 := hB2.cells 7 (v := .int .u64 (wd M 7)) rfl
  have e8 := hB2.cells 8 (v := .int .u64 (wd M 8)) rfl
  have e9 := hB2.cells 9 (v := .int .u64 (wd M 9)) rfl
  have e10 := hB2.cells 10 (v := .int .u64 (wd M 10)) rfl
  have e11 := hB2.cells 11 (v := .int .u64 (wd M 11)) rfl
  have e12 := hB2.cells 12 (v := .int .u64 (wd M 12)) rfl
  have e13 := hB2.cells 13 (v := .int .u64 (wd M 13)) rfl
  have e14 := hB2.cells 14 (v := .int .u64 (wd M 14)) rfl
  have e15 := hB2.cells 15 (v := .int .u64 (wd M 15)) rfl
  have g0 := hB4.frozen 0
  have g1 := hB4.frozen 1
  have g2 := hB4.frozen 2
  have g3 := hB4.frozen 3
  have g4 := hB4.frozen 4
  have g5 := hB4.frozen 5
  have g6 := hB4.frozen 6
  have g7 := hB4.frozen 7
  have g8 := hB4.frozen 8
  have g9 := hB4.frozen 9
  have g10 := hB4.frozen 10
  have g11 := hB4.frozen 11
  have g12 := hB4.frozen 12
  have g13 := hB4.frozen 13
  have g14 := hB4.frozen 14
  have g15 := hB4.frozen 15
  have z0 := hB4.cells 0 (v := .int .u64 (wd 0 0)) rfl
  have z1 := hB4.cells 1 (v := .int .u64 (wd 0 1)) rfl
  have z2 := hB4.cells 2 (v := .int .u64 (wd 0 2)) rfl
  have z3 := hB4.cells 3 (v := .int .u64 (wd 0 3)) rfl
  have z4 := hB4.cells 4 (v := .int .u64 (wd 0 4)) rfl
  have z5 := hB4.cells 5 (v := .int .u64 (wd 0 5)) rfl
  have z6 := hB4.cells 6 (v := .int .u64 (wd 0 6)) rfl
  have z7 := hB4.cells 7 (v := .int .u64 (wd 0 7)) rfl
  have z8 := hB4.cells 8 (v := .int .u64 (wd 0 8)) rfl
  have z9 := hB4.cells 9 (v := .int .u64 (wd 0 9)) rfl
  have z10 := hB4.cells 10 (v := .int .u64 (wd 0 10)) rfl
  have z11 := hB4.cells 11 (v := .int .u64 (wd 0 11)) rfl
  have z12 := hB4.cells 12 (v := .int .u64 (wd 0 12)) rfl
  have z13 := hB4.cells 13 (v := .int .u64 (wd 0 13)) rfl
  have z14 := hB4.cells 14 (v := .int .u64 (wd 0 14)) rfl
  have z15 := hB4.cells 15 (v := .int .u64 (wd 0 15)) rfl
  have hB4' := hide hB4
  clear hB2 hB4
  go_wp2_with fail
  rw [unhide hN']
  refine bodyPost_ret (ret_cell1 rfl rfl (load_Set _ b4 M (Blk.set16 M (unhide hB4')))) rfl ?_
  exact ⟨rfl,(unhide hx5).of_new (Keep.set16 w4 b4 M) (by simp; omega)⟩
 ·have h5 : fitB n = false := by simpa using hf
  have hN : withS N n = N := by rw [withS,if_neg hf]
  have hN' := hide hN
  have hB0' := hide hB0
  clear hf hB0 hN
  go_enter Tryz.func59,Tryz.ntmps59
  go_wp2_with fail
  have hx1 := hide ((ext_self1 w (.cells (setC N) 76)).trans (ext_self1 _ (.cells (setC 0) 76)))
  have hB2 := hide ((unhide hB0').ext (ext_self1 (w.alloc (.cells (setC N) 76)) (.cells (setC 0) 76)))
  have hB4 := hide (Blk.new (w.alloc (.cells (setC N) 76)) 76 (setC 0))
  have hs : (w.alloc (.cells (setC N) 76)).heap.size = w.heap.size + 1 := World.size_alloc _ _
  rw [hs] at hB4
  clear hs hB0'
  have hz : setC 0 = #[.int .u64 0, .int .u64 0, .int .u64 0, .int .u64 0, .int .u64 0, .int .u64 0, .int .u64 0, .int .u64 0, .int .u64 0, .int .u64 0, .int .u64 0, .int .u64 0, .int .u64 0, .int .u64 0, .int .u64 0, .int .u64 0] := rfl
  rw [hz] at hx1 hB2 hB4
  generalize (w.alloc (.cells (setC N) 76)).alloc (.cells #[.int .u64 0, .int .u64 0, .int .u64 0, .int .u64 0, .int .u64 0, .int .u64 0, .int .u64 0, .int .u64 0, .int .u64 0, .int .u64 0, .int .u64 0, .int .u64 0, .int .u64 0, .int .u64 0, .int .u64 0, .int .u64 0] 76) = W1 at *
  rw [← hz] at hB4
  clear hz
  generalize hb4e : w.heap.size + 1 = b4 at *
  generalize hb2e : w.heap.size = b2 at *
  refine (fits_any _ _).mono ?_
  rw [h5]
  rintro e w4 ⟨rfl,hx2⟩
  have hB2 := (unhide hB2).ext hx2
  have hB4 := (unhide hB4).ext hx2
  have hx5 := hide ((unhide hx1).trans hx2)
  clear hx2 hx1
  have hself := Ext.refl w4
  have e0 := hB2.cells 0 (v := .int .u64 (wd N 0)) rfl
  have e1 := hB2.cells 1 (v := .int .u64 (wd N 1)) rfl
  have e2 := hB2.cells 2 (v := .int .u64 (wd N 2)) rfl
  have e3 := hB2.cells 3 (v := .int .u64 (wd N 3)) rfl
  have e4 := hB2.cells 4 (v := .int .u64 (wd N 4)) rfl
  have e5 := hB2.cells 5 (v := .int .u64 (wd N 5)) rfl
  have e6 := hB2.cells 6 (v := .int .u64 (wd N 6)) rfl
  have e7 := hB2.cells 7 (v := .int .u64 (wd N 7)) rfl
  have e8 := hB2.cells 8 (v := .int .u64 (wd N 8)) rfl
  have e9 := hB2.cells 9 (v := .int .u64 (wd N 9)) rfl
  have e10 := hB2.cells 10 (v := .int .u64 (wd N 10)) rfl
  have e11 := hB2.cells 11 (v := .int .u64 (wd N 11)) rfl
  have e12 := hB2.cells 12 (v := .int .u64 (wd N 12)) rfl
  have e13 := hB2.cells 13 (v := .int .u64 (wd N 13)) rfl
  have e14 := hB2.cells 14 (v := .int .u64 (wd N 14)) rfl
  have e15 := hB2.cells 15 (v := .int .u64 (wd N 15)) rfl
  have g0 := hB4.frozen 0
  have g1 := hB4.frozen 1
  have g2 := hB4.frozen 2
  have g3 := hB4.frozen 3
  have g4 := hB4.frozen 4
  have g5 := hB4.frozen 5
  have g6 := hB4.frozen 6
  have g7 := hB4.frozen 7
  have g8 := hB4.frozen 8
  have g9 := hB4.frozen 9
  have g10 := hB4.frozen 10
  have g11 := hB4.frozen 11
  have g12 := hB4.frozen 12
  have g13 := hB4.frozen 13
  have g14 := hB4.frozen 14
  have g15 := hB4.frozen 15
  have z0 := hB4.cells 0 (v := .int .u64 (wd 0 0)) rfl
  have z1 := hB4.cells 1 (v := .int .u64 (wd 0 1)) rfl
  have z2 := hB4.cells 2 (v := .int .u64 (wd 0 2)) rfl
  have z3 := hB4.cells 3 (v := .int .u64 (wd 0 3)) rfl
  have z4 := hB4.cells 4 (v := .int .u64 (wd 0 4)) rfl
  have z5 := hB4.cells 5 (v := .int .u64 (wd 0 5)) rfl
  have z6 := hB4.cells 6 (v := .int .u64 (wd 0 6)) rfl
  have z7 := hB4.cells 7 (v := .int .u64 (wd 0 7)) rfl
  have z8 := hB4.cells 8 (v := .int .u64 (wd 0 8)) rfl
  have z9 := hB4.cells 9 (v := .int .u64 (wd 0 9)) rfl
  have z10 := hB4.cells 10 (v := .int .u64 (wd 0 10)) rfl
  have z11 := hB4.cells 11 (v := .int .u64 (wd 0 11)) rfl
  have z12 := hB4.cells 12 (v := .int .u64 (wd 0 12)) rfl
  have z13 := hB4.cells 13 (v := .int .u64 (wd 0 13)) rfl
  have z14 := hB4.cells 14 (v := .int .u64 (wd 0 14)) rfl
  have z15 := hB4.cells 15 (v := .int .u64 (wd 0 15)) rfl
  have hB4' := hide hB4
  clear hB2 hB4
  go_wp2_with fail
  rw [unhide hN']
  refine bodyPost_ret (ret_cell1 rfl rfl (load_Set _ b4 N (Blk.set16 N (unhide hB4')))) rfl ?_
  exact ⟨rfl,(unhide hx5).of_new (Keep.set16 w4 b4 N) (by simp; omega)⟩
end Go.Proofs.YtoacpebmhbkmbaaGreatDoor
namespace Go.Proofs.YtoacpebmhbkmbaaGreatDoor
open Go Go.RowKit
def putS (w : World) (b : Nat) (N : Nat) : World := ((((((((((((((((w.setCell ⟨b,0,none⟩ (.int .u64 (wd N 0))).setCell ⟨b,1,none⟩ (.int .u64 (wd N 1))).setCell ⟨b,2,none⟩ (.int .u64 (wd N 2))).setCell ⟨b,3,none⟩ (.int .u64 (wd N 3))).setCell ⟨b,4,none⟩ (.int .u64 (wd N 4))).setCell ⟨b,5,none⟩ (.int .u64 (wd N 5))).setCell ⟨b,6,none⟩ (.int .u64 (wd N 6))).setCell ⟨b,7,none⟩ (.int .u64 (wd N 7))).setCell ⟨b,8,none⟩ (.int .u64 (wd N 8))).setCell ⟨b,9,none⟩ (.int .u64 (wd N 9))).setCell ⟨b,10,none⟩ (.int .u64 (wd N 10))).setCell ⟨b,11,none⟩ (.int .u64 (wd N 11))).setCell ⟨b,12,none⟩ (.int .u64 (wd N 12))).setCell ⟨b,13,none⟩ (.int .u64 (wd N 13))).setCell ⟨b,14,none⟩ (.int .u64 (wd N 14))).setCell ⟨b,15,none⟩ (.int .u64 (wd N 15)))
theorem Blk.putS {w : World} {b M : Nat} (N : Nat) (h : Blk w b 76 (setC M)) : Blk (putS w b N) b 76 (setC N) := Blk.set16 N h
theorem Keep.putS (w : World) (b : Nat) (N : Nat) : Keep [b] w (putS w b N) := Keep.set16 w b N
set_option maxRecDepth 100000 in
set_option maxHeartbeats 4000000 in
theorem store_Set {w : World} {b M : Nat} (N : Nat) (h : Blk w b 76 (setC M)) : (storeCells ⟨b,0,none⟩ (setC N).toList).run Tryz.prog w = .ok () (putS w b N) := by
 have c0 := h.cell 0
 have f0 := h.frozen 0
 have c1 := h.cell 1
 have f1 := h.frozen 1
 have c2 := h.cell 2
 have f2 := h.frozen 2
 have c3 := h.cell 3
 have f3 := h.frozen 3
 have c4 := h.cell 4
 have f4 := h.frozen 4
 have c5 := h.cell 5
 have f5 := h.frozen 5
 have c6 := h.cell 6
 have f6 := h.frozen 6
 have c7 := h.cell 7
 have f7 := h.frozen 7
 have c8 := h.cell 8
 have f8 := h.frozen 8
 have c9 := h.cell 9
 have f9 := h.frozen 9
 have c10 := h.cell 10
 have f10 := h.frozen 10
 have c11 := h.cell 11
 have f11 := h.frozen 11
 have c12 := h.cell 12
 have f12 := h.frozen 12
 have c13 := h.cell 13
 have f13 := h.frozen 13
 have c14 := h.cell 14
 have f14 := h.frozen 14
 have c15 := h.cell 15
 have f15 := h.frozen 15
 simp [setC] at c0 c1 c2 c3 c4 c5 c6 c7 c8 c9 c10 c11 c12 c13 c14 c15
 simp [setC,putS,c0,f0,c1,f1,c2,f2,c3,f3,c4,f4,c5,f5,c6,f6,c7,f7,c8,f8,c9,f9,c10,f10,c11,f11,c12,f12,c13,f13,c14,f14,c15,f15,go_sem]
end Go.Proofs.YtoacpebmhbkmbaaGreatDoor
