/- Parts of a proof, laid together. Each part says its own conditions. -/
import Derived.Test.YtoacpebmhbkmbaaGreatDoorC18
namespace Go.Proofs.YtoacpebmhbkmbaaGreatDoor
open Go Go.RowKit
attribute [local go_sem] qUpon lUpon
def vS (V : List (Int × Thing)) : Nat := V.foldl (fun a v => withS a v.1) 0
theorem vS_next (V : List (Int × Thing)) (k : Nat) (h : k < V.length) : vS (V.take (k + 1)) = withS (vS (V.take k)) V[k].1 := by
 unfold vS
 rw [List.take_succ_eq_append_getElem h,List.foldl_append,List.foldl_cons,List.foldl_nil]
theorem setC_u64 {N i : Nat} {u : Value} (h : (setC N)[i]? = some u) : ∃ m,u = .int .u64 m := by
 have hi : i < 16 := (Array.getElem?_eq_some_iff.1 h).1
 rw [setC_get _ hi] at h
 exact ⟨_,(Option.some.inj h).symm⟩
theorem SlAt.keep_S {α : Type} {enc : α → List Value} {k : Nat} {w w' : World} {A : Option Addr} {xs : List α} {b N : Nat} {T : TypeId} (h : SlAt enc k w A xs) (hb : Blk w b T (setC N))
  (hns : ∀ (x : α) (m : Int),(enc x)[0]? ≠ some (.int .u64 m)) (hen : ∀ x : α, ∃ u : Value,(enc x)[0]? = some u) (hk : Keep [b] w w') : SlAt enc k w' A xs :=
 h.off hb (fun i u hu x => by obtain ⟨m,rfl⟩ := setC_u64 hu; exact hns x _) hen hk.size (fun j hj hlt => hk.block j hlt (by simpa using hj))
theorem encV_nu (x : Int × Thing) (m : Int) : (encV x)[0]? ≠ some (.int .u64 m) := by simp [encV]
theorem encE_nu (x : (Int × Int) × Thing) (m : Int) : (encE x)[0]? ≠ some (.int .u64 m) := by simp [encE]
set_option maxRecDepth 100000 in
set_option maxHeartbeats 8000000 in
theorem vset_gen (g : Value) (V : List (Int × Thing)) (w : World) (hl : V.length ≤ 4096) (hL : ∀ W,Ext w W → Calls Tryz.prog 30 #[g] W fun e w' => ∃ A c,e = .returned (.slice A V.length c) ∧ SlAt encV 3 w' A V ∧ Ext W w') :
  Calls Tryz.prog 40 #[g] w fun e w' => e = .returned (.agg (setC (vS V))) ∧ Ext w w' := by
 have hB0 := hide (Blk.new w 76 (setC 0))
 have hL' := hide hL
 clear hL
 go_enter Tryz.func40,Tryz.ntmps40
 go_wp2_with fail
 have hx1 := hide ((ext_self1 w (.cells (setC 0) 76)).trans (ext_self1 _ (.cells (setC 0) 76)))
 have hB2 := hide ((unhide hB0).ext (ext_self1 (w.alloc (.cells (setC 0) 76)) (.cells (setC 0) 76)))
 have hB4 := hide (Blk.new (w.alloc (.cells (setC 0) 76)) 76 (setC 0))
 have hs : (w.alloc (.cells (setC 0) 76)).heap.size = w.heap.size + 1 := World.size_alloc _ _
 rw [hs] at hB4
 clear hs hB0
 have hz : setC 0 = #[.int .u64 0, .int .u64 0, .int .u64 0, .int .u64 0, .int .u64 0, .int .u64 0, .int .u64 0, .int .u64 0, .int .u64 0, .int .u64 0, .int .u64 0, .int .u64 0, .int .u64 0, .int .u64 0, .int .u64 0, .int .u64 0] := rfl
 rw [hz] at hx1 hB2 hB4
 generalize (w.alloc (.cells #[.int .u64 0, .int .u64 0, .int .u64 0, .int .u64 0, .int .u64 0, .int .u64 0, .int .u64 0, .int .u64 0, .int .u64 0, .int .u64 0, .int .u64 0, .int .u64 0, .int .u64 0, .int .u64 0, .int .u64 0, .int .u64 0] 76)).alloc (.cells #[.int .u64 0, .int .u64 0, .int .u64 0, .int .u64 0, .int .u64 0, .int .u64 0, .int .u64 0, .int .u64 0, .int .u64 0, .int .u64 0, .int .u64 0, .int .u64 0, .int .u64 0, .int .u64 0, .int .u64 0, .int .u64 0] 76) = W1 at *
 rw [← hz] at hB4 hB2
 clear hz
 generalize hb4e : w.heap.size + 1 = b4 at *
 generalize hb2e : w.heap.size = b2 at *
 refine (unhide hL' _ (unhide hx1)).mono ?_
 rintro e w2 ⟨A,c,rfl,hs2,hx2⟩
 have hB2' := hide ((unhide hB2).ext hx2)
 have hB4' := hide ((unhide hB4).ext hx2)
 have hx2' := hide ((unhide hx1).trans hx2)
 have hs2' := hide hs2
 clear hx1 hx2 hB2 hB4 hs2 hL'
 go_wp2_with fail
 go_loopw [9] (fun i wr => ∃ k : Nat,k ≤ V.length ∧ i = .int .i64 k ∧ Blk wr b4 76 (setC (vS (V.take k))) ∧ Blk wr b2 76 (setC 0) ∧ SlAt encV 3 wr A V ∧ Ext w wr) (fun i _ => V.length - (intOf i).toNat)
 case atStart => exact ⟨0,Nat.zero_le _,rfl,unhide hB4',unhide hB2',unhide hs2',unhide hx2'⟩
 case round =>
  obtain ⟨k,hk,rfl,hB,hA,hs,hx⟩ := hrel
  have hB' := hide hB
  have hA' := hide hA
  have hs' := hide hs
  have hx' := hide hx
  clear hB4' hB2' hx2' hs2' hB hA hs hx
  by_cases hlt : k < V.length
  ·have hB := unhide hB'
   obtain ⟨bb,off,rfl,c0,c1,c2⟩ := atV (unhide hs') hlt
   have hn' := hide (vS_next V k hlt)
   generalize V[k] = y at c0 c1 c2 hn'
   obtain ⟨u,lab,wt⟩ := y
   generalize vS (V.take k) = N at hB hB' hn'
   simp only at c0 c1 c2
   have hself := Ext.refl wr
   have e0 := hB.cells 0 (v := .int .u64 (wd N 0)) rfl
   have e1 := hB.cells 1 (v := .int .u64 (wd N 1)) rfl
   have e2 := hB.cells 2 (v := .int .u64 (wd N 2)) rfl
   have e3 := hB.cells 3 (v := .int .u64 (wd N 3)) rfl
   have e4 := hB.cells 4 (v := .int .u64 (wd N 4)) rfl
   have e5 := hB.cells 5 (v := .int .u64 (wd N 5)) rfl
   have e6 := hB.cells 6 (v := .int .u64 (wd N 6)) rfl
   have e7 := hB.cells 7 (v := .int .u64 (wd N 7)) rfl
   have e8 := hB.cells 8 (v := .int .u64 (wd N 8)) rfl
   have e9 := hB.cells 9 (v := .int .u64 (wd N 9)) rfl
   have e10 := hB.cells 10 (v := .int .u64 (wd N 10)) rfl
   have e11 := hB.cells 11 (v := .int .u64 (wd N 11)) rfl
   have e12 := hB.cells 12 (v := .int .u64 (wd N 12)) rfl
   have e13 := hB.cells 13 (v := .int .u64 (wd N 13)) rfl
   have e14 := hB.cells 14 (v := .int .u64 (wd N 14)) rfl
   have e15 := hB.cells 15 (v := .int .u64 (wd N 15)) rfl
   clear hB
   go_wp2_with fail
   refine (with_any N u _).mono ?_
   rintro e w5 ⟨rfl,hx5⟩
   have hxx := hide ((ext_self1 wr (.cells #[.int .i64 u, .int .u8 lab, .int .i64 wt] 64)).trans hx5)
   have hB5 := (unhide hB').ext (unhide hxx)
   have hA5 := hide ((unhide hA').ext (unhide hxx))
   have hs5 := hide ((unhide hs').ext (unhide hxx))
   have hx6 := hide ((unhide hx').trans (unhide hxx))
   have hself5 := Ext.refl w5
   clear hx5 hB' hA' hs' hx' e0 e1 e2 e3 e4 e5 e6 e7 e8 e9 e10 e11 e12 e13 e14 e15 hself hxx c0 c1 c2
   have hst := store_Set (withS N u) hB5
   have hB5' := hide hB5
   clear hB5
   go_wp2_with fail
   go_roundw
   case rel => exact ⟨k + 1,by omega,by go_num,by rw [unhide hn']; exact Blk.putS _ (unhide hB5'),(unhide hA5).keep (Keep.putS w5 b4 _) (by simp; omega),(unhide hs5).keep_S (unhide hB5') encV_nu encV0 (Keep.putS w5 b4 _),(unhide hx6).of_new (Keep.putS w5 b4 _) (by simp; omega)⟩
   case measure => simp [intOf]; omega
  ·have hke : k = V.length := by omega
   have hB := unhide hB'
   have hA := unhide hA'
   rw [hke,List.take_length] at hB hB'
   have hself := Ext.refl wr
   clear hlt
   obtain ⟨N,hN⟩ : ∃ N,vS V = N := ⟨_,rfl⟩
   rw [hN] at hB hB'
   have hN' := hide hN
   clear hN
   have e0 := hB.cells 0 (v := .int .u64 (wd N 0)) rfl
   have e1 := hB.cells 1 (v := .int .u64 (wd N 1)) rfl
   have e2 := hB.cells 2 (v := .int .u64 (wd N 2)) rfl
   have e3 := hB.cells 3 (v := .int .u64 (wd N 3)) rfl
   have e4 := hB.cells 4 (v := .int .u64 (wd N 4)) rfl
   have e5 := hB.cells 5 (v := .int .u64 (wd N 5)) rfl
   have e6 := hB.cells 6 (v := .int .u64 (wd N 6)) rfl
   have e7 := hB.cells 7 (v := .int .u64 (wd N 7)) rfl
   have e8 := hB.cells 8 (v := .int .u64 (wd N 8)) rfl
   have e9 := hB.cells 9 (v := .int .u64 (wd N 9)) rfl
   have e10 := hB.cells 10 (v := .int .u64 (wd N 10)) rfl
   have e11 := hB.cells 11 (v := .int .u64 (wd N 11)) rfl
   have e12 := hB.cells 12 (v := .int .u64 (wd N 12)) rfl
   have e13 := hB.cells 13 (v := .int .u64 (wd N 13)) rfl
   have e14 := hB.cells 14 (v := .int .u64 (wd N 14)) rfl
   have e15 := hB.cells 15 (v := .int .u64 (wd N 15)) rfl
   have g0 := hA.frozen 0
   have g1 := hA.frozen 1
   have g2 := hA.frozen 2
   have g3 := hA.frozen 3
   have g4 := hA.frozen 4
   have g5 := hA.frozen 5
   have g6 := hA.frozen 6
   have g7 := hA.frozen 7
   have g8 := hA.frozen 8
   have g9 := hA.frozen 9
   have g10 := hA.frozen 10
   have g11 := hA.frozen 11
   have g12 := hA.frozen 12
   have g13 := hA.frozen 13
   have g14 := hA.frozen 14
   have g15 := hA.frozen 15
   have z0 := hA.cells 0 (v := .int .u64 (wd 0 0)) rfl
   have z1 := hA.cells 1 (v := .int .u64 (wd 0 1)) rfl
   have z2 := hA.cells 2 (v := .int .u64 (wd 0 2)) rfl
   have z3 := hA.cells 3 (v := .int .u64 (wd 0 3)) rfl
   have z4 := hA.cells 4 (v := .int .u64 (wd 0 4)) rfl
   have z5 := hA.cells 5 (v := .int .u64 (wd 0 5)) rfl
   have z6 := hA.cells 6 (v := .int .u64 (wd 0 6)) rfl
   have z7 := hA.cells 7 (v := .int .u64 (wd 0 7)) rfl
   have z8 := hA.cells 8 (v := .int .u64 (wd 0 8)) rfl
   have z9 := hA.cells 9 (v := .int .u64 (wd 0 9)) rfl
   have z10 := hA.cells 10 (v := .int .u64 (wd 0 10)) rfl
   have z11 := hA.cells 11 (v := .int .u64 (wd 0 11)) rfl
   have z12 := hA.cells 12 (v := .int .u64 (wd 0 12)) rfl
   have z13 := hA.cells 13 (v := .int .u64 (wd 0 13)) rfl
   have z14 := hA.cells 14 (v := .int .u64 (wd 0 14)) rfl
   have z15 := hA.cells 15 (v := .int .u64 (wd 0 15)) rfl
   clear hB hA
   go_wp2_with fail
   refine bodyPost_ret (ret_cell1 rfl rfl (load_Set _ b2 N (Blk.set16 N (unhide hA')))) rfl ?_
   exact ⟨by rw [unhide hN'],(unhide hx').of_new (Keep.set16 wr b2 N) (by simp; omega)⟩
end Go.Proofs.YtoacpebmhbkmbaaGreatDoor
namespace Go.Proofs.YtoacpebmhbkmbaaGreatDoor
open Go Go.RowKit
theorem withS_bit (N : Nat) (x : Int) (k : Nat) : (withS N x).testBit k = (N.testBit k || (decide (k < 1024) && decide (x = (k : Int)))) := by
 unfold withS fitB
 by_cases h : 0 ≤ x ∧ x < 1024
 ·rw [if_pos (by simp [h.1,h.2]),Nat.testBit_or,Nat.testBit_two_pow]
  congr 1
  rw [Bool.eq_iff_iff]
  simp only [Bool.and_eq_true,decide_eq_true_eq]
  omega
 ·rw [if_neg (by simp; omega)]
  have : (decide (k < 1024) && decide (x = (k : Int))) = false := by
   rw [Bool.eq_false_iff]
   simp only [ne_eq,Bool.and_eq_true,decide_eq_true_eq]
   omega
  rw [this,Bool.or_false]
def fromS (L : List Int) : Nat := L.foldl withS 0
theorem fromS_next (L : List Int) (k : Nat) (h : k < L.length) : fromS (L.take (k + 1)) = withS (fromS (L.take k)) L[k] := by
 unfold fromS
 rw [List.take_succ_eq_append_getElem h,List.foldl_append,List.foldl_cons,List.foldl_nil]
theorem fold_bit (L : List Int) : ∀ (a k : Nat),(L.foldl withS a).testBit k = (a.testBit k || (decide (k < 1024) && decide ((k : Int) ∈ L))) := by
 induction L with
 | nil => intro a k; simp
 | cons x r ih =>
  intro a k
  rw [List.foldl_cons,ih,withS_bit,Bool.or_assoc]
  congr 1
  rw [Bool.eq_iff_iff]
  simp only [Bool.or_eq_true,Bool.and_eq_true,decide_eq_true_eq,List.mem_cons]
  constructor
  ·rintro (h | h)
   ·exact ⟨h.1, .inl h.2.symm⟩
   ·exact ⟨h.1, .inr h.2⟩
  ·rintro ⟨h1,h2 | h2⟩
   ·exact .inl ⟨h1,h2.symm⟩
   ·exact .inr ⟨h1,h2⟩
theorem fromS_bit (L : List Int) (k : Nat) : (fromS L).testBit k = (decide (k < 1024) && decide ((k : Int) ∈ L)) := by
 unfold fromS
 rw [fold_bit,Nat.zero_testBit,Bool.false_or]
theorem fromS_congr {L M : List Int} (h : ∀ x : Int,x ∈ L ↔ x ∈ M) : fromS L = fromS M := by
 apply Nat.eq_of_testBit_eq
 intro k
 rw [fromS_bit,fromS_bit]
 simp [h]
theorem vS_eq (V : List (Int × Thing)) : vS V = fromS (V.map (·.1)) := by
 unfold vS fromS
 rw [List.foldl_map]
end Go.Proofs.YtoacpebmhbkmbaaGreatDoor
namespace Go.Proofs.YtoacpebmhbkmbaaGreatDoor
open Go Go.RowKit
attribute [local go_sem] qUpon lUpon
abbrev GS := List (Int × Thing) × List ((Int × Int) × Thing)
section
variable {σ α : Type}
def fe (er : σ → α → Int) (st : σ → α → σ) : List α → σ → Int
 | [],_ => 0
 | x :: l,s => if er s x = 0 then fe er st l (st s x) else er s x
theorem fe_append (er : σ → α → Int) (st : σ → α → σ) : ∀ (l1 l2 : List α) (s : σ),fe er st (l1 ++ l2) s = if fe er st l1 s = 0 then fe er st l2 (l1.foldl st s) else fe er st l1 s
 | [],l2,s => by simp [fe]
 | x :: l1,l2,s => by
  simp only [List.cons_append,fe,List.foldl_cons]
  by_cases h : er s x = 0
  ·simp only [h,if_true]
   exact fe_append er st l1 l2 _
  ·simp [h]
theorem fe_step {er : σ → α → Int} {st : σ → α → σ} {l : List α} {s : σ} {k : Nat} (hk : k < l.length) (h0 : fe er st (l.take k) s = 0) (h1 : er ((l.take k).foldl st s) l[k] = 0) : fe er st (l.take (k + 1)) s = 0 := by
 rw [List.take_succ_eq_append_getElem hk,fe_append,if_pos h0]
 simp [fe,h1]
theorem fe_stop {er : σ → α → Int} {st : σ → α → σ} {l : List α} {s : σ} {k : Nat} (hk : k < l.length) (h0 : fe er st (l.take k) s = 0) (h1 : er ((l.take k).foldl st s) l[k] ≠ 0) : fe er st l s = er ((l.take k).foldl st s) l[k] := by
 conv => lhs; rw [← List.take_append_drop k l,List.drop_eq_getElem_cons hk]
 rw [fe_append,if_pos h0]
 simp [fe,h1]
theorem fold_step {st : σ → α → σ} {l : List α} {s : σ} {k : Nat} (hk : k < l.length) : (l.take (k + 1)).foldl st s = st ((l.take k).foldl st s) l[k] := by
 rw [List.take_succ_eq_append_getElem hk,List.foldl_append]; rfl
end
def erV (s : GS) (x : Int × Thing) : Int := wrongR 0 x.1 0 x.2.2 s.1 s.2
def stV (s : GS) (x : Int × Thing) : GS := (nxV 0 x.1 0 x.2.1 x.2.2 s.1 s.2,nxE 0 x.1 0 x.2.1 x.2.2 s.1 s.2)
def erE (s : GS) (x : (Int × Int) × Thing) : Int := wrongR 2 x.1.1 x.1.2 x.2.2 s.1 s.2
def stE (s : GS) (x : (Int × Int) × Thing) : GS := (nxV 2 x.1.1 x.1.2 x.2.1 x.2.2 s.1 s.2,nxE 2 x.1.1 x.1.2 x.2.1 x.2.2 s.1 s.2)
def bS1 (Vs : List (Int × Thing)) : GS := Vs.foldl stV ([],[])
def bS (Vs : List (Int × Thing)) (Es : List ((Int × Int) × Thing)) : GS := Es.foldl stE (bS1 Vs)
def bErr (Vs : List (Int × Thing)) (Es : List ((Int × Int) × Thing)) : Int := if fe erV stV Vs ([],[]) = 0 then fe erE stE Es (bS1 Vs) else fe erV stV Vs ([],[])
def BuildPost (Vs : List (Int × Thing)) (Es : List ((Int × Int) × Thing)) (w : World) (e : Ending) (w' : World) : Prop :=
 (bErr Vs Es = 0 ∧ ∃ g bv be,e = .returned (.tuple #[.pointer (some ⟨g,0,none⟩), .int .i64 0]) ∧ IsG w' g bv be (bS Vs Es).1 (bS Vs Es).2 ∧ Ext w w' ∧ w.heap.size ≤ g ∧ w.heap.size ≤ bv ∧ w.heap.size ≤ be) ∨
 (bErr Vs Es ≠ 0 ∧ e = .returned (.tuple #[.pointer none, .int .i64 (bErr Vs Es)]) ∧ Ext w w')
theorem bne0 {n : Int} (h : n ≠ 0) : (n != 0) = true := by simpa using h
set_option maxRecDepth 100000 in
set_option maxHeartbeats 4000000 in
theorem build_any (A B : Option Addr) (Vs : List (Int × Thing)) (Es : List ((Int × Int) × Thing)) (cV cE : Nat) (w : World) (hV : SlAt encV 3 w A Vs) (hE : SlAt encE 4 w B Es) (oV : ∀ d ∈ Vs,okV d) (oE : ∀ d ∈ Es,okEd d) (hl : Vs.length ≤ 9223372036854775807) (hle : Es.length ≤ 9223372036854775807) :
  Calls Tryz.prog 108 #[.slice A Vs.length cV, .slice B Es.length cE] w (BuildPost Vs Es w) := by
 have hV' := hide hV
 have hE' := hide hE
 have oV' := hide oV
 have oE' := hide oE
 clear hV hE oV oE
 go_enter Tryz.func108,Tryz.ntmps108
 go_wp2_with fail
 refine (new_rel _).mono ?_
 rintro e w1 ⟨g,bv,be,rfl,hg10,hx10,n1,n2,n3⟩
 have hg1 := hide hg10
 have hx1 := hide hx10
 have hn1 := hide (And.intro n1 (And.intro n2 n3))
 clear hg10 hx10 n1 n2 n3
 go_wp2_with fail
 go_loopw [16] (fun i wr => ∃ k : Nat,k ≤ Vs.length ∧ i = .int .i64 k ∧ fe erV stV (Vs.take k) ([],[]) = 0 ∧ IsG wr g bv be ((Vs.take k).foldl stV ([],[])).1 ((Vs.take k).foldl stV ([],[])).2 ∧ Ext w wr) (fun i _ => Vs.length - (intOf i).toNat)
 case atStart => exact ⟨0,Nat.zero_le _,rfl,rfl,unhide hg1,unhide hx1⟩
 case round =>
  obtain ⟨k,hk,rfl,hf,hg,hx⟩ := hrel
  have hf' := hide hf
  have hg' := hide hg
  have hx' := hide hx
  clear hf hg hx hg1 hx1
  by_cases hlt : k < Vs.length
  ·obtain ⟨b,off,rfl,c0,c1,c2⟩ := atV ((unhide hV').ext (unhide hx')) hlt
   have hd := unhide oV' Vs[k] (List.getElem_mem hlt)
   have hst := hide (fold_step (st := stV) (s := (([],[]) : GS)) hlt)
   have hfs := hide (fun h => fe_step (er := erV) (st := stV) (s := (([],[]) : GS)) hlt (unhide hf') h)
   have hfe := hide (fun h => fe_stop (er := erV) (st := stV) (s := (([],[]) : GS)) hlt (unhide hf') h)
   generalize hS : (Vs.take k).foldl stV ([],[]) = S at *
   clear hS
   obtain ⟨V,E⟩ := S
   generalize hy : Vs[k] = y at c0 c1 c2 hd hst hfs hfe
   obtain ⟨u,lab,wt⟩ := y
   have hok := hide hd.1
   clear hd hy
   simp only at c0 c1 c2
   by_cases h0 : wrongR 0 u 0 wt V E = 0
   ·have h0' := hide h0
    clear h0
    go_wp2_with fail
    refine (apply_any g bv be V E 0 u 0 lab wt _ ((unhide hg').ext (ext_self1 _ _)) (unhide hok) (by unfold i64ok; omega)).mono ?_
    rw [unhide h0']
    rintro e wa ⟨rfl,hga,hka⟩
    have hxa := hide (((unhide hx').trans (ext_self1 _ _)).of_new hka (by have := unhide hn1; simp; omega))
    have hga' := hide hga
    clear hga hka c0 c1 c2
    go_wp2_with fail
    go_roundw
    case rel => exact ⟨k + 1,by omega,by go_num,unhide hfs (unhide h0'),by rw [unhide hst]; exact unhide hga',unhide hxa⟩
    case measure => simp [intOf]; omega
   ·have hbe : bErr Vs Es = wrongR 0 u 0 wt V E := by
     have h1 := unhide hfe h0
     unfold bErr
     rw [h1]
     exact if_neg h0
    have hbe' := hide hbe
    have h0' := hide h0
    have hb := bne0 h0
    clear hbe h0
    generalize hno : wrongR 0 u 0 wt V E = no at hb
    have hno' := hide hno
    clear hno
    go_wp2_with fail
    refine (apply_any g bv be V E 0 u 0 lab wt _ ((unhide hg').ext (ext_self1 _ _)) (unhide hok) (by unfold i64ok; omega)).mono ?_
    rw [unhide hno']
    rintro e wa ⟨rfl,hga,hka⟩
    have hxa := hide (((unhide hx').trans (ext_self1 _ _)).of_new hka (by have := unhide hn1; simp; omega))
    clear hga hka c0 c1 c2
    go_wp2_with fail
    go_ret2
    exact .inr ⟨by rw [unhide hbe']; exact unhide h0',by rw [unhide hbe',unhide hno']; rfl,unhide hxa⟩
  ·have hkV : k = Vs.length := by omega
   subst hkV
   rw [List.take_length] at hf' hg'
   have hF := hide (unhide hf')
   have hG := hide (unhide hg')
   have hX := hide (unhide hx')
   rename World => wV
   clear hf' hg' hx'
   go_wp2_with fail
   go_loopw [35] (fun i wr => ∃ k : Nat,k ≤ Es.length ∧ i = .int .i64 k ∧ fe erE stE (Es.take k) (bS1 Vs) = 0 ∧ IsG wr g bv be ((Es.take k).foldl stE (bS1 Vs)).1 ((Es.take k).foldl stE (bS1 Vs)).2 ∧ Ext w wr) (fun i _ => Es.length - (intOf i).toNat)
   case atStart => exact ⟨0,Nat.zero_le _,rfl,rfl,unhide hG,unhide hX⟩
   case round =>
    obtain ⟨k,hk,rfl,hf,hg,hx⟩ := hrel
    have hf' := hide hf
    have hg' := hide hg
    have hx' := hide hx
    clear hf hg hx hG hX
    by_cases hlt : k < Es.length
    ·obtain ⟨b,off,rfl,c0,c1,c2,c3⟩ := atE ((unhide hE').ext (unhide hx')) hlt
     have hd := unhide oE' Es[k] (List.getElem_mem hlt)
     have hst := hide (fold_step (st := stE) (s := bS1 Vs) hlt)
     have hfs := hide (fun h => fe_step (er := erE) (st := stE) (s := bS1 Vs) hlt (unhide hf') h)
     have hfe := hide (fun h => fe_stop (er := erE) (st := stE) (s := bS1 Vs) hlt (unhide hf') h)
     generalize hS : (Es.take k).foldl stE (bS1 Vs) = S at *
     clear hS
     obtain ⟨V,E⟩ := S
     generalize hy : Es[k] = y at c0 c1 c2 c3 hd hst hfs hfe
     obtain ⟨⟨u,v⟩,⟨lab,wt⟩⟩ := y
     have hok := hide hd.1
     have hok2 := hide hd.2.1
     clear hd hy
     simp only at c0 c1 c2 c3
     by_cases h0 : wrongR 2 u v wt V E = 0
     ·have h0' := hide h0
      clear h0
      go_wp2_with fail
      refine (apply_any g bv be V E 2 u v lab wt _ ((unhide hg').ext (ext_self1 _ _)) (unhide hok) (unhide hok2)).mono ?_
      rw [unhide h0']
      rintro e wa ⟨rfl,hga,hka⟩
      have hxa := hide (((unhide hx').trans (ext_self1 _ _)).of_new hka (by have := unhide hn1; simp; omega))
      have hga' := hide hga
      clear hga hka c0 c1 c2 c3
      go_wp2_with fail
      go_roundw
      case rel => exact ⟨k + 1,by omega,by go_num,unhide hfs (unhide h0'),by rw [unhide hst]; exact unhide hga',unhide hxa⟩
      case measure => simp [intOf]; omega
     ·have hbe : bErr Vs Es = wrongR 2 u v wt V E := by
       have h1 := unhide hfe h0
       unfold bErr
       rw [if_pos (unhide hF),h1]
       rfl
      have hbe' := hide hbe
      have h0' := hide h0
      have hb := bne0 h0
      clear hbe h0
      generalize hno : wrongR 2 u v wt V E = no at hb
      have hno' := hide hno
      clear hno
      go_wp2_with fail
      refine (apply_any g bv be V E 2 u v lab wt _ ((unhide hg').ext (ext_self1 _ _)) (unhide hok) (unhide hok2)).mono ?_
      rw [unhide hno']
      rintro e wa ⟨rfl,hga,hka⟩
      have hxa := hide (((unhide hx').trans (ext_self1 _ _)).of_new hka (by have := unhide hn1; simp; omega))
      clear hga hka c0 c1 c2 c3
      go_wp2_with fail
      go_ret2
      exact .inr ⟨by rw [unhide hbe']; exact unhide h0',by rw [unhide hbe',unhide hno']; rfl,unhide hxa⟩
    ·have hkE : k = Es.length := by omega
     subst hkE
     rw [List.take_length] at hf' hg'
     go_wp2_with fail
     go_ret2
     obtain ⟨n1,n2,n3⟩ := unhide hn1
     exact .inl ⟨by unfold bErr; rw [if_pos (unhide hF),unhide hf'],g,bv,be,rfl,unhide hg',unhide hx',n1,n2,n3⟩
end Go.Proofs.YtoacpebmhbkmbaaGreatDoor
