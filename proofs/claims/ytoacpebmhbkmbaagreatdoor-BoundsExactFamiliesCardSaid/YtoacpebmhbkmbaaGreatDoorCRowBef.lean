/- Every input makes the law BoundsExactFamilies answer true, and each argument reads behind the call as it read before: the given card, tied to the program's text. No condition. -/
import Derived.Test.YtoacpebmhbkmbaaGreatDoorC2
import Derived.Test.YtoacpebmhbkmbaaGreatDoorC31
import Derived.Test.YtoacpebmhbkmbaaGreatDoorC27
import Derived.Test.YtoacpebmhbkmbaaGreatDoorC45
import Derived.Test.YtoacpebmhbkmbaaGreatDoorC43
import Derived.Test.YtoacpebmhbkmbaaGreatDoorC44
import Derived.Test.YtoacpebmhbkmbaaGreatDoorC20
import Derived.Test.YtoacpebmhbkmbaaGreatDoorC8
import Derived.Test.YtoacpebmhbkmbaaGreatDoorC46
import Derived.Test.YtoacpebmhbkmbaaGreatDoorCards
import Derived.Test.YtoacpebmhbkmbaaGreatDoorTie
import Derived.WalkKit
import Derived.ProofKit
import Derived.OpenShut
import Derived.ShutString
import Derived.ChangeOld
import Derived.Below
import Derived.SevenTiedAt
import Derived.Test.YtoacpebmhbkmbaaGreatDoorC47
namespace Go.Proofs.YtoacpebmhbkmbaaGreatDoor
section
variable {key : (Int → Int → Bool) → List Int → Int → Nat}
def feB (near : Int → Int → Bool) (l : List Int) : Int → Int → Bool := l.foldl eliB near
theorem ordD_get : ∀ (n : Nat) (near : Int → Int → Bool) (L : List Int),L.length ≤ n → ∀ (k : Nat) (d : Nat),(ordD key n near L)[k]? = some d → ∃ x M,(ordS key n near L)[k]? = some x ∧ M.Perm ((ordS key n near L).drop k) ∧ d = degP (feB near ((ordS key n near L).take k)) M x
 | 0,_,L,hl,k,d,hd => by
  unfold ordD at hd
  simp at hd
 | _ + 1,_,[],_,k,d,hd => by
  unfold ordD at hd
  simp at hd
 | n + 1,near,a :: l,hl,k,d,hd => by
  have hp := ordS_perm (key := key) (n + 1) near (a :: l) hl
  unfold ordS at hp ⊢
  unfold ordD at hd
  simp only at hd hp ⊢
  have hx := leastP_mem (key near (a :: l)) (L := a :: l) (by simp)
  generalize leastP (key near (a :: l)) (a :: l) = x at hx hp hd ⊢
  cases k with
  | zero =>
   simp only [List.getElem?_cons_zero,Option.some.injEq] at hd
   exact ⟨x,a :: l,by simp,by simpa using hp.symm,by simp [feB,hd]⟩
  | succ k =>
   simp only [List.getElem?_cons_succ] at hd
   obtain ⟨y,M,h1,h2,h3⟩ := ordD_get n (eliB near x) ((a :: l).erase x) (by rw [List.length_erase_of_mem hx]; simp at hl ⊢; omega) k d hd
   exact ⟨y,M,by simpa using h1,by simpa using h2,by simpa [feB] using h3⟩
theorem ordD_len : ∀ (n : Nat) (near : Int → Int → Bool) (L : List Int),(ordD key n near L).length = (ordS key n near L).length
 | 0,_,_ => rfl
 | _ + 1,_,[] => rfl
 | n + 1,near,a :: l => by
  unfold ordS ordD
  simp only [List.length_cons]
  rw [ordD_len n]
end
end Go.Proofs.YtoacpebmhbkmbaaGreatDoor
namespace Go.Proofs.YtoacpebmhbkmbaaGreatDoor
open Go Go.RowKit
section
variable {V : List (Int × Thing)} {E : List ((Int × Int) × Thing)} {L : List Int}
theorem feB_adj {near : Int → Int → Bool} (hn : L.Nodup) (hE : ∀ u ∈ L, ∀ v ∈ L,(near u v = true ↔ Adj0 E u v)) : ∀ (k : Nat),k ≤ L.length → ∀ u v,u ∈ L.drop k → v ∈ L.drop k → (feB near (L.take k) u v = true ↔ Adj E L k u v)
 | 0,_,u,v,hu,hv => by
  show near u v = true ↔ Adj0 E u v
  exact hE u (by simpa using hu) v (by simpa using hv)
 | k + 1,hk,u,v,hu,hv => by
  have hk' : k < L.length := hk
  have hu2 := (mem_drop_iff hn hk').1 hu
  have hv2 := (mem_drop_iff hn hk').1 hv
  have hc : L[k] ∈ L.drop k := by rw [drop_get hk']; exact List.mem_cons_self
  have h1 : feB near (L.take (k + 1)) = eliB (feB near (L.take k)) L[k] := by
   unfold feB
   rw [List.take_succ_eq_append_getElem hk',List.foldl_append]
   rfl
  rw [h1,eliB_iff,feB_adj hn hE k (by omega) u v hu2.1 hv2.1,feB_adj hn hE k (by omega) L[k] u hc hu2.1,feB_adj hn hE k (by omega) L[k] v hc hv2.1]
  have h2 : L[k]?.getD 0 = L[k] := by simp [hk']
  constructor
  ·rintro (h | ⟨h3,h4,h5⟩)
   ·exact .inl h
   ·exact .inr ⟨h3,hu,hv,by rw [h2]; exact h4,by rw [h2]; exact h5⟩
  ·rintro (h | ⟨h3,_,_,h4,h5⟩)
   ·exact .inl h
   ·exact .inr ⟨h3,by rw [h2] at h4; exact h4,by rw [h2] at h5; exact h5⟩
theorem cnt_ord {key : (Int → Int → Bool) → List Int → Int → Nat} {near : Int → Int → Bool} {n : Nat} {M : List Int} (hi : GInv V E) (hm : M.length ≤ n) (ho : Ord V (ordS key n near M)) (hE : ∀ u ∈ M, ∀ v ∈ M,(near u v = true ↔ Adj0 E u v)) {k : Nat} (hk : k < (ordS key n near M).length) : cntF (sAt E (ordS key n near M) k) 1024 ∈ ordD key n near M := by
 have hp := ordS_perm (key := key) n near M hm
 have hd : k < (ordD key n near M).length := by rw [ordD_len]; exact hk
 obtain ⟨x,P,h1,h2,h3⟩ := ordD_get n near M hm k _ (List.getElem?_eq_getElem hd)
 have h4 : (ordD key n near M)[k] ∈ ordD key n near M := List.getElem_mem hd
 refine (show cntF (sAt E (ordS key n near M) k) 1024 = (ordD key n near M)[k] from ?_) ▸ h4
 have hn := ho.nodup
 have hE' : ∀ u ∈ ordS key n near M, ∀ v ∈ ordS key n near M,(near u v = true ↔ Adj0 E u v) := fun u hu v hv => hE u (hp.mem_iff.1 hu) v (hp.mem_iff.1 hv)
 rw [h3]
 generalize ordS key n near M = L at *
 have hx : L[k] = x := by
  rw [List.getElem?_eq_getElem hk] at h1
  exact Option.some.inj h1
 subst hx
 have hc : L[k] ∈ L.drop k := by rw [drop_get hk]; exact List.mem_cons_self
 have hnd := (List.drop_sublist k L).nodup hn
 unfold degP
 rw [cnt_toK3]
 have hmem : ∀ u,u ∈ toL (sAt E L k) ↔ u ∈ P.filter (feB near (L.take k) L[k]) := fun u => by
  rw [mem_sAt hi ho hk,List.mem_filter,h2.mem_iff,mem_drop_iff hn hk]
  constructor
  ·rintro ⟨⟨h5,_⟩,h6⟩
   exact ⟨h5,(feB_adj hn hE' k (by omega) _ _ hc h5).2 h6⟩
  ·rintro ⟨h5,h6⟩
   have h7 := (feB_adj hn hE' k (by omega) _ _ hc h5).1 h6
   exact ⟨⟨h5,(Adj.ne hi h7).symm⟩,h7⟩
 refine Nat.le_antisymm (len_sub _ _ (toL_nodup _) fun u hu => (hmem u).1 hu) (len_sub _ _ ((h2.nodup_iff.2 hnd).filter _) fun u hu => (hmem u).2 hu)
end
end Go.Proofs.YtoacpebmhbkmbaaGreatDoor
namespace Go.Proofs.YtoacpebmhbkmbaaGreatDoor
def dsc : Nat → List Int
 | 0 => []
 | m + 1 => (m : Int) :: dsc m
theorem mem_dsc : ∀ {m : Nat} {x : Int},x ∈ dsc m ↔ 0 ≤ x ∧ x < m
 | 0,x => by simp [dsc]; try omega
 | m + 1,x => by
  unfold dsc
  rw [List.mem_cons,mem_dsc]
  omega
theorem dsc_nodup : ∀ m : Nat,(dsc m).Nodup
 | 0 => .nil
 | m + 1 => by
  unfold dsc
  refine List.nodup_cons.2 ⟨fun h => ?_,dsc_nodup m⟩
  have := (mem_dsc.1 h).2
  omega
theorem dsc_wd {A : Int → Int → Prop} {w : Nat} (hs : ∀ u v,A u v → A v u) : ∀ m : Nat,(∀ x : Int,0 ≤ x → x < m → (∀ u v,0 ≤ u → u < x → 0 ≤ v → v < x → u ≠ v → A x u → A x v → A u v) ∧ ∀ l : List Int,l.Nodup → (∀ u ∈ l,0 ≤ u ∧ u < x ∧ A x u) → l.length ≤ w) → Wd A (dsc m) w
 | 0,_ => by
  intro pre v post he
  have := congrArg List.length he
  simp [dsc] at this
 | m + 1,h => by
  unfold dsc
  obtain ⟨h1,h2⟩ := h (m : Int) (by omega) (by omega)
  refine (dsc_wd hs m fun x hx0 hx => h x hx0 (by omega)).cons (dsc_nodup m) hs (fun u hu v hv hne hxu hxv => ?_) fun l hl hu => ?_
  ·exact h1 u v (mem_dsc.1 hu).1 (mem_dsc.1 hu).2 (mem_dsc.1 hv).1 (mem_dsc.1 hv).2 hne hxu hxv
  ·exact h2 l hl fun u hul => ⟨(mem_dsc.1 (hu u hul).1).1,(mem_dsc.1 (hu u hul).1).2,(hu u hul).2⟩
theorem one_len : ∀ (l : List Int) (a : Int),l.Nodup → (∀ u ∈ l,u = a) → l.length ≤ 1
 | [],_,_,_ => by simp
 | [_],_,_,_ => by simp
 | x :: y :: r,a,hn,h => by
  have h1 := h x (by simp)
  have h2 := h y (by simp)
  exact absurd (by rw [h1,h2]; simp) (List.nodup_cons.1 hn).1
theorem forest_wd {A : Int → Int → Prop} (hs : ∀ u v,A u v → A v u) (m : Nat) (up : Int → Int) (h : ∀ x u : Int,0 ≤ x → x < m → 0 ≤ u → u < x → A x u → u = up x) : Wd A (dsc m) 1 := by
 refine dsc_wd hs m fun x hx0 hx => ⟨fun u v hu0 hu hv0 hv hne hxu hxv => ?_,fun l hl hu => ?_⟩
 ·exact absurd ((h x u hx0 hx hu0 hu hxu).trans (h x v hx0 hx hv0 hv hxv).symm) hne
 ·exact one_len l (up x) hl fun u hul => h x u hx0 hx (hu u hul).1 (hu u hul).2.1 (hu u hul).2.2
section
variable {near : Int → Int → Bool}
end
end Go.Proofs.YtoacpebmhbkmbaaGreatDoor
namespace Go.Proofs.YtoacpebmhbkmbaaGreatDoor
open Go Go.RowKit Go.Shelf
def al2 (i : Nat) (k : Nat) : Ed := (2,(i : Int),(k : Int),0,0)
def al1 (i : Nat) : List Ed := rg1 i :: (List.range i).map (al2 i)
def alG (n : Nat) : GS := ((List.range n).flatMap al1).foldl stD ([],[])
set_option maxRecDepth 100000 in
theorem al_lb3 : lbS (nr0 (alG 3).2) (toL (vS (alG 3).1)) = 2 := by kernel_rfl
set_option maxRecDepth 100000 in
theorem al_ub3 : (ubS (alG 3).2 (nr0 (alG 3).2) (toL (vS (alG 3).1))).1 = 2 := by kernel_rfl
set_option maxRecDepth 100000 in
theorem al_lb4 : lbS (nr0 (alG 4).2) (toL (vS (alG 4).1)) = 3 := by kernel_rfl
set_option maxRecDepth 100000 in
theorem al_ub4 : (ubS (alG 4).2 (nr0 (alG 4).2) (toL (vS (alG 4).1))).1 = 3 := by kernel_rfl
set_option maxRecDepth 100000 in
theorem al_lb5 : lbS (nr0 (alG 5).2) (toL (vS (alG 5).1)) = 4 := by kernel_rfl
set_option maxRecDepth 100000 in
theorem al_ub5 : (ubS (alG 5).2 (nr0 (alG 5).2) (toL (vS (alG 5).1))).1 = 4 := by kernel_rfl
set_option maxRecDepth 100000 in
theorem al_lb6 : lbS (nr0 (alG 6).2) (toL (vS (alG 6).1)) = 5 := by kernel_rfl
set_option maxRecDepth 100000 in
theorem al_ub6 : (ubS (alG 6).2 (nr0 (alG 6).2) (toL (vS (alG 6).1))).1 = 5 := by kernel_rfl
set_option maxRecDepth 100000 in
theorem al_lb7 : lbS (nr0 (alG 7).2) (toL (vS (alG 7).1)) = 6 := by kernel_rfl
set_option maxRecDepth 100000 in
theorem al_ub7 : (ubS (alG 7).2 (nr0 (alG 7).2) (toL (vS (alG 7).1))).1 = 6 := by kernel_rfl
set_option maxRecDepth 100000 in
theorem al_lb8 : lbS (nr0 (alG 8).2) (toL (vS (alG 8).1)) = 7 := by kernel_rfl
set_option maxRecDepth 100000 in
theorem al_ub8 : (ubS (alG 8).2 (nr0 (alG 8).2) (toL (vS (alG 8).1))).1 = 7 := by kernel_rfl
set_option maxRecDepth 100000 in
theorem al_lb9 : lbS (nr0 (alG 9).2) (toL (vS (alG 9).1)) = 8 := by kernel_rfl
set_option maxRecDepth 100000 in
theorem al_ub9 : (ubS (alG 9).2 (nr0 (alG 9).2) (toL (vS (alG 9).1))).1 = 8 := by kernel_rfl
set_option maxRecDepth 100000 in
theorem al_lb10 : lbS (nr0 (alG 10).2) (toL (vS (alG 10).1)) = 9 := by kernel_rfl
set_option maxRecDepth 100000 in
theorem al_ub10 : (ubS (alG 10).2 (nr0 (alG 10).2) (toL (vS (alG 10).1))).1 = 9 := by kernel_rfl
set_option maxRecDepth 100000 in
theorem al_lb11 : lbS (nr0 (alG 11).2) (toL (vS (alG 11).1)) = 10 := by kernel_rfl
set_option maxRecDepth 100000 in
theorem al_ub11 : (ubS (alG 11).2 (nr0 (alG 11).2) (toL (vS (alG 11).1))).1 = 10 := by kernel_rfl
set_option maxRecDepth 100000 in
theorem al_lb12 : lbS (nr0 (alG 12).2) (toL (vS (alG 12).1)) = 11 := by kernel_rfl
set_option maxRecDepth 100000 in
theorem al_ub12 : (ubS (alG 12).2 (nr0 (alG 12).2) (toL (vS (alG 12).1))).1 = 11 := by kernel_rfl
theorem al_lb {n : Nat} (h1 : 3 ≤ n) (h2 : n ≤ 12) : lbS (nr0 (alG n).2) (toL (vS (alG n).1)) = (n : Int) - 1 := by
 obtain rfl | rfl | rfl | rfl | rfl | rfl | rfl | rfl | rfl | rfl : n = 3 ∨ n = 4 ∨ n = 5 ∨ n = 6 ∨ n = 7 ∨ n = 8 ∨ n = 9 ∨ n = 10 ∨ n = 11 ∨ n = 12 := by omega
 ·exact al_lb3
 ·exact al_lb4
 ·exact al_lb5
 ·exact al_lb6
 ·exact al_lb7
 ·exact al_lb8
 ·exact al_lb9
 ·exact al_lb10
 ·exact al_lb11
 ·exact al_lb12
theorem al_ub {n : Nat} (h1 : 3 ≤ n) (h2 : n ≤ 12) : (ubS (alG n).2 (nr0 (alG n).2) (toL (vS (alG n).1))).1 = (n : Int) - 1 := by
 obtain rfl | rfl | rfl | rfl | rfl | rfl | rfl | rfl | rfl | rfl : n = 3 ∨ n = 4 ∨ n = 5 ∨ n = 6 ∨ n = 7 ∨ n = 8 ∨ n = 9 ∨ n = 10 ∨ n = 11 ∨ n = 12 := by omega
 ·exact al_ub3
 ·exact al_ub4
 ·exact al_ub5
 ·exact al_ub6
 ·exact al_ub7
 ·exact al_ub8
 ·exact al_ub9
 ·exact al_ub10
 ·exact al_ub11
 ·exact al_ub12
set_option maxRecDepth 100000 in
theorem rg_lb3 : lbS (nr0 (ringG 3).2) (toL (vS (ringG 3).1)) = 2 := by kernel_rfl
set_option maxRecDepth 100000 in
theorem rg_ub3 : (ubS (ringG 3).2 (nr0 (ringG 3).2) (toL (vS (ringG 3).1))).1 = 2 := by kernel_rfl
set_option maxRecDepth 100000 in
theorem rg_lb4 : lbS (nr0 (ringG 4).2) (toL (vS (ringG 4).1)) = 2 := by kernel_rfl
set_option maxRecDepth 100000 in
theorem rg_ub4 : (ubS (ringG 4).2 (nr0 (ringG 4).2) (toL (vS (ringG 4).1))).1 = 2 := by kernel_rfl
set_option maxRecDepth 100000 in
theorem rg_lb5 : lbS (nr0 (ringG 5).2) (toL (vS (ringG 5).1)) = 2 := by kernel_rfl
set_option maxRecDepth 100000 in
theorem rg_ub5 : (ubS (ringG 5).2 (nr0 (ringG 5).2) (toL (vS (ringG 5).1))).1 = 2 := by kernel_rfl
set_option maxRecDepth 100000 in
theorem rg_lb6 : lbS (nr0 (ringG 6).2) (toL (vS (ringG 6).1)) = 2 := by kernel_rfl
set_option maxRecDepth 100000 in
theorem rg_ub6 : (ubS (ringG 6).2 (nr0 (ringG 6).2) (toL (vS (ringG 6).1))).1 = 2 := by kernel_rfl
set_option maxRecDepth 100000 in
theorem rg_lb7 : lbS (nr0 (ringG 7).2) (toL (vS (ringG 7).1)) = 2 := by kernel_rfl
set_option maxRecDepth 100000 in
theorem rg_ub7 : (ubS (ringG 7).2 (nr0 (ringG 7).2) (toL (vS (ringG 7).1))).1 = 2 := by kernel_rfl
set_option maxRecDepth 100000 in
theorem rg_lb8 : lbS (nr0 (ringG 8).2) (toL (vS (ringG 8).1)) = 2 := by kernel_rfl
set_option maxRecDepth 100000 in
theorem rg_ub8 : (ubS (ringG 8).2 (nr0 (ringG 8).2) (toL (vS (ringG 8).1))).1 = 2 := by kernel_rfl
set_option maxRecDepth 100000 in
theorem rg_lb9 : lbS (nr0 (ringG 9).2) (toL (vS (ringG 9).1)) = 2 := by kernel_rfl
set_option maxRecDepth 100000 in
theorem rg_ub9 : (ubS (ringG 9).2 (nr0 (ringG 9).2) (toL (vS (ringG 9).1))).1 = 2 := by kernel_rfl
set_option maxRecDepth 100000 in
theorem rg_lb10 : lbS (nr0 (ringG 10).2) (toL (vS (ringG 10).1)) = 2 := by kernel_rfl
set_option maxRecDepth 100000 in
theorem rg_ub10 : (ubS (ringG 10).2 (nr0 (ringG 10).2) (toL (vS (ringG 10).1))).1 = 2 := by kernel_rfl
set_option maxRecDepth 100000 in
theorem rg_lb11 : lbS (nr0 (ringG 11).2) (toL (vS (ringG 11).1)) = 2 := by kernel_rfl
set_option maxRecDepth 100000 in
theorem rg_ub11 : (ubS (ringG 11).2 (nr0 (ringG 11).2) (toL (vS (ringG 11).1))).1 = 2 := by kernel_rfl
set_option maxRecDepth 100000 in
theorem rg_lb12 : lbS (nr0 (ringG 12).2) (toL (vS (ringG 12).1)) = 2 := by kernel_rfl
set_option maxRecDepth 100000 in
theorem rg_ub12 : (ubS (ringG 12).2 (nr0 (ringG 12).2) (toL (vS (ringG 12).1))).1 = 2 := by kernel_rfl
theorem rg_lb {n : Nat} (h1 : 3 ≤ n) (h2 : n ≤ 12) : lbS (nr0 (ringG n).2) (toL (vS (ringG n).1)) = 2 := by
 obtain rfl | rfl | rfl | rfl | rfl | rfl | rfl | rfl | rfl | rfl : n = 3 ∨ n = 4 ∨ n = 5 ∨ n = 6 ∨ n = 7 ∨ n = 8 ∨ n = 9 ∨ n = 10 ∨ n = 11 ∨ n = 12 := by omega
 ·exact rg_lb3
 ·exact rg_lb4
 ·exact rg_lb5
 ·exact rg_lb6
 ·exact rg_lb7
 ·exact rg_lb8
 ·exact rg_lb9
 ·exact rg_lb10
 ·exact rg_lb11
 ·exact rg_lb12
theorem rg_ub {n : Nat} (h1 : 3 ≤ n) (h2 : n ≤ 12) : (ubS (ringG n).2 (nr0 (ringG n).2) (toL (vS (ringG n).1))).1 = 2 := by
 obtain rfl | rfl | rfl | rfl | rfl | rfl | rfl | rfl | rfl | rfl : n = 3 ∨ n = 4 ∨ n = 5 ∨ n = 6 ∨ n = 7 ∨ n = 8 ∨ n = 9 ∨ n = 10 ∨ n = 11 ∨ n = 12 := by omega
 ·exact rg_ub3
 ·exact rg_ub4
 ·exact rg_ub5
 ·exact rg_ub6
 ·exact rg_ub7
 ·exact rg_ub8
 ·exact rg_ub9
 ·exact rg_ub10
 ·exact rg_ub11
 ·exact rg_ub12
end Go.Proofs.YtoacpebmhbkmbaaGreatDoor
namespace Go.Proofs.YtoacpebmhbkmbaaGreatDoor
open Go Go.RowKit
def tr2 (TS : List Int) (i : Nat) : Ed := (2,(i : Int),(TS.getD i 0) % (i : Int),0,0)
def trQ (TS : List Int) (i : Nat) : Bool := decide (0 < i) && decide (30 < TS.getD i 0)
def trS (TS : List Int) : Nat → GS
 | 0 => ([],[])
 | i + 1 => if trQ TS i = true then stD (stD (trS TS i) (rg1 i)) (tr2 TS i) else stD (trS TS i) (rg1 i)
def trN (TS : List Int) : Nat → Nat
 | 0 => 0
 | i + 1 => if trQ TS i = true then trN TS i + 1 else trN TS i
structure TrI (TS : List Int) (i : Nat) (V : List (Int × Thing)) (E : List ((Int × Int) × Thing)) : Prop where
 inv : GInv V E
 mem : ∀ x : Int,x ∈ V.map (·.1) ↔ 0 ≤ x ∧ x < (i : Int)
 edg : ∀ e ∈ E,e.1.1 = TS.getD e.1.2.toNat 0 % e.1.2 ∧ 0 ≤ e.1.1 ∧ e.1.1 < e.1.2 ∧ e.1.2 < (i : Int)
theorem st_rg1 (V : List (Int × Thing)) (E : List ((Int × Int) × Thing)) (i : Nat) : stD (V,E) (rg1 i) = (nxV 0 (i : Int) 0 0 0 V E,nxE 0 (i : Int) 0 0 0 V E) := by simp only [stD,rg1]
theorem st_tr2 (TS : List Int) (V : List (Int × Thing)) (E : List ((Int × Int) × Thing)) (i : Nat) : stD (V,E) (tr2 TS i) = (nxV 2 (i : Int) ((TS.getD i 0) % (i : Int)) 0 0 V E,nxE 2 (i : Int) ((TS.getD i 0) % (i : Int)) 0 0 V E) := by simp only [stD,tr2]
theorem trI_nil (TS : List Int) : TrI TS 0 [] [] := ⟨GInv.nil,fun x => ⟨fun h => by simp at h,fun h => by omega⟩,fun e he => by cases he⟩
theorem trI_vert {TS : List Int} {i : Nat} {V : List (Int × Thing)} {E : List ((Int × Int) × Thing)} (h : TrI TS i V E) (hi : i < 1024) : TrI TS (i + 1) (nxV 0 (i : Int) 0 0 0 V E) (nxE 0 (i : Int) 0 0 0 V E) ∧ (nxE 0 (i : Int) 0 0 0 V E) = E := by
 have hno : hasV (i : Int) V = false := hasV_false fun p hp e => by
  have := (h.mem p.1).1 (List.mem_map.2 ⟨p,hp,rfl⟩)
  omega
 have he : wrongR 0 (i : Int) 0 0 V E = 0 := by
  unfold wrongR
  rw [if_neg (by simp [w1B]),if_neg (by simp [w2B,idB,heavyB,pairsB]; omega),if_neg (by simp [w3B,pairsB]),if_pos rfl,hno]
  rfl
 have hV : (nxV 0 (i : Int) 0 0 0 V E) = insF (gtV ((i : Int),(0,0))) ((i : Int),(0,0)) V := by
  unfold nxV
  rw [if_pos he]
  simp only [refV,if_true]
 have hE : (nxE 0 (i : Int) 0 0 0 V E) = E := by
  unfold nxE
  rw [if_pos he]
  simp only [refE,if_true]
 refine ⟨⟨h.inv.next 0 (i : Int) 0 0 0,fun x => ?_,fun e hm => ?_⟩,hE⟩
 ·rw [hV,List.mem_map]
  constructor
  ·rintro ⟨p,hp,rfl⟩
   rcases mem_insF.1 hp with hp | rfl
   ·have := (h.mem p.1).1 (List.mem_map.2 ⟨p,hp,rfl⟩)
    omega
   ·simp only; omega
  ·intro hx
   by_cases hxi : x = (i : Int)
   ·exact ⟨_,mem_insF.2 (.inr rfl),hxi.symm⟩
   ·obtain ⟨p,hp,e⟩ := List.mem_map.1 ((h.mem x).2 (by omega))
    exact ⟨p,mem_insF.2 (.inl hp),e⟩
 ·rw [hE] at hm
  have := h.edg e hm
  exact ⟨this.1,this.2.1,this.2.2.1,by omega⟩
theorem trI_edge {TS : List Int} {i : Nat} {V : List (Int × Thing)} {E : List ((Int × Int) × Thing)} (h : TrI TS (i + 1) V E) (hl : E.length < 1024) (hold : ∀ e ∈ E,e.1.2 < (i : Int)) (hi0 : 0 < i) (hi : i < 1024) : TrI TS (i + 1) (nxV 2 (i : Int) ((TS.getD i 0) % (i : Int)) 0 0 V E) (nxE 2 (i : Int) ((TS.getD i 0) % (i : Int)) 0 0 V E) ∧ (nxE 2 (i : Int) ((TS.getD i 0) % (i : Int)) 0 0 V E).length = E.length + 1 ∧ ((((TS.getD i 0) % (i : Int),(i : Int)),(0,0)) : (Int × Int) × Thing) ∈ (nxE 2 (i : Int) ((TS.getD i 0) % (i : Int)) 0 0 V E) := by
 obtain ⟨v,hv⟩ : ∃ v,v = (TS.getD i 0) % (i : Int) := ⟨_,rfl⟩
 have hv0 : 0 ≤ v := by rw [hv]; exact Int.emod_nonneg _ (by omega)
 have hv1 : v < (i : Int) := by rw [hv]; exact Int.emod_lt_of_pos _ (by omega)
 have e1 : min (i : Int) v = v := by omega
 have e2 : max (i : Int) v = (i : Int) := by omega
 have hno : hasE (i : Int) v E = false := hasE_false h.inv.lo fun p hp e => by
  have := hold p hp
  rw [e,e2] at this
  omega
 have hin : ∀ x : Int,0 ≤ x → x < ((i + 1 : Nat) : Int) → hasV x V = true := fun x h0 h1 => by
  obtain ⟨p,hp,e⟩ := List.mem_map.1 ((h.mem x).2 ⟨h0,h1⟩)
  obtain ⟨x',t⟩ := p
  simp only at e
  subst e
  exact hasV_true hp
 have he : wrongR 2 (i : Int) v 0 V E = 0 := by
  unfold wrongR
  rw [if_neg (by simp [w1B]),if_neg (by simp [w2B,idB,heavyB,pairsB]; omega),if_neg (by simp [w3B,pairsB]; omega),if_neg (by decide),if_neg (by simp [hin (i : Int) (by omega) (by omega),hin v hv0 (by omega)]),if_pos rfl,hno,if_neg (by simp),if_neg (by omega)]
 have hV : (nxV 2 (i : Int) ((TS.getD i 0) % (i : Int)) 0 0 V E) = V := by
  unfold nxV
  rw [← hv,if_pos he]
  simp only [refV,Int.reduceEq,if_false,if_true]
 have hE : (nxE 2 (i : Int) ((TS.getD i 0) % (i : Int)) 0 0 V E) = insF (gtE ((v,(i : Int)),(0,0))) ((v,(i : Int)),(0,0)) E := by
  unfold nxE
  rw [← hv,if_pos he]
  simp only [refE,Int.reduceEq,if_false,if_true,e1,e2]
 refine ⟨⟨h.inv.next 2 (i : Int) _ 0 0,by rw [hV]; exact h.mem,fun e hm => ?_⟩, ?_, ?_⟩
 ·rw [hE] at hm
  rcases mem_insF.1 hm with hm | rfl
  ·exact h.edg e hm
  ·simp only [Int.toNat_natCast]
   refine ⟨hv,hv0,hv1,by omega⟩
 ·rw [hE,insF_eq,(insP_perm _ _ _).length_eq]
  simp
 ·rw [hE, ← hv]
  exact mem_insF.2 (.inr rfl)
theorem trS_ok (TS : List Int) : ∀ i : Nat,i ≤ 1000 → TrI TS i (trS TS i).1 (trS TS i).2 ∧ (trS TS i).2.length = trN TS i ∧ trN TS i ≤ i ∧ (∀ e ∈ (trS TS i).2,e.1.2 < (i : Int)) := by
 intro i
 induction i with
 | zero => exact fun _ => ⟨trI_nil TS,rfl,Nat.le_refl _,by simp [trS]⟩
 | succ i ih =>
  intro hi
  obtain ⟨h1,h2,h3,h4⟩ := ih (by omega)
  have e1 : trS TS (i + 1) = if trQ TS i = true then stD (stD (trS TS i) (rg1 i)) (tr2 TS i) else stD (trS TS i) (rg1 i) := by rw [trS]
  have e2 : trN TS (i + 1) = if trQ TS i = true then trN TS i + 1 else trN TS i := by rw [trN]
  rw [e1,e2]
  clear e1 e2
  generalize trS TS i = S at *
  generalize trN TS i = N at *
  obtain ⟨V,E⟩ := S
  dsimp only at h1 h2 h4
  obtain ⟨k1,k2⟩ := trI_vert h1 (by omega)
  rw [st_rg1]
  by_cases hq : trQ TS i = true
  ·have hq0 : 0 < i := by
    unfold trQ at hq
    rw [Bool.and_eq_true,decide_eq_true_eq] at hq
    exact hq.1
   obtain ⟨m1,m2,m3⟩ := trI_edge k1 (by rw [k2,h2]; omega) (by rw [k2]; exact h4) hq0 (by omega)
   rw [if_pos hq,if_pos hq,st_tr2]
   dsimp only
   refine ⟨m1, ?_,by omega,fun e' he' => (m1.edg e' he').2.2.2⟩
   rw [m2,k2,h2]
  ·rw [if_neg hq,if_neg hq]
   dsimp only
   exact ⟨k1,by rw [k2,h2],by omega,fun e' he' => (k1.edg e' he').2.2.2⟩
def trW (m n : Nat) : Int := if 0 < n then 1 else if 0 < m then 0 else -1
theorem ub_le {V : List (Int × Thing)} {E : List ((Int × Int) × Thing)} (hi : GInv V E) {w : Nat} (hw : w ≤ 2) {o : List Int} (ho : o.Nodup) (hm : ∀ x,x ∈ V.map (·.1) ↔ x ∈ o) (hwd : Wd (fun a b => nr0 E a b = true) o w) : (ubS E (nr0 E) (toL (vS V))).1 ≤ (w : Int) := by
 have hR := rep_of hi
 have hL : ∀ x,x ∈ toL (vS V) ↔ x ∈ o := fun x => by rw [mem_vS hi,hm]
 have hV0 := toL_vS hi
 have hpa := ordS_perm (key := degP) (toL (vS V)).length (nr0 E) (toL (vS V)) (Nat.le_refl _)
 have hord := perm_ord hV0 hpa
 have h1 : widK E (ordS degP (toL (vS V)).length (nr0 E) (toL (vS V))) (ordS degP (toL (vS V)).length (nr0 E) (toL (vS V))).length ≤ (w : Int) := by
  unfold widK
  rcases foldl_max_mem (fun i : Nat => (cntF (sAt E (ordS degP (toL (vS V)).length (nr0 E) (toL (vS V))) i) 1024 : Int)) (List.range (ordS degP (toL (vS V)).length (nr0 E) (toL (vS V))).length) (-1) with h | ⟨k,hk,h⟩
  ·rw [h]; omega
  ·rw [h]
   have hd := cnt_ord hi (key := degP) (near := nr0 E) (n := (toL (vS V)).length) (M := toL (vS V)) (Nat.le_refl _) hord (fun u _ v _ => nr0_adj hi u v) (List.mem_range.1 hk)
   have := ordD_low (toL (vS V)).length (nr0 E) (toL (vS V)) o w hw hR.irr (fun u v h => by rw [hR.symm]; exact h) hwd hR.nodup ho hL _ hd
   omega
 unfold ubS
 generalize widK E (ordS degP (toL (vS V)).length (nr0 E) (toL (vS V))) (ordS degP (toL (vS V)).length (nr0 E) (toL (vS V))).length = a at h1 ⊢
 generalize widK E (ordS filP (toL (vS V)).length (nr0 E) (toL (vS V))) (ordS filP (toL (vS V)).length (nr0 E) (toL (vS V))).length = b
 clear hR hL hV0 hpa hord
 split
 ·dsimp only; omega
 ·exact h1
theorem tr_exact (TS : List Int) {m : Nat} (hm : m ≤ 1000) : (ubS (trS TS m).2 (nr0 (trS TS m).2) (toL (vS (trS TS m).1))).1 = trW m (trN TS m) ∧ lbS (nr0 (trS TS m).2) (toL (vS (trS TS m).1)) = trW m (trN TS m) := by
 obtain ⟨h1,h2,h3,h4⟩ := trS_ok TS m hm
 obtain ⟨S,hS⟩ : ∃ S,S = trS TS m := ⟨_,rfl⟩
 rw [← hS] at h1 h2 h4 ⊢
 clear hS
 obtain ⟨V,E⟩ := S
 simp only at h1 h2 h4 ⊢
 have hi := h1.inv
 have hR := rep_of hi
 have hub := ub_spec hi
 have hlow := lb_sound hi hub.2
 rw [← hub.1] at hlow
 have hL : ∀ x,x ∈ toL (vS V) ↔ 0 ≤ x ∧ x < (m : Int) := fun x => by rw [mem_vS hi,h1.mem]
 have hd : ∀ x,x ∈ V.map (·.1) ↔ x ∈ dsc m := fun x => by rw [h1.mem,mem_dsc]
 have hsy : ∀ u v,nr0 E u v = true → nr0 E v u = true := fun u v h => by rw [hR.symm]; exact h
 have hlb : dgnP (nr0 E) (toL (vS V)).length (toL (vS V)) ≤ lbS (nr0 E) (toL (vS V)) := by unfold lbS; omega
 -- from above
 have hup : 0 < trN TS m → (ubS E (nr0 E) (toL (vS V))).1 ≤ 1 := fun _ =>
  ub_le hi (w := 1) (by omega) (dsc_nodup m) hd (forest_wd hsy m (fun x => TS.getD x.toNat 0 % x) fun x u hx0 hx hu0 hux hxu => by
   obtain ⟨e,he,e1⟩ := (nr0_adj hi x u).1 hxu
   have := h1.edg e he
   rw [e1] at this
   have a1 : min x u = u := by omega
   have a2 : max x u = x := by omega
   simp only [a1,a2] at this
   exact this.1)
 have hup0 : trN TS m = 0 → (ubS E (nr0 E) (toL (vS V))).1 ≤ 0 := fun h0 => by
  have hE : E = [] := List.eq_nil_of_length_eq_zero (by omega)
  have hno : ∀ u v,nr0 E u v = true → False := fun u v h => by
   obtain ⟨e,he,_⟩ := (nr0_adj hi u v).1 h
   rw [hE] at he
   cases he
  exact ub_le hi (w := 0) (by omega) (dsc_nodup m) hd (dsc_wd hsy m fun x _ _ => ⟨fun u v _ _ _ _ _ h _ => (hno _ _ h).elim,fun l _ hl => by
   cases l with
   | nil => simp
   | cons a l => exact (hno _ _ (hl a (by simp)).2.2).elim⟩)
 -- from below
 have hlo : 0 < trN TS m → 1 ≤ lbS (nr0 E) (toL (vS V)) := fun hn => by
  obtain ⟨e,he⟩ := List.exists_mem_of_length_pos (l := E) (by omega)
  have hed := h1.edg e he
  have hne : e.1.1 ≠ e.1.2 := by omega
  have hadj : nr0 E e.1.1 e.1.2 = true := (nr0_adj hi _ _).2 ⟨e,he,by
   have a1 : min e.1.1 e.1.2 = e.1.1 := by omega
   have a2 : max e.1.1 e.1.2 = e.1.2 := by omega
   rw [a1,a2]⟩
  obtain ⟨v,hv,hdv⟩ := dgn_up (near := nr0 E) (n := (toL (vS V)).length) (L := toL (vS V)) (S := [e.1.1,e.1.2]) (Nat.le_refl _) hR.nodup (by simp [hne]) (fun x hx => by
   simp only [List.mem_cons,List.not_mem_nil,or_false] at hx
   rw [hL]
   rcases hx with rfl | rfl <;> omega) (by simp)
  have h5 : 1 ≤ degP (nr0 E) [e.1.1,e.1.2] v := by
   unfold degP
   simp only [List.mem_cons,List.not_mem_nil,or_false] at hv
   rcases hv with rfl | rfl
   ·exact List.length_pos_of_mem (a := e.1.2) (List.mem_filter.2 ⟨by simp,hadj⟩)
   ·exact List.length_pos_of_mem (a := e.1.1) (List.mem_filter.2 ⟨by simp,hsy _ _ hadj⟩)
  omega
 have hlo0 : 0 < m → 0 ≤ lbS (nr0 E) (toL (vS V)) := fun h0 => by
  have hz : (0 : Int) ∈ toL (vS V) := (hL 0).2 (by omega)
  obtain ⟨v,_,hdv⟩ := dgn_up (near := nr0 E) (n := (toL (vS V)).length) (L := toL (vS V)) (S := toL (vS V)) (Nat.le_refl _) hR.nodup hR.nodup (fun _ h => h) (List.ne_nil_of_mem hz)
  omega
 have hlo1 : -1 ≤ lbS (nr0 E) (toL (vS V)) := Int.le_trans (dgn_ge _ _ _) hlb
 have hupm : m = 0 → (ubS E (nr0 E) (toL (vS V))).1 ≤ -1 := fun h0 => by
  have hnl : (ubS E (nr0 E) (toL (vS V))).2 = [] := List.eq_nil_iff_forall_not_mem.2 fun x hx => by
   have := (h1.mem x).1 ((hub.2.mem x).1 hx)
   omega
  rw [hub.1,hnl]
  exact Int.le_refl _
 unfold trW
 by_cases hn : 0 < trN TS m
 ·rw [if_pos hn]
  have := hup hn
  have := hlo hn
  omega
 ·rw [if_neg hn]
  by_cases h0 : 0 < m
  ·rw [if_pos h0]
   have := hup0 (by omega)
   have := hlo0 h0
   omega
  ·rw [if_neg h0]
   have := hupm (by omega)
   omega
end Go.Proofs.YtoacpebmhbkmbaaGreatDoor
namespace Go.Proofs.YtoacpebmhbkmbaaGreatDoor
open Go Go.RowKit Go.Shelf
def encU8 (n : Int) : List Value := [.int .u8 n]
theorem atU8 {w : World} {A : Option Addr} {L : List Int} (h : SlAt encU8 1 w A L) {i : Nat} (hi : i < L.length) : ∃ b off,A = some ⟨b,off,none⟩ ∧ (∀ W,Ext w W → W.cell? ⟨b,off + i,none⟩ = some (.int .u8 L[i])) := by
 obtain ⟨b,off,hA,hc⟩ := h.at_ hi
 exact ⟨b,off,hA,fun W hW => by have := hc 0 _ rfl W hW; simpa using this⟩
end Go.Proofs.YtoacpebmhbkmbaaGreatDoor
namespace Go.Proofs.YtoacpebmhbkmbaaGreatDoor
open Go Go.RowKit Go.Shelf
attribute [local go_sem] qUpon lUpon
attribute [local irreducible] wpO wpX wpQL
def alB (i k : Nat) : GS := ((List.range k).map (al2 i)).foldl stD (stD (alG i) (rg1 i))
theorem alB_zero (i : Nat) : alB i 0 = stD (alG i) (rg1 i) := by unfold alB; rw [List.range_zero]; rfl
theorem alB_next (i k : Nat) : alB i (k + 1) = stD (alB i k) (al2 i k) := by unfold alB; rw [List.range_succ,List.map_append,List.foldl_append]; rfl
theorem alG_next (i : Nat) : alG (i + 1) = alB i i := by
 unfold alG alB al1
 rw [List.range_succ,List.flatMap_append,List.foldl_append]
 simp only [List.flatMap_cons,List.flatMap_nil,List.append_nil,List.foldl_cons]
 rfl
theorem st_al2 (V : List (Int × Thing)) (E : List ((Int × Int) × Thing)) (i k : Nat) : stD (V,E) (al2 i k) = (nxV 2 (i : Int) (k : Int) 0 0 V E,nxE 2 (i : Int) (k : Int) 0 0 V E) := by simp only [stD,al2]
theorem alG_inv (n : Nat) : GInv (alG n).1 (alG n).2 := fold_inv _ _ GInv.nil
theorem rgG_inv (n : Nat) : GInv (ringG n).1 (ringG n).2 := fold_inv _ _ GInv.nil
theorem trS_next_no {TS : List Int} {i : Nat} (h : trQ TS i = false) : trS TS (i + 1) = stD (trS TS i) (rg1 i) ∧ trN TS (i + 1) = trN TS i := by
 rw [trS,trN,if_neg (by rw [h]; simp),if_neg (by rw [h]; simp)]
 exact ⟨rfl,rfl⟩
theorem trS_next_yes {TS : List Int} {i : Nat} (h : trQ TS i = true) : trS TS (i + 1) = stD (stD (trS TS i) (rg1 i)) (tr2 TS i) ∧ trN TS (i + 1) = trN TS i + 1 := by
 rw [trS,trN,if_pos h,if_pos h]
 exact ⟨rfl,rfl⟩
set_option maxRecDepth 100000 in
set_option maxHeartbeats 16000000 in
theorem boundsExactFamilies_walk (B : Option Addr) (TS : List Int) (cT : Nat) (kk : Int) (w : World) (hB : SlAt encU8 1 w B TS) (hob : ∀ d ∈ TS,0 ≤ d ∧ d < 256) (hmb : TS.length ≤ 9223372036854775807) (hkb : 0 ≤ kk ∧ kk ≤ 255) (hT : Tab w) :
  Calls Tryz.prog 3 #[.slice B TS.length cT, .int .u8 kk] w fun e w' => e = .returned (.bool true) ∧ Ext w w' := by
 have hB' := hide hB
 have hob' := hide hob
 have hmb' := hide hmb
 have hkb' := hide hkb
 have hT' := hide hT
 obtain ⟨nt,hnt⟩ : ∃ nt,nt = TS.length := ⟨_,rfl⟩
 rw [← hnt]
 have hnt' := hide hnt
 clear hB hob hmb hnt hkb hT
 have hP := hide (Sp.new w)
 refine callsIn_wide.1 (callsIn_of_wp_marks (n := 0) Tryz.func3 rfl trivial (wpIn_wide.2 ?_))
 simp only [Tryz.ntmps3,List.size_toArray,List.length_cons,List.length_nil,Nat.reduceAdd,Nat.reduceSub,Array.replicate_succ,Array.replicate_zero,List.push_toArray,List.append_toArray,List.nil_append,List.cons_append]
 try dsimp only
 repeat ((fail_if_success (with_reducible refine wp_reg (id := 1) ?_)); (first | go_values | go_skip | go_step | go_guarded | go_upon | go_in | go_back | fail))
 with_reducible refine wp_reg (id := 1) ?_
 refine wpO_want rfl ?_
 go_simp
 have hca := known22_any w ((unhide hT').ext (unhide hP).extf)
 refine (hca).mono ?_
 rintro _ y1 ⟨rfl,hxc⟩
 clear hca
 refine ⟨_,rfl, ?_⟩
 replace hP : Hid (Sp w [] w [] [] [] y1) := hide ((unhide hP).ext hxc)
 clear hxc
 by_cases hmo : (nt : Int) > 40
 ·skip
  iterate 6
   refine wpO_want rfl ?_
   go_simp
  refine wpO_done ?_
  try go_frame
  replace hmo := hide hmo
  try dsimp only
  repeat ((fail_if_success (with_reducible refine wp_reg (id := 2) ?_)); (first | go_values | go_skip | go_step | go_guarded | go_upon | go_in | go_back | fail))
  with_reducible refine wp_reg (id := 2) ?_
  refine wpO_want rfl ?_
  go_simp
  have hca := known22_any y1 ((unhide hT').ext (unhide hP).extf)
  refine (hca).mono ?_
  rintro _ y2 ⟨rfl,hxc⟩
  clear hca
  refine ⟨_,rfl, ?_⟩
  replace hP : Hid (Sp w [] w [] [] [] y2) := hide ((unhide hP).ext hxc)
  clear hxc
  refine wpO_want rfl ?_
  go_simp
  refine wpO_done ?_
  try go_frame
  go_wp2_with fail
  refine Sp.leaves0 ?_
  exact ⟨_,results_tmp rfl _ _ _,rfl,(unhide hP).extf⟩
 ·skip
  iterate 6
   refine wpO_want rfl ?_
   go_simp
  refine wpO_done ?_
  try go_frame
  have hmo2 := hide (show nt ≤ 40 by omega)
  clear hmo
  try dsimp only
  repeat ((fail_if_success (with_reducible refine wp_reg (id := 3) ?_)); (first | go_values | go_skip | go_step | go_guarded | go_upon | go_in | go_back | fail))
  with_reducible refine wp_reg (id := 3) ?_
  refine wpO_want rfl ?_
  go_simp
  refine (new_rel y1).mono ?_
  rintro _ y2 ⟨ga,bvga,bega,rfl,hg0,hxc,_,hb1,hb2⟩
  refine ⟨_,rfl, ?_⟩
  have hbbga := hide (And.intro (Nat.le_trans (unhide hP).size hb1) (Nat.le_trans (unhide hP).size hb2))
  replace hP : Hid (Sp w [] w [] [] [] y2) := hide ((unhide hP).ext hxc)
  have hgga := hide hg0
  clear hxc hg0 hb1 hb2
  refine wpO_want rfl ?_
  go_simp
  refine wpO_done ?_
  try go_frame
  go_wp2_with fail
  obtain ⟨I2_4,hI2_40⟩ : ∃ I : Nat → Act → World → Prop,I = fun fi a' wr => ∃ (i : Nat), ∃ (ne : Nat),a'.tmps.size = 135 ∧ a'.tmps.getD 0 undef = .slice B nt cT ∧ a'.tmps.getD 1 undef = .int .u8 kk ∧ a'.tmps.getD 5 undef = .pointer (some ⟨ga,0,none⟩) ∧ a'.tmps.getD 6 undef = .int .i64 (ne : Nat) ∧ a'.tmps.getD 7 undef = .int .i64 (i : Nat) ∧ a'.defers = [] ∧ i ≤ nt ∧ ne = trN TS i ∧ IsG wr ga bvga bega (trS TS i).1 (trS TS i).2 ∧ Sp w [] w [] [] [] wr ∧ fi = nt - i := ⟨_,rfl⟩
  have hI2_4 := hide hI2_40
  clear hI2_40
  refine wp_loop_ix I2_4 (nt - 0) ?_ ?_
  ·rw [unhide hI2_4]; exact ⟨0,0,rfl,rfl,rfl,rfl,rfl,rfl,rfl,Nat.zero_le _,rfl,unhide hgga,unhide hP,rfl⟩
  ·rintro fi ⟨tm,dfs⟩ wr hrel
   rw [unhide hI2_4] at hrel
   obtain ⟨i,ne,hsz,e0,e1,e5,e6,e7,hdf,hin,hne,hgr,hPr,hfm⟩ := hrel
   obtain ⟨us,rfl⟩ : ∃ us : Nat → Value,tm = #[us 0,us 1,us 2,us 3,us 4,us 5,us 6,us 7,us 8,us 9,us 10,us 11,us 12,us 13,us 14,us 15,us 16,us 17,us 18,us 19,us 20,us 21,us 22,us 23,us 24,us 25,us 26,us 27,us 28,us 29,us 30,us 31,us 32,us 33,us 34,us 35,us 36,us 37,us 38,us 39,us 40,us 41,us 42,us 43,us 44,us 45,us 46,us 47,us 48,us 49,us 50,us 51,us 52,us 53,us 54,us 55,us 56,us 57,us 58,us 59,us 60,us 61,us 62,us 63,us 64,us 65,us 66,us 67,us 68,us 69,us 70,us 71,us 72,us 73,us 74,us 75,us 76,us 77,us 78,us 79,us 80,us 81,us 82,us 83,us 84,us 85,us 86,us 87,us 88,us 89,us 90,us 91,us 92,us 93,us 94,us 95,us 96,us 97,us 98,us 99,us 100,us 101,us 102,us 103,us 104,us 105,us 106,us 107,us 108,us 109,us 110,us 111,us 112,us 113,us 114,us 115,us 116,us 117,us 118,us 119,us 120,us 121,us 122,us 123,us 124,us 125,us 126,us 127,us 128,us 129,us 130,us 131,us 132,us 133,us 134] := ⟨fun i => tm.getD i undef,arr_fn hsz⟩
   have h0 : us 0 = .slice B nt cT := e0
   have h1 : us 1 = .int .u8 kk := e1
   have h5 : us 5 = .pointer (some ⟨ga,0,none⟩) := e5
   have h6 : us 6 = .int .i64 (ne : Nat) := e6
   have h7 : us 7 = .int .i64 (i : Nat) := e7
   have hdf2 : dfs = [] := hdf
   subst hdf2
   clear hdf hsz e0 e1 e5 e6 e7
   simp only [h0,h1,h5,h6,h7]
   clear h0 h1 h5 h6 h7
   clear hP hgga
   have hP := hide hPr
   have hgga := hide hgr
   have hfm' := hide hfm
   have hne' := hide hne
   clear hPr hgr hfm hne
   by_cases hlt : i < nt
   ·have hil : (i : Int) < (nt : Int) := by omega
    have hk2 := hide hlt
    have hiT : i < TS.length := by have := unhide hnt'; omega
    have hkb : (i : Int) ≤ 40 := by have := unhide hmo2; omega
    have htk := (trS_ok TS i (by omega)).2.2.1
    have hneb : (ne : Int) ≤ 40 := by have := unhide hne'; omega
    obtain ⟨bT,oT,hBT,ct⟩ := atU8 (unhide hB') hiT
    subst hBT
    have htv := unhide hob' TS[i] (List.getElem_mem _)
    obtain ⟨tv,htv0⟩ : ∃ tv,tv = TS[i] := ⟨_,rfl⟩
    have hgd := hide (show TS.getD i 0 = tv by rw [htv0,List.getD_eq_getElem?_getD,List.getElem?_eq_getElem hiT]; rfl)
    rw [← htv0] at ct htv
    obtain ⟨S0,hS0⟩ : ∃ S0,S0 = trS TS i := ⟨_,rfl⟩
    rw [← hS0] at hgga
    have hS0' := hide hS0
    obtain ⟨V0,E0⟩ := S0
    dsimp only at hgga
    have htv' := hide htv
    have ct' := hide ct
    clear hlt hin hiT htk htv0 hS0 htv ct
    try dsimp only
    repeat ((fail_if_success (with_reducible refine wp_reg (id := 6) ?_)); (first | go_values | go_skip | go_step | go_guarded | go_upon | go_in | go_back | fail))
    with_reducible refine wp_reg (id := 6) ?_
    iterate 4
     refine wpO_want rfl ?_
     go_simp
    refine wpO_done ?_
    try go_frame
    try dsimp only
    repeat ((fail_if_success (with_reducible refine wp_reg (id := 8) ?_)); (first | go_values | go_skip | go_step | go_guarded | go_upon | go_in | go_back | fail))
    with_reducible refine wp_reg (id := 8) ?_
    iterate 3
     refine wpO_want rfl ?_
     go_simp
    refine wpO_want rfl ?_
    go_simp
    have hca := apply_any ga bvga bega V0 E0 (0) ((i : Int)) (0) (0) (0) wr (unhide hgga) (by unfold i64ok; omega) (by unfold i64ok; omega)
    refine hca.mono ?_
    clear hca
    rintro _ y3 ⟨rfl,hg2,hk⟩
    refine ⟨_,rfl, ?_⟩
    replace hP : Hid (Sp w [] w [] [] [] y3) := hide (Sp.fresh (ext_turn (unhide hP).extf hk (unhide hbbga)))
    obtain ⟨V1,hV1⟩ : ∃ x,x = nxV (0) ((i : Int)) (0) (0) (0) V0 E0 := ⟨_,rfl⟩
    obtain ⟨E1,hE1⟩ : ∃ x,x = nxE (0) ((i : Int)) (0) (0) (0) V0 E0 := ⟨_,rfl⟩
    rw [← hV1, ← hE1] at hg2
    have hV1' := hide hV1
    have hE1' := hide hE1
    replace hgga := hide hg2
    clear hg2 hk hV1 hE1
    refine wpO_done ?_
    try go_frame
    have hw1 : IntKind.i64.wrap ((i : Int) + 1) = (i : Int) + 1 := IntWalk.i64_in _ (by omega)
    have hw1' := hide hw1
    have hneb' := hide hneb
    clear hw1 hneb
    by_cases hi0 : 0 < i
    ·skip
     have hi1 : (i : Int) > 0 := by omega
     have ct := fun W hW => unhide ct' W ((unhide hP).extf.trans hW)
     by_cases h30 : tv > 30
     ·skip
      have hq := hide (show trQ TS i = true by unfold trQ; rw [unhide hgd]; simp [hi0]; omega)
      have hself := Ext.refl y3
      try dsimp only
      repeat ((fail_if_success (with_reducible refine wp_reg (id := 9) ?_)); (first | go_values | go_skip | go_step | go_guarded | go_upon | go_in | go_back | fail))
      with_reducible refine wp_reg (id := 9) ?_
      iterate 9
       refine wpO_want rfl ?_
       go_simp
      refine wpO_done ?_
      try go_frame
      have hn0 : ¬ (i : Int) = 0 := by omega
      have hn1 : ¬ i = 0 := by omega
      have htvb := unhide htv'
      have htm : tv.tmod (i : Int) = tv % (i : Int) := by rw [Int.tmod_eq_emod_of_nonneg (by omega)]
      have hmb : 0 ≤ tv % (i : Int) ∧ tv % (i : Int) < (i : Int) := ⟨Int.emod_nonneg _ (by omega),Int.emod_lt_of_pos _ (by omega)⟩
      have hmb2 := hide hmb
      have hw8 : IntKind.i64.wrap tv = tv := IntWalk.i64_in _ (by omega)
      have hw2 : IntKind.i64.wrap (tv % (i : Int)) = tv % (i : Int) := IntWalk.i64_in _ (by omega)
      have hi0' := hide hi0
      clear hmb htvb hi0 hi1 h30
      try dsimp only
      repeat ((fail_if_success (with_reducible refine wp_reg (id := 10) ?_)); (first | go_values | go_skip | go_step | go_guarded | go_upon | go_in | go_back | fail))
      with_reducible refine wp_reg (id := 10) ?_
      iterate 10
       refine wpO_want rfl ?_
       go_simp
      clear ct hself htm hw8 hw2 hn0 hn1
      refine wpO_want rfl ?_
      go_simp
      have hca := apply_any ga bvga bega V1 E1 (2) ((i : Int)) (tv % (i : Int)) (0) (0) y3 (unhide hgga) (by unfold i64ok; omega) (by unfold i64ok; have := unhide hmb2; omega)
      refine hca.mono ?_
      clear hca
      rintro _ y4 ⟨rfl,hg2,hk⟩
      refine ⟨_,rfl, ?_⟩
      replace hP : Hid (Sp w [] w [] [] [] y4) := hide (Sp.fresh (ext_turn (unhide hP).extf hk (unhide hbbga)))
      obtain ⟨V2,hV2⟩ : ∃ x,x = nxV (2) ((i : Int)) (tv % (i : Int)) (0) (0) V1 E1 := ⟨_,rfl⟩
      obtain ⟨E2,hE2⟩ : ∃ x,x = nxE (2) ((i : Int)) (tv % (i : Int)) (0) (0) V1 E1 := ⟨_,rfl⟩
      rw [← hV2, ← hE2] at hg2
      have hV2' := hide hV2
      have hE2' := hide hE2
      replace hgga := hide hg2
      clear hg2 hk hV2 hE2
      refine wpO_done ?_
      try go_frame
      have hw3 : IntKind.i64.wrap ((ne : Int) + 1) = (ne : Int) + 1 := IntWalk.i64_in _ (by have := unhide hneb'; omega)
      have hnx := hide (show trS TS (i + 1) = (V2,E2) by rw [(trS_next_yes (unhide hq)).1, ← unhide hS0',st_rg1, ← unhide hV1', ← unhide hE1',st_tr2,unhide hgd,unhide hV2',unhide hE2'])
      have hnn := hide (show ne + 1 = trN TS (i + 1) by rw [(trS_next_yes (unhide hq)).2, ← unhide hne'])
      have hw1 := unhide hw1'
      go_wp2_with fail
      have h3 := unhide hk2
      refine ⟨nt - (i + 1), ?_,by have := unhide hfm'; omega⟩
      rw [unhide hI2_4]
      exact ⟨i + 1,ne + 1,(by first | rfl | trivial),(by first | rfl | trivial),(by first | rfl | trivial),(by first | rfl | trivial),(by first | rfl | (show _ = Value.int _ _; go_num) | go_num),(by first | rfl | (show _ = Value.int _ _; go_num) | go_num),(by first | rfl | trivial),by omega,unhide hnn,by rw [unhide hnx]; exact unhide hgga,unhide hP,rfl⟩
     ·skip
      have hq := hide (show trQ TS i = false by unfold trQ; rw [unhide hgd]; simp [hi0]; omega)
      have hself := Ext.refl y3
      try dsimp only
      repeat ((fail_if_success (with_reducible refine wp_reg (id := 9) ?_)); (first | go_values | go_skip | go_step | go_guarded | go_upon | go_in | go_back | fail))
      with_reducible refine wp_reg (id := 9) ?_
      iterate 9
       refine wpO_want rfl ?_
       go_simp
      refine wpO_done ?_
      try go_frame
      clear ct hself hi0 hi1 h30
      have hnx := hide (show trS TS (i + 1) = (V1,E1) by rw [(trS_next_no (unhide hq)).1, ← unhide hS0',st_rg1,unhide hV1',unhide hE1'])
      have hnn := hide (show ne = trN TS (i + 1) by rw [(trS_next_no (unhide hq)).2]; exact unhide hne')
      have hw1 := unhide hw1'
      go_wp2_with fail
      have h3 := unhide hk2
      refine ⟨nt - (i + 1), ?_,by have := unhide hfm'; omega⟩
      rw [unhide hI2_4]
      exact ⟨i + 1,ne,(by first | rfl | trivial),(by first | rfl | trivial),(by first | rfl | trivial),(by first | rfl | trivial),(by first | rfl | (show _ = Value.int _ _; go_num) | go_num),(by first | rfl | (show _ = Value.int _ _; go_num) | go_num),(by first | rfl | trivial),by omega,unhide hnn,by rw [unhide hnx]; exact unhide hgga,unhide hP,rfl⟩
    ·skip
     have hq := hide (show trQ TS i = false by unfold trQ; simp [hi0])
     have hi1 : ¬ (i : Int) > 0 := by omega
     try dsimp only
     repeat ((fail_if_success (with_reducible refine wp_reg (id := 9) ?_)); (first | go_values | go_skip | go_step | go_guarded | go_upon | go_in | go_back | fail))
     with_reducible refine wp_reg (id := 9) ?_
     iterate 3
      refine wpO_want rfl ?_
      go_simp
     refine wpO_out (by rfl) ?_
     go_frame
     refine wpO_out (by rfl) ?_
     go_frame
     refine wpO_out (by rfl) ?_
     go_frame
     refine wpO_out (by rfl) ?_
     go_frame
     refine wpO_out (by rfl) ?_
     go_frame
     refine wpO_want rfl ?_
     go_simp
     refine wpO_done ?_
     try go_frame
     clear hi0 hi1
     have hnx := hide (show trS TS (i + 1) = (V1,E1) by rw [(trS_next_no (unhide hq)).1, ← unhide hS0',st_rg1,unhide hV1',unhide hE1'])
     have hnn := hide (show ne = trN TS (i + 1) by rw [(trS_next_no (unhide hq)).2]; exact unhide hne')
     have hw1 := unhide hw1'
     go_wp2_with fail
     have h3 := unhide hk2
     refine ⟨nt - (i + 1), ?_,by have := unhide hfm'; omega⟩
     rw [unhide hI2_4]
     exact ⟨i + 1,ne,(by first | rfl | trivial),(by first | rfl | trivial),(by first | rfl | trivial),(by first | rfl | trivial),(by first | rfl | (show _ = Value.int _ _; go_num) | go_num),(by first | rfl | (show _ = Value.int _ _; go_num) | go_num),(by first | rfl | trivial),by omega,unhide hnn,by rw [unhide hnx]; exact unhide hgga,unhide hP,rfl⟩
   ·have hil : ¬ (i : Int) < (nt : Int) := by omega
    obtain rfl : nt = i := by omega
    have hex := tr_exact TS (m := nt) (by have := unhide hmo2; omega)
    have hgi := hide ((trS_ok TS nt (by have := unhide hmo2; omega)).1.inv)
    have hnl := (trS_ok TS nt (by have := unhide hmo2; omega)).2.2.1
    rw [← unhide hne'] at hex hnl
    obtain ⟨S0,hS0⟩ : ∃ S0,S0 = trS TS nt := ⟨_,rfl⟩
    rw [← hS0] at hgga hex hgi
    obtain ⟨V,E⟩ := S0
    dsimp only at hgga hex hgi
    obtain ⟨hub,hlb⟩ := hex
    obtain ⟨n10,hn10⟩ : ∃ n10 : Nat,(n10 : Int) = kk % 10 := ⟨(kk % 10).toNat,by omega⟩
    obtain ⟨nn,hnn⟩ : ∃ nn : Nat,nn = 3 + n10 := ⟨_,rfl⟩
    have hnb := hide (show 3 ≤ nn ∧ nn ≤ 12 by omega)
    have htm := hide (show kk.tmod 10 = (n10 : Int) by rw [Int.tmod_eq_emod_of_nonneg (unhide hkb').1,hn10])
    have hw8 := hide (show IntKind.u8.wrap (n10 : Int) = (n10 : Int) by simp [IntKind.wrap,IntKind.bits]; omega)
    have hw64 := hide (show IntKind.i64.wrap (n10 : Int) = (n10 : Int) from IntWalk.i64_in _ (by omega))
    have hw3 := hide (show IntKind.i64.wrap (3 + (n10 : Int)) = (nn : Int) by rw [IntWalk.i64_in _ (by omega),hnn]; omega)
    have hal := hide (al_lb (unhide hnb).1 (unhide hnb).2)
    have hau := hide (al_ub (unhide hnb).1 (unhide hnb).2)
    have hrl := hide (rg_lb (unhide hnb).1 (unhide hnb).2)
    have hru := hide (rg_ub (unhide hnb).1 (unhide hnb).2)
    have hub' := hide hub
    have hlb' := hide hlb
    have hnl' := hide hnl
    clear hlt hin hfm' hS0 hub hlb hn10 hnn hnl
    try dsimp only
    repeat ((fail_if_success (with_reducible refine wp_reg (id := 6) ?_)); (first | go_values | go_skip | go_step | go_guarded | go_upon | go_in | go_back | fail))
    with_reducible refine wp_reg (id := 6) ?_
    iterate 4
     refine wpO_want rfl ?_
     go_simp
    refine wpO_done ?_
    try go_frame
    by_cases hn0 : 0 < nt
    ·skip
     have hnI : (nt : Int) > 0 := by omega
     try dsimp only
     repeat ((fail_if_success (with_reducible refine wp_reg (id := 12) ?_)); (first | go_values | go_skip | go_step | go_guarded | go_upon | go_in | go_back | fail))
     with_reducible refine wp_reg (id := 12) ?_
     refine wpO_want rfl ?_
     go_simp
     refine wpO_done ?_
     try go_frame
     try dsimp only
     repeat ((fail_if_success (with_reducible refine wp_reg (id := 13) ?_)); (first | go_values | go_skip | go_step | go_guarded | go_upon | go_in | go_back | fail))
     with_reducible refine wp_reg (id := 13) ?_
     iterate 3
      refine wpO_want rfl ?_
      go_simp
     refine wpO_done ?_
     try go_frame
     try dsimp only
     repeat ((fail_if_success (with_reducible refine wp_reg (id := 14) ?_)); (first | go_values | go_skip | go_step | go_guarded | go_upon | go_in | go_back | fail))
     with_reducible refine wp_reg (id := 14) ?_
     refine wpO_want rfl ?_
     go_simp
     refine wpO_done ?_
     try go_frame
     by_cases he0 : 0 < ne
     ·skip
      have heI : (ne : Int) > 0 := by omega
      have htw := hide (show trW nt ne = 1 by unfold trW; rw [if_pos he0])
      try dsimp only
      repeat ((fail_if_success (with_reducible refine wp_reg (id := 15) ?_)); (first | go_values | go_skip | go_step | go_guarded | go_upon | go_in | go_back | fail))
      with_reducible refine wp_reg (id := 15) ?_
      iterate 2
       refine wpO_want rfl ?_
       go_simp
      refine wpO_done ?_
      try go_frame
      try dsimp only
      repeat ((fail_if_success (with_reducible refine wp_reg (id := 16) ?_)); (first | go_values | go_skip | go_step | go_guarded | go_upon | go_in | go_back | fail))
      with_reducible refine wp_reg (id := 16) ?_
      refine wpO_want rfl ?_
      go_simp
      refine wpO_done ?_
      try go_frame
      clear hnI heI hn0 he0
      have hub := unhide hub'
      have hlb := unhide hlb'
      have hc : trW nt ne = 1 := unhide htw
      rw [hc] at hub hlb
      replace hub := hide hub
      replace hlb := hide hlb
      clear hc
      try dsimp only
      repeat ((fail_if_success (with_reducible refine wp_reg (id := 17) ?_)); (first | go_values | go_skip | go_step | go_guarded | go_upon | go_in | go_back | fail))
      with_reducible refine wp_reg (id := 17) ?_
      refine wpO_want rfl ?_
      go_simp
      refine wpO_want rfl ?_
      go_simp
      have hca := upper_any (some ⟨ga,0,none⟩) V E wr (GL.of (unhide hgga)) (unhide hgi) ((unhide hT').ext (unhide hP).extf)
      rw [unhide hub] at hca
      refine hca.mono ?_
      clear hca
      rintro _ y3 ⟨Au,cu,rfl,_,hxc⟩
      refine ⟨_,rfl, ?_⟩
      replace hP : Hid (Sp w [] w [] [] [] y3) := hide ((unhide hP).ext hxc)
      replace hgga := hide ((unhide hgga).ext hxc)
      obtain ⟨nu,hnu⟩ : ∃ n,n = ((ubS E (nr0 E) (toL (vS V))).2).length := ⟨_,rfl⟩
      rw [← hnu]
      clear hnu hxc
      generalize htu0 : Value.tuple _ = tu
      have htu := hide htu0
      clear htu0
      refine wpO_val rfl (run_move rfl rfl) ?_
      go_frame
      refine wpO_val rfl (run_extract (i := 0) (v := .int .i64 1) rfl (unhide htu).symm rfl) ?_
      go_frame
      refine wpO_val rfl (run_extract (i := 1) (v := .slice Au nu cu) rfl (unhide htu).symm rfl) ?_
      go_frame
      iterate 2
       refine wpO_want rfl ?_
       go_simp
      refine wpO_done ?_
      try go_frame
      clear htu
      try dsimp only
      repeat ((fail_if_success (with_reducible refine wp_reg (id := 18) ?_)); (first | go_values | go_skip | go_step | go_guarded | go_upon | go_in | go_back | fail))
      with_reducible refine wp_reg (id := 18) ?_
      iterate 5
       refine wpO_want rfl ?_
       go_simp
      refine wpO_want rfl ?_
      go_simp
      have hca := lower_any (some ⟨ga,0,none⟩) V E y3 (GL.of (unhide hgga)) (unhide hgi) ((unhide hT').ext (unhide hP).extf)
      rw [unhide hlb] at hca
      refine hca.mono ?_
      clear hca
      rintro _ y4 ⟨rfl,hxc⟩
      refine ⟨_,rfl, ?_⟩
      replace hP : Hid (Sp w [] w [] [] [] y4) := hide ((unhide hP).ext hxc)
      replace hgga := hide ((unhide hgga).ext hxc)
      clear hxc
      iterate 3
       refine wpO_want rfl ?_
       go_simp
      refine wpO_done ?_
      try go_frame
      try dsimp only
      repeat ((fail_if_success (with_reducible refine wp_reg (id := 20) ?_)); (first | go_values | go_skip | go_step | go_guarded | go_upon | go_in | go_back | fail))
      with_reducible refine wp_reg (id := 20) ?_
      refine wpO_want rfl ?_
      go_simp
      refine wpO_val (v := .int .u8 (n10 : Nat)) (w' := y4) rfl (by go_simp; first | done | (rw [unhide htm]) | (rw [unhide htm,unhide hw8]) | simp [unhide htm,unhide hw8]) ?_
      go_frame
      refine wpO_val (v := .int .i64 (n10 : Nat)) (w' := y4) rfl (by go_simp; first | done | (rw [unhide hw64]) | simp [unhide hw64]) ?_
      go_frame
      refine wpO_val (v := .int .i64 (nn : Nat)) (w' := y4) rfl (by go_simp; first | done | (rw [unhide hw3]) | simp [unhide hw3]) ?_
      go_frame
      refine wpO_want rfl ?_
      go_simp
      refine wpO_done ?_
      try go_frame
      clear hgga
      try dsimp only
      repeat ((fail_if_success (with_reducible refine wp_reg (id := 21) ?_)); (first | go_values | go_skip | go_step | go_guarded | go_upon | go_in | go_back | fail))
      with_reducible refine wp_reg (id := 21) ?_
      refine wpO_want rfl ?_
      go_simp
      refine (new_rel y4).mono ?_
      rintro _ y5 ⟨gb,bvgb,begb,rfl,hg0,hxc,_,hb1,hb2⟩
      refine ⟨_,rfl, ?_⟩
      have hbbgb := hide (And.intro (Nat.le_trans (unhide hP).size hb1) (Nat.le_trans (unhide hP).size hb2))
      replace hP : Hid (Sp w [] w [] [] [] y5) := hide ((unhide hP).ext hxc)
      have hggb := hide hg0
      clear hxc hg0 hb1 hb2
      refine wpO_want rfl ?_
      go_simp
      refine wpO_done ?_
      try go_frame
      go_wp2_with fail
      obtain ⟨I5_12,hI5_120⟩ : ∃ I : Nat → Act → World → Prop,I = fun fi a' wr => ∃ (i : Nat),a'.tmps.size = 135 ∧ a'.tmps.getD 11 undef = .int .i64 (nn : Nat) ∧ a'.tmps.getD 12 undef = .pointer (some ⟨gb,0,none⟩) ∧ a'.tmps.getD 13 undef = .int .i64 (i : Nat) ∧ a'.defers = [] ∧ i ≤ nn ∧ IsG wr gb bvgb begb (alG i).1 (alG i).2 ∧ Sp w [] w [] [] [] wr ∧ fi = nn - i := ⟨_,rfl⟩
      have hI5_12 := hide hI5_120
      clear hI5_120
      refine wp_loop_ix I5_12 (nn - 0) ?_ ?_
      ·rw [unhide hI5_12]; exact ⟨0,rfl,rfl,rfl,rfl,rfl,Nat.zero_le _,unhide hggb,unhide hP,rfl⟩
      ·rintro fi ⟨tm,dfs⟩ wr hrel
       rw [unhide hI5_12] at hrel
       obtain ⟨i,hsz,e11,e12,e13,hdf,hin,hgr,hPr,hfm⟩ := hrel
       obtain ⟨us,rfl⟩ : ∃ us : Nat → Value,tm = #[us 0,us 1,us 2,us 3,us 4,us 5,us 6,us 7,us 8,us 9,us 10,us 11,us 12,us 13,us 14,us 15,us 16,us 17,us 18,us 19,us 20,us 21,us 22,us 23,us 24,us 25,us 26,us 27,us 28,us 29,us 30,us 31,us 32,us 33,us 34,us 35,us 36,us 37,us 38,us 39,us 40,us 41,us 42,us 43,us 44,us 45,us 46,us 47,us 48,us 49,us 50,us 51,us 52,us 53,us 54,us 55,us 56,us 57,us 58,us 59,us 60,us 61,us 62,us 63,us 64,us 65,us 66,us 67,us 68,us 69,us 70,us 71,us 72,us 73,us 74,us 75,us 76,us 77,us 78,us 79,us 80,us 81,us 82,us 83,us 84,us 85,us 86,us 87,us 88,us 89,us 90,us 91,us 92,us 93,us 94,us 95,us 96,us 97,us 98,us 99,us 100,us 101,us 102,us 103,us 104,us 105,us 106,us 107,us 108,us 109,us 110,us 111,us 112,us 113,us 114,us 115,us 116,us 117,us 118,us 119,us 120,us 121,us 122,us 123,us 124,us 125,us 126,us 127,us 128,us 129,us 130,us 131,us 132,us 133,us 134] := ⟨fun i => tm.getD i undef,arr_fn hsz⟩
       have h11 : us 11 = .int .i64 (nn : Nat) := e11
       have h12 : us 12 = .pointer (some ⟨gb,0,none⟩) := e12
       have h13 : us 13 = .int .i64 (i : Nat) := e13
       have hdf2 : dfs = [] := hdf
       subst hdf2
       clear hdf hsz e11 e12 e13
       simp only [h11,h12,h13]
       clear h11 h12 h13
       clear hP hggb
       have hP := hide hPr
       have hggb := hide hgr
       have hfm' := hide hfm
       clear hPr hgr hfm
       by_cases hlt : i < nn
       ·have hil : (i : Int) < (nn : Int) := by omega
        have hk2 := hide hlt
        have hkb : (i : Int) ≤ 12 := by have := unhide hnb; omega
        obtain ⟨S0,hS0⟩ : ∃ S0,S0 = alG i := ⟨_,rfl⟩
        rw [← hS0] at hggb
        have hS0' := hide hS0
        obtain ⟨V0,E0⟩ := S0
        dsimp only at hggb
        clear hlt hin hS0
        try dsimp only
        repeat ((fail_if_success (with_reducible refine wp_reg (id := 23) ?_)); (first | go_values | go_skip | go_step | go_guarded | go_upon | go_in | go_back | fail))
        with_reducible refine wp_reg (id := 23) ?_
        iterate 3
         refine wpO_want rfl ?_
         go_simp
        refine wpO_done ?_
        try go_frame
        try dsimp only
        repeat ((fail_if_success (with_reducible refine wp_reg (id := 25) ?_)); (first | go_values | go_skip | go_step | go_guarded | go_upon | go_in | go_back | fail))
        with_reducible refine wp_reg (id := 25) ?_
        iterate 3
         refine wpO_want rfl ?_
         go_simp
        refine wpO_want rfl ?_
        go_simp
        have hca := apply_any gb bvgb begb V0 E0 (0) ((i : Int)) (0) (0) (0) wr (unhide hggb) (by unfold i64ok; omega) (by unfold i64ok; omega)
        refine hca.mono ?_
        clear hca
        rintro _ y6 ⟨rfl,hg2,hk⟩
        refine ⟨_,rfl, ?_⟩
        replace hP : Hid (Sp w [] w [] [] [] y6) := hide (Sp.fresh (ext_turn (unhide hP).extf hk (unhide hbbgb)))
        obtain ⟨V1,hV1⟩ : ∃ x,x = nxV (0) ((i : Int)) (0) (0) (0) V0 E0 := ⟨_,rfl⟩
        obtain ⟨E1,hE1⟩ : ∃ x,x = nxE (0) ((i : Int)) (0) (0) (0) V0 E0 := ⟨_,rfl⟩
        rw [← hV1, ← hE1] at hg2
        have hV1' := hide hV1
        have hE1' := hide hE1
        replace hggb := hide hg2
        clear hg2 hk hV1 hE1
        refine wpO_done ?_
        try go_frame
        have hgz := hide (show IsG y6 gb bvgb begb (alB i 0).1 (alB i 0).2 by rw [alB_zero, ← unhide hS0',st_rg1, ← unhide hV1', ← unhide hE1']; exact unhide hggb)
        clear hggb hV1' hE1' hS0'
        try dsimp only
        repeat ((fail_if_success (with_reducible refine wp_reg (id := 26) ?_)); (first | go_values | go_skip | go_step | go_guarded | go_upon | go_in | go_back | fail))
        with_reducible refine wp_reg (id := 26) ?_
        refine wpO_want rfl ?_
        go_simp
        refine wpO_done ?_
        try go_frame
        go_wp2_with fail
        obtain ⟨I6_16,hI6_160⟩ : ∃ I : Nat → Act → World → Prop,I = fun fk a' wr => ∃ (k : Nat),a'.tmps.size = 135 ∧ a'.tmps.getD 11 undef = .int .i64 (nn : Nat) ∧ a'.tmps.getD 12 undef = .pointer (some ⟨gb,0,none⟩) ∧ a'.tmps.getD 13 undef = .int .i64 (i : Nat) ∧ a'.tmps.getD 14 undef = .int .i64 (k : Nat) ∧ a'.defers = [] ∧ k ≤ i ∧ IsG wr gb bvgb begb (alB i k).1 (alB i k).2 ∧ Sp w [] w [] [] [] wr ∧ fk = i - k := ⟨_,rfl⟩
        have hI6_16 := hide hI6_160
        clear hI6_160
        refine wp_loop_ix I6_16 (i - 0) ?_ ?_
        ·rw [unhide hI6_16]; exact ⟨0,rfl,rfl,rfl,rfl,rfl,rfl,Nat.zero_le _,unhide hgz,unhide hP,rfl⟩
        ·rintro fk ⟨tm,dfs⟩ wr hrel
         rw [unhide hI6_16] at hrel
         obtain ⟨k,hsz,e11,e12,e13,e14,hdf,hki,hgr,hPr,hfk⟩ := hrel
         obtain ⟨us,rfl⟩ : ∃ us : Nat → Value,tm = #[us 0,us 1,us 2,us 3,us 4,us 5,us 6,us 7,us 8,us 9,us 10,us 11,us 12,us 13,us 14,us 15,us 16,us 17,us 18,us 19,us 20,us 21,us 22,us 23,us 24,us 25,us 26,us 27,us 28,us 29,us 30,us 31,us 32,us 33,us 34,us 35,us 36,us 37,us 38,us 39,us 40,us 41,us 42,us 43,us 44,us 45,us 46,us 47,us 48,us 49,us 50,us 51,us 52,us 53,us 54,us 55,us 56,us 57,us 58,us 59,us 60,us 61,us 62,us 63,us 64,us 65,us 66,us 67,us 68,us 69,us 70,us 71,us 72,us 73,us 74,us 75,us 76,us 77,us 78,us 79,us 80,us 81,us 82,us 83,us 84,us 85,us 86,us 87,us 88,us 89,us 90,us 91,us 92,us 93,us 94,us 95,us 96,us 97,us 98,us 99,us 100,us 101,us 102,us 103,us 104,us 105,us 106,us 107,us 108,us 109,us 110,us 111,us 112,us 113,us 114,us 115,us 116,us 117,us 118,us 119,us 120,us 121,us 122,us 123,us 124,us 125,us 126,us 127,us 128,us 129,us 130,us 131,us 132,us 133,us 134] := ⟨fun i => tm.getD i undef,arr_fn hsz⟩
         have h11 : us 11 = .int .i64 (nn : Nat) := e11
         have h12 : us 12 = .pointer (some ⟨gb,0,none⟩) := e12
         have h13 : us 13 = .int .i64 (i : Nat) := e13
         have h14 : us 14 = .int .i64 (k : Nat) := e14
         have hdf2 : dfs = [] := hdf
         subst hdf2
         clear hdf hsz e11 e12 e13 e14
         simp only [h11,h12,h13,h14]
         clear h11 h12 h13 h14
         clear hP hgz
         have hP := hide hPr
         have hggb := hide hgr
         have hfk' := hide hfk
         clear hPr hgr hfk
         by_cases hlt : k < i
         ·have hkl : (k : Int) < (i : Int) := by omega
          have hk3 := hide hlt
          obtain ⟨S0,hS0⟩ : ∃ S0,S0 = alB i k := ⟨_,rfl⟩
          rw [← hS0] at hggb
          have hS0' := hide hS0
          obtain ⟨V0,E0⟩ := S0
          dsimp only at hggb
          clear hlt hki hS0
          try dsimp only
          repeat ((fail_if_success (with_reducible refine wp_reg (id := 27) ?_)); (first | go_values | go_skip | go_step | go_guarded | go_upon | go_in | go_back | fail))
          with_reducible refine wp_reg (id := 27) ?_
          iterate 3
           refine wpO_want rfl ?_
           go_simp
          refine wpO_done ?_
          try go_frame
          try dsimp only
          repeat ((fail_if_success (with_reducible refine wp_reg (id := 29) ?_)); (first | go_values | go_skip | go_step | go_guarded | go_upon | go_in | go_back | fail))
          with_reducible refine wp_reg (id := 29) ?_
          iterate 4
           refine wpO_want rfl ?_
           go_simp
          refine wpO_want rfl ?_
          go_simp
          have hca := apply_any gb bvgb begb V0 E0 (2) ((i : Int)) ((k : Int)) (0) (0) wr (unhide hggb) (by unfold i64ok; omega) (by unfold i64ok; omega)
          refine hca.mono ?_
          clear hca
          rintro _ y7 ⟨rfl,hg2,hk⟩
          refine ⟨_,rfl, ?_⟩
          replace hP : Hid (Sp w [] w [] [] [] y7) := hide (Sp.fresh (ext_turn (unhide hP).extf hk (unhide hbbgb)))
          obtain ⟨V1,hV1⟩ : ∃ x,x = nxV (2) ((i : Int)) ((k : Int)) (0) (0) V0 E0 := ⟨_,rfl⟩
          obtain ⟨E1,hE1⟩ : ∃ x,x = nxE (2) ((i : Int)) ((k : Int)) (0) (0) V0 E0 := ⟨_,rfl⟩
          rw [← hV1, ← hE1] at hg2
          have hV1' := hide hV1
          have hE1' := hide hE1
          replace hggb := hide hg2
          clear hg2 hk hV1 hE1
          refine wpO_done ?_
          try go_frame
          have hnx := hide (show alB i (k + 1) = (V1,E1) by rw [alB_next, ← unhide hS0',st_al2,unhide hV1',unhide hE1'])
          have hw1 : IntKind.i64.wrap ((k : Int) + 1) = (k : Int) + 1 := IntWalk.i64_in _ (by omega)
          go_wp2_with fail
          have h3 := unhide hk3
          refine ⟨i - (k + 1), ?_,by have := unhide hfk'; omega⟩
          rw [unhide hI6_16]
          exact ⟨k + 1,(by first | rfl | trivial),(by first | rfl | trivial),(by first | rfl | trivial),(by first | rfl | trivial),(by first | rfl | (show _ = Value.int _ _; go_num) | go_num),(by first | rfl | trivial),by omega,by rw [unhide hnx]; exact unhide hggb,unhide hP,rfl⟩
         ·have hkl : ¬ (k : Int) < (i : Int) := by omega
          obtain rfl : i = k := by omega
          have hgn := hide (show IsG wr gb bvgb begb (alG (i + 1)).1 (alG (i + 1)).2 by rw [alG_next]; exact unhide hggb)
          clear hlt hki hfk' hggb
          try dsimp only
          repeat ((fail_if_success (with_reducible refine wp_reg (id := 27) ?_)); (first | go_values | go_skip | go_step | go_guarded | go_upon | go_in | go_back | fail))
          with_reducible refine wp_reg (id := 27) ?_
          iterate 3
           refine wpO_want rfl ?_
           go_simp
          refine wpO_done ?_
          try go_frame
          have hw1 : IntKind.i64.wrap ((i : Int) + 1) = (i : Int) + 1 := IntWalk.i64_in _ (by omega)
          go_wp2_with fail
          have h3 := unhide hk2
          refine ⟨nn - (i + 1), ?_,by have := unhide hfm'; omega⟩
          rw [unhide hI5_12]
          exact ⟨i + 1,(by first | rfl | trivial),(by first | rfl | trivial),(by first | rfl | trivial),(by first | rfl | (show _ = Value.int _ _; go_num) | go_num),(by first | rfl | trivial),by omega,unhide hgn,unhide hP,rfl⟩
       ·have hil : ¬ (i : Int) < (nn : Int) := by omega
        obtain rfl : nn = i := by omega
        have hwn := hide (show IntKind.i64.wrap ((nn : Int) - 1) = (nn : Int) - 1 from IntWalk.i64_in _ (by have := unhide hnb; omega))
        have hgi2 := hide (alG_inv nn)
        have hgi3 := hide (rgG_inv nn)
        obtain ⟨S1,hS1⟩ : ∃ S1,S1 = alG nn := ⟨_,rfl⟩
        obtain ⟨S2,hS2⟩ : ∃ S2,S2 = ringG nn := ⟨_,rfl⟩
        have hrg := hide (fun (W : World) (h1 : 1 ≤ nn) (h2 : nn ≤ 1000) => ring_any nn W h1 h2)
        rw [← hS1] at hgi2 hggb hal hau
        rw [← hS2] at hgi3 hrl hru hrg
        obtain ⟨V1,E1⟩ := S1
        obtain ⟨V2,E2⟩ := S2
        dsimp only at hgi2 hgi3 hggb hal hau hrl hru
        clear hlt hin hfm' hS1 hS2
        try dsimp only
        repeat ((fail_if_success (with_reducible refine wp_reg (id := 23) ?_)); (first | go_values | go_skip | go_step | go_guarded | go_upon | go_in | go_back | fail))
        with_reducible refine wp_reg (id := 23) ?_
        iterate 3
         refine wpO_want rfl ?_
         go_simp
        refine wpO_done ?_
        try go_frame
        try dsimp only
        repeat ((fail_if_success (with_reducible refine wp_reg (id := 30) ?_)); (first | go_values | go_skip | go_step | go_guarded | go_upon | go_in | go_back | fail))
        with_reducible refine wp_reg (id := 30) ?_
        refine wpO_want rfl ?_
        go_simp
        refine wpO_want rfl ?_
        go_simp
        have hca := upper_any (some ⟨gb,0,none⟩) V1 E1 wr (GL.of (unhide hggb)) (unhide hgi2) ((unhide hT').ext (unhide hP).extf)
        rw [unhide hau] at hca
        refine hca.mono ?_
        clear hca
        rintro _ y6 ⟨Au,cu,rfl,_,hxc⟩
        refine ⟨_,rfl, ?_⟩
        replace hP : Hid (Sp w [] w [] [] [] y6) := hide ((unhide hP).ext hxc)
        replace hggb := hide ((unhide hggb).ext hxc)
        obtain ⟨nu,hnu⟩ : ∃ n,n = ((ubS E1 (nr0 E1) (toL (vS V1))).2).length := ⟨_,rfl⟩
        rw [← hnu]
        clear hnu hxc
        generalize htu0 : Value.tuple _ = tu
        have htu := hide htu0
        clear htu0
        refine wpO_val rfl (run_move rfl rfl) ?_
        go_frame
        refine wpO_val rfl (run_extract (i := 0) (v := .int .i64 ((nn : Int) - 1)) rfl (unhide htu).symm rfl) ?_
        go_frame
        refine wpO_val rfl (run_extract (i := 1) (v := .slice Au nu cu) rfl (unhide htu).symm rfl) ?_
        go_frame
        iterate 2
         refine wpO_want rfl ?_
         go_simp
        refine wpO_done ?_
        try go_frame
        clear htu
        try dsimp only
        repeat ((fail_if_success (with_reducible refine wp_reg (id := 31) ?_)); (first | go_values | go_skip | go_step | go_guarded | go_upon | go_in | go_back | fail))
        with_reducible refine wp_reg (id := 31) ?_
        refine wpO_want rfl ?_
        go_simp
        refine wpO_want rfl ?_
        go_simp
        have hca := unhide hrg y6 (by have := unhide hnb; omega) (by have := unhide hnb; omega)
        refine hca.mono ?_
        clear hca
        rintro _ y7 ⟨gc,bvgc,begc,rfl,hg0,hxc⟩
        try dsimp only at hg0
        refine ⟨_,rfl, ?_⟩
        replace hP : Hid (Sp w [] w [] [] [] y7) := hide ((unhide hP).ext hxc)
        replace hggb := hide ((unhide hggb).ext hxc)
        have hggc := hide hg0
        clear hxc hg0
        refine wpO_want rfl ?_
        go_simp
        have hca := upper_any (some ⟨gc,0,none⟩) V2 E2 y7 (GL.of (unhide hggc)) (unhide hgi3) ((unhide hT').ext (unhide hP).extf)
        rw [unhide hru] at hca
        refine hca.mono ?_
        clear hca
        rintro _ y8 ⟨Aw,cw,rfl,_,hxc⟩
        refine ⟨_,rfl, ?_⟩
        replace hP : Hid (Sp w [] w [] [] [] y8) := hide ((unhide hP).ext hxc)
        replace hggb := hide ((unhide hggb).ext hxc)
        obtain ⟨nu2,hnu⟩ : ∃ n,n = ((ubS E2 (nr0 E2) (toL (vS V2))).2).length := ⟨_,rfl⟩
        rw [← hnu]
        clear hnu hxc hggc
        generalize htu0 : Value.tuple _ = tu
        have htu := hide htu0
        clear htu0
        refine wpO_val rfl (run_move rfl rfl) ?_
        go_frame
        refine wpO_val rfl (run_extract (i := 0) (v := .int .i64 2) rfl (unhide htu).symm rfl) ?_
        go_frame
        refine wpO_val rfl (run_extract (i := 1) (v := .slice Aw nu2 cw) rfl (unhide htu).symm rfl) ?_
        go_frame
        iterate 2
         refine wpO_want rfl ?_
         go_simp
        refine wpO_done ?_
        try go_frame
        clear htu
        have hwn0 := unhide hwn
        have hbq : (((nn : Int) - 1) == ((nn : Int) - 1)) = true := beq_self_eq_true _
        try dsimp only
        repeat ((fail_if_success (with_reducible refine wp_reg (id := 32) ?_)); (first | go_values | go_skip | go_step | go_guarded | go_upon | go_in | go_back | fail))
        with_reducible refine wp_reg (id := 32) ?_
        iterate 6
         refine wpO_want rfl ?_
         go_simp
        refine wpO_want rfl ?_
        go_simp
        have hca := lower_any (some ⟨gb,0,none⟩) V1 E1 y8 (GL.of (unhide hggb)) (unhide hgi2) ((unhide hT').ext (unhide hP).extf)
        rw [unhide hal] at hca
        refine hca.mono ?_
        clear hca
        rintro _ y9 ⟨rfl,hxc⟩
        refine ⟨_,rfl, ?_⟩
        replace hP : Hid (Sp w [] w [] [] [] y9) := hide ((unhide hP).ext hxc)
        replace hggb := hide ((unhide hggb).ext hxc)
        clear hxc
        iterate 10
         refine wpO_want rfl ?_
         go_simp
        refine wpO_want rfl ?_
        go_simp
        have hca := unhide hrg y9 (by have := unhide hnb; omega) (by have := unhide hnb; omega)
        refine hca.mono ?_
        clear hca
        rintro _ y10 ⟨gd,bvgd,begd,rfl,hg0,hxc⟩
        try dsimp only at hg0
        refine ⟨_,rfl, ?_⟩
        replace hP : Hid (Sp w [] w [] [] [] y10) := hide ((unhide hP).ext hxc)
        replace hggb := hide ((unhide hggb).ext hxc)
        have hggd := hide hg0
        clear hxc hg0
        refine wpO_want rfl ?_
        go_simp
        have hca := lower_any (some ⟨gd,0,none⟩) V2 E2 y10 (GL.of (unhide hggd)) (unhide hgi3) ((unhide hT').ext (unhide hP).extf)
        rw [unhide hrl] at hca
        refine hca.mono ?_
        clear hca
        rintro _ y11 ⟨rfl,hxc⟩
        refine ⟨_,rfl, ?_⟩
        replace hP : Hid (Sp w [] w [] [] [] y11) := hide ((unhide hP).ext hxc)
        replace hggd := hide ((unhide hggd).ext hxc)
        clear hxc
        iterate 3
         refine wpO_want rfl ?_
         go_simp
        refine wpO_done ?_
        try go_frame
        clear hwn0 hbq
        go_wp2_with fail
        refine Sp.leaves0 ?_
        exact ⟨_,results_tmp rfl _ _ _,rfl,(unhide hP).extf⟩
     ·skip
      have heI : ¬ (ne : Int) > 0 := by omega
      have htw := hide (show trW nt ne = 0 by unfold trW; rw [if_neg he0,if_pos hn0])
      try dsimp only
      repeat ((fail_if_success (with_reducible refine wp_reg (id := 15) ?_)); (first | go_values | go_skip | go_step | go_guarded | go_upon | go_in | go_back | fail))
      with_reducible refine wp_reg (id := 15) ?_
      iterate 2
       refine wpO_want rfl ?_
       go_simp
      refine wpO_done ?_
      try go_frame
      clear hnI heI hn0 he0
      have hub := unhide hub'
      have hlb := unhide hlb'
      have hc : trW nt ne = 0 := unhide htw
      rw [hc] at hub hlb
      replace hub := hide hub
      replace hlb := hide hlb
      clear hc
      try dsimp only
      repeat ((fail_if_success (with_reducible refine wp_reg (id := 17) ?_)); (first | go_values | go_skip | go_step | go_guarded | go_upon | go_in | go_back | fail))
      with_reducible refine wp_reg (id := 17) ?_
      refine wpO_want rfl ?_
      go_simp
      refine wpO_want rfl ?_
      go_simp
      have hca := upper_any (some ⟨ga,0,none⟩) V E wr (GL.of (unhide hgga)) (unhide hgi) ((unhide hT').ext (unhide hP).extf)
      rw [unhide hub] at hca
      refine hca.mono ?_
      clear hca
      rintro _ y3 ⟨Au,cu,rfl,_,hxc⟩
      refine ⟨_,rfl, ?_⟩
      replace hP : Hid (Sp w [] w [] [] [] y3) := hide ((unhide hP).ext hxc)
      replace hgga := hide ((unhide hgga).ext hxc)
      obtain ⟨nu,hnu⟩ : ∃ n,n = ((ubS E (nr0 E) (toL (vS V))).2).length := ⟨_,rfl⟩
      rw [← hnu]
      clear hnu hxc
      generalize htu0 : Value.tuple _ = tu
      have htu := hide htu0
      clear htu0
      refine wpO_val rfl (run_move rfl rfl) ?_
      go_frame
      refine wpO_val rfl (run_extract (i := 0) (v := .int .i64 0) rfl (unhide htu).symm rfl) ?_
      go_frame
      refine wpO_val rfl (run_extract (i := 1) (v := .slice Au nu cu) rfl (unhide htu).symm rfl) ?_
      go_frame
      iterate 2
       refine wpO_want rfl ?_
       go_simp
      refine wpO_done ?_
      try go_frame
      clear htu
      try dsimp only
      repeat ((fail_if_success (with_reducible refine wp_reg (id := 18) ?_)); (first | go_values | go_skip | go_step | go_guarded | go_upon | go_in | go_back | fail))
      with_reducible refine wp_reg (id := 18) ?_
      iterate 5
       refine wpO_want rfl ?_
       go_simp
      refine wpO_want rfl ?_
      go_simp
      have hca := lower_any (some ⟨ga,0,none⟩) V E y3 (GL.of (unhide hgga)) (unhide hgi) ((unhide hT').ext (unhide hP).extf)
      rw [unhide hlb] at hca
      refine hca.mono ?_
      clear hca
      rintro _ y4 ⟨rfl,hxc⟩
      refine ⟨_,rfl, ?_⟩
      replace hP : Hid (Sp w [] w [] [] [] y4) := hide ((unhide hP).ext hxc)
      replace hgga := hide ((unhide hgga).ext hxc)
      clear hxc
      iterate 3
       refine wpO_want rfl ?_
       go_simp
      refine wpO_done ?_
      try go_frame
      try dsimp only
      repeat ((fail_if_success (with_reducible refine wp_reg (id := 20) ?_)); (first | go_values | go_skip | go_step | go_guarded | go_upon | go_in | go_back | fail))
      with_reducible refine wp_reg (id := 20) ?_
      refine wpO_want rfl ?_
      go_simp
      refine wpO_val (v := .int .u8 (n10 : Nat)) (w' := y4) rfl (by go_simp; first | done | (rw [unhide htm]) | (rw [unhide htm,unhide hw8]) | simp [unhide htm,unhide hw8]) ?_
      go_frame
      refine wpO_val (v := .int .i64 (n10 : Nat)) (w' := y4) rfl (by go_simp; first | done | (rw [unhide hw64]) | simp [unhide hw64]) ?_
      go_frame
      refine wpO_val (v := .int .i64 (nn : Nat)) (w' := y4) rfl (by go_simp; first | done | (rw [unhide hw3]) | simp [unhide hw3]) ?_
      go_frame
      refine wpO_want rfl ?_
      go_simp
      refine wpO_done ?_
      try go_frame
      clear hgga
      try dsimp only
      repeat ((fail_if_success (with_reducible refine wp_reg (id := 21) ?_)); (first | go_values | go_skip | go_step | go_guarded | go_upon | go_in | go_back | fail))
      with_reducible refine wp_reg (id := 21) ?_
      refine wpO_want rfl ?_
      go_simp
      refine (new_rel y4).mono ?_
      rintro _ y5 ⟨gb,bvgb,begb,rfl,hg0,hxc,_,hb1,hb2⟩
      refine ⟨_,rfl, ?_⟩
      have hbbgb := hide (And.intro (Nat.le_trans (unhide hP).size hb1) (Nat.le_trans (unhide hP).size hb2))
      replace hP : Hid (Sp w [] w [] [] [] y5) := hide ((unhide hP).ext hxc)
      have hggb := hide hg0
      clear hxc hg0 hb1 hb2
      refine wpO_want rfl ?_
      go_simp
      refine wpO_done ?_
      try go_frame
      go_wp2_with fail
      obtain ⟨I5_12,hI5_120⟩ : ∃ I : Nat → Act → World → Prop,I = fun fi a' wr => ∃ (i : Nat),a'.tmps.size = 135 ∧ a'.tmps.getD 11 undef = .int .i64 (nn : Nat) ∧ a'.tmps.getD 12 undef = .pointer (some ⟨gb,0,none⟩) ∧ a'.tmps.getD 13 undef = .int .i64 (i : Nat) ∧ a'.defers = [] ∧ i ≤ nn ∧ IsG wr gb bvgb begb (alG i).1 (alG i).2 ∧ Sp w [] w [] [] [] wr ∧ fi = nn - i := ⟨_,rfl⟩
      have hI5_12 := hide hI5_120
      clear hI5_120
      refine wp_loop_ix I5_12 (nn - 0) ?_ ?_
      ·rw [unhide hI5_12]; exact ⟨0,rfl,rfl,rfl,rfl,rfl,Nat.zero_le _,unhide hggb,unhide hP,rfl⟩
      ·rintro fi ⟨tm,dfs⟩ wr hrel
       rw [unhide hI5_12] at hrel
       obtain ⟨i,hsz,e11,e12,e13,hdf,hin,hgr,hPr,hfm⟩ := hrel
       obtain ⟨us,rfl⟩ : ∃ us : Nat → Value,tm = #[us 0,us 1,us 2,us 3,us 4,us 5,us 6,us 7,us 8,us 9,us 10,us 11,us 12,us 13,us 14,us 15,us 16,us 17,us 18,us 19,us 20,us 21,us 22,us 23,us 24,us 25,us 26,us 27,us 28,us 29,us 30,us 31,us 32,us 33,us 34,us 35,us 36,us 37,us 38,us 39,us 40,us 41,us 42,us 43,us 44,us 45,us 46,us 47,us 48,us 49,us 50,us 51,us 52,us 53,us 54,us 55,us 56,us 57,us 58,us 59,us 60,us 61,us 62,us 63,us 64,us 65,us 66,us 67,us 68,us 69,us 70,us 71,us 72,us 73,us 74,us 75,us 76,us 77,us 78,us 79,us 80,us 81,us 82,us 83,us 84,us 85,us 86,us 87,us 88,us 89,us 90,us 91,us 92,us 93,us 94,us 95,us 96,us 97,us 98,us 99,us 100,us 101,us 102,us 103,us 104,us 105,us 106,us 107,us 108,us 109,us 110,us 111,us 112,us 113,us 114,us 115,us 116,us 117,us 118,us 119,us 120,us 121,us 122,us 123,us 124,us 125,us 126,us 127,us 128,us 129,us 130,us 131,us 132,us 133,us 134] := ⟨fun i => tm.getD i undef,arr_fn hsz⟩
       have h11 : us 11 = .int .i64 (nn : Nat) := e11
       have h12 : us 12 = .pointer (some ⟨gb,0,none⟩) := e12
       have h13 : us 13 = .int .i64 (i : Nat) := e13
       have hdf2 : dfs = [] := hdf
       subst hdf2
       clear hdf hsz e11 e12 e13
       simp only [h11,h12,h13]
       clear h11 h12 h13
       clear hP hggb
       have hP := hide hPr
       have hggb := hide hgr
       have hfm' := hide hfm
       clear hPr hgr hfm
       by_cases hlt : i < nn
       ·have hil : (i : Int) < (nn : Int) := by omega
        have hk2 := hide hlt
        have hkb : (i : Int) ≤ 12 := by have := unhide hnb; omega
        obtain ⟨S0,hS0⟩ : ∃ S0,S0 = alG i := ⟨_,rfl⟩
        rw [← hS0] at hggb
        have hS0' := hide hS0
        obtain ⟨V0,E0⟩ := S0
        dsimp only at hggb
        clear hlt hin hS0
        try dsimp only
        repeat ((fail_if_success (with_reducible refine wp_reg (id := 23) ?_)); (first | go_values | go_skip | go_step | go_guarded | go_upon | go_in | go_back | fail))
        with_reducible refine wp_reg (id := 23) ?_
        iterate 3
         refine wpO_want rfl ?_
         go_simp
        refine wpO_done ?_
        try go_frame
        try dsimp only
        repeat ((fail_if_success (with_reducible refine wp_reg (id := 25) ?_)); (first | go_values | go_skip | go_step | go_guarded | go_upon | go_in | go_back | fail))
        with_reducible refine wp_reg (id := 25) ?_
        iterate 3
         refine wpO_want rfl ?_
         go_simp
        refine wpO_want rfl ?_
        go_simp
        have hca := apply_any gb bvgb begb V0 E0 (0) ((i : Int)) (0) (0) (0) wr (unhide hggb) (by unfold i64ok; omega) (by unfold i64ok; omega)
        refine hca.mono ?_
        clear hca
        rintro _ y6 ⟨rfl,hg2,hk⟩
        refine ⟨_,rfl, ?_⟩
        replace hP : Hid (Sp w [] w [] [] [] y6) := hide (Sp.fresh (ext_turn (unhide hP).extf hk (unhide hbbgb)))
        obtain ⟨V1,hV1⟩ : ∃ x,x = nxV (0) ((i : Int)) (0) (0) (0) V0 E0 := ⟨_,rfl⟩
        obtain ⟨E1,hE1⟩ : ∃ x,x = nxE (0) ((i : Int)) (0) (0) (0) V0 E0 := ⟨_,rfl⟩
        rw [← hV1, ← hE1] at hg2
        have hV1' := hide hV1
        have hE1' := hide hE1
        replace hggb := hide hg2
        clear hg2 hk hV1 hE1
        refine wpO_done ?_
        try go_frame
        have hgz := hide (show IsG y6 gb bvgb begb (alB i 0).1 (alB i 0).2 by rw [alB_zero, ← unhide hS0',st_rg1, ← unhide hV1', ← unhide hE1']; exact unhide hggb)
        clear hggb hV1' hE1' hS0'
        try dsimp only
        repeat ((fail_if_success (with_reducible refine wp_reg (id := 26) ?_)); (first | go_values | go_skip | go_step | go_guarded | go_upon | go_in | go_back | fail))
        with_reducible refine wp_reg (id := 26) ?_
        refine wpO_want rfl ?_
        go_simp
        refine wpO_done ?_
        try go_frame
        go_wp2_with fail
        obtain ⟨I6_16,hI6_160⟩ : ∃ I : Nat → Act → World → Prop,I = fun fk a' wr => ∃ (k : Nat),a'.tmps.size = 135 ∧ a'.tmps.getD 11 undef = .int .i64 (nn : Nat) ∧ a'.tmps.getD 12 undef = .pointer (some ⟨gb,0,none⟩) ∧ a'.tmps.getD 13 undef = .int .i64 (i : Nat) ∧ a'.tmps.getD 14 undef = .int .i64 (k : Nat) ∧ a'.defers = [] ∧ k ≤ i ∧ IsG wr gb bvgb begb (alB i k).1 (alB i k).2 ∧ Sp w [] w [] [] [] wr ∧ fk = i - k := ⟨_,rfl⟩
        have hI6_16 := hide hI6_160
        clear hI6_160
        refine wp_loop_ix I6_16 (i - 0) ?_ ?_
        ·rw [unhide hI6_16]; exact ⟨0,rfl,rfl,rfl,rfl,rfl,rfl,Nat.zero_le _,unhide hgz,unhide hP,rfl⟩
        ·rintro fk ⟨tm,dfs⟩ wr hrel
         rw [unhide hI6_16] at hrel
         obtain ⟨k,hsz,e11,e12,e13,e14,hdf,hki,hgr,hPr,hfk⟩ := hrel
         obtain ⟨us,rfl⟩ : ∃ us : Nat → Value,tm = #[us 0,us 1,us 2,us 3,us 4,us 5,us 6,us 7,us 8,us 9,us 10,us 11,us 12,us 13,us 14,us 15,us 16,us 17,us 18,us 19,us 20,us 21,us 22,us 23,us 24,us 25,us 26,us 27,us 28,us 29,us 30,us 31,us 32,us 33,us 34,us 35,us 36,us 37,us 38,us 39,us 40,us 41,us 42,us 43,us 44,us 45,us 46,us 47,us 48,us 49,us 50,us 51,us 52,us 53,us 54,us 55,us 56,us 57,us 58,us 59,us 60,us 61,us 62,us 63,us 64,us 65,us 66,us 67,us 68,us 69,us 70,us 71,us 72,us 73,us 74,us 75,us 76,us 77,us 78,us 79,us 80,us 81,us 82,us 83,us 84,us 85,us 86,us 87,us 88,us 89,us 90,us 91,us 92,us 93,us 94,us 95,us 96,us 97,us 98,us 99,us 100,us 101,us 102,us 103,us 104,us 105,us 106,us 107,us 108,us 109,us 110,us 111,us 112,us 113,us 114,us 115,us 116,us 117,us 118,us 119,us 120,us 121,us 122,us 123,us 124,us 125,us 126,us 127,us 128,us 129,us 130,us 131,us 132,us 133,us 134] := ⟨fun i => tm.getD i undef,arr_fn hsz⟩
         have h11 : us 11 = .int .i64 (nn : Nat) := e11
         have h12 : us 12 = .pointer (some ⟨gb,0,none⟩) := e12
         have h13 : us 13 = .int .i64 (i : Nat) := e13
         have h14 : us 14 = .int .i64 (k : Nat) := e14
         have hdf2 : dfs = [] := hdf
         subst hdf2
         clear hdf hsz e11 e12 e13 e14
         simp only [h11,h12,h13,h14]
         clear h11 h12 h13 h14
         clear hP hgz
         have hP := hide hPr
         have hggb := hide hgr
         have hfk' := hide hfk
         clear hPr hgr hfk
         by_cases hlt : k < i
         ·have hkl : (k : Int) < (i : Int) := by omega
          have hk3 := hide hlt
          obtain ⟨S0,hS0⟩ : ∃ S0,S0 = alB i k := ⟨_,rfl⟩
          rw [← hS0] at hggb
          have hS0' := hide hS0
          obtain ⟨V0,E0⟩ := S0
          dsimp only at hggb
          clear hlt hki hS0
          try dsimp only
          repeat ((fail_if_success (with_reducible refine wp_reg (id := 27) ?_)); (first | go_values | go_skip | go_step | go_guarded | go_upon | go_in | go_back | fail))
          with_reducible refine wp_reg (id := 27) ?_
          iterate 3
           refine wpO_want rfl ?_
           go_simp
          refine wpO_done ?_
          try go_frame
          try dsimp only
          repeat ((fail_if_success (with_reducible refine wp_reg (id := 29) ?_)); (first | go_values | go_skip | go_step | go_guarded | go_upon | go_in | go_back | fail))
          with_reducible refine wp_reg (id := 29) ?_
          iterate 4
           refine wpO_want rfl ?_
           go_simp
          refine wpO_want rfl ?_
          go_simp
          have hca := apply_any gb bvgb begb V0 E0 (2) ((i : Int)) ((k : Int)) (0) (0) wr (unhide hggb) (by unfold i64ok; omega) (by unfold i64ok; omega)
          refine hca.mono ?_
          clear hca
          rintro _ y7 ⟨rfl,hg2,hk⟩
          refine ⟨_,rfl, ?_⟩
          replace hP : Hid (Sp w [] w [] [] [] y7) := hide (Sp.fresh (ext_turn (unhide hP).extf hk (unhide hbbgb)))
          obtain ⟨V1,hV1⟩ : ∃ x,x = nxV (2) ((i : Int)) ((k : Int)) (0) (0) V0 E0 := ⟨_,rfl⟩
          obtain ⟨E1,hE1⟩ : ∃ x,x = nxE (2) ((i : Int)) ((k : Int)) (0) (0) V0 E0 := ⟨_,rfl⟩
          rw [← hV1, ← hE1] at hg2
          have hV1' := hide hV1
          have hE1' := hide hE1
          replace hggb := hide hg2
          clear hg2 hk hV1 hE1
          refine wpO_done ?_
          try go_frame
          have hnx := hide (show alB i (k + 1) = (V1,E1) by rw [alB_next, ← unhide hS0',st_al2,unhide hV1',unhide hE1'])
          have hw1 : IntKind.i64.wrap ((k : Int) + 1) = (k : Int) + 1 := IntWalk.i64_in _ (by omega)
          go_wp2_with fail
          have h3 := unhide hk3
          refine ⟨i - (k + 1), ?_,by have := unhide hfk'; omega⟩
          rw [unhide hI6_16]
          exact ⟨k + 1,(by first | rfl | trivial),(by first | rfl | trivial),(by first | rfl | trivial),(by first | rfl | trivial),(by first | rfl | (show _ = Value.int _ _; go_num) | go_num),(by first | rfl | trivial),by omega,by rw [unhide hnx]; exact unhide hggb,unhide hP,rfl⟩
         ·have hkl : ¬ (k : Int) < (i : Int) := by omega
          obtain rfl : i = k := by omega
          have hgn := hide (show IsG wr gb bvgb begb (alG (i + 1)).1 (alG (i + 1)).2 by rw [alG_next]; exact unhide hggb)
          clear hlt hki hfk' hggb
          try dsimp only
          repeat ((fail_if_success (with_reducible refine wp_reg (id := 27) ?_)); (first | go_values | go_skip | go_step | go_guarded | go_upon | go_in | go_back | fail))
          with_reducible refine wp_reg (id := 27) ?_
          iterate 3
           refine wpO_want rfl ?_
           go_simp
          refine wpO_done ?_
          try go_frame
          have hw1 : IntKind.i64.wrap ((i : Int) + 1) = (i : Int) + 1 := IntWalk.i64_in _ (by omega)
          go_wp2_with fail
          have h3 := unhide hk2
          refine ⟨nn - (i + 1), ?_,by have := unhide hfm'; omega⟩
          rw [unhide hI5_12]
          exact ⟨i + 1,(by first | rfl | trivial),(by first | rfl | trivial),(by first | rfl | trivial),(by first | rfl | (show _ = Value.int _ _; go_num) | go_num),(by first | rfl | trivial),by omega,unhide hgn,unhide hP,rfl⟩
       ·have hil : ¬ (i : Int) < (nn : Int) := by omega
        obtain rfl : nn = i := by omega
        have hwn := hide (show IntKind.i64.wrap ((nn : Int) - 1) = (nn : Int) - 1 from IntWalk.i64_in _ (by have := unhide hnb; omega))
        have hgi2 := hide (alG_inv nn)
        have hgi3 := hide (rgG_inv nn)
        obtain ⟨S1,hS1⟩ : ∃ S1,S1 = alG nn := ⟨_,rfl⟩
        obtain ⟨S2,hS2⟩ : ∃ S2,S2 = ringG nn := ⟨_,rfl⟩
        have hrg := hide (fun (W : World) (h1 : 1 ≤ nn) (h2 : nn ≤ 1000) => ring_any nn W h1 h2)
        rw [← hS1] at hgi2 hggb hal hau
        rw [← hS2] at hgi3 hrl hru hrg
        obtain ⟨V1,E1⟩ := S1
        obtain ⟨V2,E2⟩ := S2
        dsimp only at hgi2 hgi3 hggb hal hau hrl hru
        clear hlt hin hfm' hS1 hS2
        try dsimp only
        repeat ((fail_if_success (with_reducible refine wp_reg (id := 23) ?_)); (first | go_values | go_skip | go_step | go_guarded | go_upon | go_in | go_back | fail))
        with_reducible refine wp_reg (id := 23) ?_
        iterate 3
         refine wpO_want rfl ?_
         go_simp
        refine wpO_done ?_
        try go_frame
        try dsimp only
        repeat ((fail_if_success (with_reducible refine wp_reg (id := 30) ?_)); (first | go_values | go_skip | go_step | go_guarded | go_upon | go_in | go_back | fail))
        with_reducible refine wp_reg (id := 30) ?_
        refine wpO_want rfl ?_
        go_simp
        refine wpO_want rfl ?_
        go_simp
        have hca := upper_any (some ⟨gb,0,none⟩) V1 E1 wr (GL.of (unhide hggb)) (unhide hgi2) ((unhide hT').ext (unhide hP).extf)
        rw [unhide hau] at hca
        refine hca.mono ?_
        clear hca
        rintro _ y6 ⟨Au,cu,rfl,_,hxc⟩
        refine ⟨_,rfl, ?_⟩
        replace hP : Hid (Sp w [] w [] [] [] y6) := hide ((unhide hP).ext hxc)
        replace hggb := hide ((unhide hggb).ext hxc)
        obtain ⟨nu,hnu⟩ : ∃ n,n = ((ubS E1 (nr0 E1) (toL (vS V1))).2).length := ⟨_,rfl⟩
        rw [← hnu]
        clear hnu hxc
        generalize htu0 : Value.tuple _ = tu
        have htu := hide htu0
        clear htu0
        refine wpO_val rfl (run_move rfl rfl) ?_
        go_frame
        refine wpO_val rfl (run_extract (i := 0) (v := .int .i64 ((nn : Int) - 1)) rfl (unhide htu).symm rfl) ?_
        go_frame
        refine wpO_val rfl (run_extract (i := 1) (v := .slice Au nu cu) rfl (unhide htu).symm rfl) ?_
        go_frame
        iterate 2
         refine wpO_want rfl ?_
         go_simp
        refine wpO_done ?_
        try go_frame
        clear htu
        try dsimp only
        repeat ((fail_if_success (with_reducible refine wp_reg (id := 31) ?_)); (first | go_values | go_skip | go_step | go_guarded | go_upon | go_in | go_back | fail))
        with_reducible refine wp_reg (id := 31) ?_
        refine wpO_want rfl ?_
        go_simp
        refine wpO_want rfl ?_
        go_simp
        have hca := unhide hrg y6 (by have := unhide hnb; omega) (by have := unhide hnb; omega)
        refine hca.mono ?_
        clear hca
        rintro _ y7 ⟨gc,bvgc,begc,rfl,hg0,hxc⟩
        try dsimp only at hg0
        refine ⟨_,rfl, ?_⟩
        replace hP : Hid (Sp w [] w [] [] [] y7) := hide ((unhide hP).ext hxc)
        replace hggb := hide ((unhide hggb).ext hxc)
        have hggc := hide hg0
        clear hxc hg0
        refine wpO_want rfl ?_
        go_simp
        have hca := upper_any (some ⟨gc,0,none⟩) V2 E2 y7 (GL.of (unhide hggc)) (unhide hgi3) ((unhide hT').ext (unhide hP).extf)
        rw [unhide hru] at hca
        refine hca.mono ?_
        clear hca
        rintro _ y8 ⟨Aw,cw,rfl,_,hxc⟩
        refine ⟨_,rfl, ?_⟩
        replace hP : Hid (Sp w [] w [] [] [] y8) := hide ((unhide hP).ext hxc)
        replace hggb := hide ((unhide hggb).ext hxc)
        obtain ⟨nu2,hnu⟩ : ∃ n,n = ((ubS E2 (nr0 E2) (toL (vS V2))).2).length := ⟨_,rfl⟩
        rw [← hnu]
        clear hnu hxc hggc
        generalize htu0 : Value.tuple _ = tu
        have htu := hide htu0
        clear htu0
        refine wpO_val rfl (run_move rfl rfl) ?_
        go_frame
        refine wpO_val rfl (run_extract (i := 0) (v := .int .i64 2) rfl (unhide htu).symm rfl) ?_
        go_frame
        refine wpO_val rfl (run_extract (i := 1) (v := .slice Aw nu2 cw) rfl (unhide htu).symm rfl) ?_
        go_frame
        iterate 2
         refine wpO_want rfl ?_
         go_simp
        refine wpO_done ?_
        try go_frame
        clear htu
        have hwn0 := unhide hwn
        have hbq : (((nn : Int) - 1) == ((nn : Int) - 1)) = true := beq_self_eq_true _
        try dsimp only
        repeat ((fail_if_success (with_reducible refine wp_reg (id := 32) ?_)); (first | go_values | go_skip | go_step | go_guarded | go_upon | go_in | go_back | fail))
        with_reducible refine wp_reg (id := 32) ?_
        iterate 6
         refine wpO_want rfl ?_
         go_simp
        refine wpO_want rfl ?_
        go_simp
        have hca := lower_any (some ⟨gb,0,none⟩) V1 E1 y8 (GL.of (unhide hggb)) (unhide hgi2) ((unhide hT').ext (unhide hP).extf)
        rw [unhide hal] at hca
        refine hca.mono ?_
        clear hca
        rintro _ y9 ⟨rfl,hxc⟩
        refine ⟨_,rfl, ?_⟩
        replace hP : Hid (Sp w [] w [] [] [] y9) := hide ((unhide hP).ext hxc)
        replace hggb := hide ((unhide hggb).ext hxc)
        clear hxc
        iterate 10
         refine wpO_want rfl ?_
         go_simp
        refine wpO_want rfl ?_
        go_simp
        have hca := unhide hrg y9 (by have := unhide hnb; omega) (by have := unhide hnb; omega)
        refine hca.mono ?_
        clear hca
        rintro _ y10 ⟨gd,bvgd,begd,rfl,hg0,hxc⟩
        try dsimp only at hg0
        refine ⟨_,rfl, ?_⟩
        replace hP : Hid (Sp w [] w [] [] [] y10) := hide ((unhide hP).ext hxc)
        replace hggb := hide ((unhide hggb).ext hxc)
        have hggd := hide hg0
        clear hxc hg0
        refine wpO_want rfl ?_
        go_simp
        have hca := lower_any (some ⟨gd,0,none⟩) V2 E2 y10 (GL.of (unhide hggd)) (unhide hgi3) ((unhide hT').ext (unhide hP).extf)
        rw [unhide hrl] at hca
        refine hca.mono ?_
        clear hca
        rintro _ y11 ⟨rfl,hxc⟩
        refine ⟨_,rfl, ?_⟩
        replace hP : Hid (Sp w [] w [] [] [] y11) := hide ((unhide hP).ext hxc)
        replace hggd := hide ((unhide hggd).ext hxc)
        clear hxc
        iterate 3
         refine wpO_want rfl ?_
         go_simp
        refine wpO_done ?_
        try go_frame
        clear hwn0 hbq
        go_wp2_with fail
        refine Sp.leaves0 ?_
        exact ⟨_,results_tmp rfl _ _ _,rfl,(unhide hP).extf⟩
    ·skip
     have he0 : ¬ 0 < ne := by have := unhide hnl'; omega
     have hnI : ¬ (nt : Int) > 0 := by omega
     have heI : ¬ (ne : Int) > 0 := by omega
     have htw := hide (show trW nt ne = -1 by unfold trW; rw [if_neg he0,if_neg hn0])
     try dsimp only
     repeat ((fail_if_success (with_reducible refine wp_reg (id := 12) ?_)); (first | go_values | go_skip | go_step | go_guarded | go_upon | go_in | go_back | fail))
     with_reducible refine wp_reg (id := 12) ?_
     refine wpO_want rfl ?_
     go_simp
     refine wpO_done ?_
     try go_frame
     try dsimp only
     repeat ((fail_if_success (with_reducible refine wp_reg (id := 13) ?_)); (first | go_values | go_skip | go_step | go_guarded | go_upon | go_in | go_back | fail))
     with_reducible refine wp_reg (id := 13) ?_
     iterate 3
      refine wpO_want rfl ?_
      go_simp
     refine wpO_done ?_
     try go_frame
     try dsimp only
     repeat ((fail_if_success (with_reducible refine wp_reg (id := 15) ?_)); (first | go_values | go_skip | go_step | go_guarded | go_upon | go_in | go_back | fail))
     with_reducible refine wp_reg (id := 15) ?_
     iterate 2
      refine wpO_want rfl ?_
      go_simp
     refine wpO_done ?_
     try go_frame
     clear hnI heI hn0 he0
     have hub := unhide hub'
     have hlb := unhide hlb'
     have hc : trW nt ne = (-1) := unhide htw
     rw [hc] at hub hlb
     replace hub := hide hub
     replace hlb := hide hlb
     clear hc
     try dsimp only
     repeat ((fail_if_success (with_reducible refine wp_reg (id := 17) ?_)); (first | go_values | go_skip | go_step | go_guarded | go_upon | go_in | go_back | fail))
     with_reducible refine wp_reg (id := 17) ?_
     refine wpO_want rfl ?_
     go_simp
     refine wpO_want rfl ?_
     go_simp
     have hca := upper_any (some ⟨ga,0,none⟩) V E wr (GL.of (unhide hgga)) (unhide hgi) ((unhide hT').ext (unhide hP).extf)
     rw [unhide hub] at hca
     refine hca.mono ?_
     clear hca
     rintro _ y3 ⟨Au,cu,rfl,_,hxc⟩
     refine ⟨_,rfl, ?_⟩
     replace hP : Hid (Sp w [] w [] [] [] y3) := hide ((unhide hP).ext hxc)
     replace hgga := hide ((unhide hgga).ext hxc)
     obtain ⟨nu,hnu⟩ : ∃ n,n = ((ubS E (nr0 E) (toL (vS V))).2).length := ⟨_,rfl⟩
     rw [← hnu]
     clear hnu hxc
     generalize htu0 : Value.tuple _ = tu
     have htu := hide htu0
     clear htu0
     refine wpO_val rfl (run_move rfl rfl) ?_
     go_frame
     refine wpO_val rfl (run_extract (i := 0) (v := .int .i64 (-1)) rfl (unhide htu).symm rfl) ?_
     go_frame
     refine wpO_val rfl (run_extract (i := 1) (v := .slice Au nu cu) rfl (unhide htu).symm rfl) ?_
     go_frame
     iterate 2
      refine wpO_want rfl ?_
      go_simp
     refine wpO_done ?_
     try go_frame
     clear htu
     try dsimp only
     repeat ((fail_if_success (with_reducible refine wp_reg (id := 18) ?_)); (first | go_values | go_skip | go_step | go_guarded | go_upon | go_in | go_back | fail))
     with_reducible refine wp_reg (id := 18) ?_
     iterate 5
      refine wpO_want rfl ?_
      go_simp
     refine wpO_want rfl ?_
     go_simp
     have hca := lower_any (some ⟨ga,0,none⟩) V E y3 (GL.of (unhide hgga)) (unhide hgi) ((unhide hT').ext (unhide hP).extf)
     rw [unhide hlb] at hca
     refine hca.mono ?_
     clear hca
     rintro _ y4 ⟨rfl,hxc⟩
     refine ⟨_,rfl, ?_⟩
     replace hP : Hid (Sp w [] w [] [] [] y4) := hide ((unhide hP).ext hxc)
     replace hgga := hide ((unhide hgga).ext hxc)
     clear hxc
     iterate 3
      refine wpO_want rfl ?_
      go_simp
     refine wpO_done ?_
     try go_frame
     try dsimp only
     repeat ((fail_if_success (with_reducible refine wp_reg (id := 20) ?_)); (first | go_values | go_skip | go_step | go_guarded | go_upon | go_in | go_back | fail))
     with_reducible refine wp_reg (id := 20) ?_
     refine wpO_want rfl ?_
     go_simp
     refine wpO_val (v := .int .u8 (n10 : Nat)) (w' := y4) rfl (by go_simp; first | done | (rw [unhide htm]) | (rw [unhide htm,unhide hw8]) | simp [unhide htm,unhide hw8]) ?_
     go_frame
     refine wpO_val (v := .int .i64 (n10 : Nat)) (w' := y4) rfl (by go_simp; first | done | (rw [unhide hw64]) | simp [unhide hw64]) ?_
     go_frame
     refine wpO_val (v := .int .i64 (nn : Nat)) (w' := y4) rfl (by go_simp; first | done | (rw [unhide hw3]) | simp [unhide hw3]) ?_
     go_frame
     refine wpO_want rfl ?_
     go_simp
     refine wpO_done ?_
     try go_frame
     clear hgga
     try dsimp only
     repeat ((fail_if_success (with_reducible refine wp_reg (id := 21) ?_)); (first | go_values | go_skip | go_step | go_guarded | go_upon | go_in | go_back | fail))
     with_reducible refine wp_reg (id := 21) ?_
     refine wpO_want rfl ?_
     go_simp
     refine (new_rel y4).mono ?_
     rintro _ y5 ⟨gb,bvgb,begb,rfl,hg0,hxc,_,hb1,hb2⟩
     refine ⟨_,rfl, ?_⟩
     have hbbgb := hide (And.intro (Nat.le_trans (unhide hP).size hb1) (Nat.le_trans (unhide hP).size hb2))
     replace hP : Hid (Sp w [] w [] [] [] y5) := hide ((unhide hP).ext hxc)
     have hggb := hide hg0
     clear hxc hg0 hb1 hb2
     refine wpO_want rfl ?_
     go_simp
     refine wpO_done ?_
     try go_frame
     go_wp2_with fail
     obtain ⟨I5_10,hI5_100⟩ : ∃ I : Nat → Act → World → Prop,I = fun fi a' wr => ∃ (i : Nat),a'.tmps.size = 135 ∧ a'.tmps.getD 11 undef = .int .i64 (nn : Nat) ∧ a'.tmps.getD 12 undef = .pointer (some ⟨gb,0,none⟩) ∧ a'.tmps.getD 13 undef = .int .i64 (i : Nat) ∧ a'.defers = [] ∧ i ≤ nn ∧ IsG wr gb bvgb begb (alG i).1 (alG i).2 ∧ Sp w [] w [] [] [] wr ∧ fi = nn - i := ⟨_,rfl⟩
     have hI5_10 := hide hI5_100
     clear hI5_100
     refine wp_loop_ix I5_10 (nn - 0) ?_ ?_
     ·rw [unhide hI5_10]; exact ⟨0,rfl,rfl,rfl,rfl,rfl,Nat.zero_le _,unhide hggb,unhide hP,rfl⟩
     ·rintro fi ⟨tm,dfs⟩ wr hrel
      rw [unhide hI5_10] at hrel
      obtain ⟨i,hsz,e11,e12,e13,hdf,hin,hgr,hPr,hfm⟩ := hrel
      obtain ⟨us,rfl⟩ : ∃ us : Nat → Value,tm = #[us 0,us 1,us 2,us 3,us 4,us 5,us 6,us 7,us 8,us 9,us 10,us 11,us 12,us 13,us 14,us 15,us 16,us 17,us 18,us 19,us 20,us 21,us 22,us 23,us 24,us 25,us 26,us 27,us 28,us 29,us 30,us 31,us 32,us 33,us 34,us 35,us 36,us 37,us 38,us 39,us 40,us 41,us 42,us 43,us 44,us 45,us 46,us 47,us 48,us 49,us 50,us 51,us 52,us 53,us 54,us 55,us 56,us 57,us 58,us 59,us 60,us 61,us 62,us 63,us 64,us 65,us 66,us 67,us 68,us 69,us 70,us 71,us 72,us 73,us 74,us 75,us 76,us 77,us 78,us 79,us 80,us 81,us 82,us 83,us 84,us 85,us 86,us 87,us 88,us 89,us 90,us 91,us 92,us 93,us 94,us 95,us 96,us 97,us 98,us 99,us 100,us 101,us 102,us 103,us 104,us 105,us 106,us 107,us 108,us 109,us 110,us 111,us 112,us 113,us 114,us 115,us 116,us 117,us 118,us 119,us 120,us 121,us 122,us 123,us 124,us 125,us 126,us 127,us 128,us 129,us 130,us 131,us 132,us 133,us 134] := ⟨fun i => tm.getD i undef,arr_fn hsz⟩
      have h11 : us 11 = .int .i64 (nn : Nat) := e11
      have h12 : us 12 = .pointer (some ⟨gb,0,none⟩) := e12
      have h13 : us 13 = .int .i64 (i : Nat) := e13
      have hdf2 : dfs = [] := hdf
      subst hdf2
      clear hdf hsz e11 e12 e13
      simp only [h11,h12,h13]
      clear h11 h12 h13
      clear hP hggb
      have hP := hide hPr
      have hggb := hide hgr
      have hfm' := hide hfm
      clear hPr hgr hfm
      by_cases hlt : i < nn
      ·have hil : (i : Int) < (nn : Int) := by omega
       have hk2 := hide hlt
       have hkb : (i : Int) ≤ 12 := by have := unhide hnb; omega
       obtain ⟨S0,hS0⟩ : ∃ S0,S0 = alG i := ⟨_,rfl⟩
       rw [← hS0] at hggb
       have hS0' := hide hS0
       obtain ⟨V0,E0⟩ := S0
       dsimp only at hggb
       clear hlt hin hS0
       try dsimp only
       repeat ((fail_if_success (with_reducible refine wp_reg (id := 23) ?_)); (first | go_values | go_skip | go_step | go_guarded | go_upon | go_in | go_back | fail))
       with_reducible refine wp_reg (id := 23) ?_
       iterate 3
        refine wpO_want rfl ?_
        go_simp
       refine wpO_done ?_
       try go_frame
       try dsimp only
       repeat ((fail_if_success (with_reducible refine wp_reg (id := 25) ?_)); (first | go_values | go_skip | go_step | go_guarded | go_upon | go_in | go_back | fail))
       with_reducible refine wp_reg (id := 25) ?_
       iterate 3
        refine wpO_want rfl ?_
        go_simp
       refine wpO_want rfl ?_
       go_simp
       have hca := apply_any gb bvgb begb V0 E0 (0) ((i : Int)) (0) (0) (0) wr (unhide hggb) (by unfold i64ok; omega) (by unfold i64ok; omega)
       refine hca.mono ?_
       clear hca
       rintro _ y6 ⟨rfl,hg2,hk⟩
       refine ⟨_,rfl, ?_⟩
       replace hP : Hid (Sp w [] w [] [] [] y6) := hide (Sp.fresh (ext_turn (unhide hP).extf hk (unhide hbbgb)))
       obtain ⟨V1,hV1⟩ : ∃ x,x = nxV (0) ((i : Int)) (0) (0) (0) V0 E0 := ⟨_,rfl⟩
       obtain ⟨E1,hE1⟩ : ∃ x,x = nxE (0) ((i : Int)) (0) (0) (0) V0 E0 := ⟨_,rfl⟩
       rw [← hV1, ← hE1] at hg2
       have hV1' := hide hV1
       have hE1' := hide hE1
       replace hggb := hide hg2
       clear hg2 hk hV1 hE1
       refine wpO_done ?_
       try go_frame
       have hgz := hide (show IsG y6 gb bvgb begb (alB i 0).1 (alB i 0).2 by rw [alB_zero, ← unhide hS0',st_rg1, ← unhide hV1', ← unhide hE1']; exact unhide hggb)
       clear hggb hV1' hE1' hS0'
       try dsimp only
       repeat ((fail_if_success (with_reducible refine wp_reg (id := 26) ?_)); (first | go_values | go_skip | go_step | go_guarded | go_upon | go_in | go_back | fail))
       with_reducible refine wp_reg (id := 26) ?_
       refine wpO_want rfl ?_
       go_simp
       refine wpO_done ?_
       try go_frame
       go_wp2_with fail
       obtain ⟨I6_14,hI6_140⟩ : ∃ I : Nat → Act → World → Prop,I = fun fk a' wr => ∃ (k : Nat),a'.tmps.size = 135 ∧ a'.tmps.getD 11 undef = .int .i64 (nn : Nat) ∧ a'.tmps.getD 12 undef = .pointer (some ⟨gb,0,none⟩) ∧ a'.tmps.getD 13 undef = .int .i64 (i : Nat) ∧ a'.tmps.getD 14 undef = .int .i64 (k : Nat) ∧ a'.defers = [] ∧ k ≤ i ∧ IsG wr gb bvgb begb (alB i k).1 (alB i k).2 ∧ Sp w [] w [] [] [] wr ∧ fk = i - k := ⟨_,rfl⟩
       have hI6_14 := hide hI6_140
       clear hI6_140
       refine wp_loop_ix I6_14 (i - 0) ?_ ?_
       ·rw [unhide hI6_14]; exact ⟨0,rfl,rfl,rfl,rfl,rfl,rfl,Nat.zero_le _,unhide hgz,unhide hP,rfl⟩
       ·rintro fk ⟨tm,dfs⟩ wr hrel
        rw [unhide hI6_14] at hrel
        obtain ⟨k,hsz,e11,e12,e13,e14,hdf,hki,hgr,hPr,hfk⟩ := hrel
        obtain ⟨us,rfl⟩ : ∃ us : Nat → Value,tm = #[us 0,us 1,us 2,us 3,us 4,us 5,us 6,us 7,us 8,us 9,us 10,us 11,us 12,us 13,us 14,us 15,us 16,us 17,us 18,us 19,us 20,us 21,us 22,us 23,us 24,us 25,us 26,us 27,us 28,us 29,us 30,us 31,us 32,us 33,us 34,us 35,us 36,us 37,us 38,us 39,us 40,us 41,us 42,us 43,us 44,us 45,us 46,us 47,us 48,us 49,us 50,us 51,us 52,us 53,us 54,us 55,us 56,us 57,us 58,us 59,us 60,us 61,us 62,us 63,us 64,us 65,us 66,us 67,us 68,us 69,us 70,us 71,us 72,us 73,us 74,us 75,us 76,us 77,us 78,us 79,us 80,us 81,us 82,us 83,us 84,us 85,us 86,us 87,us 88,us 89,us 90,us 91,us 92,us 93,us 94,us 95,us 96,us 97,us 98,us 99,us 100,us 101,us 102,us 103,us 104,us 105,us 106,us 107,us 108,us 109,us 110,us 111,us 112,us 113,us 114,us 115,us 116,us 117,us 118,us 119,us 120,us 121,us 122,us 123,us 124,us 125,us 126,us 127,us 128,us 129,us 130,us 131,us 132,us 133,us 134] := ⟨fun i => tm.getD i undef,arr_fn hsz⟩
        have h11 : us 11 = .int .i64 (nn : Nat) := e11
        have h12 : us 12 = .pointer (some ⟨gb,0,none⟩) := e12
        have h13 : us 13 = .int .i64 (i : Nat) := e13
        have h14 : us 14 = .int .i64 (k : Nat) := e14
        have hdf2 : dfs = [] := hdf
        subst hdf2
        clear hdf hsz e11 e12 e13 e14
        simp only [h11,h12,h13,h14]
        clear h11 h12 h13 h14
        clear hP hgz
        have hP := hide hPr
        have hggb := hide hgr
        have hfk' := hide hfk
        clear hPr hgr hfk
        by_cases hlt : k < i
        ·have hkl : (k : Int) < (i : Int) := by omega
         have hk3 := hide hlt
         obtain ⟨S0,hS0⟩ : ∃ S0,S0 = alB i k := ⟨_,rfl⟩
         rw [← hS0] at hggb
         have hS0' := hide hS0
         obtain ⟨V0,E0⟩ := S0
         dsimp only at hggb
         clear hlt hki hS0
         try dsimp only
         repeat ((fail_if_success (with_reducible refine wp_reg (id := 27) ?_)); (first | go_values | go_skip | go_step | go_guarded | go_upon | go_in | go_back | fail))
         with_reducible refine wp_reg (id := 27) ?_
         iterate 3
          refine wpO_want rfl ?_
          go_simp
         refine wpO_done ?_
         try go_frame
         try dsimp only
         repeat ((fail_if_success (with_reducible refine wp_reg (id := 29) ?_)); (first | go_values | go_skip | go_step | go_guarded | go_upon | go_in | go_back | fail))
         with_reducible refine wp_reg (id := 29) ?_
         iterate 4
          refine wpO_want rfl ?_
          go_simp
         refine wpO_want rfl ?_
         go_simp
         have hca := apply_any gb bvgb begb V0 E0 (2) ((i : Int)) ((k : Int)) (0) (0) wr (unhide hggb) (by unfold i64ok; omega) (by unfold i64ok; omega)
         refine hca.mono ?_
         clear hca
         rintro _ y7 ⟨rfl,hg2,hk⟩
         refine ⟨_,rfl, ?_⟩
         replace hP : Hid (Sp w [] w [] [] [] y7) := hide (Sp.fresh (ext_turn (unhide hP).extf hk (unhide hbbgb)))
         obtain ⟨V1,hV1⟩ : ∃ x,x = nxV (2) ((i : Int)) ((k : Int)) (0) (0) V0 E0 := ⟨_,rfl⟩
         obtain ⟨E1,hE1⟩ : ∃ x,x = nxE (2) ((i : Int)) ((k : Int)) (0) (0) V0 E0 := ⟨_,rfl⟩
         rw [← hV1, ← hE1] at hg2
         have hV1' := hide hV1
         have hE1' := hide hE1
         replace hggb := hide hg2
         clear hg2 hk hV1 hE1
         refine wpO_done ?_
         try go_frame
         have hnx := hide (show alB i (k + 1) = (V1,E1) by rw [alB_next, ← unhide hS0',st_al2,unhide hV1',unhide hE1'])
         have hw1 : IntKind.i64.wrap ((k : Int) + 1) = (k : Int) + 1 := IntWalk.i64_in _ (by omega)
         go_wp2_with fail
         have h3 := unhide hk3
         refine ⟨i - (k + 1), ?_,by have := unhide hfk'; omega⟩
         rw [unhide hI6_14]
         exact ⟨k + 1,(by first | rfl | trivial),(by first | rfl | trivial),(by first | rfl | trivial),(by first | rfl | trivial),(by first | rfl | (show _ = Value.int _ _; go_num) | go_num),(by first | rfl | trivial),by omega,by rw [unhide hnx]; exact unhide hggb,unhide hP,rfl⟩
        ·have hkl : ¬ (k : Int) < (i : Int) := by omega
         obtain rfl : i = k := by omega
         have hgn := hide (show IsG wr gb bvgb begb (alG (i + 1)).1 (alG (i + 1)).2 by rw [alG_next]; exact unhide hggb)
         clear hlt hki hfk' hggb
         try dsimp only
         repeat ((fail_if_success (with_reducible refine wp_reg (id := 27) ?_)); (first | go_values | go_skip | go_step | go_guarded | go_upon | go_in | go_back | fail))
         with_reducible refine wp_reg (id := 27) ?_
         iterate 3
          refine wpO_want rfl ?_
          go_simp
         refine wpO_done ?_
         try go_frame
         have hw1 : IntKind.i64.wrap ((i : Int) + 1) = (i : Int) + 1 := IntWalk.i64_in _ (by omega)
         go_wp2_with fail
         have h3 := unhide hk2
         refine ⟨nn - (i + 1), ?_,by have := unhide hfm'; omega⟩
         rw [unhide hI5_10]
         exact ⟨i + 1,(by first | rfl | trivial),(by first | rfl | trivial),(by first | rfl | trivial),(by first | rfl | (show _ = Value.int _ _; go_num) | go_num),(by first | rfl | trivial),by omega,unhide hgn,unhide hP,rfl⟩
      ·have hil : ¬ (i : Int) < (nn : Int) := by omega
       obtain rfl : nn = i := by omega
       have hwn := hide (show IntKind.i64.wrap ((nn : Int) - 1) = (nn : Int) - 1 from IntWalk.i64_in _ (by have := unhide hnb; omega))
       have hgi2 := hide (alG_inv nn)
       have hgi3 := hide (rgG_inv nn)
       obtain ⟨S1,hS1⟩ : ∃ S1,S1 = alG nn := ⟨_,rfl⟩
       obtain ⟨S2,hS2⟩ : ∃ S2,S2 = ringG nn := ⟨_,rfl⟩
       have hrg := hide (fun (W : World) (h1 : 1 ≤ nn) (h2 : nn ≤ 1000) => ring_any nn W h1 h2)
       rw [← hS1] at hgi2 hggb hal hau
       rw [← hS2] at hgi3 hrl hru hrg
       obtain ⟨V1,E1⟩ := S1
       obtain ⟨V2,E2⟩ := S2
       dsimp only at hgi2 hgi3 hggb hal hau hrl hru
       clear hlt hin hfm' hS1 hS2
       try dsimp only
       repeat ((fail_if_success (with_reducible refine wp_reg (id := 23) ?_)); (first | go_values | go_skip | go_step | go_guarded | go_upon | go_in | go_back | fail))
       with_reducible refine wp_reg (id := 23) ?_
       iterate 3
        refine wpO_want rfl ?_
        go_simp
       refine wpO_done ?_
       try go_frame
       try dsimp only
       repeat ((fail_if_success (with_reducible refine wp_reg (id := 30) ?_)); (first | go_values | go_skip | go_step | go_guarded | go_upon | go_in | go_back | fail))
       with_reducible refine wp_reg (id := 30) ?_
       refine wpO_want rfl ?_
       go_simp
       refine wpO_want rfl ?_
       go_simp
       have hca := upper_any (some ⟨gb,0,none⟩) V1 E1 wr (GL.of (unhide hggb)) (unhide hgi2) ((unhide hT').ext (unhide hP).extf)
       rw [unhide hau] at hca
       refine hca.mono ?_
       clear hca
       rintro _ y6 ⟨Au,cu,rfl,_,hxc⟩
       refine ⟨_,rfl, ?_⟩
       replace hP : Hid (Sp w [] w [] [] [] y6) := hide ((unhide hP).ext hxc)
       replace hggb := hide ((unhide hggb).ext hxc)
       obtain ⟨nu,hnu⟩ : ∃ n,n = ((ubS E1 (nr0 E1) (toL (vS V1))).2).length := ⟨_,rfl⟩
       rw [← hnu]
       clear hnu hxc
       generalize htu0 : Value.tuple _ = tu
       have htu := hide htu0
       clear htu0
       refine wpO_val rfl (run_move rfl rfl) ?_
       go_frame
       refine wpO_val rfl (run_extract (i := 0) (v := .int .i64 ((nn : Int) - 1)) rfl (unhide htu).symm rfl) ?_
       go_frame
       refine wpO_val rfl (run_extract (i := 1) (v := .slice Au nu cu) rfl (unhide htu).symm rfl) ?_
       go_frame
       iterate 2
        refine wpO_want rfl ?_
        go_simp
       refine wpO_done ?_
       try go_frame
       clear htu
       try dsimp only
       repeat ((fail_if_success (with_reducible refine wp_reg (id := 31) ?_)); (first | go_values | go_skip | go_step | go_guarded | go_upon | go_in | go_back | fail))
       with_reducible refine wp_reg (id := 31) ?_
       refine wpO_want rfl ?_
       go_simp
       refine wpO_want rfl ?_
       go_simp
       have hca := unhide hrg y6 (by have := unhide hnb; omega) (by have := unhide hnb; omega)
       refine hca.mono ?_
       clear hca
       rintro _ y7 ⟨gc,bvgc,begc,rfl,hg0,hxc⟩
       try dsimp only at hg0
       refine ⟨_,rfl, ?_⟩
       replace hP : Hid (Sp w [] w [] [] [] y7) := hide ((unhide hP).ext hxc)
       replace hggb := hide ((unhide hggb).ext hxc)
       have hggc := hide hg0
       clear hxc hg0
       refine wpO_want rfl ?_
       go_simp
       have hca := upper_any (some ⟨gc,0,none⟩) V2 E2 y7 (GL.of (unhide hggc)) (unhide hgi3) ((unhide hT').ext (unhide hP).extf)
       rw [unhide hru] at hca
       refine hca.mono ?_
       clear hca
       rintro _ y8 ⟨Aw,cw,rfl,_,hxc⟩
       refine ⟨_,rfl, ?_⟩
       replace hP : Hid (Sp w [] w [] [] [] y8) := hide ((unhide hP).ext hxc)
       replace hggb := hide ((unhide hggb).ext hxc)
       obtain ⟨nu2,hnu⟩ : ∃ n,n = ((ubS E2 (nr0 E2) (toL (vS V2))).2).length := ⟨_,rfl⟩
       rw [← hnu]
       clear hnu hxc hggc
       generalize htu0 : Value.tuple _ = tu
       have htu := hide htu0
       clear htu0
       refine wpO_val rfl (run_move rfl rfl) ?_
       go_frame
       refine wpO_val rfl (run_extract (i := 0) (v := .int .i64 2) rfl (unhide htu).symm rfl) ?_
       go_frame
       refine wpO_val rfl (run_extract (i := 1) (v := .slice Aw nu2 cw) rfl (unhide htu).symm rfl) ?_
       go_frame
       iterate 2
        refine wpO_want rfl ?_
        go_simp
       refine wpO_done ?_
       try go_frame
       clear htu
       have hwn0 := unhide hwn
       have hbq : (((nn : Int) - 1) == ((nn : Int) - 1)) = true := beq_self_eq_true _
       try dsimp only
       repeat ((fail_if_success (with_reducible refine wp_reg (id := 32) ?_)); (first | go_values | go_skip | go_step | go_guarded | go_upon | go_in | go_back | fail))
       with_reducible refine wp_reg (id := 32) ?_
       iterate 6
        refine wpO_want rfl ?_
        go_simp
       refine wpO_want rfl ?_
       go_simp
       have hca := lower_any (some ⟨gb,0,none⟩) V1 E1 y8 (GL.of (unhide hggb)) (unhide hgi2) ((unhide hT').ext (unhide hP).extf)
       rw [unhide hal] at hca
       refine hca.mono ?_
       clear hca
       rintro _ y9 ⟨rfl,hxc⟩
       refine ⟨_,rfl, ?_⟩
       replace hP : Hid (Sp w [] w [] [] [] y9) := hide ((unhide hP).ext hxc)
       replace hggb := hide ((unhide hggb).ext hxc)
       clear hxc
       iterate 10
        refine wpO_want rfl ?_
        go_simp
       refine wpO_want rfl ?_
       go_simp
       have hca := unhide hrg y9 (by have := unhide hnb; omega) (by have := unhide hnb; omega)
       refine hca.mono ?_
       clear hca
       rintro _ y10 ⟨gd,bvgd,begd,rfl,hg0,hxc⟩
       try dsimp only at hg0
       refine ⟨_,rfl, ?_⟩
       replace hP : Hid (Sp w [] w [] [] [] y10) := hide ((unhide hP).ext hxc)
       replace hggb := hide ((unhide hggb).ext hxc)
       have hggd := hide hg0
       clear hxc hg0
       refine wpO_want rfl ?_
       go_simp
       have hca := lower_any (some ⟨gd,0,none⟩) V2 E2 y10 (GL.of (unhide hggd)) (unhide hgi3) ((unhide hT').ext (unhide hP).extf)
       rw [unhide hrl] at hca
       refine hca.mono ?_
       clear hca
       rintro _ y11 ⟨rfl,hxc⟩
       refine ⟨_,rfl, ?_⟩
       replace hP : Hid (Sp w [] w [] [] [] y11) := hide ((unhide hP).ext hxc)
       replace hggd := hide ((unhide hggd).ext hxc)
       clear hxc
       iterate 3
        refine wpO_want rfl ?_
        go_simp
       refine wpO_done ?_
       try go_frame
       clear hwn0 hbq
       go_wp2_with fail
       refine Sp.leaves0 ?_
       exact ⟨_,results_tmp rfl _ _ _,rfl,(unhide hP).extf⟩
end Go.Proofs.YtoacpebmhbkmbaaGreatDoor
namespace Go.Proofs.YtoacpebmhbkmbaaGreatDoor
open Go Go.RowKit Go.ChangeShapes Go.WideShapes Go.Deep
section
variable {H : Type} {enc : TypeId × Value → H} {w : World} {base : Nat} {spare : Nat → Bool} {held : Bool} {fuel : Nat} {x : DataW H × List MemPlace} {a : Option Addr} {len cap : Nat}
theorem open_bytes (h : DataW.trod enc Tryz.prog w base spare held fuel 22 [.slice a len cap] = some x) : ∃ L : List Int,L.length = len ∧ SlAt encU8 1 w a L ∧ (∀ d ∈ L,0 ≤ d ∧ d < 256) ∧ len ≤ 9223372036854775807 ∧ len ≤ cap := by
 rcases open_slice Tryz.underlying22 h with h0 | ⟨a',len',cap',m,n,D,Pl,hcs,hb,hl,hm,hmm,hx,hi⟩
 ·have h0 := h0.1
  simp at h0
  obtain ⟨rfl,rfl,rfl⟩ := h0
  exact ⟨[],rfl,SlAt.nil,by simp,by omega,by omega⟩
 ·simp at hcs
  obtain ⟨rfl,rfl,rfl⟩ := hcs
  obtain ⟨L,h1,h2,h3⟩ := slAt_of (α := Int) (enc := encU8) (k := 1) (w := w) (a := a') (len := len) (p := fun d => 0 ≤ d ∧ d < 256) (fun x => ⟨_,rfl⟩) (fun i hil => by
   have hle : len ≤ m := by rw [hmm]; split <;> omega
   obtain ⟨cs',hc,ht'⟩ := hi i (by omega)
   obtain ⟨k,e,_,wk⟩ := DataW.trod_int Tryz.underlying5 ht'
   subst e
   obtain ⟨_,hcl,hat⟩ := World.cells?_some hc
   have hk : Tryz.prog.cellsOf 5 = 1 := by kernel_rfl
   refine ⟨k,fun j u hu => ?_,by have := Go.bounds_u8 wk; omega⟩
   match j,hu with
   | 0,hu =>
    simp [encU8] at hu
    subst hu
    have h0 := hat 0 (by rw [hk]; omega)
    rw [hk] at h0
    rw [Go.Deep.add_add] at h0
    simpa using h0)
  exact ⟨L,h1,h2,h3,by have := hm; unfold maxLen at this; omega,hl⟩
end
end Go.Proofs.YtoacpebmhbkmbaaGreatDoor
namespace Go.Proofs.YtoacpebmhbkmbaaGreatDoor.boundsExactFamiliesRow
open Go.ChangeShapes Go.WideShapes Go.ChangeAt Go.RowKit
set_option linter.unusedVariables false
theorem own : ownKnob Tryz.prog.godebug = none := by kernel_rfl
theorem laidOut : laidOutB Tryz.prog = true := by kernel_rfl
theorem door_met (os : Os) (args : Array Value) : laidMetH Tryz.prog laidL ((World.doorLaid Tryz.prog 400 os).forCall (fun _ _ => 0) ⟨#[],args,[]⟩).memory :=
 laidMetH_of_parts3 (fuel := 8) (laidMet_of_run' 8 (by kernel_rfl) (by kernel_rfl)) (by kernel_rfl) (by kernel_rfl)
set_option maxRecDepth 100000 in
theorem lifted (os : Os) (started : os.Started) (H : Type) (enc : TypeId × Value → H) :
  ReturnsInHanded {} Tryz.checked os 3 .any (fun w args => (Rows.boundsExactFamiliesSpec.pre enc Tryz.prog Tryz.f3 [] false w args ∧ laidMetH Tryz.prog laidL w) ∧ sizedMet enc Tryz.prog Tryz.f3 (OpenSpec.ofChange Rows.boundsExactFamiliesSpec) false w args)
   (Rows.boundsExactFamiliesSpec.post enc Tryz.prog Tryz.f3 false true false false) := by
 refine returnsInHanded_of_change_and (C := Tryz.checked) (X := fun w _ => laidMetH Tryz.prog laidL w) (fun _ _ _ hh h => h.of_heap hh) own started (by kernel_rfl) Tryz.func3
  (ChangeSpec.witness_shaped (enc := enc) (C := Tryz.checked) (os := os) (X := fun w _ => laidMetH Tryz.prog laidL w) false (World.doorLaid Tryz.prog 400 os) #[.slice none 0 0, .int .u8 0] 8 rfl (World.shaped_of_RefB (by kernel_rfl) (by kernel_rfl)) (by kernel_rfl) (by kernel_rfl) (by kernel_rfl) (door_met os _)) ?_
 intro W base args ds gs before hval0 hW _ _ hL _
 have hval : ∀ (j : Nat) t v,Tryz.f3.params[j]? = some t → args[j]? = some v → Value.okWide Tryz.prog W .any base t v := hval0
 have hW' := hW
 obtain ⟨p,q,hA0,hV,rfl,hfz,hnd⟩ := hW
 have hA : DataW.TrodAll enc Tryz.prog W 0 (fun _ => true) true Tryz.f3.params.toList args.toList ds p := hA0
 rw [Tryz.params3] at hA hval
 obtain ⟨v0,vs0,d0,ds0,p0,q0,hargs,rfl,rfl,h0,r0⟩ := trodAll_cons hA
 obtain ⟨v1,vs1,d1,ds1,p1,q1,rfl,rfl,rfl,h1,r1⟩ := trodAll_cons r0
 obtain ⟨rfl,rfl,rfl⟩ := trodAll_nil r1
 obtain rfl : args = #[v0,v1] := by cases args; simp_all
 obtain ⟨rfl,rfl⟩ := trodVars_none hV
 obtain ⟨a0,len0,cap0,rfl⟩ := okWide_slice Tryz.underlying22 (hval 0 22 v0 rfl rfl)
 have k0 := h0
 have lt0 : ∀ x ∈ p0,x.block < W.heap.size := by obtain ⟨m,hm⟩ := k0; exact DataW.trod_lt m _ _ _ hm
 obtain ⟨fu0,hf0⟩ := h0
 obtain ⟨L0,hn0,hs0,ho0,hm0,hz0⟩ := open_bytes (by simpa [Value.cells] using hf0)
 subst hn0
 obtain ⟨a1,rfl,rfl,rfl,w1⟩ := open_int Tryz.underlying5 (hval 1 5 v1 rfl rfl) h1
 clear hA0 hval0
 refine (boundsExactFamilies_walk a0 L0 cap0 a1 W hs0 ho0 hm0 (Go.bounds_u8 w1) (tab_of_laid hL)).mono fun e W' ⟨he,bel⟩ => ?_
 subst he
 exact ⟨_,rfl,_,_,_,[],_,[],hW',trodAll_mk1 (shut_bool Tryz.underlying4 _),(trodAll_cons_mk (Below.trod laidOut (by kernel_rfl) (of_decide_eq_true (by kernel_rfl)) k0 bel lt0) (trodAll_cons_mk (shut_int Tryz.underlying5 w1) trodAll_mk0)),rfl,bel.frame _,fun h => by cases h⟩
theorem over : Rows.boundsExactFamiliesRow.holds Tryz.pinned (OpenSpec.ofChange Rows.boundsExactFamiliesSpec) :=
 OpenClaim.holds_of_wide 3 Tryz.f3 rfl rfl rfl rfl rfl rfl rfl ⟨rfl,rfl,rfl,rfl,rfl⟩ rfl rfl rfl rfl rfl (by kernel_rfl) Tryz.func3 (by kernel_rfl)
  (of_decide_eq_true (by kernel_rfl)) (by unfold Func.isWrapper; first | (rw [if_pos (by decide +kernel)]; kernel_rfl) | (rw [if_neg (by decide +kernel)]; exact ⟨rfl,rfl⟩))
  (fun os started H enc _ => lifted os started H enc)
end Go.Proofs.YtoacpebmhbkmbaaGreatDoor.boundsExactFamiliesRow
namespace Go.Proofs.YtoacpebmhbkmbaaGreatDoor
open Go
theorem boundsExactFamilies_holds : Rows.BoundsExactFamiliesCardSaid :=
 Claim7.holds_tied_plain_at .later [] [.data] true (true, "82c6bed31ad2c7c2e5153cee67ccc1cbee0e26a323fdf1de3a9a6c1e0005317a") false
  boundsExactFamiliesRow.over (fun _ h => by cases h) (by kernel_rfl) (fun _ h => by cases h) boundsExactFamilies_row_tie rfl ⟨rfl,rfl⟩ (by kernel_rfl) rfl
  (fun f fn hf hfn => by
   obtain rfl : f = 3 := Option.some.inj ((show Tryz.prog.funcNamed "palmette/palmettelaw22.BoundsExactFamilies" = some 3 by kernel_rfl).symm.trans hf) |>.symm
   obtain rfl : fn = Tryz.f3 := (Option.some.inj (Tryz.func3.symm.trans hfn)).symm
   exact ⟨by kernel_rfl,fun j t ht => by
    rw [Tryz.params3] at ht
    have h3 : t = 22 ∨ t = 5 := by
     rcases j with _ | _ | j
     ·simp at ht; simp [ht]
     ·simp at ht; simp [ht]
     ·simp at ht
    rcases h3 with rfl | rfl
    ·exact (show Tryz.prog.wantsStandIn 22 = false by kernel_rfl)
    ·exact (show Tryz.prog.wantsStandIn 5 = false by kernel_rfl)⟩)
  (by kernel_rfl)
#print axioms boundsExactFamilies_holds
end Go.Proofs.YtoacpebmhbkmbaaGreatDoor
