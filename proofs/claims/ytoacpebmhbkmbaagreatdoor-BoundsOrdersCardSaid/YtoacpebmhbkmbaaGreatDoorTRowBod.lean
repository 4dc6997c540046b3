/- Every input makes the law BoundsOrders answer true, and each argument reads behind the call as it read before: the given card, tied to the program's text. No condition. -/
import Derived.Orders
import Derived.Tactics
import Derived.Below
import Derived.KernelRfl
import Derived.Test.YtoacpebmhbkmbaaGreatDoorT1
import Derived.Test.YtoacpebmhbkmbaaGreatDoorT26
import Derived.Test.YtoacpebmhbkmbaaGreatDoorT25
import Derived.Test.YtoacpebmhbkmbaaGreatDoorT37
import Derived.Test.YtoacpebmhbkmbaaGreatDoorT16
import Derived.Test.YtoacpebmhbkmbaaGreatDoorT15
import Derived.Test.YtoacpebmhbkmbaaGreatDoorT38
import Derived.Test.YtoacpebmhbkmbaaGreatDoorT32
import Derived.Test.YtoacpebmhbkmbaaGreatDoorT35
import Derived.Test.YtoacpebmhbkmbaaGreatDoorT39
import Derived.Test.YtoacpebmhbkmbaaGreatDoorT41
import Derived.Test.YtoacpebmhbkmbaaGreatDoorT31
import Derived.Test.YtoacpebmhbkmbaaGreatDoorT12
import Derived.Test.YtoacpebmhbkmbaaGreatDoorT34
import Derived.Test.YtoacpebmhbkmbaaGreatDoorT36
import Derived.Test.YtoacpebmhbkmbaaGreatDoorT19
import Derived.Test.YtoacpebmhbkmbaaGreatDoorT33
import Derived.Test.YtoacpebmhbkmbaaGreatDoorT9
import Derived.Test.YtoacpebmhbkmbaaGreatDoorCards
import Derived.Test.YtoacpebmhbkmbaaGreatDoorTie
import Derived.WalkKit
import Derived.ProofKit
import Derived.OpenShut
import Derived.ShutString
import Derived.ChangeOld
import Derived.SevenTiedAt
namespace Go.Proofs.YtoacpebmhbkmbaaGreatDoor
open Go Go.RowKit
section
variable {P : Program} {ops : Array Oper} {R : World → World → Prop} {C : World → Prop} {safe : Nat → Bool} {Q : Act → World → Prop}
section
variable {l : List Oper}
end
theorem lUpon_value {K : Value → World → Prop} {v : Value} {w : World} (h : K v w) : lUpon P K (.ok (.value v) w) := h
end
end Go.Proofs.YtoacpebmhbkmbaaGreatDoor
namespace Go.Proofs.YtoacpebmhbkmbaaGreatDoor
open Go Go.RowKit
theorem Ord.len {V : List (Int × Thing)} {E : List ((Int × Int) × Thing)} {L : List Int} (h : Ord V L) (hi : GInv V E) : L.length = V.length := by
 have h1 : L.Perm (V.map (·.1)) := (List.perm_ext_iff_of_nodup h.nodup (sv_nodup hi.sv)).2 h.mem
 simpa using h1.length_eq
def Adj (E : List ((Int × Int) × Thing)) (L : List Int) : Nat → Int → Int → Prop
 | 0,u,v => Adj0 E u v
 | k + 1,u,v => Adj E L k u v ∨ (u ≠ v ∧ u ∈ L.drop (k + 1) ∧ v ∈ L.drop (k + 1) ∧ Adj E L k (L[k]?.getD 0) u ∧ Adj E L k (L[k]?.getD 0) v)
section
variable {V : List (Int × Thing)} {E : List ((Int × Int) × Thing)} {L : List Int}
theorem Adj.symm : ∀ {k : Nat} {u v : Int},Adj E L k u v → Adj E L k v u
 | 0,u,v,⟨e,he,h⟩ => ⟨e,he,by rw [h]; simp only [Prod.mk.injEq]; omega⟩
 | k + 1,u,v,h => h.imp (Adj.symm) fun ⟨h1,h2,h3,h4,h5⟩ => ⟨h1.symm,h3,h2,h5,h4⟩
theorem Adj.ne (hi : GInv V E) : ∀ {k : Nat} {u v : Int},Adj E L k u v → u ≠ v
 | 0,u,v,⟨e,he,h⟩ => by
  have := hi.lo e he
  rw [h] at this
  simp at this
  omega
 | k + 1,u,v,h => by
  rcases h with h | h
  ·exact Adj.ne hi h
  ·exact h.1
theorem Adj.mem (hi : GInv V E) (ho : Ord V L) : ∀ {k : Nat} {u v : Int},Adj E L k u v → u ∈ L ∧ v ∈ L
 | 0,u,v,⟨e,he,h⟩ => by
  obtain ⟨⟨t1,h1⟩,t2,h2⟩ := hi.ends e he
  rw [h] at h1 h2
  have h3 := (ho.mem _).2 (List.mem_map_of_mem (f := (·.1)) h1)
  have h4 := (ho.mem _).2 (List.mem_map_of_mem (f := (·.1)) h2)
  simp only at h3 h4
  rcases Int.le_total u v with h5 | h5
  ·rw [show min u v = u by omega] at h3
   rw [show max u v = v by omega] at h4
   exact ⟨h3,h4⟩
  ·rw [show min u v = v by omega] at h3
   rw [show max u v = u by omega] at h4
   exact ⟨h4,h3⟩
 | k + 1,u,v,h => by
  rcases h with h | ⟨_,h1,h2,_⟩
  ·exact Adj.mem hi ho h
  ·exact ⟨List.mem_of_mem_drop h1,List.mem_of_mem_drop h2⟩
theorem Adj.mono {k m : Nat} {u v : Int} (h : Adj E L k u v) (hkm : k ≤ m) : Adj E L m u v := by
 induction m with
 | zero => rw [Nat.le_zero.1 hkm] at h; exact h
 | succ m ih =>
  by_cases e : k = m + 1
  ·rw [← e]; exact h
  ·exact .inl (ih (by omega))
theorem drop_get {k : Nat} (hk : k < L.length) : L.drop k = L[k] :: L.drop (k + 1) := List.drop_eq_getElem_cons hk
theorem not_drop (hn : L.Nodup) {k : Nat} (hk : k < L.length) : L[k] ∉ L.drop (k + 1) := by
 have h := (List.drop_sublist k L).nodup hn
 rw [drop_get hk] at h
 exact (List.nodup_cons.1 h).1
theorem mem_drop_iff (hn : L.Nodup) {k : Nat} (hk : k < L.length) {x : Int} : x ∈ L.drop (k + 1) ↔ x ∈ L.drop k ∧ x ≠ L[k] := by
 rw [drop_get hk,List.mem_cons]
 constructor
 ·intro h
  exact ⟨.inr h,fun e => not_drop hn hk (by rw [← e]; exact h)⟩
 ·rintro ⟨h | h,h2⟩
  ·exact absurd h h2
  ·exact h
theorem withoutS_bit (N : Nat) (x : Int) (k : Nat) : (withoutS N x).testBit k = (N.testBit k && !(decide (k < 1024) && decide (x = (k : Int)))) := by
 unfold withoutS fitB
 by_cases h : 0 ≤ x ∧ x < 1024
 ·rw [if_pos (by simp [h.1,h.2]),minusS_bit,Nat.testBit_two_pow]
  congr 2
  rw [Bool.eq_iff_iff]
  simp only [Bool.and_eq_true,decide_eq_true_eq]
  omega
 ·rw [if_neg (by simp; omega)]
  have : (decide (k < 1024) && decide (x = (k : Int))) = false := by
   rw [Bool.eq_false_iff]
   simp only [ne_eq,Bool.and_eq_true,decide_eq_true_eq]
   omega
  rw [this,Bool.not_false,Bool.and_true]
theorem upd_nr (s : Nat) (id : Int) : ∀ (l : List Int) (M : List (Int × Nat)) (x : Int),l.Nodup → nrM (l.foldl (updF s id) M) x = if x ∈ l then withoutS (withoutS (nrM M x ||| s) x) id else nrM M x
 | [],M,x,_ => by simp
 | a :: r,M,x,hn => by
  obtain ⟨h0,h1⟩ := List.nodup_cons.1 hn
  have hp : nrM (updF s id M a) x = if x = a then withoutS (withoutS (nrM M a ||| s) a) id else nrM M x := by
   unfold updF
   rw [nr_put]
  rw [List.foldl_cons,upd_nr s id r _ x h1,hp]
  by_cases h2 : x ∈ r
  ·have : x ≠ a := fun e => h0 (by rw [← e]; exact h2)
   rw [if_pos h2,if_neg this,if_pos (List.mem_cons_of_mem _ h2)]
  ·by_cases h3 : x = a
   ·subst h3; rw [if_neg h2,if_pos rfl,if_pos List.mem_cons_self]
   ·rw [if_neg h2,if_neg h3,if_neg (by simp [h2,h3])]
theorem mAt_bit (hi : GInv V E) (ho : Ord V L) : ∀ (k : Nat),k ≤ L.length → ∀ u ∈ L.drop k, ∀ v : Nat,v < 1024 → ((nrM (mAt E L k) u).testBit v = true ↔ (v : Int) ∈ L.drop k ∧ Adj E L k u v)
 | 0,_,u,hu,v,hv => by
  rw [List.drop_zero] at hu ⊢
  have h1 : nrM (mAt E L 0) u = nearS u E := by
   unfold mAt
   rw [List.take_zero,List.foldl_nil]
   exact m0_nr hu
  rw [h1,nearS_eq,fromS_bit]
  simp only [Bool.and_eq_true,decide_eq_true_eq,hv,true_and]
  rw [mem_nearL hi.lo]
  constructor
  ·intro h; exact ⟨(Adj.mem (L := L) (k := 0) hi ho h).2,h⟩
  ·intro h; exact h.2
 | k + 1,hk,u,hu,v,hv => by
  have hkl : k < L.length := by omega
  have ih := mAt_bit hi ho k (by omega)
  obtain ⟨hud,hux⟩ := (mem_drop_iff ho.nodup hkl).1 hu
  have hxk : L[k] ∈ L.drop k := by rw [drop_get hkl]; exact List.mem_cons_self
  have hs : ∀ y : Nat,y < 1024 → ((sAt E L k).testBit y = true ↔ (y : Int) ∈ L.drop k ∧ Adj E L k L[k] y) := fun y hy => by
   rw [sAt_eq E L k hkl]
   exact ih L[k] hxk y hy
  have hxr := ho.rng hi (List.getElem_mem hkl)
  have hur := ho.rng hi (List.mem_of_mem_drop hu)
  rw [mAt_next E L k hkl]
  unfold stM updM
  rw [← sAt_eq E L k hkl]
  rw [upd_nr _ _ _ _ _ (toL_nodup _)]
  have hgk : L[k]?.getD 0 = L[k] := by simp [hkl]
  have hmu : u ∈ toL (sAt E L k) ↔ Adj E L k L[k] u := by
   rw [mem_toL',hs u.toNat (by omega)]
   rw [show ((u.toNat : Nat) : Int) = u by omega]
   constructor
   ·intro h; exact h.2.2.2
   ·intro h; exact ⟨hur.1,hur.2,hud,h⟩
  rw [mem_drop_iff ho.nodup hkl]
  have hg : Adj E L (k + 1) u v ↔ Adj E L k u v ∨ (u ≠ v ∧ u ∈ L.drop (k + 1) ∧ (v : Int) ∈ L.drop (k + 1) ∧ Adj E L k L[k] u ∧ Adj E L k L[k] v) := by
   show (_ ∨ _) ↔ _
   rw [hgk]
  rw [hg]
  have h1 := ih u hud v hv
  have h2 := hs v hv
  by_cases hm : u ∈ toL (sAt E L k)
  ·have hxu := hmu.1 hm
   rw [if_pos hm,withoutS_bit,withoutS_bit,Nat.testBit_or]
   simp only [Bool.and_eq_true,Bool.or_eq_true,Bool.not_eq_true',Bool.and_eq_false_iff,decide_eq_false_iff_not,h1,h2,hv,not_true_eq_false,false_or]
   constructor
   ·rintro ⟨⟨h | h,h3⟩,h4⟩
    ·exact ⟨⟨h.1,fun e => h4 e.symm⟩, .inl h.2⟩
    ·exact ⟨⟨h.1,fun e => h4 e.symm⟩, .inr ⟨h3,hu,(mem_drop_iff ho.nodup hkl).2 ⟨h.1,fun e => h4 e.symm⟩,hxu,h.2⟩⟩
   ·rintro ⟨⟨h3,h4⟩,h | ⟨h5,h6,h7,h8,h9⟩⟩
    ·exact ⟨⟨.inl ⟨h3,h⟩,Adj.ne hi h⟩,fun e => h4 e.symm⟩
    ·exact ⟨⟨.inr ⟨h3,h9⟩,h5⟩,fun e => h4 e.symm⟩
  ·rw [if_neg hm,h1]
   have hxu : ¬ Adj E L k L[k] u := fun h => hm (hmu.2 h)
   constructor
   ·rintro ⟨h3,h4⟩
    refine ⟨⟨h3,fun e => ?_⟩, .inl h4⟩
    rw [e] at h4
    exact hxu h4.symm
   ·rintro ⟨⟨h3,h4⟩,h | h⟩
    ·exact ⟨h3,h⟩
    ·exact absurd h.2.2.2.1 hxu
theorem sAt_bit (hi : GInv V E) (ho : Ord V L) {k : Nat} (hk : k < L.length) (v : Nat) (hv : v < 1024) : (sAt E L k).testBit v = true ↔ (v : Int) ∈ L.drop (k + 1) ∧ Adj E L k L[k] v := by
 rw [sAt_eq E L k hk,mAt_bit hi ho k (by omega) L[k] (by rw [drop_get hk]; exact List.mem_cons_self) v hv,mem_drop_iff ho.nodup hk]
 constructor
 ·rintro ⟨h1,h2⟩; exact ⟨⟨h1,fun e => Adj.ne hi h2 e.symm⟩,h2⟩
 ·rintro ⟨h1,h2⟩; exact ⟨h1.1,h2⟩
theorem mem_sAt (hi : GInv V E) (ho : Ord V L) {k : Nat} (hk : k < L.length) {v : Int} : v ∈ toL (sAt E L k) ↔ v ∈ L.drop (k + 1) ∧ Adj E L k L[k] v := by
 rw [mem_toL']
 constructor
 ·rintro ⟨h1,h2,h3⟩
  have := (sAt_bit hi ho hk v.toNat (by omega)).1 h3
  rwa [show ((v.toNat : Nat) : Int) = v by omega] at this
 ·intro h
  have hr := ho.rng hi (List.mem_of_mem_drop h.1)
  refine ⟨hr.1,hr.2,(sAt_bit hi ho hk v.toNat (by omega)).2 ?_⟩
  rwa [show ((v.toNat : Nat) : Int) = v by omega]
end
end Go.Proofs.YtoacpebmhbkmbaaGreatDoor
namespace Go.Proofs.YtoacpebmhbkmbaaGreatDoor
open Go
variable {V : List (Int × Thing)} {E : List ((Int × Int) × Thing)}
theorem ub_spec (hi : GInv V E) : (ubS E (nr0 E) (toL (vS V))).1 = widK E (ubS E (nr0 E) (toL (vS V))).2 (ubS E (nr0 E) (toL (vS V))).2.length ∧ Ord V (ubS E (nr0 E) (toL (vS V))).2 := by
 have hV0 := toL_vS hi
 have hpa := ordS_perm (key := degP) (toL (vS V)).length (nr0 E) (toL (vS V)) (Nat.le_refl _)
 have hpb := ordS_perm (key := filP) (toL (vS V)).length (nr0 E) (toL (vS V)) (Nat.le_refl _)
 unfold ubS
 generalize ordS degP (toL (vS V)).length (nr0 E) (toL (vS V)) = a at hpa ⊢
 generalize ordS filP (toL (vS V)).length (nr0 E) (toL (vS V)) = b at hpb ⊢
 split
 ·exact ⟨rfl,perm_ord hV0 hpb⟩
 ·exact ⟨rfl,perm_ord hV0 hpa⟩
end Go.Proofs.YtoacpebmhbkmbaaGreatDoor
namespace Go.Proofs.YtoacpebmhbkmbaaGreatDoor
open Go Go.RowKit Go.Shelf
attribute [local go_sem] qUpon lUpon
attribute [local irreducible] wpO wpX wpQL
section
variable {W W' : World} {Ai At An : Option Addr} {n : Nat} {ids : List Int} {th : List Bool} {nb : List (List Bool)} {hs : List Sl}
end
def lakF (th : List Bool) (nb : List (List Bool)) (i a b : Nat) : Bool := decide (a < b) && (th.getD a false && th.getD b false && nbG nb i a && nbG nb i b && !nbG nb a b)
def lakS (th : List Bool) (nb : List (List Bool)) (n i : Nat) : Nat → Nat
 | 0 => 0
 | a + 1 => lakS th nb n i a + cntB (lakF th nb i a) n
theorem lak_start (th : List Bool) (nb : List (List Bool)) (i a : Nat) : ∀ b,b ≤ a + 1 → cntB (lakF th nb i a) b = 0
 | 0,_ => rfl
 | b + 1,h => by
  rw [cntB_no (by unfold lakF; rw [decide_eq_false (by omega)]; rfl),lak_start th nb i a b (by omega)]
theorem lakS_le (th : List Bool) (nb : List (List Bool)) (n i : Nat) : ∀ a,lakS th nb n i a ≤ a * n
 | 0 => by simp [lakS]
 | a + 1 => by
  have h1 := lakS_le th nb n i a
  have h2 := cntB_le (lakF th nb i a) n
  show lakS th nb n i a + cntB (lakF th nb i a) n ≤ (a + 1) * n
  rw [Nat.add_mul,Nat.one_mul]
  omega
end Go.Proofs.YtoacpebmhbkmbaaGreatDoor
namespace Go.Proofs.YtoacpebmhbkmbaaGreatDoor
def pikB (p : Nat → Bool) (kf : Nat → Nat) : Nat → Int
 | 0 => -1
 | i + 1 => if (p i && (decide (pikB p kf i < 0) || decide (kf i < kf (pikB p kf i).toNat))) = true then (i : Int) else pikB p kf i
theorem pikB_bd (p : Nat → Bool) (kf : Nat → Nat) : ∀ i : Nat, -1 ≤ pikB p kf i ∧ pikB p kf i < (i : Int)
 | 0 => by unfold pikB; omega
 | i + 1 => by
  have h := pikB_bd p kf i
  unfold pikB
  split <;> omega
theorem pikB_yes {p : Nat → Bool} {kf : Nat → Nat} {i : Nat} (h : (p i && (decide (pikB p kf i < 0) || decide (kf i < kf (pikB p kf i).toNat))) = true) : pikB p kf (i + 1) = (i : Int) := by
 conv => lhs; rw [pikB]
 rw [if_pos h]
theorem pikB_no {p : Nat → Bool} {kf : Nat → Nat} {i : Nat} (h : (p i && (decide (pikB p kf i < 0) || decide (kf i < kf (pikB p kf i).toNat))) = false) : pikB p kf (i + 1) = pikB p kf i := by
 conv => lhs; rw [pikB]
 rw [if_neg (by rw [h]; simp)]
def selB (ids : List Int) (p : Nat → Bool) (k : Nat) : List Int := ((List.range k).filter p).map fun j => ids.getD j 0
theorem selB_succ (ids : List Int) (p : Nat → Bool) (k : Nat) : selB ids p (k + 1) = selB ids p k ++ (if p k = true then [ids.getD k 0] else []) := by
 unfold selB
 rw [List.range_succ,List.filter_append,List.map_append]
 by_cases h : p k = true
 ·rw [if_pos h,List.filter_cons_of_pos h]; rfl
 ·rw [if_neg h,List.filter_cons_of_neg h]; rfl
theorem pik_spec {ids : List Int} {p : Nat → Bool} {kf : Nat → Nat} {key : Int → Nat} {n : Nat} (hk : ∀ j,j < n → p j = true → kf j = key (ids.getD j 0)) : ∀ k,k ≤ n → (selB ids p k = [] → pikB p kf k = -1) ∧ (selB ids p k ≠ [] → ∃ m : Nat,pikB p kf k = (m : Int) ∧ m < k ∧ p m = true ∧ ids.getD m 0 = leastP key (selB ids p k)) := by
 intro k
 induction k with
 | zero => exact fun _ => ⟨fun _ => rfl,fun h => absurd rfl h⟩
 | succ k ih =>
  intro hkn
  obtain ⟨h1,h2⟩ := ih (by omega)
  by_cases ht : p k = true
  ·have e : selB ids p (k + 1) = selB ids p k ++ [ids.getD k 0] := by rw [selB_succ,if_pos ht]
   refine ⟨fun h0 => by rw [e] at h0; simp at h0,fun _ => ?_⟩
   by_cases hn : selB ids p k = []
   ·have hl := h1 hn
    refine ⟨k,pikB_yes (by rw [ht,hl]; rfl),by omega,ht, ?_⟩
    rw [e,hn]
    rfl
   ·obtain ⟨m,e1,e2,e3,e4⟩ := h2 hn
    have hd := hk k (by omega) ht
    have hm := hk m (by omega) e3
    have hs : leastP key (selB ids p (k + 1)) = if key (ids.getD k 0) < key (ids.getD m 0) then ids.getD k 0 else ids.getD m 0 := by
     rw [e,e4]
     obtain ⟨a,l,hal⟩ := List.exists_cons_of_ne_nil hn
     rw [hal,List.cons_append,leastP_snoc]
    by_cases hc : kf k < kf m
    ·refine ⟨k,pikB_yes (by rw [ht,e1,Int.toNat_natCast,decide_eq_true hc]; simp),by omega,ht, ?_⟩
     rw [hs,if_pos (by rw [← hd, ← hm]; exact hc)]
    ·refine ⟨m, ?_,by omega,e3, ?_⟩
     ·rw [pikB_no (by rw [ht,e1,Int.toNat_natCast,decide_eq_false hc,decide_eq_false (by omega)]; rfl)]; exact e1
     ·rw [hs,if_neg (by rw [← hd, ← hm]; exact hc)]
  ·have e : selB ids p (k + 1) = selB ids p k := by rw [selB_succ,if_neg ht,List.append_nil]
   have hf : p k = false := by rwa [Bool.not_eq_true] at ht
   have hl : pikB p kf (k + 1) = pikB p kf k := pikB_no (by rw [hf]; rfl)
   rw [e,hl]
   refine ⟨h1,fun hn => ?_⟩
   obtain ⟨m,e1,e2,e3,e4⟩ := h2 hn
   exact ⟨m,e1,by omega,e3,e4⟩
def pnB (th : List Bool) (nb : List (List Bool)) (i j : Nat) : Bool := th.getD j false && nbG nb i j
section
variable {ids : List Int} {th : List Bool} {nb : List (List Bool)} {n : Nat} {near : Int → Int → Bool} {bs : List Nat}
theorem Sqr.get (h : Sqr n bs nb) {i k : Nat} (v : Bool) (hi : i < n) (hk : k < n) (a b : Nat) : nbG (putN nb i k v) a b = if a = i ∧ b = k then v else nbG nb a b :=
 nbG_put v (by rw [h.ln]; exact hi) (by rw [h.row i hi]; exact hk) a b
theorem RepB.sel (h : RepB ids th nb n near) {i : Nat} (hi : i < n) (ht : th.getD i false = true) : selB ids (pnB th nb i) n = (thL ids th n).filter (near (ids.getD i 0)) := by
 unfold selB thL
 rw [List.filter_map,List.filter_filter]
 refine congrArg (List.map _) (List.filter_congr fun k hk => ?_)
 have hk := List.mem_range.1 hk
 unfold pnB
 simp only [Function.comp]
 by_cases hh : th.getD k false = true
 ·rw [hh,h.nb i k hi hk ht hh]; simp
 ·rw [Bool.not_eq_true] at hh; rw [hh]; simp
theorem set_get {th : List Bool} {n : Nat} (hl : th.length = n) {i a : Nat} (hi : i < n) (h : (th.set i false).getD a false = true) : a ≠ i ∧ th.getD a false = true := by
 rw [getD_set _ _ _ _ _ (by rw [hl]; exact hi)] at h
 split at h
 ·cases h
 ·rename_i e; exact ⟨e,h⟩
def elQ (th : List Bool) (nb : List (List Bool)) (m a b : Nat) : Bool := decide (a ≠ b) && th.getD a false && th.getD b false && nbG nb m a && nbG nb m b
theorem RepB.elim (h : RepB ids th nb n near) {m : Nat} (hm : m < n) (hm2 : th.getD m false = true) {M : List (List Bool)} (hM : ∀ a b,a < n → b < n → nbG M a b = (nbG nb a b || elQ (th.set m false) nb m a b)) : RepB ids (th.set m false) M n (eliB near (ids.getD m 0)) := by
 refine ⟨h.li,by rw [List.length_set]; exact h.lt,h.nd,fun a b ha hb h1 h2 => ?_⟩
 rw [hM a b ha hb]
 unfold elQ
 rw [h1,h2]
 obtain ⟨_,h1⟩ := set_get h.lt hm h1
 obtain ⟨_,h2⟩ := set_get h.lt hm h2
 rw [h.nb a b ha hb h1 h2,h.nb m a hm ha hm2 h1,h.nb m b hm hb hm2 h2]
 unfold eliB
 have e : decide (a ≠ b) = decide (ids.getD a 0 ≠ ids.getD b 0) := decide_eq_decide.2 ⟨fun e1 e2 => e1 (h.inj ha hb e2),fun e1 e2 => e1 (by rw [e2])⟩
 rw [e]
 simp
theorem lackP_idx (near : Int → Int → Bool) (f : Nat → Int) : ∀ J : List Nat,J.Pairwise (· < ·) → lackP near (J.map f) = (J.map fun a => (J.filter fun b => decide (a < b) && !near (f a) (f b)).length).sum
 | [],_ => rfl
 | a :: r,hJ => by
  obtain ⟨h1,h2⟩ := List.pairwise_cons.1 hJ
  have ih := lackP_idx near f r h2
  rw [List.map_cons]
  unfold lackP
  rw [ih,List.map_cons,List.sum_cons,List.filter_map,List.length_map]
  have e1 : r.filter ((fun b => !near (f a) b) ∘ f) = (a :: r).filter fun b => decide (a < b) && !near (f a) (f b) := by
   rw [List.filter_cons_of_neg (by simp)]
   refine List.filter_congr fun b hb => ?_
   rw [decide_eq_true (h1 b hb)]
   rfl
  have e2 : (r.map fun a => (r.filter fun b => decide (a < b) && !near (f a) (f b)).length) = r.map fun x => ((a :: r).filter fun b => decide (x < b) && !near (f x) (f b)).length := by
   refine List.map_congr_left fun x hx => ?_
   have := h1 x hx
   rw [List.filter_cons_of_neg (by rw [decide_eq_false (by omega)]; simp)]
  rw [e1,e2]
theorem sum_filt0 {f : Nat → Nat} {p : Nat → Bool} : ∀ l : List Nat,(∀ a ∈ l,p a = false → f a = 0) → (l.map f).sum = ((l.filter p).map f).sum
 | [],_ => rfl
 | a :: l,h => by
  have ih := sum_filt0 l (fun b hb => h b (by simp [hb]))
  rw [List.map_cons,List.sum_cons,ih]
  by_cases hp : p a = true
  ·rw [List.filter_cons_of_pos hp,List.map_cons,List.sum_cons]
  ·rw [List.filter_cons_of_neg hp,h a (by simp) (by rwa [Bool.not_eq_true] at hp),Nat.zero_add]
theorem lakS_sum (th : List Bool) (nb : List (List Bool)) (n i : Nat) : ∀ a,lakS th nb n i a = ((List.range a).map fun a => cntB (lakF th nb i a) n).sum
 | 0 => rfl
 | a + 1 => by
  rw [List.range_succ,List.map_append,List.sum_append, ← lakS_sum th nb n i a]
  simp [lakS]
theorem RepB.lak (h : RepB ids th nb n near) {i : Nat} (hi : i < n) (ht : th.getD i false = true) : lakS th nb n i n = lackP near ((thL ids th n).filter (near (ids.getD i 0))) := by
 rw [← h.sel hi ht]
 unfold selB
 rw [lackP_idx near _ _ (List.pairwise_lt_range.filter _),lakS_sum,sum_filt0 (p := pnB th nb i) _ fun a _ hp => ?_]
 ·refine congrArg List.sum (List.map_congr_left fun a ha => ?_)
  obtain ⟨ha1,ha2⟩ := List.mem_filter.1 ha
  have ha1 := List.mem_range.1 ha1
  unfold pnB at ha2
  rw [Bool.and_eq_true] at ha2
  unfold cntB
  rw [List.filter_filter]
  refine congrArg List.length (List.filter_congr fun b hb => ?_)
  have hb := List.mem_range.1 hb
  unfold lakF pnB
  rw [ha2.1,ha2.2]
  by_cases hh : th.getD b false = true
  ·rw [hh,h.nb a b ha1 hb ha2.1 hh]
   cases decide (a < b) <;> cases nbG nb i b <;> simp
  ·rw [Bool.not_eq_true] at hh; rw [hh]; simp
 ·unfold cntB
  rw [List.length_eq_zero_iff,List.filter_eq_nil_iff]
  intro b _
  unfold pnB at hp
  unfold lakF
  cases h1 : th.getD a false
  ·simp
  ·rw [h1,Bool.true_and] at hp
   rw [hp]
   simp
end
end Go.Proofs.YtoacpebmhbkmbaaGreatDoor
namespace Go.Proofs.YtoacpebmhbkmbaaGreatDoor
open Go Go.RowKit Go.Shelf
attribute [local go_sem] qUpon lUpon
attribute [local irreducible] wpO wpX wpQL
theorem Sp.cellRK {wf w W : World} {T0 : List Nat} {ds : List Deferred} {L : List Cl} {Rs : List Rw} {S : List Nat} (h : Sp wf T0 w ds L Rs W) (j : Nat) {T n c b n' : Nat} {xs : List Value} (hj : Rs[j]? = some (T,1, .slice (some ⟨b,0,none⟩) n c,n',xs)) (hS : b ∉ S) {i : Nat} {v : Value} (hv : xs[i]? = some v) : ∀ W',Keep S W W' → W'.cell? ⟨b,i,none⟩ = some v := by
 obtain ⟨hlen,h0 | ⟨g,cap',cur,e,hb,hg,hn,hm,hsz,htk⟩⟩ := h.row j hj
 ·cases h0.1
 ·injection e with e1 _ _
  injection e1 with e1
  injection e1 with e1 _
  subst e1
  have hB : Blk W b T cur := hg
  refine hB.cellsK hS i ?_
  rw [← htk,List.getElem?_take] at hv
  split at hv
  ·rw [← hv]; simp
  ·cases hv
theorem flatB_get {th : List Bool} {i : Nat} (h : i < th.length) : (th.flatMap encB)[i]? = some (.bool (th.getD i false)) := by
 rw [flat1 (enc := encB) (f := fun x => .bool x) (fun _ => rfl),List.getElem?_map,List.getD_eq_getElem?_getD,List.getElem?_eq_getElem h]
 rfl
theorem flatI_get {ids : List Int} {i : Nat} (h : i < ids.length) : (ids.flatMap encI)[i]? = some (.int .i64 (ids.getD i 0)) := by
 rw [flat1 (enc := encI) (f := fun x => .int .i64 x) (fun _ => rfl),List.getElem?_map,List.getD_eq_getElem?_getD,List.getElem?_eq_getElem h]
 rfl
theorem flatH_get {bs : List Nat} {n i b : Nat} (h : bs[i]? = some b) : ((bs.map (hdrP n)).flatMap encSl)[i]? = some (.slice (some ⟨b,0,none⟩) n n) := by
 rw [flat1 (enc := encSl) (f := fun x : Sl => .slice x.1 x.2.1 x.2.2) (fun _ => rfl),List.getElem?_map,List.getElem?_map,h]
 rfl
theorem near4 {r0 r1 r2 r3 : Rw} {n i b : Nat} {bs : List Nat} {nb : List (List Bool)} (hq : Sqr n bs nb) (hi : i < n) (hb : bs[i]? = some b) : (r0 :: r1 :: r2 :: r3 :: nearM n bs nb)[4 + i]? = some (4,1,Value.slice (some ⟨b,0,none⟩) n n,n,(nb.getD i []).flatMap encB) := by
 have hr : i < nb.length := by rw [hq.ln]; exact hi
 rw [show 4 + i = i + 1 + 1 + 1 + 1 by omega,List.getElem?_cons_succ,List.getElem?_cons_succ,List.getElem?_cons_succ,List.getElem?_cons_succ,nearM_get hb (List.getElem?_eq_getElem hr),List.getD_eq_getElem?_getD,List.getElem?_eq_getElem hr]
 rfl
theorem Sqr.bs {n : Nat} {bs : List Nat} {nb : List (List Bool)} (h : Sqr n bs nb) {i : Nat} (hi : i < n) : ∃ b,bs[i]? = some b := ⟨_,List.getElem?_eq_getElem (by rw [h.lb]; exact hi)⟩
theorem Sp.nb4 {wf w W : World} {T0 : List Nat} {ds : List Deferred} {L : List Cl} {S : List Nat} {r0 r1 r2 r3 : Rw} {n i b k : Nat} {bs : List Nat} {nb : List (List Bool)} (h : Sp wf T0 w ds L (r0 :: r1 :: r2 :: r3 :: nearM n bs nb) W) (hq : Sqr n bs nb) (hi : i < n) (hk : k < n) (hb : bs[i]? = some b) (hS : b ∉ S) : ∀ W',Keep S W W' → W'.cell? ⟨b,k,none⟩ = some (.bool (nbG nb i k)) :=
 h.cellRK (4 + i) (near4 hq hi hb) hS (flatB_get (by rw [hq.row i hi]; exact hk))
section
variable {P : Program} {l : List Oper} {K : Act → World → Prop} {C : World → Prop} {safe : Nat → Bool} {Q : Act → World → Prop} {m j : Nat} {listed : Array Bool} {a : Act} {r : List Oper} {o : Oper} {wf w W : World} {T0 : List Nat} {ds : List Deferred} {L : List Cl} {n : Nat} {bs : List Nat} {nb : List (List Bool)} {r0 r1 r2 r3 : Rw}
theorem near4_set (_hq : Sqr n bs nb) {i k b : Nat} (_hi : i < n) (hb : bs[i]? = some b) (y : Bool) : (r0 :: r1 :: r2 :: r3 :: nearM n bs nb).set (4 + i) (4,1,Value.slice (some ⟨b,0,none⟩) n n,n,((nb.getD i []).set k y).flatMap encB) = r0 :: r1 :: r2 :: r3 :: nearM n bs (putN nb i k y) := by
 rw [show 4 + i = i + 1 + 1 + 1 + 1 by omega,List.set_cons_succ,List.set_cons_succ,List.set_cons_succ,List.set_cons_succ,nearM_set hb]
 rfl
theorem Sp.putNear4 (h : Sp wf T0 w ds L (r0 :: r1 :: r2 :: r3 :: nearM n bs nb) W) (hq : Sqr n bs nb) {i k b : Nat} (hi : i < n) (hk : k < n) (y : Bool) (hb : bs[i]? = some b) (hw : Region.wanted o (yielded l.toArray a.tmps) = true)
  {t : TypeId} {p x : Operand} (ho : o.op = .store t p x) (hp : a.eval p = .pointer (some ⟨b,k,none⟩)) (hx : a.eval x = .bool y) (hz : (sizeOf t).run P W = .ok 1 W)
  (hk2 : ∀ W',Sp wf T0 w ds L (r0 :: r1 :: r2 :: r3 :: nearM n bs (putN nb i k y)) W' → wpO P l K r (a.put o.dst undef) W') : wpO P l K (o :: r) a W := by
 have hrow := h.row (4 + i) (near4 hq hi hb)
 obtain ⟨cs,h1,h2,h3⟩ := run_store_ownE (P := P) (enc := encB) (f := fun q => .bool q) (fun _ => rfl) (fun _ => rfl) (fun _ => rfl) y ho hp hx hz hrow (by rw [hq.row i hi]; exact hk)
 have h4 := h.push (4 + i) (by decide) (near4 hq hi hb) (Ext.refl W) h2 h3 (.inl rfl)
 rw [near4_set hq hi hb] at h4
 exact wpO_skip hw h1 (hk2 _ h4)
end
theorem neI_of {k j : Nat} (h : decide (k ≠ j) = true) : ((k : Int) != (j : Int)) = true := by
 rw [decide_eq_true_eq] at h
 exact bne_iff_ne.2 (by omega)
theorem neI_no {k j : Nat} (h : decide (k ≠ j) = false) : ((k : Int) != (j : Int)) = false := by
 rw [decide_eq_false_iff_not,Decidable.not_not] at h
 subst h
 simp
end Go.Proofs.YtoacpebmhbkmbaaGreatDoor
namespace Go.Proofs.YtoacpebmhbkmbaaGreatDoor
open Go Go.RowKit Go.Shelf
attribute [local go_sem] qUpon lUpon
attribute [local irreducible] wpO wpX wpQL
def kfO (fb : Bool) (th : List Bool) (nb : List (List Bool)) (n j : Nat) : Nat := if fb = true then lakS th nb n j n else degB th nb n j
def keyO (fb : Bool) : (Int → Int → Bool) → List Int → Int → Nat := if fb = true then filP else degP
theorem RepB.kf {ids : List Int} {th : List Bool} {nb : List (List Bool)} {n : Nat} {near : Int → Int → Bool} (h : RepB ids th nb n near) (fb : Bool) {j : Nat} (hj : j < n) (ht : th.getD j false = true) : kfO fb th nb n j = keyO fb near (thL ids th n) (ids.getD j 0) := by
 cases fb
 ·exact h.deg hj ht
 ·exact h.lak hj ht
theorem lak_next (th : List Bool) (nb : List (List Bool)) (n i a : Nat) : lakS th nb n i (a + 1) = lakS th nb n i a + cntB (lakF th nb i a) n := rfl
theorem elQ_row {th : List Bool} {nb : List (List Bool)} {m : Nat} (h : th.getD m false = false) (b : Nat) : elQ th nb m m b = false := by
 unfold elQ
 rw [h]
 simp
section
variable {n : Nat} {bs : List Nat} {M nb : List (List Bool)} {q : Nat → Nat → Bool} {i k : Nat}
theorem elT_yes (hq : Sqr n bs M) (hi : i < n) (hk : k < n) (h : ∀ a b,a < n → b < n → nbG M a b = (nbG nb a b || ofT q i k a b)) (hc : q i k = true) : ∀ a b,a < n → b < n → nbG (putN M i k true) a b = (nbG nb a b || ofT q i (k + 1) a b) := by
 intro a b ha hb
 rw [hq.get true hi hk,ofT_next,hc]
 by_cases hh : a = i ∧ b = k
 ·rw [if_pos hh,hh.1,hh.2]; simp
 ·rw [if_neg hh,h a b ha hb]
  by_cases h1 : a = i
  ·have h2 : ¬ b = k := fun e => hh ⟨h1,e⟩
   simp [h2]
  ·simp [h1]
theorem elT_no (h : ∀ a b,a < n → b < n → nbG M a b = (nbG nb a b || ofT q i k a b)) (hc : q i k = false) : ∀ a b,a < n → b < n → nbG M a b = (nbG nb a b || ofT q i (k + 1) a b) := by
 intro a b ha hb
 rw [ofT_next,hc,h a b ha hb]
 simp
theorem elT_start (q : Nat → Nat → Bool) : ∀ a b,a < n → b < n → nbG nb a b = (nbG nb a b || ofT q 0 0 a b) := by
 intro a b _ _
 unfold ofT
 simp
theorem elT_row (h : ∀ a b,a < n → b < n → nbG M a b = (nbG nb a b || ofT q i n a b)) : ∀ a b,a < n → b < n → nbG M a b = (nbG nb a b || ofT q (i + 1) 0 a b) := by
 intro a b ha hb
 rw [ofT_row q i n a b hb]
 exact h a b ha hb
theorem elT_end (h : ∀ a b,a < n → b < n → nbG M a b = (nbG nb a b || ofT q n 0 a b)) : ∀ a b,a < n → b < n → nbG M a b = (nbG nb a b || q a b) := by
 intro a b ha hb
 rw [h a b ha hb]
 unfold ofT
 rw [decide_eq_true ha]
 simp
end
theorem neB_of {k j : Nat} (x : Bool) (h : decide (k ≠ j) = x) : ((k : Int) != (j : Int)) = x := by
 cases x
 ·exact neI_no h
 ·exact neI_of h
set_option maxRecDepth 100000 in
set_option maxHeartbeats 16000000 in
theorem lacks22_any (Ai At An : Option Addr) (n ci ct cn : Nat) (ids : List Int) (th : List Bool) (nb : List (List Bool)) (hs : List Sl) (i : Nat) (w : World) (hp : PAt w Ai At An n ids th nb hs) (hi : i < n) :
  Calls Tryz.prog 121 #[.agg #[.slice Ai n ci, .slice At n ct, .slice An n cn], .int .i64 i] w fun e w' => e = .returned (.int .i64 (lakS th nb n i n : Nat)) ∧ Ext w w' := by
 have hi' := hide hi
 have hnb := hide hp.le
 have hiI : (i : Int) < (n : Int) := by omega
 obtain ⟨bt,ot,rfl,_⟩ := hp.thc hi
 obtain ⟨bn,on,br,or',cr,rfl,c0,c1⟩ := hp.nbc hi
 have hp' := hide hp
 have hc0 := hide c0
 have hc1 := hide c1
 clear hp hi c0 c1
 have hP := hide (Sp.new w)
 refine callsIn_wide.1 (callsIn_of_wp_marks (n := 0) Tryz.func121 rfl trivial (wpIn_wide.2 ?_))
 simp only [Tryz.ntmps121,List.size_toArray,List.length_cons,List.length_nil,Nat.reduceAdd,Nat.reduceSub,Array.replicate_succ,Array.replicate_zero,List.push_toArray,List.append_toArray,List.nil_append,List.cons_append]
 try dsimp only
 repeat ((fail_if_success (with_reducible refine wp_reg (id := 0) ?_)); (first | go_values | go_skip | go_step | go_guarded | go_upon | go_in | go_back | fail))
 with_reducible refine wp_reg (id := 0) ?_
 refine (unhide hP).allocO 109 #[.slice Ai n ci, .slice (some ⟨bt,ot,none⟩) n ct, .slice (some ⟨bn,on,none⟩) n cn] rfl (run_box (v := .agg #[.slice Ai n ci, .slice (some ⟨bt,ot,none⟩) n ct, .slice (some ⟨bn,on,none⟩) n cn]) rfl rfl) ?_
 intro r2 y1 hQ
 replace hP : Hid (Sp w [] w [] [(r2,109, #[.slice Ai n ci, .slice (some ⟨bt,ot,none⟩) n ct, .slice (some ⟨bn,on,none⟩) n cn])] [] y1) := hide hQ
 clear hQ
 refine wpO_want rfl ?_
 go_simp
 refine wpO_done ?_
 try go_frame
 try dsimp only
 repeat ((fail_if_success (with_reducible refine wp_reg (id := 1) ?_)); (first | go_values | go_skip | go_step | go_guarded | go_upon | go_in | go_back | fail))
 with_reducible refine wp_reg (id := 1) ?_
 refine wpO_want rfl ?_
 go_simp
 refine wpO_done ?_
 try go_frame
 try dsimp only
 repeat ((fail_if_success (with_reducible refine wp_reg (id := 2) ?_)); (first | go_values | go_skip | go_step | go_guarded | go_upon | go_in | go_back | fail))
 with_reducible refine wp_reg (id := 2) ?_
 refine wpO_want rfl ?_
 go_simp
 refine wpO_done ?_
 try go_frame
 go_wp2_with fail
 obtain ⟨I1_2,hI1_20⟩ : ∃ I : Nat → Act → World → Prop,I = fun fi a' wr => ∃ (a : Nat), ∃ (z : Nat),a'.tmps.size = 70 ∧ a'.tmps.getD 1 undef = .int .i64 (i : Nat) ∧ a'.tmps.getD 2 undef = .pointer (some ⟨r2,0,none⟩) ∧ a'.tmps.getD 5 undef = .int .i64 (z : Nat) ∧ a'.tmps.getD 6 undef = .int .i64 (a : Nat) ∧ a'.defers = [] ∧ a ≤ n ∧ z = lakS th nb n i a ∧ Sp w [] w [] [(r2,109, #[.slice Ai n ci, .slice (some ⟨bt,ot,none⟩) n ct, .slice (some ⟨bn,on,none⟩) n cn])] [] wr ∧ fi = n - a := ⟨_,rfl⟩
 have hI1_2 := hide hI1_20
 clear hI1_20
 refine wp_loop_ix I1_2 (n - 0) ?_ ?_
 ·rw [unhide hI1_2]; exact ⟨0,0,rfl,rfl,rfl,rfl,rfl,rfl,Nat.zero_le _,rfl,unhide hP,rfl⟩
 ·rintro fi ⟨tm,dfs⟩ wr hrel
  rw [unhide hI1_2] at hrel
  obtain ⟨a,z,hsz,e1,e2,e5,e6,hdf,han,hz,hPr,hfm⟩ := hrel
  obtain ⟨us,rfl⟩ : ∃ us : Nat → Value,tm = #[us 0,us 1,us 2,us 3,us 4,us 5,us 6,us 7,us 8,us 9,us 10,us 11,us 12,us 13,us 14,us 15,us 16,us 17,us 18,us 19,us 20,us 21,us 22,us 23,us 24,us 25,us 26,us 27,us 28,us 29,us 30,us 31,us 32,us 33,us 34,us 35,us 36,us 37,us 38,us 39,us 40,us 41,us 42,us 43,us 44,us 45,us 46,us 47,us 48,us 49,us 50,us 51,us 52,us 53,us 54,us 55,us 56,us 57,us 58,us 59,us 60,us 61,us 62,us 63,us 64,us 65,us 66,us 67,us 68,us 69] := ⟨fun i => tm.getD i undef,arr_fn hsz⟩
  have h1 : us 1 = .int .i64 (i : Nat) := e1
  have h2 : us 2 = .pointer (some ⟨r2,0,none⟩) := e2
  have h5 : us 5 = .int .i64 (z : Nat) := e5
  have h6 : us 6 = .int .i64 (a : Nat) := e6
  have hdf2 : dfs = [] := hdf
  subst hdf2
  clear hdf hsz e1 e2 e5 e6
  simp only [h1,h2,h5,h6]
  clear h1 h2 h5 h6
  clear hP
  have hP := hide hPr
  have hfm' := hide hfm
  have hz' := hide hz
  clear hPr hfm hz
  by_cases hlt : a < n
  ·skip
   have hil : (a : Int) < (n : Int) := by omega
   have ha2 := hide hlt
   have hab : (a : Int) ≤ 4096 := by have := unhide hnb; omega
   have hw0 : IntKind.i64.wrap ((a : Int) + 1) = (a : Int) + 1 := IntWalk.i64_in _ (by omega)
   clear hlt han
   have q0 := (unhide hP).cell 0 0 (v := .slice Ai n ci) rfl rfl
   have hself := Ext.refl wr
   try dsimp only
   repeat ((fail_if_success (with_reducible refine wp_reg (id := 3) ?_)); (first | go_values | go_skip | go_step | go_guarded | go_upon | go_in | go_back | fail))
   with_reducible refine wp_reg (id := 3) ?_
   iterate 5
    refine wpO_want rfl ?_
    go_simp
   refine wpO_done ?_
   try go_frame
   clear q0 hself
   try dsimp only
   repeat ((fail_if_success (with_reducible refine wp_reg (id := 5) ?_)); (first | go_values | go_skip | go_step | go_guarded | go_upon | go_in | go_back | fail))
   with_reducible refine wp_reg (id := 5) ?_
   iterate 3
    refine wpO_want rfl ?_
    go_simp
   refine wpO_done ?_
   try go_frame
   go_wp2_with fail
   obtain ⟨I1_6,hI1_60⟩ : ∃ I : Nat → Act → World → Prop,I = fun fb a' wr => ∃ (b : Nat), ∃ (z2 : Nat),a'.tmps.size = 70 ∧ a'.tmps.getD 1 undef = .int .i64 (i : Nat) ∧ a'.tmps.getD 2 undef = .pointer (some ⟨r2,0,none⟩) ∧ a'.tmps.getD 5 undef = .int .i64 (z2 : Nat) ∧ a'.tmps.getD 6 undef = .int .i64 (a : Nat) ∧ a'.tmps.getD 7 undef = .int .i64 ((b : Nat) : Int) ∧ a'.defers = [] ∧ b ≤ n ∧ a + 1 ≤ b ∧ z2 = z + cntB (lakF th nb i a) b ∧ Sp w [] w [] [(r2,109, #[.slice Ai n ci, .slice (some ⟨bt,ot,none⟩) n ct, .slice (some ⟨bn,on,none⟩) n cn])] [] wr ∧ fb = n - b := ⟨_,rfl⟩
   have hI1_6 := hide hI1_60
   clear hI1_60
   refine wp_loop_ix I1_6 (n - (a + 1)) ?_ ?_
   ·rw [unhide hI1_6]; exact ⟨a + 1,z,rfl,rfl,rfl,rfl,rfl,rfl,rfl,by have := unhide ha2; omega,Nat.le_refl _,by rw [lak_start th nb i a (a + 1) (Nat.le_refl _)]; rfl,unhide hP,rfl⟩
   ·rintro fb ⟨tm,dfs⟩ wr hrel
    rw [unhide hI1_6] at hrel
    obtain ⟨b,z2,hsz,e1,e2,e5,e6,e7,hdf,hbn,hab1,hz2,hPr,hfb⟩ := hrel
    obtain ⟨us,rfl⟩ : ∃ us : Nat → Value,tm = #[us 0,us 1,us 2,us 3,us 4,us 5,us 6,us 7,us 8,us 9,us 10,us 11,us 12,us 13,us 14,us 15,us 16,us 17,us 18,us 19,us 20,us 21,us 22,us 23,us 24,us 25,us 26,us 27,us 28,us 29,us 30,us 31,us 32,us 33,us 34,us 35,us 36,us 37,us 38,us 39,us 40,us 41,us 42,us 43,us 44,us 45,us 46,us 47,us 48,us 49,us 50,us 51,us 52,us 53,us 54,us 55,us 56,us 57,us 58,us 59,us 60,us 61,us 62,us 63,us 64,us 65,us 66,us 67,us 68,us 69] := ⟨fun i => tm.getD i undef,arr_fn hsz⟩
    have h1 : us 1 = .int .i64 (i : Nat) := e1
    have h2 : us 2 = .pointer (some ⟨r2,0,none⟩) := e2
    have h5 : us 5 = .int .i64 (z2 : Nat) := e5
    have h6 : us 6 = .int .i64 (a : Nat) := e6
    have h7 : us 7 = .int .i64 ((b : Nat) : Int) := e7
    have hdf2 : dfs = [] := hdf
    subst hdf2
    clear hdf hsz e1 e2 e5 e6 e7
    simp only [h1,h2,h5,h6,h7]
    clear h1 h2 h5 h6 h7
    clear hP hw0
    have hP := hide hPr
    have hfb' := hide hfb
    have hz2' := hide hz2
    have hab2 := hide hab1
    clear hPr hfb hz2 hab1
    by_cases hlt : b < n
    ·skip
     have hjl : (b : Int) < (n : Int) := by omega
     have hb2 := hide hlt
     have hbb : (b : Int) ≤ 4096 := by have := unhide hnb; omega
     have hzb : (z2 : Int) ≤ 100000000 := by
      have h1 := unhide hz2'
      have h2 := unhide hz'
      have h3 := lakS_le th nb n i a
      have h4 := cntB_le (lakF th nb i a) b
      have h5 := unhide hnb
      have h6 : a * n ≤ 4096 * 4096 := Nat.mul_le_mul (by omega) h5
      omega
     clear hbn
     have hpw := (unhide hp').ext (unhide hP).extf
     obtain ⟨b1,o1,e1,c0⟩ := hpw.thc (unhide ha2)
     obtain ⟨rfl,rfl⟩ : bt = b1 ∧ ot = o1 := by injection e1 with e1; injection e1 with e2 e3; exact ⟨e2,e3⟩
     obtain ⟨b1,o1,e2,c1⟩ := hpw.thc hlt
     obtain ⟨rfl,rfl⟩ : bt = b1 ∧ ot = o1 := by injection e2 with e1; injection e1 with e2 e3; exact ⟨e2,e3⟩
     obtain ⟨b1,o1,b2,o2,c2',e3,d0,d1⟩ := hpw.nbc (unhide ha2)
     obtain ⟨rfl,rfl⟩ : bn = b1 ∧ on = o1 := by injection e3 with e1; injection e1 with e2 e3; exact ⟨e2,e3⟩
     have d1 := d1 b hlt
     have c2 : ∀ W,Ext wr W → W.cell? ⟨bn,on + i,none⟩ = some (.slice (some ⟨br,or',none⟩) n cr) := fun W hW => unhide hc0 W ((unhide hP).extf.trans hW)
     have c3 : ∀ W,Ext wr W → W.cell? ⟨br,or' + a,none⟩ = some (.bool (nbG nb i a)) := fun W hW => unhide hc1 a (unhide ha2) W ((unhide hP).extf.trans hW)
     have c4 : ∀ W,Ext wr W → W.cell? ⟨br,or' + b,none⟩ = some (.bool (nbG nb i b)) := fun W hW => unhide hc1 b hlt W ((unhide hP).extf.trans hW)
     obtain ⟨x1,hx1⟩ : ∃ x1,x1 = th.getD a false := ⟨_,rfl⟩
     obtain ⟨x2,hx2⟩ : ∃ x2,x2 = th.getD b false := ⟨_,rfl⟩
     obtain ⟨x3,hx3⟩ : ∃ x3,x3 = nbG nb i a := ⟨_,rfl⟩
     obtain ⟨x4,hx4⟩ : ∃ x4,x4 = nbG nb i b := ⟨_,rfl⟩
     obtain ⟨x5,hx5⟩ : ∃ x5,x5 = nbG nb a b := ⟨_,rfl⟩
     have hlk := hide (show lakF th nb i a b = (x1 && x2 && x3 && x4 && !x5) by unfold lakF; rw [hx1,hx2,hx3,hx4,hx5,decide_eq_true (by have := unhide hab2; omega),Bool.true_and])
     rw [← hx1] at c0
     rw [← hx2] at c1
     rw [← hx3] at c3
     rw [← hx4] at c4
     rw [← hx5] at d1
     clear hlt hpw e1 e2 e3 hx1 hx2 hx3 hx4 hx5
     have q0 := (unhide hP).cell 0 0 (v := .slice Ai n ci) rfl rfl
     have hself := Ext.refl wr
     try dsimp only
     repeat ((fail_if_success (with_reducible refine wp_reg (id := 6) ?_)); (first | go_values | go_skip | go_step | go_guarded | go_upon | go_in | go_back | fail))
     with_reducible refine wp_reg (id := 6) ?_
     iterate 5
      refine wpO_want rfl ?_
      go_simp
     refine wpO_done ?_
     try go_frame
     clear q0 hself
     have q1 := (unhide hP).cell 0 1 (v := .slice (some ⟨bt,ot,none⟩) n ct) rfl rfl
     have q2 := (unhide hP).cell 0 2 (v := .slice (some ⟨bn,on,none⟩) n cn) rfl rfl
     have hself := Ext.refl wr
     try dsimp only
     repeat ((fail_if_success (with_reducible refine wp_reg (id := 8) ?_)); (first | go_values | go_skip | go_step | go_guarded | go_upon | go_in | go_back | fail))
     with_reducible refine wp_reg (id := 8) ?_
     cases x1
     ·skip
      skip
      iterate 6
       refine wpO_want rfl ?_
       go_simp
      refine wpO_out (by rfl) ?_
      go_frame
      refine wpO_out (by rfl) ?_
      go_frame
      refine wpO_out (by rfl) ?_
      go_frame
      refine wpO_out (by rfl) ?_
      go_frame
      refine wpO_out (by rfl) ?_
      go_frame
      iterate 2
       refine wpO_want rfl ?_
       go_simp
      refine wpO_out (by rfl) ?_
      go_frame
      refine wpO_out (by rfl) ?_
      go_frame
      refine wpO_out (by rfl) ?_
      go_frame
      refine wpO_out (by rfl) ?_
      go_frame
      refine wpO_out (by rfl) ?_
      go_frame
      refine wpO_out (by rfl) ?_
      go_frame
      refine wpO_out (by rfl) ?_
      go_frame
      refine wpO_out (by rfl) ?_
      go_frame
      iterate 2
       refine wpO_want rfl ?_
       go_simp
      refine wpO_out (by rfl) ?_
      go_frame
      refine wpO_out (by rfl) ?_
      go_frame
      refine wpO_out (by rfl) ?_
      go_frame
      refine wpO_out (by rfl) ?_
      go_frame
      refine wpO_out (by rfl) ?_
      go_frame
      refine wpO_out (by rfl) ?_
      go_frame
      refine wpO_out (by rfl) ?_
      go_frame
      refine wpO_out (by rfl) ?_
      go_frame
      iterate 2
       refine wpO_want rfl ?_
       go_simp
      refine wpO_out (by rfl) ?_
      go_frame
      refine wpO_out (by rfl) ?_
      go_frame
      refine wpO_out (by rfl) ?_
      go_frame
      refine wpO_out (by rfl) ?_
      go_frame
      refine wpO_out (by rfl) ?_
      go_frame
      refine wpO_out (by rfl) ?_
      go_frame
      refine wpO_out (by rfl) ?_
      go_frame
      refine wpO_out (by rfl) ?_
      go_frame
      refine wpO_out (by rfl) ?_
      go_frame
      refine wpO_want rfl ?_
      go_simp
      refine wpO_done ?_
      try go_frame
      clear q1 q2 c0 c1 c2 c3 c4 d0 d1 hself
      have hw1 : IntKind.i64.wrap ((b : Int) + 1) = (b : Int) + 1 := IntWalk.i64_in _ (by omega)
      have hzn := hide (show z2 = z + cntB (lakF th nb i a) (b + 1) by rw [cntB_no (by rw [unhide hlk]; rfl),unhide hz2'])
      go_wp2_with fail
      have h3 := unhide hb2
      have h4 := unhide hab2
      refine ⟨n - (b + 1), ?_,by have := unhide hfb'; omega⟩
      rw [unhide hI1_6]
      exact ⟨b + 1,z2,(by first | rfl | trivial),(by first | rfl | trivial),(by first | rfl | trivial),(by first | rfl | (show _ = Value.int _ _; go_num) | go_num),(by first | rfl | trivial),(by first | rfl | (show _ = Value.int _ _; go_num) | go_num),(by first | rfl | trivial),by omega,by omega,unhide hzn,unhide hP,rfl⟩
     ·skip
      cases x2
      ·skip
       skip
       iterate 6
        refine wpO_want rfl ?_
        go_simp
       iterate 7
        refine wpO_want rfl ?_
        go_simp
       refine wpO_out (by rfl) ?_
       go_frame
       refine wpO_out (by rfl) ?_
       go_frame
       refine wpO_out (by rfl) ?_
       go_frame
       refine wpO_out (by rfl) ?_
       go_frame
       refine wpO_out (by rfl) ?_
       go_frame
       refine wpO_out (by rfl) ?_
       go_frame
       refine wpO_out (by rfl) ?_
       go_frame
       refine wpO_out (by rfl) ?_
       go_frame
       iterate 2
        refine wpO_want rfl ?_
        go_simp
       refine wpO_out (by rfl) ?_
       go_frame
       refine wpO_out (by rfl) ?_
       go_frame
       refine wpO_out (by rfl) ?_
       go_frame
       refine wpO_out (by rfl) ?_
       go_frame
       refine wpO_out (by rfl) ?_
       go_frame
       refine wpO_out (by rfl) ?_
       go_frame
       refine wpO_out (by rfl) ?_
       go_frame
       refine wpO_out (by rfl) ?_
       go_frame
       iterate 2
        refine wpO_want rfl ?_
        go_simp
       refine wpO_out (by rfl) ?_
       go_frame
       refine wpO_out (by rfl) ?_
       go_frame
       refine wpO_out (by rfl) ?_
       go_frame
       refine wpO_out (by rfl) ?_
       go_frame
       refine wpO_out (by rfl) ?_
       go_frame
       refine wpO_out (by rfl) ?_
       go_frame
       refine wpO_out (by rfl) ?_
       go_frame
       refine wpO_out (by rfl) ?_
       go_frame
       refine wpO_out (by rfl) ?_
       go_frame
       refine wpO_want rfl ?_
       go_simp
       refine wpO_done ?_
       try go_frame
       clear q1 q2 c0 c1 c2 c3 c4 d0 d1 hself
       have hw1 : IntKind.i64.wrap ((b : Int) + 1) = (b : Int) + 1 := IntWalk.i64_in _ (by omega)
       have hzn := hide (show z2 = z + cntB (lakF th nb i a) (b + 1) by rw [cntB_no (by rw [unhide hlk]; rfl),unhide hz2'])
       go_wp2_with fail
       have h3 := unhide hb2
       have h4 := unhide hab2
       refine ⟨n - (b + 1), ?_,by have := unhide hfb'; omega⟩
       rw [unhide hI1_6]
       exact ⟨b + 1,z2,(by first | rfl | trivial),(by first | rfl | trivial),(by first | rfl | trivial),(by first | rfl | (show _ = Value.int _ _; go_num) | go_num),(by first | rfl | trivial),(by first | rfl | (show _ = Value.int _ _; go_num) | go_num),(by first | rfl | trivial),by omega,by omega,unhide hzn,unhide hP,rfl⟩
      ·skip
       cases x3
       ·skip
        skip
        iterate 6
         refine wpO_want rfl ?_
         go_simp
        iterate 7
         refine wpO_want rfl ?_
         go_simp
        iterate 10
         refine wpO_want rfl ?_
         go_simp
        refine wpO_out (by rfl) ?_
        go_frame
        refine wpO_out (by rfl) ?_
        go_frame
        refine wpO_out (by rfl) ?_
        go_frame
        refine wpO_out (by rfl) ?_
        go_frame
        refine wpO_out (by rfl) ?_
        go_frame
        refine wpO_out (by rfl) ?_
        go_frame
        refine wpO_out (by rfl) ?_
        go_frame
        refine wpO_out (by rfl) ?_
        go_frame
        iterate 2
         refine wpO_want rfl ?_
         go_simp
        refine wpO_out (by rfl) ?_
        go_frame
        refine wpO_out (by rfl) ?_
        go_frame
        refine wpO_out (by rfl) ?_
        go_frame
        refine wpO_out (by rfl) ?_
        go_frame
        refine wpO_out (by rfl) ?_
        go_frame
        refine wpO_out (by rfl) ?_
        go_frame
        refine wpO_out (by rfl) ?_
        go_frame
        refine wpO_out (by rfl) ?_
        go_frame
        refine wpO_out (by rfl) ?_
        go_frame
        refine wpO_want rfl ?_
        go_simp
        refine wpO_done ?_
        try go_frame
        clear q1 q2 c0 c1 c2 c3 c4 d0 d1 hself
        have hw1 : IntKind.i64.wrap ((b : Int) + 1) = (b : Int) + 1 := IntWalk.i64_in _ (by omega)
        have hzn := hide (show z2 = z + cntB (lakF th nb i a) (b + 1) by rw [cntB_no (by rw [unhide hlk]; rfl),unhide hz2'])
        go_wp2_with fail
        have h3 := unhide hb2
        have h4 := unhide hab2
        refine ⟨n - (b + 1), ?_,by have := unhide hfb'; omega⟩
        rw [unhide hI1_6]
        exact ⟨b + 1,z2,(by first | rfl | trivial),(by first | rfl | trivial),(by first | rfl | trivial),(by first | rfl | (show _ = Value.int _ _; go_num) | go_num),(by first | rfl | trivial),(by first | rfl | (show _ = Value.int _ _; go_num) | go_num),(by first | rfl | trivial),by omega,by omega,unhide hzn,unhide hP,rfl⟩
       ·skip
        cases x4
        ·skip
         skip
         iterate 6
          refine wpO_want rfl ?_
          go_simp
         iterate 7
          refine wpO_want rfl ?_
          go_simp
         iterate 10
          refine wpO_want rfl ?_
          go_simp
         iterate 10
          refine wpO_want rfl ?_
          go_simp
         refine wpO_out (by rfl) ?_
         go_frame
         refine wpO_out (by rfl) ?_
         go_frame
         refine wpO_out (by rfl) ?_
         go_frame
         refine wpO_out (by rfl) ?_
         go_frame
         refine wpO_out (by rfl) ?_
         go_frame
         refine wpO_out (by rfl) ?_
         go_frame
         refine wpO_out (by rfl) ?_
         go_frame
         refine wpO_out (by rfl) ?_
         go_frame
         refine wpO_out (by rfl) ?_
         go_frame
         refine wpO_want rfl ?_
         go_simp
         refine wpO_done ?_
         try go_frame
         clear q1 q2 c0 c1 c2 c3 c4 d0 d1 hself
         have hw1 : IntKind.i64.wrap ((b : Int) + 1) = (b : Int) + 1 := IntWalk.i64_in _ (by omega)
         have hzn := hide (show z2 = z + cntB (lakF th nb i a) (b + 1) by rw [cntB_no (by rw [unhide hlk]; rfl),unhide hz2'])
         go_wp2_with fail
         have h3 := unhide hb2
         have h4 := unhide hab2
         refine ⟨n - (b + 1), ?_,by have := unhide hfb'; omega⟩
         rw [unhide hI1_6]
         exact ⟨b + 1,z2,(by first | rfl | trivial),(by first | rfl | trivial),(by first | rfl | trivial),(by first | rfl | (show _ = Value.int _ _; go_num) | go_num),(by first | rfl | trivial),(by first | rfl | (show _ = Value.int _ _; go_num) | go_num),(by first | rfl | trivial),by omega,by omega,unhide hzn,unhide hP,rfl⟩
        ·skip
         cases x5
         ·skip
          iterate 6
           refine wpO_want rfl ?_
           go_simp
          iterate 7
           refine wpO_want rfl ?_
           go_simp
          iterate 10
           refine wpO_want rfl ?_
           go_simp
          iterate 10
           refine wpO_want rfl ?_
           go_simp
          iterate 10
           refine wpO_want rfl ?_
           go_simp
          refine wpO_done ?_
          try go_frame
          clear q1 q2 c0 c1 c2 c3 c4 d0 d1 hself
          have hw1 : IntKind.i64.wrap ((b : Int) + 1) = (b : Int) + 1 := IntWalk.i64_in _ (by omega)
          have hw2 : IntKind.i64.wrap ((z2 : Int) + 1) = (z2 : Int) + 1 := IntWalk.i64_in _ (by omega)
          have hzn := hide (show z2 + 1 = z + cntB (lakF th nb i a) (b + 1) by rw [cntB_yes (by rw [unhide hlk]; rfl),unhide hz2',Nat.add_assoc])
          go_wp2_with fail
          have h3 := unhide hb2
          have h4 := unhide hab2
          refine ⟨n - (b + 1), ?_,by have := unhide hfb'; omega⟩
          rw [unhide hI1_6]
          exact ⟨b + 1,z2 + 1,(by first | rfl | trivial),(by first | rfl | trivial),(by first | rfl | trivial),(by first | rfl | (show _ = Value.int _ _; go_num) | go_num),(by first | rfl | trivial),(by first | rfl | (show _ = Value.int _ _; go_num) | go_num),(by first | rfl | trivial),by omega,by omega,unhide hzn,unhide hP,rfl⟩
         ·skip
          iterate 6
           refine wpO_want rfl ?_
           go_simp
          iterate 7
           refine wpO_want rfl ?_
           go_simp
          iterate 10
           refine wpO_want rfl ?_
           go_simp
          iterate 10
           refine wpO_want rfl ?_
           go_simp
          iterate 10
           refine wpO_want rfl ?_
           go_simp
          refine wpO_done ?_
          try go_frame
          clear q1 q2 c0 c1 c2 c3 c4 d0 d1 hself
          have hw1 : IntKind.i64.wrap ((b : Int) + 1) = (b : Int) + 1 := IntWalk.i64_in _ (by omega)
          have hzn := hide (show z2 = z + cntB (lakF th nb i a) (b + 1) by rw [cntB_no (by rw [unhide hlk]; rfl),unhide hz2'])
          go_wp2_with fail
          have h3 := unhide hb2
          have h4 := unhide hab2
          refine ⟨n - (b + 1), ?_,by have := unhide hfb'; omega⟩
          rw [unhide hI1_6]
          exact ⟨b + 1,z2,(by first | rfl | trivial),(by first | rfl | trivial),(by first | rfl | trivial),(by first | rfl | (show _ = Value.int _ _; go_num) | go_num),(by first | rfl | trivial),(by first | rfl | (show _ = Value.int _ _; go_num) | go_num),(by first | rfl | trivial),by omega,by omega,unhide hzn,unhide hP,rfl⟩
    ·skip
     have hjl : ¬ (b : Int) < (n : Int) := by omega
     obtain rfl : n = b := by omega
     have hzn := hide (show z2 = lakS th nb n i (a + 1) by rw [lak_next, ← unhide hz']; exact unhide hz2')
     clear hlt hbn hfb'
     have q0 := (unhide hP).cell 0 0 (v := .slice Ai n ci) rfl rfl
     have hself := Ext.refl wr
     try dsimp only
     repeat ((fail_if_success (with_reducible refine wp_reg (id := 6) ?_)); (first | go_values | go_skip | go_step | go_guarded | go_upon | go_in | go_back | fail))
     with_reducible refine wp_reg (id := 6) ?_
     iterate 5
      refine wpO_want rfl ?_
      go_simp
     refine wpO_done ?_
     try go_frame
     clear q0 hself hjl
     have hw1 : IntKind.i64.wrap ((a : Int) + 1) = (a : Int) + 1 := IntWalk.i64_in _ (by omega)
     go_wp2_with fail
     have h3 := unhide ha2
     refine ⟨n - (a + 1), ?_,by have := unhide hfm'; omega⟩
     rw [unhide hI1_2]
     exact ⟨a + 1,z2,(by first | rfl | trivial),(by first | rfl | trivial),(by first | rfl | trivial),(by first | rfl | trivial),(by first | rfl | (show _ = Value.int _ _; go_num) | go_num),(by first | rfl | trivial),by omega,unhide hzn,unhide hP,rfl⟩
  ·skip
   have hil : ¬ (a : Int) < (n : Int) := by omega
   obtain rfl : n = a := by omega
   clear hlt han hfm'
   have q0 := (unhide hP).cell 0 0 (v := .slice Ai n ci) rfl rfl
   have hself := Ext.refl wr
   try dsimp only
   repeat ((fail_if_success (with_reducible refine wp_reg (id := 3) ?_)); (first | go_values | go_skip | go_step | go_guarded | go_upon | go_in | go_back | fail))
   with_reducible refine wp_reg (id := 3) ?_
   iterate 5
    refine wpO_want rfl ?_
    go_simp
   refine wpO_done ?_
   try go_frame
   clear q0 hself hil
   try dsimp only
   repeat ((fail_if_success (with_reducible refine wp_reg (id := 10) ?_)); (first | go_values | go_skip | go_step | go_guarded | go_upon | go_in | go_back | fail))
   with_reducible refine wp_reg (id := 10) ?_
   iterate 2
    refine wpO_want rfl ?_
    go_simp
   refine wpO_done ?_
   try go_frame
   go_wp2_with fail
   refine Sp.leaves0 ?_
   exact ⟨_,results_tmp (t := 4) rfl _ _ _,by rw [unhide hz']; rfl,(unhide hP).extf⟩
set_option maxRecDepth 100000 in
set_option maxHeartbeats 16000000 in
theorem order22_any (fb : Bool) (A B : Option Addr) (V : List (Int × Thing)) (E : List ((Int × Int) × Thing)) (cA cB : Nat) (w : World) (hV : SlAt encV 3 w A V) (hE : SlAt encE 4 w B E) (hi : GInv V E) (hl : V.length ≤ 100) :
  Calls Tryz.prog 71 #[.agg #[.slice A V.length cA, .slice B E.length cB], .bool fb] w (OwL w (ordS (keyO fb) (toL (vS V)).length (nr0 E) (toL (vS V)))) := by
 have hof := hide (fun (W : World) (hW : Ext w W) => of22_any A B V E cA cB W (hV.ext hW) (hE.ext hW) hi hl)
 have hLV := toL_vS hi
 have hRp := rep_of hi
 obtain ⟨L0,hL0⟩ : ∃ L0,L0 = toL (vS V) := ⟨_,rfl⟩
 obtain ⟨near0,hnear⟩ : ∃ near,near = nr0 E := ⟨_,rfl⟩
 rw [← hL0, ← hnear]
 rw [← hL0, ← hnear] at hRp
 rw [← hL0] at hLV
 rw [← hLV, ← hnear] at hof
 obtain ⟨nV,hnV⟩ : ∃ nV,nV = V.length := ⟨_,rfl⟩
 obtain ⟨nE,hnE⟩ : ∃ nE,nE = E.length := ⟨_,rfl⟩
 rw [← hnV, ← hnE]
 rw [← hnV, ← hnE] at hof
 have hlL : L0.length = nV := by rw [hLV,List.length_map,hnV]
 rw [← hnV] at hl
 have hlb := hide hl
 have hlL' := hide hlL
 have hnd := hide hRp.nodup
 have hir0 := hide hRp.irr
 obtain ⟨D,hD⟩ : ∃ D,D = ordS (keyO fb) L0.length near0 L0 := ⟨_,rfl⟩
 have hD' := hide hD
 rw [← hD]
 clear hD
 clear hL0 hnear hRp hLV hnV hnE hlL hV hE hi hl
 have hP := hide (Sp.new w)
 refine callsIn_wide.1 (callsIn_of_wp_marks (n := 0) Tryz.func71 rfl trivial (wpIn_wide.2 ?_))
 simp only [Tryz.ntmps71,List.size_toArray,List.length_cons,List.length_nil,Nat.reduceAdd,Nat.reduceSub,Array.replicate_succ,Array.replicate_zero,List.push_toArray,List.append_toArray,List.nil_append,List.cons_append]
 try dsimp only
 repeat ((fail_if_success (with_reducible refine wp_reg (id := 0) ?_)); (first | go_values | go_skip | go_step | go_guarded | go_upon | go_in | go_back | fail))
 with_reducible refine wp_reg (id := 0) ?_
 refine (unhide hP).allocO 41 #[.slice A nV cA, .slice B nE cB] rfl (run_box (v := .agg #[.slice A nV cA, .slice B nE cB]) rfl rfl) ?_
 intro r2 y1 hQ
 replace hP : Hid (Sp w [] w [] [(r2,41, #[.slice A nV cA, .slice B nE cB])] [] y1) := hide hQ
 clear hQ
 refine wpO_want rfl ?_
 go_simp
 refine wpO_done ?_
 try go_frame
 replace hP : Hid (Sp w [] w [] [(r2,41, #[.slice A nV cA, .slice B nE cB])] [(3,1, .slice none 0 0,0,([] : List Int).flatMap encI)] y1) := hide ((unhide hP).nil 3 1)
 try dsimp only
 repeat ((fail_if_success (with_reducible refine wp_reg (id := 1) ?_)); (first | go_values | go_skip | go_step | go_guarded | go_upon | go_in | go_back | fail))
 with_reducible refine wp_reg (id := 1) ?_
 refine wpO_val rfl (run_load_agg (cs := #[.slice A nV cA, .slice B nE cB]) rfl rfl (by simp [go_sem]) (by simp [go_sem]) ((unhide hP).get 0 rfl).whole) ?_
 go_frame
 refine wpO_want rfl ?_
 go_simp
 refine ((unhide hof) y1 (unhide hP).extf).mono ?_
 rintro _ y2 ⟨Ai,At,An,ci,ct,cn,bs,nb,th0,n,hn,rfl,hst,hsq0,htl,hth,hnb0,hxc⟩
 refine ⟨_,rfl, ?_⟩
 replace hP : Hid (Sp w [] w [] [(r2,41, #[.slice A nV cA, .slice B nE cB])] ((3,1, .slice none 0 0,0,([] : List Int).flatMap encI) :: (4,1, .slice At n ct,n,th0.flatMap encB) :: (3,1, .slice Ai n ci,n,L0.flatMap encI) :: (106,1, .slice An n cn,n,(bs.map (hdrP n)).flatMap encSl) :: nearM n bs nb) y2) := hide ((unhide hP).addSt hxc hst)
 have hsq := hide hsq0
 have hnl := hide hn.symm
 have hR0 := hide (show RepB L0 th0 nb n near0 from ⟨hn.symm,htl,unhide hnd,fun a b ha hb _ _ => hnb0 a b ha hb⟩)
 have hT0 := hide (getD_all hth L0 hn.symm)
 have hn100 := hide (show n ≤ 100 by rw [hn,unhide hlL']; exact unhide hlb)
 clear hst hsq0 htl hth hnb0 hxc hn
 refine (unhide hP).allocO 109 #[.slice none 0 0, .slice none 0 0, .slice none 0 0] rfl (by go_simp) ?_
 intro r4 y3 hQ
 replace hP : Hid (Sp w [] w [] [(r2,41, #[.slice A nV cA, .slice B nE cB]),(r4,109, #[.slice none 0 0, .slice none 0 0, .slice none 0 0])] ((3,1, .slice none 0 0,0,([] : List Int).flatMap encI) :: (4,1, .slice At n ct,n,th0.flatMap encB) :: (3,1, .slice Ai n ci,n,L0.flatMap encI) :: (106,1, .slice An n cn,n,(bs.map (hdrP n)).flatMap encSl) :: nearM n bs nb) y3) := hide hQ
 clear hQ
 refine (unhide hP).setO 1 #[.slice Ai n ci, .slice At n ct, .slice An n cn] rfl rfl (fun hb => run_store_row (v := .agg #[.slice Ai n ci, .slice At n ct, .slice An n cn]) rfl (by rfl) (by rfl) (by simp [go_sem]) hb rfl (fun u hu => by simp [Value.cells] at hu; rcases hu with rfl | rfl | rfl <;> rfl)) ?_
 intro y4 hQ
 replace hP : Hid (Sp w [] w [] [(r2,41, #[.slice A nV cA, .slice B nE cB]),(r4,109, #[.slice Ai n ci, .slice At n ct, .slice An n cn])] ((3,1, .slice none 0 0,0,([] : List Int).flatMap encI) :: (4,1, .slice At n ct,n,th0.flatMap encB) :: (3,1, .slice Ai n ci,n,L0.flatMap encI) :: (106,1, .slice An n cn,n,(bs.map (hdrP n)).flatMap encSl) :: nearM n bs nb) y4) := hide hQ
 clear hQ
 refine wpO_done ?_
 try go_frame
 try dsimp only
 repeat ((fail_if_success (with_reducible refine wp_reg (id := 2) ?_)); (first | go_values | go_skip | go_step | go_guarded | go_upon | go_in | go_back | fail))
 with_reducible refine wp_reg (id := 2) ?_
 refine wpO_want rfl ?_
 go_simp
 refine wpO_done ?_
 try go_frame
 go_wp2_with fail
 obtain ⟨I4_2,hI4_20⟩ : ∃ I : Nat → Act → World → Prop,I = fun fi a' wr => ∃ (th : List Bool), ∃ (nb : List (List Bool)), ∃ (near : Int → Int → Bool), ∃ (A6 : Option Addr), ∃ (n6 : Nat), ∃ (c6 : Nat), ∃ (xs : List Int),a'.tmps.size = 121 ∧ a'.tmps.getD 1 undef = .bool fb ∧ a'.tmps.getD 5 undef = .pointer (some ⟨r4,0,none⟩) ∧ a'.tmps.getD 6 undef = .slice A6 n6 c6 ∧ a'.defers = [] ∧ RepB L0 th nb n near ∧ Sqr n bs nb ∧ ((∀ u,near u u = false)) ∧ D = xs ++ ordS (keyO fb) fi near (thL L0 th n) ∧ n6 = xs.length ∧ (thL L0 th n).length = fi ∧ n6 + fi = n ∧ Sp w [] w [] [(r2,41, #[.slice A nV cA, .slice B nE cB]),(r4,109, #[.slice Ai n ci, .slice At n ct, .slice An n cn])] ((3,1, .slice A6 n6 c6,n6,xs.flatMap encI) :: (4,1, .slice At n ct,n,th.flatMap encB) :: (3,1, .slice Ai n ci,n,L0.flatMap encI) :: (106,1, .slice An n cn,n,(bs.map (hdrP n)).flatMap encSl) :: nearM n bs nb) wr := ⟨_,rfl⟩
 have hI4_2 := hide hI4_20
 clear hI4_20
 refine wp_loop_ix I4_2 (L0.length) ?_ ?_
 ·rw [unhide hI4_2]; exact ⟨th0,nb,near0,none,0,0,[],rfl,rfl,rfl,rfl,rfl,unhide hR0,unhide hsq,unhide hir0,by rw [unhide hT0]; exact unhide hD',rfl,by rw [unhide hT0],by rw [unhide hnl]; omega,unhide hP⟩
 ·rintro fi ⟨tm,dfs⟩ wr hrel
  rw [unhide hI4_2] at hrel
  obtain ⟨th,nb,near,A6,n6,c6,xs,hsz,e1,e5,e6,hdf,hRr,hsqr,hir,hDp,hn6,hLf,hnf,hPr⟩ := hrel
  obtain ⟨us,rfl⟩ : ∃ us : Nat → Value,tm = #[us 0,us 1,us 2,us 3,us 4,us 5,us 6,us 7,us 8,us 9,us 10,us 11,us 12,us 13,us 14,us 15,us 16,us 17,us 18,us 19,us 20,us 21,us 22,us 23,us 24,us 25,us 26,us 27,us 28,us 29,us 30,us 31,us 32,us 33,us 34,us 35,us 36,us 37,us 38,us 39,us 40,us 41,us 42,us 43,us 44,us 45,us 46,us 47,us 48,us 49,us 50,us 51,us 52,us 53,us 54,us 55,us 56,us 57,us 58,us 59,us 60,us 61,us 62,us 63,us 64,us 65,us 66,us 67,us 68,us 69,us 70,us 71,us 72,us 73,us 74,us 75,us 76,us 77,us 78,us 79,us 80,us 81,us 82,us 83,us 84,us 85,us 86,us 87,us 88,us 89,us 90,us 91,us 92,us 93,us 94,us 95,us 96,us 97,us 98,us 99,us 100,us 101,us 102,us 103,us 104,us 105,us 106,us 107,us 108,us 109,us 110,us 111,us 112,us 113,us 114,us 115,us 116,us 117,us 118,us 119,us 120] := ⟨fun i => tm.getD i undef,arr_fn hsz⟩
  have h1 : us 1 = .bool fb := e1
  have h5 : us 5 = .pointer (some ⟨r4,0,none⟩) := e5
  have h6 : us 6 = .slice A6 n6 c6 := e6
  have hdf2 : dfs = [] := hdf
  subst hdf2
  clear hdf hsz e1 e5 e6
  simp only [h1,h5,h6]
  clear h1 h5 h6
  clear hP hR0 hT0 hsq hir0
  have hP := hide hPr
  have hR := hide hRr
  have hsq := hide hsqr
  have hir' := hide hir
  have hDp' := hide hDp
  have hn6' := hide hn6
  have hLf' := hide hLf
  have hnf' := hide hnf
  clear hPr hRr hsqr hir hDp hn6 hLf hnf
  by_cases hl0 : n6 < n
  ·skip
   have hil : (n6 : Int) < (n : Int) := by omega
   have hLne : thL L0 th n ≠ [] := fun h => by have h1 := unhide hLf'; rw [h] at h1; have := unhide hnf'; simp at h1; omega
   obtain ⟨f',hf0⟩ : ∃ f',fi = f' + 1 := ⟨fi - 1,by have := unhide hnf'; omega⟩
   have hf' := hide hf0
   have hoc := hide (ordS_cons (keyO fb) near f' hLne)
   have hpk := hide ((pik_spec (ids := L0) (p := fun j => th.getD j false) (kf := kfO fb th nb n) (key := keyO fb near (thL L0 th n)) (n := n) (fun j hj hp => (unhide hR).kf fb hj hp) n (Nat.le_refl n)).2 hLne)
   have hn6b := hide (show n6 ≤ 100 by have := unhide hn100; omega)
   obtain ⟨bt,rfl⟩ := own_some1 ((unhide hP).row 1 rfl) (by omega)
   obtain ⟨bi,rfl⟩ := own_some1 ((unhide hP).row 2 rfl) (by omega)
   obtain ⟨bh,rfl⟩ := own_some1 ((unhide hP).row 3 rfl) (by omega)
   clear hl0 hLne hf0
   have q0 := (unhide hP).cell 1 0 (v := .slice (some ⟨bi,0,none⟩) n ci) rfl rfl
   have hself := Ext.refl wr
   try dsimp only
   repeat ((fail_if_success (with_reducible refine wp_reg (id := 3) ?_)); (first | go_values | go_skip | go_step | go_guarded | go_upon | go_in | go_back | fail))
   with_reducible refine wp_reg (id := 3) ?_
   iterate 6
    refine wpO_want rfl ?_
    go_simp
   refine wpO_done ?_
   try go_frame
   clear q0 hself hil
   try dsimp only
   repeat ((fail_if_success (with_reducible refine wp_reg (id := 4) ?_)); (first | go_values | go_skip | go_step | go_guarded | go_upon | go_in | go_back | fail))
   with_reducible refine wp_reg (id := 4) ?_
   iterate 2
    refine wpO_want rfl ?_
    go_simp
   refine wpO_done ?_
   try go_frame
   try dsimp only
   repeat ((fail_if_success (with_reducible refine wp_reg (id := 5) ?_)); (first | go_values | go_skip | go_step | go_guarded | go_upon | go_in | go_back | fail))
   with_reducible refine wp_reg (id := 5) ?_
   refine wpO_want rfl ?_
   go_simp
   refine wpO_done ?_
   try go_frame
   go_wp2_with fail
   obtain ⟨I4_6,hI4_60⟩ : ∃ I : Nat → Act → World → Prop,I = fun fj a' wr => ∃ (k : Nat), ∃ (zi : Int), ∃ (co : Nat),a'.tmps.size = 121 ∧ a'.tmps.getD 1 undef = .bool fb ∧ a'.tmps.getD 5 undef = .pointer (some ⟨r4,0,none⟩) ∧ a'.tmps.getD 6 undef = .slice A6 n6 c6 ∧ a'.tmps.getD 7 undef = .int .i64 zi ∧ a'.tmps.getD 8 undef = .int .i64 (co : Nat) ∧ a'.tmps.getD 9 undef = .int .i64 (k : Nat) ∧ a'.defers = [] ∧ k ≤ n ∧ (zi = pikB (fun j => th.getD j false) (kfO fb th nb n) k) ∧ (0 ≤ zi → co = kfO fb th nb n zi.toNat) ∧ Sp w [] w [] [(r2,41, #[.slice A nV cA, .slice B nE cB]),(r4,109, #[.slice (some ⟨bi,0,none⟩) n ci, .slice (some ⟨bt,0,none⟩) n ct, .slice (some ⟨bh,0,none⟩) n cn])] ((3,1, .slice A6 n6 c6,n6,xs.flatMap encI) :: (4,1, .slice (some ⟨bt,0,none⟩) n ct,n,th.flatMap encB) :: (3,1, .slice (some ⟨bi,0,none⟩) n ci,n,L0.flatMap encI) :: (106,1, .slice (some ⟨bh,0,none⟩) n cn,n,(bs.map (hdrP n)).flatMap encSl) :: nearM n bs nb) wr ∧ fj = n - k := ⟨_,rfl⟩
   have hI4_6 := hide hI4_60
   clear hI4_60
   refine wp_loop_ix I4_6 (n - 0) ?_ ?_
   ·rw [unhide hI4_6]; exact ⟨0, -1,0,rfl,rfl,rfl,rfl,rfl,rfl,rfl,rfl,Nat.zero_le _,rfl,(fun h => absurd h (by decide)),unhide hP,rfl⟩
   ·rintro fj ⟨tm,dfs⟩ wr hrel
    rw [unhide hI4_6] at hrel
    obtain ⟨k,zi,co,hsz,e1,e5,e6,e7,e8,e9,hdf,hkn,hzi,hco,hPr,hfj⟩ := hrel
    obtain ⟨us,rfl⟩ : ∃ us : Nat → Value,tm = #[us 0,us 1,us 2,us 3,us 4,us 5,us 6,us 7,us 8,us 9,us 10,us 11,us 12,us 13,us 14,us 15,us 16,us 17,us 18,us 19,us 20,us 21,us 22,us 23,us 24,us 25,us 26,us 27,us 28,us 29,us 30,us 31,us 32,us 33,us 34,us 35,us 36,us 37,us 38,us 39,us 40,us 41,us 42,us 43,us 44,us 45,us 46,us 47,us 48,us 49,us 50,us 51,us 52,us 53,us 54,us 55,us 56,us 57,us 58,us 59,us 60,us 61,us 62,us 63,us 64,us 65,us 66,us 67,us 68,us 69,us 70,us 71,us 72,us 73,us 74,us 75,us 76,us 77,us 78,us 79,us 80,us 81,us 82,us 83,us 84,us 85,us 86,us 87,us 88,us 89,us 90,us 91,us 92,us 93,us 94,us 95,us 96,us 97,us 98,us 99,us 100,us 101,us 102,us 103,us 104,us 105,us 106,us 107,us 108,us 109,us 110,us 111,us 112,us 113,us 114,us 115,us 116,us 117,us 118,us 119,us 120] := ⟨fun i => tm.getD i undef,arr_fn hsz⟩
    have h1 : us 1 = .bool fb := e1
    have h5 : us 5 = .pointer (some ⟨r4,0,none⟩) := e5
    have h6 : us 6 = .slice A6 n6 c6 := e6
    have h7 : us 7 = .int .i64 zi := e7
    have h8 : us 8 = .int .i64 (co : Nat) := e8
    have h9 : us 9 = .int .i64 (k : Nat) := e9
    have hdf2 : dfs = [] := hdf
    subst hdf2
    clear hdf hsz e1 e5 e6 e7 e8 e9
    simp only [h1,h5,h6,h7,h8,h9]
    clear h1 h5 h6 h7 h8 h9
    clear hP
    have hP := hide hPr
    have hfj' := hide hfj
    have hzi' := hide hzi
    have hco' := hide hco
    clear hPr hfj hzi hco
    by_cases hlt : k < n
    ·skip
     have hil : (k : Int) < (n : Int) := by omega
     have hk2 := hide hlt
     have hkb : (k : Int) ≤ 100 := by have := unhide hn100; omega
     obtain ⟨x,hx⟩ : ∃ x,x = th.getD k false := ⟨_,rfl⟩
     have hx' := hide hx
     clear hlt hkn hx
     have q0 := (unhide hP).cell 1 0 (v := .slice (some ⟨bi,0,none⟩) n ci) rfl rfl
     have hself := Ext.refl wr
     try dsimp only
     repeat ((fail_if_success (with_reducible refine wp_reg (id := 6) ?_)); (first | go_values | go_skip | go_step | go_guarded | go_upon | go_in | go_back | fail))
     with_reducible refine wp_reg (id := 6) ?_
     iterate 5
      refine wpO_want rfl ?_
      go_simp
     refine wpO_done ?_
     try go_frame
     clear q0 hself
     have c0 : ∀ W',Ext wr W' → W'.cell? ⟨bt,k,none⟩ = some (.bool x) := fun W' hW => by rw [unhide hx']; exact (unhide hP).cellRK (S := []) 1 rfl (by simp) (flatB_get (by rw [(unhide hR).lt]; exact unhide hk2)) W' (hW.keep [])
     have q1 := (unhide hP).cell 1 1 (v := .slice (some ⟨bt,0,none⟩) n ct) rfl rfl
     have hself := Ext.refl wr
     try dsimp only
     repeat ((fail_if_success (with_reducible refine wp_reg (id := 8) ?_)); (first | go_values | go_skip | go_step | go_guarded | go_upon | go_in | go_back | fail))
     with_reducible refine wp_reg (id := 8) ?_
     iterate 6
      refine wpO_want rfl ?_
      go_simp
     refine wpO_done ?_
     try go_frame
     clear c0 q1 hself
     cases x
     ·skip
      have hzn := hide (show zi = pikB (fun j => th.getD j false) (kfO fb th nb n) (k + 1) by rw [pikB_no (by rw [← unhide hx']; rfl)]; exact unhide hzi')
      have hw1 : IntKind.i64.wrap ((k : Int) + 1) = (k : Int) + 1 := IntWalk.i64_in _ (by omega)
      go_wp2_with fail
      have h3 := unhide hk2
      refine ⟨n - (k + 1), ?_,by have := unhide hfj'; omega⟩
      rw [unhide hI4_6]
      exact ⟨k + 1,zi,co,(by first | rfl | trivial),(by first | rfl | trivial),(by first | rfl | trivial),(by first | rfl | trivial),(by first | rfl | trivial),(by first | rfl | trivial),(by first | rfl | (show _ = Value.int _ _; go_num) | go_num),(by first | rfl | trivial),by omega,unhide hzn,unhide hco',unhide hP,rfl⟩
     ·skip
      have hpt := hide (((unhide hP).sub (List.Sublist.refl _) (List.sublist_cons_self _ _)).pat (by have := unhide hn100; omega) (unhide hR).li (unhide hR).lt (unhide hsq))
      obtain ⟨c,hc⟩ : ∃ c,c = kfO fb th nb n k := ⟨_,rfl⟩
      have hc' := hide hc
      clear hc
      cases fb
      ·skip
       try dsimp only
       repeat ((fail_if_success (with_reducible refine wp_reg (id := 9) ?_)); (first | go_values | go_skip | go_step | go_guarded | go_upon | go_in | go_back | fail))
       with_reducible refine wp_reg (id := 9) ?_
       refine wpO_val rfl (run_load_agg (cs := #[.slice (some ⟨bi,0,none⟩) n ci, .slice (some ⟨bt,0,none⟩) n ct, .slice (some ⟨bh,0,none⟩) n cn]) rfl rfl (by simp [go_sem]) (by simp [go_sem]) ((unhide hP).get 1 rfl).whole) ?_
       go_frame
       refine wpO_want rfl ?_
       go_simp
       refine wpO_want rfl ?_
       go_simp
       have hca := degree22_any (some ⟨bi,0,none⟩) (some ⟨bt,0,none⟩) (some ⟨bh,0,none⟩) n ci ct cn L0 th nb (bs.map (hdrP n)) k wr (unhide hpt) (unhide hk2)
       rw [show degB th nb n k = c from (unhide hc').symm] at hca
       refine (hca).mono ?_
       rintro _ y5 ⟨rfl,hxc⟩
       clear hca
       refine ⟨_,rfl, ?_⟩
       replace hP : Hid (Sp w [] w [] [(r2,41, #[.slice A nV cA, .slice B nE cB]),(r4,109, #[.slice (some ⟨bi,0,none⟩) n ci, .slice (some ⟨bt,0,none⟩) n ct, .slice (some ⟨bh,0,none⟩) n cn])] ((3,1, .slice A6 n6 c6,n6,xs.flatMap encI) :: (4,1, .slice (some ⟨bt,0,none⟩) n ct,n,th.flatMap encB) :: (3,1, .slice (some ⟨bi,0,none⟩) n ci,n,L0.flatMap encI) :: (106,1, .slice (some ⟨bh,0,none⟩) n cn,n,(bs.map (hdrP n)).flatMap encSl) :: nearM n bs nb) y5) := hide ((unhide hP).ext hxc)
       clear hxc
       refine wpO_want rfl ?_
       go_simp
       refine wpO_done ?_
       try go_frame
       try dsimp only
       repeat ((fail_if_success (with_reducible refine wp_reg (id := 10) ?_)); (first | go_values | go_skip | go_step | go_guarded | go_upon | go_in | go_back | fail))
       with_reducible refine wp_reg (id := 10) ?_
       refine wpO_want rfl ?_
       go_simp
       refine wpO_done ?_
       try go_frame
       clear hpt
       by_cases hz0 : zi < 0
       ·skip
        have hzn := hide (show (k : Int) = pikB (fun j => th.getD j false) (kfO false th nb n) (k + 1) by rw [pikB_yes (by rw [← unhide hx', ← unhide hzi',decide_eq_true hz0]; rfl)])
        have hd0 : decide (zi < 0) = true := decide_eq_true hz0
        try dsimp only
        repeat ((fail_if_success (with_reducible refine wp_reg (id := 12) ?_)); (first | go_values | go_skip | go_step | go_guarded | go_upon | go_in | go_back | fail))
        with_reducible refine wp_reg (id := 12) ?_
        iterate 3
         refine wpO_want rfl ?_
         go_simp
        refine wpO_out (by rfl) ?_
        go_frame
        refine wpO_out (by rfl) ?_
        go_frame
        refine wpO_out (by rfl) ?_
        go_frame
        refine wpO_want rfl ?_
        go_simp
        refine wpO_done ?_
        try go_frame
        clear hd0 hz0
        try dsimp only
        repeat ((fail_if_success (with_reducible refine wp_reg (id := 13) ?_)); (first | go_values | go_skip | go_step | go_guarded | go_upon | go_in | go_back | fail))
        with_reducible refine wp_reg (id := 13) ?_
        iterate 4
         refine wpO_want rfl ?_
         go_simp
        refine wpO_done ?_
        try go_frame
        have hw1 : IntKind.i64.wrap ((k : Int) + 1) = (k : Int) + 1 := IntWalk.i64_in _ (by omega)
        go_wp2_with fail
        have h3 := unhide hk2
        refine ⟨n - (k + 1), ?_,by have := unhide hfj'; omega⟩
        rw [unhide hI4_6]
        exact ⟨k + 1,(k : Int),c,(by first | rfl | trivial),(by first | rfl | trivial),(by first | rfl | trivial),(by first | rfl | trivial),(by first | rfl | trivial),(by first | rfl | trivial),(by first | rfl | (show _ = Value.int _ _; go_num) | go_num),(by first | rfl | trivial),by omega,unhide hzn,(fun _ => by rw [Int.toNat_natCast]; exact unhide hc'),unhide hP,rfl⟩
       ·skip
        have hc2 := unhide hco' (by omega)
        have hd0 : decide (zi < 0) = false := decide_eq_false hz0
        have hz0' := hide hz0
        by_cases hcc : c < co
        ·skip
         have hzn := hide (show (k : Int) = pikB (fun j => th.getD j false) (kfO false th nb n) (k + 1) by rw [pikB_yes (by rw [← unhide hx', ← unhide hzi',decide_eq_false (unhide hz0'), ← unhide hc', ← hc2,decide_eq_true hcc]; rfl)])
         have hci : (c : Int) < (co : Int) := by omega
         have hd1 : decide (c < co) = true := decide_eq_true hcc
         clear hc2
         try dsimp only
         repeat ((fail_if_success (with_reducible refine wp_reg (id := 12) ?_)); (first | go_values | go_skip | go_step | go_guarded | go_upon | go_in | go_back | fail))
         with_reducible refine wp_reg (id := 12) ?_
         iterate 7
          refine wpO_want rfl ?_
          go_simp
         refine wpO_done ?_
         try go_frame
         clear hd0 hz0 hcc hci hd1
         try dsimp only
         repeat ((fail_if_success (with_reducible refine wp_reg (id := 13) ?_)); (first | go_values | go_skip | go_step | go_guarded | go_upon | go_in | go_back | fail))
         with_reducible refine wp_reg (id := 13) ?_
         iterate 4
          refine wpO_want rfl ?_
          go_simp
         refine wpO_done ?_
         try go_frame
         have hw1 : IntKind.i64.wrap ((k : Int) + 1) = (k : Int) + 1 := IntWalk.i64_in _ (by omega)
         go_wp2_with fail
         have h3 := unhide hk2
         refine ⟨n - (k + 1), ?_,by have := unhide hfj'; omega⟩
         rw [unhide hI4_6]
         exact ⟨k + 1,(k : Int),c,(by first | rfl | trivial),(by first | rfl | trivial),(by first | rfl | trivial),(by first | rfl | trivial),(by first | rfl | trivial),(by first | rfl | trivial),(by first | rfl | (show _ = Value.int _ _; go_num) | go_num),(by first | rfl | trivial),by omega,unhide hzn,(fun _ => by rw [Int.toNat_natCast]; exact unhide hc'),unhide hP,rfl⟩
        ·skip
         have hzn := hide (show zi = pikB (fun j => th.getD j false) (kfO false th nb n) (k + 1) by rw [pikB_no (by rw [← unhide hx', ← unhide hzi',decide_eq_false (unhide hz0'), ← unhide hc', ← hc2,decide_eq_false hcc]; rfl)]; exact unhide hzi')
         have hci : ¬ (c : Int) < (co : Int) := by omega
         have hd1 : decide (c < co) = false := decide_eq_false hcc
         clear hc2
         try dsimp only
         repeat ((fail_if_success (with_reducible refine wp_reg (id := 12) ?_)); (first | go_values | go_skip | go_step | go_guarded | go_upon | go_in | go_back | fail))
         with_reducible refine wp_reg (id := 12) ?_
         iterate 7
          refine wpO_want rfl ?_
          go_simp
         refine wpO_done ?_
         try go_frame
         clear hd0 hz0 hcc hci hd1
         have hw1 : IntKind.i64.wrap ((k : Int) + 1) = (k : Int) + 1 := IntWalk.i64_in _ (by omega)
         go_wp2_with fail
         have h3 := unhide hk2
         refine ⟨n - (k + 1), ?_,by have := unhide hfj'; omega⟩
         rw [unhide hI4_6]
         exact ⟨k + 1,zi,co,(by first | rfl | trivial),(by first | rfl | trivial),(by first | rfl | trivial),(by first | rfl | trivial),(by first | rfl | trivial),(by first | rfl | trivial),(by first | rfl | (show _ = Value.int _ _; go_num) | go_num),(by first | rfl | trivial),by omega,unhide hzn,unhide hco',unhide hP,rfl⟩
      ·skip
       try dsimp only
       repeat ((fail_if_success (with_reducible refine wp_reg (id := 9) ?_)); (first | go_values | go_skip | go_step | go_guarded | go_upon | go_in | go_back | fail))
       with_reducible refine wp_reg (id := 9) ?_
       refine wpO_val rfl (run_load_agg (cs := #[.slice (some ⟨bi,0,none⟩) n ci, .slice (some ⟨bt,0,none⟩) n ct, .slice (some ⟨bh,0,none⟩) n cn]) rfl rfl (by simp [go_sem]) (by simp [go_sem]) ((unhide hP).get 1 rfl).whole) ?_
       go_frame
       refine wpO_want rfl ?_
       go_simp
       refine wpO_want rfl ?_
       go_simp
       have hca := degree22_any (some ⟨bi,0,none⟩) (some ⟨bt,0,none⟩) (some ⟨bh,0,none⟩) n ci ct cn L0 th nb (bs.map (hdrP n)) k wr (unhide hpt) (unhide hk2)
       obtain ⟨dg,hdg⟩ : ∃ dg,dg = degB th nb n k := ⟨_,rfl⟩
       rw [← hdg] at hca
       clear hdg
       refine (hca).mono ?_
       rintro _ y5 ⟨rfl,hxc⟩
       clear hca
       replace hpt := hide ((unhide hpt).ext hxc)
       refine ⟨_,rfl, ?_⟩
       replace hP : Hid (Sp w [] w [] [(r2,41, #[.slice A nV cA, .slice B nE cB]),(r4,109, #[.slice (some ⟨bi,0,none⟩) n ci, .slice (some ⟨bt,0,none⟩) n ct, .slice (some ⟨bh,0,none⟩) n cn])] ((3,1, .slice A6 n6 c6,n6,xs.flatMap encI) :: (4,1, .slice (some ⟨bt,0,none⟩) n ct,n,th.flatMap encB) :: (3,1, .slice (some ⟨bi,0,none⟩) n ci,n,L0.flatMap encI) :: (106,1, .slice (some ⟨bh,0,none⟩) n cn,n,(bs.map (hdrP n)).flatMap encSl) :: nearM n bs nb) y5) := hide ((unhide hP).ext hxc)
       clear hxc
       refine wpO_want rfl ?_
       go_simp
       refine wpO_done ?_
       try go_frame
       try dsimp only
       repeat ((fail_if_success (with_reducible refine wp_reg (id := 10) ?_)); (first | go_values | go_skip | go_step | go_guarded | go_upon | go_in | go_back | fail))
       with_reducible refine wp_reg (id := 10) ?_
       refine wpO_want rfl ?_
       go_simp
       refine wpO_done ?_
       try go_frame
       try dsimp only
       repeat ((fail_if_success (with_reducible refine wp_reg (id := 11) ?_)); (first | go_values | go_skip | go_step | go_guarded | go_upon | go_in | go_back | fail))
       with_reducible refine wp_reg (id := 11) ?_
       refine wpO_val rfl (run_load_agg (cs := #[.slice (some ⟨bi,0,none⟩) n ci, .slice (some ⟨bt,0,none⟩) n ct, .slice (some ⟨bh,0,none⟩) n cn]) rfl rfl (by simp [go_sem]) (by simp [go_sem]) ((unhide hP).get 1 rfl).whole) ?_
       go_frame
       refine wpO_want rfl ?_
       go_simp
       refine wpO_want rfl ?_
       go_simp
       have hca := lacks22_any (some ⟨bi,0,none⟩) (some ⟨bt,0,none⟩) (some ⟨bh,0,none⟩) n ci ct cn L0 th nb (bs.map (hdrP n)) k y5 (unhide hpt) (unhide hk2)
       rw [show lakS th nb n k n = c from (unhide hc').symm] at hca
       refine (hca).mono ?_
       rintro _ y6 ⟨rfl,hxc⟩
       clear hca
       refine ⟨_,rfl, ?_⟩
       replace hP : Hid (Sp w [] w [] [(r2,41, #[.slice A nV cA, .slice B nE cB]),(r4,109, #[.slice (some ⟨bi,0,none⟩) n ci, .slice (some ⟨bt,0,none⟩) n ct, .slice (some ⟨bh,0,none⟩) n cn])] ((3,1, .slice A6 n6 c6,n6,xs.flatMap encI) :: (4,1, .slice (some ⟨bt,0,none⟩) n ct,n,th.flatMap encB) :: (3,1, .slice (some ⟨bi,0,none⟩) n ci,n,L0.flatMap encI) :: (106,1, .slice (some ⟨bh,0,none⟩) n cn,n,(bs.map (hdrP n)).flatMap encSl) :: nearM n bs nb) y6) := hide ((unhide hP).ext hxc)
       clear hxc
       refine wpO_want rfl ?_
       go_simp
       refine wpO_done ?_
       try go_frame
       clear hpt
       by_cases hz0 : zi < 0
       ·skip
        have hzn := hide (show (k : Int) = pikB (fun j => th.getD j false) (kfO true th nb n) (k + 1) by rw [pikB_yes (by rw [← unhide hx', ← unhide hzi',decide_eq_true hz0]; rfl)])
        have hd0 : decide (zi < 0) = true := decide_eq_true hz0
        try dsimp only
        repeat ((fail_if_success (with_reducible refine wp_reg (id := 12) ?_)); (first | go_values | go_skip | go_step | go_guarded | go_upon | go_in | go_back | fail))
        with_reducible refine wp_reg (id := 12) ?_
        iterate 3
         refine wpO_want rfl ?_
         go_simp
        refine wpO_out (by rfl) ?_
        go_frame
        refine wpO_out (by rfl) ?_
        go_frame
        refine wpO_out (by rfl) ?_
        go_frame
        refine wpO_want rfl ?_
        go_simp
        refine wpO_done ?_
        try go_frame
        clear hd0 hz0
        try dsimp only
        repeat ((fail_if_success (with_reducible refine wp_reg (id := 13) ?_)); (first | go_values | go_skip | go_step | go_guarded | go_upon | go_in | go_back | fail))
        with_reducible refine wp_reg (id := 13) ?_
        iterate 4
         refine wpO_want rfl ?_
         go_simp
        refine wpO_done ?_
        try go_frame
        have hw1 : IntKind.i64.wrap ((k : Int) + 1) = (k : Int) + 1 := IntWalk.i64_in _ (by omega)
        go_wp2_with fail
        have h3 := unhide hk2
        refine ⟨n - (k + 1), ?_,by have := unhide hfj'; omega⟩
        rw [unhide hI4_6]
        exact ⟨k + 1,(k : Int),c,(by first | rfl | trivial),(by first | rfl | trivial),(by first | rfl | trivial),(by first | rfl | trivial),(by first | rfl | trivial),(by first | rfl | trivial),(by first | rfl | (show _ = Value.int _ _; go_num) | go_num),(by first | rfl | trivial),by omega,unhide hzn,(fun _ => by rw [Int.toNat_natCast]; exact unhide hc'),unhide hP,rfl⟩
       ·skip
        have hc2 := unhide hco' (by omega)
        have hd0 : decide (zi < 0) = false := decide_eq_false hz0
        have hz0' := hide hz0
        by_cases hcc : c < co
        ·skip
         have hzn := hide (show (k : Int) = pikB (fun j => th.getD j false) (kfO true th nb n) (k + 1) by rw [pikB_yes (by rw [← unhide hx', ← unhide hzi',decide_eq_false (unhide hz0'), ← unhide hc', ← hc2,decide_eq_true hcc]; rfl)])
         have hci : (c : Int) < (co : Int) := by omega
         have hd1 : decide (c < co) = true := decide_eq_true hcc
         clear hc2
         try dsimp only
         repeat ((fail_if_success (with_reducible refine wp_reg (id := 12) ?_)); (first | go_values | go_skip | go_step | go_guarded | go_upon | go_in | go_back | fail))
         with_reducible refine wp_reg (id := 12) ?_
         iterate 7
          refine wpO_want rfl ?_
          go_simp
         refine wpO_done ?_
         try go_frame
         clear hd0 hz0 hcc hci hd1
         try dsimp only
         repeat ((fail_if_success (with_reducible refine wp_reg (id := 13) ?_)); (first | go_values | go_skip | go_step | go_guarded | go_upon | go_in | go_back | fail))
         with_reducible refine wp_reg (id := 13) ?_
         iterate 4
          refine wpO_want rfl ?_
          go_simp
         refine wpO_done ?_
         try go_frame
         have hw1 : IntKind.i64.wrap ((k : Int) + 1) = (k : Int) + 1 := IntWalk.i64_in _ (by omega)
         go_wp2_with fail
         have h3 := unhide hk2
         refine ⟨n - (k + 1), ?_,by have := unhide hfj'; omega⟩
         rw [unhide hI4_6]
         exact ⟨k + 1,(k : Int),c,(by first | rfl | trivial),(by first | rfl | trivial),(by first | rfl | trivial),(by first | rfl | trivial),(by first | rfl | trivial),(by first | rfl | trivial),(by first | rfl | (show _ = Value.int _ _; go_num) | go_num),(by first | rfl | trivial),by omega,unhide hzn,(fun _ => by rw [Int.toNat_natCast]; exact unhide hc'),unhide hP,rfl⟩
        ·skip
         have hzn := hide (show zi = pikB (fun j => th.getD j false) (kfO true th nb n) (k + 1) by rw [pikB_no (by rw [← unhide hx', ← unhide hzi',decide_eq_false (unhide hz0'), ← unhide hc', ← hc2,decide_eq_false hcc]; rfl)]; exact unhide hzi')
         have hci : ¬ (c : Int) < (co : Int) := by omega
         have hd1 : decide (c < co) = false := decide_eq_false hcc
         clear hc2
         try dsimp only
         repeat ((fail_if_success (with_reducible refine wp_reg (id := 12) ?_)); (first | go_values | go_skip | go_step | go_guarded | go_upon | go_in | go_back | fail))
         with_reducible refine wp_reg (id := 12) ?_
         iterate 7
          refine wpO_want rfl ?_
          go_simp
         refine wpO_done ?_
         try go_frame
         clear hd0 hz0 hcc hci hd1
         have hw1 : IntKind.i64.wrap ((k : Int) + 1) = (k : Int) + 1 := IntWalk.i64_in _ (by omega)
         go_wp2_with fail
         have h3 := unhide hk2
         refine ⟨n - (k + 1), ?_,by have := unhide hfj'; omega⟩
         rw [unhide hI4_6]
         exact ⟨k + 1,zi,co,(by first | rfl | trivial),(by first | rfl | trivial),(by first | rfl | trivial),(by first | rfl | trivial),(by first | rfl | trivial),(by first | rfl | trivial),(by first | rfl | (show _ = Value.int _ _; go_num) | go_num),(by first | rfl | trivial),by omega,unhide hzn,unhide hco',unhide hP,rfl⟩
    ·skip
     have hil : ¬ (k : Int) < (n : Int) := by omega
     obtain rfl : n = k := by omega
     obtain ⟨m,hm,hmn0,htm0,hml⟩ := unhide hpk
     obtain rfl : zi = (m : Int) := by rw [unhide hzi']; exact hm
     obtain ⟨y,hy⟩ : ∃ y,y = L0.getD m 0 := ⟨_,rfl⟩
     rw [← hy,show selB L0 (fun j => th.getD j false) n = thL L0 th n from rfl] at hml
     have hdl := (unhide hR).drop_L hmn0 htm0
     rw [← hy] at hdl
     have hDs := hide (show D = (xs ++ [y]) ++ ordS (keyO fb) f' (eliB near y) (thL L0 (th.set m false) n) by rw [unhide hDp',unhide hf',unhide hoc, ← hml,hdl,List.append_assoc]; rfl)
     have hLn := hide (show (thL L0 (th.set m false) n).length = f' by
      rw [hdl,List.length_erase_of_mem (by rw [hml]; exact leastP_mem _ (fun h => by have h1 := unhide hLf'; rw [h,unhide hf'] at h1; cases h1)),unhide hLf',unhide hf']; rfl)
     have hEl := hide (fun (M : List (List Bool)) (hM : ∀ a b,a < n → b < n → nbG M a b = (nbG nb a b || elQ (th.set m false) nb m a b)) => show RepB L0 (th.set m false) M n (eliB near y) by rw [hy]; exact (unhide hR).elim hmn0 htm0 hM)
     have htf := hide (show (th.set m false).getD m false = false by rw [getD_set _ _ _ _ _ (by rw [(unhide hR).lt]; exact hmn0),if_pos rfl])
     have hmn := hide hmn0
     have hyy := hide hy
     have hmI : (m : Int) < (n : Int) := by omega
     have hm0 : (m : Int) ≥ 0 := by omega
     have hmi := hide (show m < L0.length by rw [unhide hnl]; exact hmn0)
     have hml0 := hide (show m < th.length by rw [(unhide hR).lt]; exact hmn0)
     have hthl := hide (show (th.set m false).length = n by rw [List.length_set]; exact (unhide hR).lt)
     have hir2 := hide (fun u => eliB_irr (unhide hir') y u)
     obtain ⟨th',hth'⟩ : ∃ th',th' = th.set m false := ⟨_,rfl⟩
     rw [← hth'] at hDs hLn hEl htf hthl
     have hthe := hide hth'
     obtain ⟨br,hbr0⟩ := (unhide hsq).bs hmn0
     have hbr := hide hbr0
     clear hlt hkn hfj' hm hmn0 htm0 hml hy hdl hzi' hco' hpk hoc hth' hbr0
     have q0 := (unhide hP).cell 1 0 (v := .slice (some ⟨bi,0,none⟩) n ci) rfl rfl
     have hself := Ext.refl wr
     try dsimp only
     repeat ((fail_if_success (with_reducible refine wp_reg (id := 6) ?_)); (first | go_values | go_skip | go_step | go_guarded | go_upon | go_in | go_back | fail))
     with_reducible refine wp_reg (id := 6) ?_
     iterate 5
      refine wpO_want rfl ?_
      go_simp
     refine wpO_done ?_
     try go_frame
     clear q0 hself hil
     have c0 : ∀ W',Ext wr W' → W'.cell? ⟨bi,m,none⟩ = some (.int .i64 y) := fun W' hW => by rw [unhide hyy]; exact (unhide hP).cellRK (S := []) 2 rfl (by simp) (flatI_get (unhide hmi)) W' (hW.keep [])
     have q0 := (unhide hP).cell 1 0 (v := .slice (some ⟨bi,0,none⟩) n ci) rfl rfl
     have hself := Ext.refl wr
     try dsimp only
     repeat ((fail_if_success (with_reducible refine wp_reg (id := 14) ?_)); (first | go_values | go_skip | go_step | go_guarded | go_upon | go_in | go_back | fail))
     with_reducible refine wp_reg (id := 14) ?_
     iterate 6
      refine wpO_want rfl ?_
      go_simp
     clear q0 c0 hself
     refine (unhide hP).build1O 3 #[.int .i64 y] rfl (run_build1 rfl rfl) ?_
     intro bb y5 hQ
     replace hP : Hid (Sp w [] w [] [(r2,41, #[.slice A nV cA, .slice B nE cB]),(r4,109, #[.slice (some ⟨bi,0,none⟩) n ci, .slice (some ⟨bt,0,none⟩) n ct, .slice (some ⟨bh,0,none⟩) n cn]),(bb,3, #[.int .i64 y])] ((3,1, .slice A6 n6 c6,n6,xs.flatMap encI) :: (4,1, .slice (some ⟨bt,0,none⟩) n ct,n,th.flatMap encB) :: (3,1, .slice (some ⟨bi,0,none⟩) n ci,n,L0.flatMap encI) :: (106,1, .slice (some ⟨bh,0,none⟩) n cn,n,(bs.map (hdrP n)).flatMap encSl) :: nearM n bs nb) y5) := hide hQ
     clear hQ
     go_frame
     refine (unhide hP).ap1O (enc := encI) (T := 3) (ST := 30) 0 (v := .slice A6 n6 c6) (m := n6) (xs := xs) rfl rfl infoI Tryz.underlying30 one_encI (fun _ => rfl) (by decide) (by decide) rfl y rfl rfl ((unhide hP).get 2 rfl) (by have := unhide hn6b; omega) ?_
     intro A7 cA7 y6 hQ
     replace hP : Hid (Sp w [] w [] [(r2,41, #[.slice A nV cA, .slice B nE cB]),(r4,109, #[.slice (some ⟨bi,0,none⟩) n ci, .slice (some ⟨bt,0,none⟩) n ct, .slice (some ⟨bh,0,none⟩) n cn]),(bb,3, #[.int .i64 y])] ((3,1, .slice A7 (n6 + 1) cA7,n6 + 1,(xs ++ [y]).flatMap encI) :: (4,1, .slice (some ⟨bt,0,none⟩) n ct,n,th.flatMap encB) :: (3,1, .slice (some ⟨bi,0,none⟩) n ci,n,L0.flatMap encI) :: (106,1, .slice (some ⟨bh,0,none⟩) n cn,n,(bs.map (hdrP n)).flatMap encSl) :: nearM n bs nb) y6) := hide hQ
     clear hQ
     try go_frame
     refine wpO_want rfl ?_
     go_simp
     refine wpO_done ?_
     try go_frame
     replace hP : Hid (Sp w [] w [] [(r2,41, #[.slice A nV cA, .slice B nE cB]),(r4,109, #[.slice (some ⟨bi,0,none⟩) n ci, .slice (some ⟨bt,0,none⟩) n ct, .slice (some ⟨bh,0,none⟩) n cn])] ((3,1, .slice A7 (n6 + 1) cA7,n6 + 1,(xs ++ [y]).flatMap encI) :: (4,1, .slice (some ⟨bt,0,none⟩) n ct,n,th.flatMap encB) :: (3,1, .slice (some ⟨bi,0,none⟩) n ci,n,L0.flatMap encI) :: (106,1, .slice (some ⟨bh,0,none⟩) n cn,n,(bs.map (hdrP n)).flatMap encSl) :: nearM n bs nb) y6) := hide ((unhide hP).sub (List.sublist_append_left _ ([(bb,3, #[.int .i64 y])] : List Cl)) (List.Sublist.refl _))
     have q1 := (unhide hP).cell 1 1 (v := .slice (some ⟨bt,0,none⟩) n ct) rfl rfl
     have hself := Ext.refl y6
     try dsimp only
     repeat ((fail_if_success (with_reducible refine wp_reg (id := 15) ?_)); (first | go_values | go_skip | go_step | go_guarded | go_upon | go_in | go_back | fail))
     with_reducible refine wp_reg (id := 15) ?_
     iterate 4
      refine wpO_want rfl ?_
      go_simp
     refine (unhide hP).putO (enc := encB) (f := fun q => .bool q) (fun _ => rfl) (fun _ => rfl) (fun _ => rfl) 1 false rfl rfl (q := m) rfl (by first | rfl | go_simp) rfl (by simp [go_sem]) (unhide hml0) ?_
     intro y7 hQ
     replace hP : Hid (Sp w [] w [] [(r2,41, #[.slice A nV cA, .slice B nE cB]),(r4,109, #[.slice (some ⟨bi,0,none⟩) n ci, .slice (some ⟨bt,0,none⟩) n ct, .slice (some ⟨bh,0,none⟩) n cn])] ((3,1, .slice A7 (n6 + 1) cA7,n6 + 1,(xs ++ [y]).flatMap encI) :: (4,1, .slice (some ⟨bt,0,none⟩) n ct,n,th'.flatMap encB) :: (3,1, .slice (some ⟨bi,0,none⟩) n ci,n,L0.flatMap encI) :: (106,1, .slice (some ⟨bh,0,none⟩) n cn,n,(bs.map (hdrP n)).flatMap encSl) :: nearM n bs nb) y7) := hide (by rw [unhide hthe]; exact hQ)
     clear hQ q1 hself
     go_frame
     refine wpO_done ?_
     try go_frame
     try dsimp only
     repeat ((fail_if_success (with_reducible refine wp_reg (id := 16) ?_)); (first | go_values | go_skip | go_step | go_guarded | go_upon | go_in | go_back | fail))
     with_reducible refine wp_reg (id := 16) ?_
     refine wpO_want rfl ?_
     go_simp
     refine wpO_done ?_
     try go_frame
     go_wp2_with fail
     obtain ⟨I7_10,hI7_100⟩ : ∃ I : Nat → Act → World → Prop,I = fun fa a' wr => ∃ (a : Nat), ∃ (M : List (List Bool)),a'.tmps.size = 121 ∧ a'.tmps.getD 1 undef = .bool fb ∧ a'.tmps.getD 5 undef = .pointer (some ⟨r4,0,none⟩) ∧ a'.tmps.getD 6 undef = .slice A7 (n6 + 1) cA7 ∧ a'.tmps.getD 7 undef = .int .i64 (m : Nat) ∧ a'.tmps.getD 11 undef = .int .i64 (a : Nat) ∧ a'.defers = [] ∧ a ≤ n ∧ Sqr n bs M ∧ (∀ a' b',a' < n → b' < n → nbG M a' b' = (nbG nb a' b' || ofT (elQ th' nb m) a 0 a' b')) ∧ Sp w [] w [] [(r2,41, #[.slice A nV cA, .slice B nE cB]),(r4,109, #[.slice (some ⟨bi,0,none⟩) n ci, .slice (some ⟨bt,0,none⟩) n ct, .slice (some ⟨bh,0,none⟩) n cn])] ((3,1, .slice A7 (n6 + 1) cA7,n6 + 1,(xs ++ [y]).flatMap encI) :: (4,1, .slice (some ⟨bt,0,none⟩) n ct,n,th'.flatMap encB) :: (3,1, .slice (some ⟨bi,0,none⟩) n ci,n,L0.flatMap encI) :: (106,1, .slice (some ⟨bh,0,none⟩) n cn,n,(bs.map (hdrP n)).flatMap encSl) :: nearM n bs M) wr ∧ fa = n - a := ⟨_,rfl⟩
     have hI7_10 := hide hI7_100
     clear hI7_100
     refine wp_loop_ix I7_10 (n - 0) ?_ ?_
     ·rw [unhide hI7_10]; exact ⟨0,nb,rfl,rfl,rfl,rfl,rfl,rfl,rfl,Nat.zero_le _,unhide hsq,elT_start _,unhide hP,rfl⟩
     ·rintro fa ⟨tm,dfs⟩ wr hrel
      rw [unhide hI7_10] at hrel
      obtain ⟨a,M,hsz,e1,e5,e6,e7,e11,hdf,han,hMs,hM,hPr,hfa⟩ := hrel
      obtain ⟨us,rfl⟩ : ∃ us : Nat → Value,tm = #[us 0,us 1,us 2,us 3,us 4,us 5,us 6,us 7,us 8,us 9,us 10,us 11,us 12,us 13,us 14,us 15,us 16,us 17,us 18,us 19,us 20,us 21,us 22,us 23,us 24,us 25,us 26,us 27,us 28,us 29,us 30,us 31,us 32,us 33,us 34,us 35,us 36,us 37,us 38,us 39,us 40,us 41,us 42,us 43,us 44,us 45,us 46,us 47,us 48,us 49,us 50,us 51,us 52,us 53,us 54,us 55,us 56,us 57,us 58,us 59,us 60,us 61,us 62,us 63,us 64,us 65,us 66,us 67,us 68,us 69,us 70,us 71,us 72,us 73,us 74,us 75,us 76,us 77,us 78,us 79,us 80,us 81,us 82,us 83,us 84,us 85,us 86,us 87,us 88,us 89,us 90,us 91,us 92,us 93,us 94,us 95,us 96,us 97,us 98,us 99,us 100,us 101,us 102,us 103,us 104,us 105,us 106,us 107,us 108,us 109,us 110,us 111,us 112,us 113,us 114,us 115,us 116,us 117,us 118,us 119,us 120] := ⟨fun i => tm.getD i undef,arr_fn hsz⟩
      have h1 : us 1 = .bool fb := e1
      have h5 : us 5 = .pointer (some ⟨r4,0,none⟩) := e5
      have h6 : us 6 = .slice A7 (n6 + 1) cA7 := e6
      have h7 : us 7 = .int .i64 (m : Nat) := e7
      have h11 : us 11 = .int .i64 (a : Nat) := e11
      have hdf2 : dfs = [] := hdf
      subst hdf2
      clear hdf hsz e1 e5 e6 e7 e11
      simp only [h1,h5,h6,h7,h11]
      clear h1 h5 h6 h7 h11
      clear hP
      have hP := hide hPr
      have hfa' := hide hfa
      have hMs' := hide hMs
      have hM' := hide hM
      clear hPr hfa hMs hM
      by_cases hlt : a < n
      ·skip
       have hil : (a : Int) < (n : Int) := by omega
       have ha2 := hide hlt
       have hab : (a : Int) ≤ 100 := by have := unhide hn100; omega
       clear hlt han
       have q0 := (unhide hP).cell 1 0 (v := .slice (some ⟨bi,0,none⟩) n ci) rfl rfl
       have hself := Ext.refl wr
       try dsimp only
       repeat ((fail_if_success (with_reducible refine wp_reg (id := 17) ?_)); (first | go_values | go_skip | go_step | go_guarded | go_upon | go_in | go_back | fail))
       with_reducible refine wp_reg (id := 17) ?_
       iterate 5
        refine wpO_want rfl ?_
        go_simp
       refine wpO_done ?_
       try go_frame
       clear q0 hself
       try dsimp only
       repeat ((fail_if_success (with_reducible refine wp_reg (id := 19) ?_)); (first | go_values | go_skip | go_step | go_guarded | go_upon | go_in | go_back | fail))
       with_reducible refine wp_reg (id := 19) ?_
       refine wpO_want rfl ?_
       go_simp
       refine wpO_done ?_
       try go_frame
       go_wp2_with fail
       obtain ⟨I7_14,hI7_140⟩ : ∃ I : Nat → Act → World → Prop,I = fun fb' a' wr => ∃ (b : Nat), ∃ (M : List (List Bool)),a'.tmps.size = 121 ∧ a'.tmps.getD 1 undef = .bool fb ∧ a'.tmps.getD 5 undef = .pointer (some ⟨r4,0,none⟩) ∧ a'.tmps.getD 6 undef = .slice A7 (n6 + 1) cA7 ∧ a'.tmps.getD 7 undef = .int .i64 (m : Nat) ∧ a'.tmps.getD 11 undef = .int .i64 (a : Nat) ∧ a'.tmps.getD 12 undef = .int .i64 (b : Nat) ∧ a'.defers = [] ∧ b ≤ n ∧ Sqr n bs M ∧ (∀ a' b',a' < n → b' < n → nbG M a' b' = (nbG nb a' b' || ofT (elQ th' nb m) a b a' b')) ∧ Sp w [] w [] [(r2,41, #[.slice A nV cA, .slice B nE cB]),(r4,109, #[.slice (some ⟨bi,0,none⟩) n ci, .slice (some ⟨bt,0,none⟩) n ct, .slice (some ⟨bh,0,none⟩) n cn])] ((3,1, .slice A7 (n6 + 1) cA7,n6 + 1,(xs ++ [y]).flatMap encI) :: (4,1, .slice (some ⟨bt,0,none⟩) n ct,n,th'.flatMap encB) :: (3,1, .slice (some ⟨bi,0,none⟩) n ci,n,L0.flatMap encI) :: (106,1, .slice (some ⟨bh,0,none⟩) n cn,n,(bs.map (hdrP n)).flatMap encSl) :: nearM n bs M) wr ∧ fb' = n - b := ⟨_,rfl⟩
       have hI7_14 := hide hI7_140
       clear hI7_140
       refine wp_loop_ix I7_14 (n - 0) ?_ ?_
       ·rw [unhide hI7_14]; exact ⟨0,M,rfl,rfl,rfl,rfl,rfl,rfl,rfl,rfl,Nat.zero_le _,unhide hMs',unhide hM',unhide hP,rfl⟩
       ·rintro fb' ⟨tm,dfs⟩ wr hrel
        rw [unhide hI7_14] at hrel
        obtain ⟨b,M,hsz,e1,e5,e6,e7,e11,e12,hdf,hbn,hMs,hM,hPr,hfb⟩ := hrel
        obtain ⟨us,rfl⟩ : ∃ us : Nat → Value,tm = #[us 0,us 1,us 2,us 3,us 4,us 5,us 6,us 7,us 8,us 9,us 10,us 11,us 12,us 13,us 14,us 15,us 16,us 17,us 18,us 19,us 20,us 21,us 22,us 23,us 24,us 25,us 26,us 27,us 28,us 29,us 30,us 31,us 32,us 33,us 34,us 35,us 36,us 37,us 38,us 39,us 40,us 41,us 42,us 43,us 44,us 45,us 46,us 47,us 48,us 49,us 50,us 51,us 52,us 53,us 54,us 55,us 56,us 57,us 58,us 59,us 60,us 61,us 62,us 63,us 64,us 65,us 66,us 67,us 68,us 69,us 70,us 71,us 72,us 73,us 74,us 75,us 76,us 77,us 78,us 79,us 80,us 81,us 82,us 83,us 84,us 85,us 86,us 87,us 88,us 89,us 90,us 91,us 92,us 93,us 94,us 95,us 96,us 97,us 98,us 99,us 100,us 101,us 102,us 103,us 104,us 105,us 106,us 107,us 108,us 109,us 110,us 111,us 112,us 113,us 114,us 115,us 116,us 117,us 118,us 119,us 120] := ⟨fun i => tm.getD i undef,arr_fn hsz⟩
        have h1 : us 1 = .bool fb := e1
        have h5 : us 5 = .pointer (some ⟨r4,0,none⟩) := e5
        have h6 : us 6 = .slice A7 (n6 + 1) cA7 := e6
        have h7 : us 7 = .int .i64 (m : Nat) := e7
        have h11 : us 11 = .int .i64 (a : Nat) := e11
        have h12 : us 12 = .int .i64 (b : Nat) := e12
        have hdf2 : dfs = [] := hdf
        subst hdf2
        clear hdf hsz e1 e5 e6 e7 e11 e12
        simp only [h1,h5,h6,h7,h11,h12]
        clear h1 h5 h6 h7 h11 h12
        clear hP hMs' hM'
        have hP := hide hPr
        have hfb' := hide hfb
        have hMs' := hide hMs
        have hM' := hide hM
        clear hPr hfb hMs hM
        by_cases hlt : b < n
        ·skip
         have hjl : (b : Int) < (n : Int) := by omega
         have hb2 := hide hlt
         have hbb : (b : Int) ≤ 100 := by have := unhide hn100; omega
         obtain ⟨x1,hx1⟩ : ∃ x1,x1 = decide (a ≠ b) := ⟨_,rfl⟩
         obtain ⟨x2,hx2⟩ : ∃ x2,x2 = th'.getD a false := ⟨_,rfl⟩
         obtain ⟨x3,hx3⟩ : ∃ x3,x3 = th'.getD b false := ⟨_,rfl⟩
         obtain ⟨x4,hx4⟩ : ∃ x4,x4 = nbG nb m a := ⟨_,rfl⟩
         obtain ⟨x5,hx5⟩ : ∃ x5,x5 = nbG nb m b := ⟨_,rfl⟩
         have hq := hide (show elQ th' nb m a b = (x1 && x2 && x3 && x4 && x5) by rw [hx1,hx2,hx3,hx4,hx5]; rfl)
         have hrow : ∀ j,j < n → nbG M m j = nbG nb m j := fun j hj => by rw [unhide hM' m j (unhide hmn) hj]; unfold ofT; rw [elQ_row (unhide htf)]; simp
         have hr4 := hide ((hrow a (unhide ha2)).trans hx4.symm)
         have hr5 := hide ((hrow b hlt).trans hx5.symm)
         have hne := neB_of x1 hx1.symm
         have hx2' := hide hx2
         have hx3' := hide hx3
         obtain ⟨ba,hba0⟩ := (unhide hMs').bs (unhide ha2)
         have hba := hide hba0
         have hmI3 := hmI
         clear hbn hx1 hx2 hx3 hx4 hx5 hrow hba0
         have q0 := (unhide hP).cell 1 0 (v := .slice (some ⟨bi,0,none⟩) n ci) rfl rfl
         have hself := Ext.refl wr
         try dsimp only
         repeat ((fail_if_success (with_reducible refine wp_reg (id := 20) ?_)); (first | go_values | go_skip | go_step | go_guarded | go_upon | go_in | go_back | fail))
         with_reducible refine wp_reg (id := 20) ?_
         iterate 5
          refine wpO_want rfl ?_
          go_simp
         refine wpO_done ?_
         try go_frame
         clear q0 hself
         have c0 : ∀ W',Ext wr W' → W'.cell? ⟨bt,a,none⟩ = some (.bool x2) := fun W' hW => by rw [unhide hx2']; exact (unhide hP).cellRK (S := []) 1 rfl (by simp) (flatB_get (by rw [unhide hthl]; exact unhide ha2)) W' (hW.keep [])
         have c1 : ∀ W',Ext wr W' → W'.cell? ⟨bt,b,none⟩ = some (.bool x3) := fun W' hW => by rw [unhide hx3']; exact (unhide hP).cellRK (S := []) 1 rfl (by simp) (flatB_get (by rw [unhide hthl]; exact unhide hb2)) W' (hW.keep [])
         have c2 : ∀ W',Ext wr W' → W'.cell? ⟨bh,m,none⟩ = some (.slice (some ⟨br,0,none⟩) n n) := fun W' hW => (unhide hP).cellRK (S := []) 3 rfl (by simp) (flatH_get (unhide hbr)) W' (hW.keep [])
         have c3 : ∀ W',Ext wr W' → W'.cell? ⟨br,a,none⟩ = some (.bool x4) := fun W' hW => by rw [← unhide hr4]; exact (unhide hP).nb4 (S := []) (unhide hMs') (unhide hmn) (unhide ha2) (unhide hbr) (by simp) W' (hW.keep [])
         have c4 : ∀ W',Ext wr W' → W'.cell? ⟨br,b,none⟩ = some (.bool x5) := fun W' hW => by rw [← unhide hr5]; exact (unhide hP).nb4 (S := []) (unhide hMs') (unhide hmn) (unhide hb2) (unhide hbr) (by simp) W' (hW.keep [])
         clear hlt
         have q1 := (unhide hP).cell 1 1 (v := .slice (some ⟨bt,0,none⟩) n ct) rfl rfl
         have q2 := (unhide hP).cell 1 2 (v := .slice (some ⟨bh,0,none⟩) n cn) rfl rfl
         have hself := Ext.refl wr
         try dsimp only
         repeat ((fail_if_success (with_reducible refine wp_reg (id := 22) ?_)); (first | go_values | go_skip | go_step | go_guarded | go_upon | go_in | go_back | fail))
         with_reducible refine wp_reg (id := 22) ?_
         cases x1
         ·skip
          skip
          iterate 4
           refine wpO_want rfl ?_
           go_simp
          refine wpO_out (by rfl) ?_
          go_frame
          refine wpO_out (by rfl) ?_
          go_frame
          refine wpO_out (by rfl) ?_
          go_frame
          refine wpO_out (by rfl) ?_
          go_frame
          refine wpO_out (by rfl) ?_
          go_frame
          iterate 2
           refine wpO_want rfl ?_
           go_simp
          refine wpO_out (by rfl) ?_
          go_frame
          refine wpO_out (by rfl) ?_
          go_frame
          refine wpO_out (by rfl) ?_
          go_frame
          refine wpO_out (by rfl) ?_
          go_frame
          refine wpO_out (by rfl) ?_
          go_frame
          iterate 2
           refine wpO_want rfl ?_
           go_simp
          refine wpO_out (by rfl) ?_
          go_frame
          refine wpO_out (by rfl) ?_
          go_frame
          refine wpO_out (by rfl) ?_
          go_frame
          refine wpO_out (by rfl) ?_
          go_frame
          refine wpO_out (by rfl) ?_
          go_frame
          refine wpO_out (by rfl) ?_
          go_frame
          refine wpO_out (by rfl) ?_
          go_frame
          refine wpO_out (by rfl) ?_
          go_frame
          iterate 2
           refine wpO_want rfl ?_
           go_simp
          refine wpO_out (by rfl) ?_
          go_frame
          refine wpO_out (by rfl) ?_
          go_frame
          refine wpO_out (by rfl) ?_
          go_frame
          refine wpO_out (by rfl) ?_
          go_frame
          refine wpO_out (by rfl) ?_
          go_frame
          refine wpO_out (by rfl) ?_
          go_frame
          refine wpO_out (by rfl) ?_
          go_frame
          refine wpO_out (by rfl) ?_
          go_frame
          refine wpO_want rfl ?_
          go_simp
          refine wpO_done ?_
          try go_frame
          clear q1 q2 c0 c1 c2 c3 c4 hself hne
          have hsn := hMs'
          have hMn := hide (elT_no (unhide hM') (by rw [unhide hq]; rfl))
          have hw1 : IntKind.i64.wrap ((b : Int) + 1) = (b : Int) + 1 := IntWalk.i64_in _ (by omega)
          go_wp2_with fail
          have h3 := unhide hb2
          refine ⟨n - (b + 1), ?_,by have := unhide hfb'; omega⟩
          rw [unhide hI7_14]
          exact ⟨b + 1,M,(by first | rfl | trivial),(by first | rfl | trivial),(by first | rfl | trivial),(by first | rfl | trivial),(by first | rfl | trivial),(by first | rfl | trivial),(by first | rfl | (show _ = Value.int _ _; go_num) | go_num),(by first | rfl | trivial),by omega,unhide hsn,unhide hMn,unhide hP,rfl⟩
         ·skip
          cases x2
          ·skip
           skip
           iterate 4
            refine wpO_want rfl ?_
            go_simp
           iterate 7
            refine wpO_want rfl ?_
            go_simp
           refine wpO_out (by rfl) ?_
           go_frame
           refine wpO_out (by rfl) ?_
           go_frame
           refine wpO_out (by rfl) ?_
           go_frame
           refine wpO_out (by rfl) ?_
           go_frame
           refine wpO_out (by rfl) ?_
           go_frame
           iterate 2
            refine wpO_want rfl ?_
            go_simp
           refine wpO_out (by rfl) ?_
           go_frame
           refine wpO_out (by rfl) ?_
           go_frame
           refine wpO_out (by rfl) ?_
           go_frame
           refine wpO_out (by rfl) ?_
           go_frame
           refine wpO_out (by rfl) ?_
           go_frame
           refine wpO_out (by rfl) ?_
           go_frame
           refine wpO_out (by rfl) ?_
           go_frame
           refine wpO_out (by rfl) ?_
           go_frame
           iterate 2
            refine wpO_want rfl ?_
            go_simp
           refine wpO_out (by rfl) ?_
           go_frame
           refine wpO_out (by rfl) ?_
           go_frame
           refine wpO_out (by rfl) ?_
           go_frame
           refine wpO_out (by rfl) ?_
           go_frame
           refine wpO_out (by rfl) ?_
           go_frame
           refine wpO_out (by rfl) ?_
           go_frame
           refine wpO_out (by rfl) ?_
           go_frame
           refine wpO_out (by rfl) ?_
           go_frame
           refine wpO_want rfl ?_
           go_simp
           refine wpO_done ?_
           try go_frame
           clear q1 q2 c0 c1 c2 c3 c4 hself hne
           have hsn := hMs'
           have hMn := hide (elT_no (unhide hM') (by rw [unhide hq]; rfl))
           have hw1 : IntKind.i64.wrap ((b : Int) + 1) = (b : Int) + 1 := IntWalk.i64_in _ (by omega)
           go_wp2_with fail
           have h3 := unhide hb2
           refine ⟨n - (b + 1), ?_,by have := unhide hfb'; omega⟩
           rw [unhide hI7_14]
           exact ⟨b + 1,M,(by first | rfl | trivial),(by first | rfl | trivial),(by first | rfl | trivial),(by first | rfl | trivial),(by first | rfl | trivial),(by first | rfl | trivial),(by first | rfl | (show _ = Value.int _ _; go_num) | go_num),(by first | rfl | trivial),by omega,unhide hsn,unhide hMn,unhide hP,rfl⟩
          ·skip
           cases x3
           ·skip
            skip
            iterate 4
             refine wpO_want rfl ?_
             go_simp
            iterate 7
             refine wpO_want rfl ?_
             go_simp
            iterate 7
             refine wpO_want rfl ?_
             go_simp
            refine wpO_out (by rfl) ?_
            go_frame
            refine wpO_out (by rfl) ?_
            go_frame
            refine wpO_out (by rfl) ?_
            go_frame
            refine wpO_out (by rfl) ?_
            go_frame
            refine wpO_out (by rfl) ?_
            go_frame
            refine wpO_out (by rfl) ?_
            go_frame
            refine wpO_out (by rfl) ?_
            go_frame
            refine wpO_out (by rfl) ?_
            go_frame
            iterate 2
             refine wpO_want rfl ?_
             go_simp
            refine wpO_out (by rfl) ?_
            go_frame
            refine wpO_out (by rfl) ?_
            go_frame
            refine wpO_out (by rfl) ?_
            go_frame
            refine wpO_out (by rfl) ?_
            go_frame
            refine wpO_out (by rfl) ?_
            go_frame
            refine wpO_out (by rfl) ?_
            go_frame
            refine wpO_out (by rfl) ?_
            go_frame
            refine wpO_out (by rfl) ?_
            go_frame
            refine wpO_want rfl ?_
            go_simp
            refine wpO_done ?_
            try go_frame
            clear q1 q2 c0 c1 c2 c3 c4 hself hne
            have hsn := hMs'
            have hMn := hide (elT_no (unhide hM') (by rw [unhide hq]; rfl))
            have hw1 : IntKind.i64.wrap ((b : Int) + 1) = (b : Int) + 1 := IntWalk.i64_in _ (by omega)
            go_wp2_with fail
            have h3 := unhide hb2
            refine ⟨n - (b + 1), ?_,by have := unhide hfb'; omega⟩
            rw [unhide hI7_14]
            exact ⟨b + 1,M,(by first | rfl | trivial),(by first | rfl | trivial),(by first | rfl | trivial),(by first | rfl | trivial),(by first | rfl | trivial),(by first | rfl | trivial),(by first | rfl | (show _ = Value.int _ _; go_num) | go_num),(by first | rfl | trivial),by omega,unhide hsn,unhide hMn,unhide hP,rfl⟩
           ·skip
            cases x4
            ·skip
             skip
             iterate 4
              refine wpO_want rfl ?_
              go_simp
             iterate 7
              refine wpO_want rfl ?_
              go_simp
             iterate 7
              refine wpO_want rfl ?_
              go_simp
             iterate 10
              refine wpO_want rfl ?_
              go_simp
             refine wpO_out (by rfl) ?_
             go_frame
             refine wpO_out (by rfl) ?_
             go_frame
             refine wpO_out (by rfl) ?_
             go_frame
             refine wpO_out (by rfl) ?_
             go_frame
             refine wpO_out (by rfl) ?_
             go_frame
             refine wpO_out (by rfl) ?_
             go_frame
             refine wpO_out (by rfl) ?_
             go_frame
             refine wpO_out (by rfl) ?_
             go_frame
             refine wpO_want rfl ?_
             go_simp
             refine wpO_done ?_
             try go_frame
             clear q1 q2 c0 c1 c2 c3 c4 hself hne
             have hsn := hMs'
             have hMn := hide (elT_no (unhide hM') (by rw [unhide hq]; rfl))
             have hw1 : IntKind.i64.wrap ((b : Int) + 1) = (b : Int) + 1 := IntWalk.i64_in _ (by omega)
             go_wp2_with fail
             have h3 := unhide hb2
             refine ⟨n - (b + 1), ?_,by have := unhide hfb'; omega⟩
             rw [unhide hI7_14]
             exact ⟨b + 1,M,(by first | rfl | trivial),(by first | rfl | trivial),(by first | rfl | trivial),(by first | rfl | trivial),(by first | rfl | trivial),(by first | rfl | trivial),(by first | rfl | (show _ = Value.int _ _; go_num) | go_num),(by first | rfl | trivial),by omega,unhide hsn,unhide hMn,unhide hP,rfl⟩
            ·skip
             cases x5
             ·skip
              iterate 4
               refine wpO_want rfl ?_
               go_simp
              iterate 7
               refine wpO_want rfl ?_
               go_simp
              iterate 7
               refine wpO_want rfl ?_
               go_simp
              iterate 10
               refine wpO_want rfl ?_
               go_simp
              iterate 9
               refine wpO_want rfl ?_
               go_simp
              refine wpO_done ?_
              try go_frame
              clear q1 q2 c0 c1 c2 c3 c4 hself hne
              have hsn := hMs'
              have hMn := hide (elT_no (unhide hM') (by rw [unhide hq]; rfl))
              have hw1 : IntKind.i64.wrap ((b : Int) + 1) = (b : Int) + 1 := IntWalk.i64_in _ (by omega)
              go_wp2_with fail
              have h3 := unhide hb2
              refine ⟨n - (b + 1), ?_,by have := unhide hfb'; omega⟩
              rw [unhide hI7_14]
              exact ⟨b + 1,M,(by first | rfl | trivial),(by first | rfl | trivial),(by first | rfl | trivial),(by first | rfl | trivial),(by first | rfl | trivial),(by first | rfl | trivial),(by first | rfl | (show _ = Value.int _ _; go_num) | go_num),(by first | rfl | trivial),by omega,unhide hsn,unhide hMn,unhide hP,rfl⟩
             ·skip
              iterate 4
               refine wpO_want rfl ?_
               go_simp
              iterate 7
               refine wpO_want rfl ?_
               go_simp
              iterate 7
               refine wpO_want rfl ?_
               go_simp
              iterate 10
               refine wpO_want rfl ?_
               go_simp
              iterate 9
               refine wpO_want rfl ?_
               go_simp
              refine wpO_done ?_
              try go_frame
              clear q1 q2 c0 c1 c2 c3 c4 hself hne
              have c5 : ∀ W',Ext wr W' → W'.cell? ⟨bh,a,none⟩ = some (.slice (some ⟨ba,0,none⟩) n n) := fun W' hW => (unhide hP).cellRK (S := []) 3 rfl (by simp) (flatH_get (unhide hba)) W' (hW.keep [])
              have q2 := (unhide hP).cell 1 2 (v := .slice (some ⟨bh,0,none⟩) n cn) rfl rfl
              have hself := Ext.refl wr
              try dsimp only
              repeat ((fail_if_success (with_reducible refine wp_reg (id := 23) ?_)); (first | go_values | go_skip | go_step | go_guarded | go_upon | go_in | go_back | fail))
              with_reducible refine wp_reg (id := 23) ?_
              iterate 7
               refine wpO_want rfl ?_
               go_simp
              refine (unhide hP).putNear4 (unhide hMs') (unhide ha2) (unhide hb2) true (unhide hba) rfl rfl (by first | rfl | go_simp) rfl (by simp [go_sem]) ?_
              intro y8 hQ
              replace hP : Hid (Sp w [] w [] [(r2,41, #[.slice A nV cA, .slice B nE cB]),(r4,109, #[.slice (some ⟨bi,0,none⟩) n ci, .slice (some ⟨bt,0,none⟩) n ct, .slice (some ⟨bh,0,none⟩) n cn])] ((3,1, .slice A7 (n6 + 1) cA7,n6 + 1,(xs ++ [y]).flatMap encI) :: (4,1, .slice (some ⟨bt,0,none⟩) n ct,n,th'.flatMap encB) :: (3,1, .slice (some ⟨bi,0,none⟩) n ci,n,L0.flatMap encI) :: (106,1, .slice (some ⟨bh,0,none⟩) n cn,n,(bs.map (hdrP n)).flatMap encSl) :: nearM n bs (putN M a b true)) y8) := hide hQ
              clear hQ q2 hself c5
              go_frame
              refine wpO_done ?_
              try go_frame
              have hsn := hide ((unhide hMs').put a b true)
              have hMn := hide (elT_yes (unhide hMs') (unhide ha2) (unhide hb2) (unhide hM') (by rw [unhide hq]; rfl))
              have hw1 : IntKind.i64.wrap ((b : Int) + 1) = (b : Int) + 1 := IntWalk.i64_in _ (by omega)
              go_wp2_with fail
              have h3 := unhide hb2
              refine ⟨n - (b + 1), ?_,by have := unhide hfb'; omega⟩
              rw [unhide hI7_14]
              exact ⟨b + 1,putN M a b true,(by first | rfl | trivial),(by first | rfl | trivial),(by first | rfl | trivial),(by first | rfl | trivial),(by first | rfl | trivial),(by first | rfl | trivial),(by first | rfl | (show _ = Value.int _ _; go_num) | go_num),(by first | rfl | trivial),by omega,unhide hsn,unhide hMn,unhide hP,rfl⟩
        ·skip
         have hjl : ¬ (b : Int) < (n : Int) := by omega
         obtain rfl : n = b := by omega
         have hMn := hide (elT_row (unhide hM'))
         clear hlt hbn hfb'
         have q0 := (unhide hP).cell 1 0 (v := .slice (some ⟨bi,0,none⟩) n ci) rfl rfl
         have hself := Ext.refl wr
         try dsimp only
         repeat ((fail_if_success (with_reducible refine wp_reg (id := 20) ?_)); (first | go_values | go_skip | go_step | go_guarded | go_upon | go_in | go_back | fail))
         with_reducible refine wp_reg (id := 20) ?_
         iterate 5
          refine wpO_want rfl ?_
          go_simp
         refine wpO_done ?_
         try go_frame
         clear q0 hself hjl
         have hw1 : IntKind.i64.wrap ((a : Int) + 1) = (a : Int) + 1 := IntWalk.i64_in _ (by omega)
         go_wp2_with fail
         have h3 := unhide ha2
         refine ⟨n - (a + 1), ?_,by have := unhide hfa'; omega⟩
         rw [unhide hI7_10]
         exact ⟨a + 1,M,(by first | rfl | trivial),(by first | rfl | trivial),(by first | rfl | trivial),(by first | rfl | trivial),(by first | rfl | trivial),(by first | rfl | (show _ = Value.int _ _; go_num) | go_num),(by first | rfl | trivial),by omega,unhide hMs',unhide hMn,unhide hP,rfl⟩
      ·skip
       have hil : ¬ (a : Int) < (n : Int) := by omega
       obtain rfl : n = a := by omega
       have hR2 := hide (unhide hEl M (elT_end (unhide hM')))
       clear hlt han hfa' hM'
       have q0 := (unhide hP).cell 1 0 (v := .slice (some ⟨bi,0,none⟩) n ci) rfl rfl
       have hself := Ext.refl wr
       try dsimp only
       repeat ((fail_if_success (with_reducible refine wp_reg (id := 17) ?_)); (first | go_values | go_skip | go_step | go_guarded | go_upon | go_in | go_back | fail))
       with_reducible refine wp_reg (id := 17) ?_
       iterate 5
        refine wpO_want rfl ?_
        go_simp
       refine wpO_done ?_
       try go_frame
       clear q0 hself hil
       go_wp2_with fail
       refine ⟨f', ?_,by have := unhide hf'; omega⟩
       rw [unhide hI4_2]
       exact ⟨th',M,eliB near y,A7,n6 + 1,cA7,xs ++ [y],(by first | rfl | trivial),(by first | rfl | trivial),(by first | rfl | trivial),(by first | rfl | trivial),(by first | rfl | trivial),unhide hR2,unhide hMs',unhide hir2,unhide hDs,by rw [List.length_append, ← unhide hn6']; rfl,unhide hLn,by have := unhide hnf'; have := unhide hf'; omega,unhide hP⟩
  ·skip
   have hil : ¬ (n6 : Int) < (n : Int) := by omega
   have hDe := hide (show xs = D by
    have h1 : thL L0 th n = [] := List.eq_nil_of_length_eq_zero (by have := unhide hLf'; have := unhide hnf'; omega)
    rw [unhide hDp',h1,ordS_nil,List.append_nil])
   clear hl0
   have q0 := (unhide hP).cell 1 0 (v := .slice Ai n ci) rfl rfl
   have hself := Ext.refl wr
   try dsimp only
   repeat ((fail_if_success (with_reducible refine wp_reg (id := 3) ?_)); (first | go_values | go_skip | go_step | go_guarded | go_upon | go_in | go_back | fail))
   with_reducible refine wp_reg (id := 3) ?_
   iterate 6
    refine wpO_want rfl ?_
    go_simp
   refine wpO_done ?_
   try go_frame
   clear q0 hself hil
   try dsimp only
   repeat ((fail_if_success (with_reducible refine wp_reg (id := 24) ?_)); (first | go_values | go_skip | go_step | go_guarded | go_upon | go_in | go_back | fail))
   with_reducible refine wp_reg (id := 24) ?_
   iterate 2
    refine wpO_want rfl ?_
    go_simp
   refine wpO_done ?_
   try go_frame
   go_wp2_with fail
   refine (unhide hP).leaves ?_
   intro w' hx hst
   refine ⟨_,results_tmp (t := 4) rfl _ _ _, ?_⟩
   have ho := hst.row 0 rfl
   rw [unhide hDe] at ho hn6'
   exact OwL.mk (unhide hn6') ho hx
end Go.Proofs.YtoacpebmhbkmbaaGreatDoor
namespace Go.Proofs.YtoacpebmhbkmbaaGreatDoor
open Go Go.RowKit Go.Shelf
attribute [local go_sem] qUpon lUpon
attribute [local irreducible] wpO wpX wpQL
set_option maxRecDepth 100000 in
set_option maxHeartbeats 16000000 in
theorem leastDegree22_any (A B : Option Addr) (V : List (Int × Thing)) (E : List ((Int × Int) × Thing)) (cA cB : Nat) (w : World) (hV : SlAt encV 3 w A V) (hE : SlAt encE 4 w B E) (hi : GInv V E) (hl : V.length ≤ 100) :
  Calls Tryz.prog 27 #[.agg #[.slice A V.length cA, .slice B E.length cB]] w (OwL w (ordS degP (toL (vS V)).length (nr0 E) (toL (vS V)))) := by
 have hca : Hid (∀ (W : World),Ext w W → Calls Tryz.prog 71 #[.agg #[.slice A V.length cA, .slice B E.length cB], .bool false] W (OwL W (ordS degP (toL (vS V)).length (nr0 E) (toL (vS V))))) := hide (fun W hW => order22_any false A B V E cA cB W (hV.ext hW) (hE.ext hW) hi hl)
 obtain ⟨D,hD⟩ : ∃ D,D = ordS degP (toL (vS V)).length (nr0 E) (toL (vS V)) := ⟨_,rfl⟩
 obtain ⟨n,hn⟩ : ∃ n,n = D.length := ⟨_,rfl⟩
 obtain ⟨nV,hnV⟩ : ∃ nV,nV = V.length := ⟨_,rfl⟩
 obtain ⟨nE,hnE⟩ : ∃ nE,nE = E.length := ⟨_,rfl⟩
 rw [← hD] at hca ⊢
 rw [← hnV, ← hnE] at hca ⊢
 have hn' := hide hn
 clear hV hE hi hl hD hn hnV hnE
 have hP := hide (Sp.new w)
 refine callsIn_wide.1 (callsIn_of_wp_marks (n := 0) Tryz.func27 rfl trivial (wpIn_wide.2 ?_))
 simp only [Tryz.ntmps27,List.size_toArray,List.length_cons,List.length_nil,Nat.reduceAdd,Nat.reduceSub,Array.replicate_succ,Array.replicate_zero,List.push_toArray,List.append_toArray,List.nil_append,List.cons_append]
 try dsimp only
 repeat ((fail_if_success (with_reducible refine wp_reg (id := 0) ?_)); (first | go_values | go_skip | go_step | go_guarded | go_upon | go_in | go_back | fail))
 with_reducible refine wp_reg (id := 0) ?_
 refine (unhide hP).allocO 41 #[.slice A nV cA, .slice B nE cB] rfl (run_box (v := .agg #[.slice A nV cA, .slice B nE cB]) rfl rfl) ?_
 intro r1 y1 hQ
 replace hP : Hid (Sp w [] w [] [(r1,41, #[.slice A nV cA, .slice B nE cB])] [] y1) := hide hQ
 clear hQ
 refine wpO_want rfl ?_
 go_simp
 refine wpO_done ?_
 try go_frame
 try dsimp only
 repeat ((fail_if_success (with_reducible refine wp_reg (id := 1) ?_)); (first | go_values | go_skip | go_step | go_guarded | go_upon | go_in | go_back | fail))
 with_reducible refine wp_reg (id := 1) ?_
 refine wpO_val rfl (run_load_agg (cs := #[.slice A nV cA, .slice B nE cB]) rfl rfl (by simp [go_sem]) (by simp [go_sem]) ((unhide hP).get 0 rfl).whole) ?_
 go_frame
 refine wpO_want rfl ?_
 go_simp
 refine (unhide hca _ (unhide hP).extf).mono ?_
 clear hca
 rintro _ y2 ⟨A2,c2,rfl,ho,hxc⟩
 rw [← unhide hn'] at ho
 rw [← unhide hn']
 refine ⟨_,rfl, ?_⟩
 replace hP : Hid (Sp w [] w [] [(r1,41, #[.slice A nV cA, .slice B nE cB])] [(3,1, .slice A2 n c2,n,D.flatMap encI)] y2) := hide ((unhide hP).addRow hxc ho)
 clear hxc ho
 refine wpO_want rfl ?_
 go_simp
 refine wpO_done ?_
 try go_frame
 go_wp2_with fail
 refine Sp.leaves0 ?_
 exact ⟨_,results_tmp (t := 2) rfl _ _ _,OwL.mk (unhide hn') ((unhide hP).row 0 rfl) (unhide hP).extf⟩
set_option maxRecDepth 100000 in
set_option maxHeartbeats 16000000 in
theorem leastFill22_any (A B : Option Addr) (V : List (Int × Thing)) (E : List ((Int × Int) × Thing)) (cA cB : Nat) (w : World) (hV : SlAt encV 3 w A V) (hE : SlAt encE 4 w B E) (hi : GInv V E) (hl : V.length ≤ 100) :
  Calls Tryz.prog 29 #[.agg #[.slice A V.length cA, .slice B E.length cB]] w (OwL w (ordS filP (toL (vS V)).length (nr0 E) (toL (vS V)))) := by
 have hca : Hid (∀ (W : World),Ext w W → Calls Tryz.prog 71 #[.agg #[.slice A V.length cA, .slice B E.length cB], .bool true] W (OwL W (ordS filP (toL (vS V)).length (nr0 E) (toL (vS V))))) := hide (fun W hW => order22_any true A B V E cA cB W (hV.ext hW) (hE.ext hW) hi hl)
 obtain ⟨D,hD⟩ : ∃ D,D = ordS filP (toL (vS V)).length (nr0 E) (toL (vS V)) := ⟨_,rfl⟩
 obtain ⟨n,hn⟩ : ∃ n,n = D.length := ⟨_,rfl⟩
 obtain ⟨nV,hnV⟩ : ∃ nV,nV = V.length := ⟨_,rfl⟩
 obtain ⟨nE,hnE⟩ : ∃ nE,nE = E.length := ⟨_,rfl⟩
 rw [← hD] at hca ⊢
 rw [← hnV, ← hnE] at hca ⊢
 have hn' := hide hn
 clear hV hE hi hl hD hn hnV hnE
 have hP := hide (Sp.new w)
 refine callsIn_wide.1 (callsIn_of_wp_marks (n := 0) Tryz.func29 rfl trivial (wpIn_wide.2 ?_))
 simp only [Tryz.ntmps29,List.size_toArray,List.length_cons,List.length_nil,Nat.reduceAdd,Nat.reduceSub,Array.replicate_succ,Array.replicate_zero,List.push_toArray,List.append_toArray,List.nil_append,List.cons_append]
 try dsimp only
 repeat ((fail_if_success (with_reducible refine wp_reg (id := 0) ?_)); (first | go_values | go_skip | go_step | go_guarded | go_upon | go_in | go_back | fail))
 with_reducible refine wp_reg (id := 0) ?_
 refine (unhide hP).allocO 41 #[.slice A nV cA, .slice B nE cB] rfl (run_box (v := .agg #[.slice A nV cA, .slice B nE cB]) rfl rfl) ?_
 intro r1 y1 hQ
 replace hP : Hid (Sp w [] w [] [(r1,41, #[.slice A nV cA, .slice B nE cB])] [] y1) := hide hQ
 clear hQ
 refine wpO_want rfl ?_
 go_simp
 refine wpO_done ?_
 try go_frame
 try dsimp only
 repeat ((fail_if_success (with_reducible refine wp_reg (id := 1) ?_)); (first | go_values | go_skip | go_step | go_guarded | go_upon | go_in | go_back | fail))
 with_reducible refine wp_reg (id := 1) ?_
 refine wpO_val rfl (run_load_agg (cs := #[.slice A nV cA, .slice B nE cB]) rfl rfl (by simp [go_sem]) (by simp [go_sem]) ((unhide hP).get 0 rfl).whole) ?_
 go_frame
 refine wpO_want rfl ?_
 go_simp
 refine (unhide hca _ (unhide hP).extf).mono ?_
 clear hca
 rintro _ y2 ⟨A2,c2,rfl,ho,hxc⟩
 rw [← unhide hn'] at ho
 rw [← unhide hn']
 refine ⟨_,rfl, ?_⟩
 replace hP : Hid (Sp w [] w [] [(r1,41, #[.slice A nV cA, .slice B nE cB])] [(3,1, .slice A2 n c2,n,D.flatMap encI)] y2) := hide ((unhide hP).addRow hxc ho)
 clear hxc ho
 refine wpO_want rfl ?_
 go_simp
 refine wpO_done ?_
 try go_frame
 go_wp2_with fail
 refine Sp.leaves0 ?_
 exact ⟨_,results_tmp (t := 2) rfl _ _ _,OwL.mk (unhide hn') ((unhide hP).row 0 rfl) (unhide hP).extf⟩
end Go.Proofs.YtoacpebmhbkmbaaGreatDoor
namespace Go.Proofs.YtoacpebmhbkmbaaGreatDoor
open Go Go.RowKit
attribute [local go_sem] qUpon lUpon
theorem atP {w : World} {A : Option Addr} {L : List (Int × Int)} (h : SlAt encP 2 w A L) {i : Nat} (hi : i < L.length) : ∃ b off, A = some ⟨b, off, none⟩ ∧ (∀ W, Ext w W → W.cell? ⟨b, off + i * 2, none⟩ = some (.int .i64 L[i].1)) ∧ (∀ W, Ext w W → W.cell? ⟨b, off + i * 2 + 1, none⟩ = some (.int .i64 L[i].2)) := by
  obtain ⟨b, off, hA, hc⟩ := h.at_ hi
  exact ⟨b, off, hA, hc 0 _ rfl, hc 1 _ rfl⟩
def inP (u v : Int) (p : Int × Int) : Bool := p.1 == u && p.2 == v || p.1 == v && p.2 == u
def TAt (T : TypeId) (w : World) (A : Option Addr) {α : Type} (xs : List α) : Prop := xs ≠ [] → ∃ b off cs, A = some ⟨b, off, none⟩ ∧ w.heap[b]? = some (.cells cs T (0, 0))
theorem TAt.nil {T : TypeId} {w : World} {A : Option Addr} {α : Type} : TAt T w A ([] : List α) := fun h => absurd rfl h
theorem TAt.of_own {α : Type} {T k n c base : Nat} {w : World} {A : Option Addr} {xs : List α} {cs : List Value} (h : w.ownsRow base T k (.slice A n c) xs.length cs) : TAt T w A xs := fun hne => by
  rcases h.2 with ⟨_, h0⟩ | ⟨g, cap, cur, e, _, hg, _⟩
  · exact absurd (List.eq_nil_of_length_eq_zero h0) hne
  · injection e with e
    exact ⟨g, 0, cur, e, hg⟩
def OffT (T : TypeId) (w : World) (S : List Nat) : Prop := ∀ g ∈ S, ∃ cs T', w.heap[g]? = some (.cells cs T' (0, 0)) ∧ T' ≠ T
theorem TAt.keep {T : TypeId} {w w' : World} {A : Option Addr} {α : Type} {xs : List α} {S : List Nat} (h : TAt T w A xs) (hk : Keep S w w') (hS : OffT T w S) : TAt T w' A xs := fun hne => by
  obtain ⟨b, off, cs, e, hb⟩ := h hne
  refine ⟨b, off, cs, e, (hk.block b (Array.getElem?_eq_some_iff.1 hb).1 fun hm => ?_).trans hb⟩
  obtain ⟨cs', T', h1, h2⟩ := hS b hm
  rw [hb] at h1
  injection h1 with h1
  injection h1 with _ h1
  exact h2 h1.symm
theorem TAt.ext {T : TypeId} {w w' : World} {A : Option Addr} {α : Type} {xs : List α} (h : TAt T w A xs) (hk : Ext w w') : TAt T w' A xs := h.keep (hk.keep []) (fun _ hm => by simp at hm)
theorem SlAt.keepT {α : Type} {enc : α → List Value} {k : Nat} {T : TypeId} {w w' : World} {A : Option Addr} {xs : List α} {S : List Nat} (h : SlAt enc k w A xs) (ht : TAt T w A xs) (hk : Keep S w w') (hS : OffT T w S) : SlAt enc k w' A xs := by
  by_cases hne : xs = []
  · subst hne; exact SlAt.nil
  · refine h.keepS hk fun b off e hm => ?_
    obtain ⟨b', off', cs, e', hb⟩ := ht hne
    rw [e] at e'
    injection e' with e'
    injection e' with e1 _
    subst e1
    obtain ⟨cs', T', h1, h2⟩ := hS b hm
    rw [hb] at h1
    injection h1 with h1
    injection h1 with _ h1
    exact h2 h1.symm
theorem OffT.of_own {T T2 base k n : Nat} {w : World} {v : Value} {cs : List Value} (h : w.ownsRow base T2 k v n cs) (hne : T2 ≠ T) : OffT T w v.ownBlock.toList := fun g hg => by
  obtain ⟨_, _, cur, hc⟩ := own_base h (by simpa using hg)
  exact ⟨cur, T2, hc, hne⟩
def SlPostT {α : Type} (enc : α → List Value) (k T : Nat) (w : World) (xs : List α) (e : Ending) (w' : World) : Prop := ∃ A' c', e = .returned (.slice A' xs.length c') ∧ SlAt enc k w' A' xs ∧ TAt T w' A' xs ∧ Ext w w'
theorem SlPostT.mk {α : Type} {enc : α → List Value} {k T : Nat} {w w' : World} {xs : List α} {A' : Option Addr} {n c' : Nat} (hn : n = xs.length) (h1 : SlAt enc k w' A' xs) (ht : TAt T w' A' xs) (h2 : Ext w w') : SlPostT enc k T w xs (.returned (.slice A' n c')) w' := ⟨A', c', by rw [hn], h1, ht, h2⟩
theorem ret_bl {a b : Bool} (h : a = b) : Ending.returned (Value.bool a) = Ending.returned (Value.bool b) := by rw [h]
theorem any_hit {α : Type} {q : α → Bool} {l : List α} {k : Nat} (hk : k < l.length) (h : q l[k] = true) : l.any q = true := List.any_eq_true.2 ⟨l[k], List.getElem_mem hk, h⟩
theorem any_miss {α : Type} {q : α → Bool} {l : List α} (h : ∀ j (hj : j < l.length), q l[j] = false) : l.any q = false := by
  rw [List.any_eq_false]
  intro x hx
  obtain ⟨j, hj, rfl⟩ := List.getElem_of_mem hx
  rw [h j hj]
  simp
set_option maxHeartbeats 4000000 in
theorem in21_any (A : Option Addr) (L : List (Int × Int)) (cL : Nat) (u v : Int) (w : World) (hL : SlAt encP 2 w A L) (hl : L.length ≤ 4611686018427387904) :
    Calls Tryz.prog 142 #[.slice A L.length cL, .int .i64 u, .int .i64 v] w fun e w' => e = .returned (.bool (L.any (inP u v))) ∧ Ext w w' := by
  generalize hq : inP u v = q
  have hq' : ∀ p, q p = inP u v p := fun p => by rw [hq]
  have hq'' := hide hq'
  have hself := Ext.refl w
  clear hq hq'
  go_enter Tryz.func142, Tryz.ntmps142
  go_wp2
  go_loop [7] (fun i => ∃ k : Nat, k ≤ L.length ∧ i = .int .i64 k ∧ ∀ j (hj : j < k) (hj' : j < L.length), q L[j] = false) (fun i => L.length - (intOf i).toNat)
  case atStart => exact ⟨0, Nat.zero_le _, rfl, fun j hj => by omega⟩
  case round =>
    obtain ⟨k, hk, rfl, hno⟩ := hrel
    have hno' := hide hno
    clear hno
    by_cases hlt : k < L.length
    · obtain ⟨b, off, rfl, c1, c2⟩ := atP hL hlt
      clear hL
      generalize hp : L[k] = p at c1 c2
      obtain ⟨a, b'⟩ := p
      have hp' := hide hp
      clear hp
      have no : q (a, b') = false → ∀ j (hj : j < k + 1) (hj' : j < L.length), q L[j] = false := fun h j hj hj' => by
        rcases Nat.lt_or_ge j k with h1 | h1
        · exact unhide hno' j h1 hj'
        · have : j = k := by omega
          subst this
          rw [unhide hp']
          exact h
      have yes : q (a, b') = true → L.any q = true := fun h => any_hit hlt (by rw [unhide hp']; exact h)
      have no' := hide no
      have yes' := hide yes
      clear no yes
      go_wp2
      all_goals first
        | (go_ret; exact ⟨ret_bl (unhide yes' (by rw [unhide hq'']; unfold inP; simp_all)).symm, hself⟩)
        | (go_round
           case rel => exact ⟨k + 1, by omega, by go_num, unhide no' (by rw [unhide hq'']; unfold inP; simp_all)⟩
           case measure => simp [intOf]; omega)
    · go_wp2
      go_ret
      exact ⟨ret_bl (any_miss (fun j hj => unhide hno' j (by omega) hj)).symm, hself⟩
set_option maxHeartbeats 4000000 in
theorem has01_any (A : Option Addr) (L : List Int) (cL : Nat) (n : Int) (w : World) (hL : SlAt encI 1 w A L) (hl : L.length ≤ 4611686018427387904) :
    Calls Tryz.prog 167 #[.slice A L.length cL, .int .i64 n] w fun e w' => e = .returned (.bool (L.any (· == n))) ∧ Ext w w' := by
  have hself := Ext.refl w
  go_enter Tryz.func167, Tryz.ntmps167
  go_wp2
  go_loop [5] (fun i => ∃ k : Nat, k ≤ L.length ∧ i = .int .i64 k ∧ ∀ j (hj : j < k) (hj' : j < L.length), (L[j] == n) = false) (fun i => L.length - (intOf i).toNat)
  case atStart => exact ⟨0, Nat.zero_le _, rfl, fun j hj => by omega⟩
  case round =>
    obtain ⟨k, hk, rfl, hno⟩ := hrel
    have hno' := hide hno
    clear hno
    by_cases hlt : k < L.length
    · obtain ⟨b, off, rfl, c1⟩ := atI hL hlt
      clear hL
      cases hh : L[k] == n
      · have hh' := hide hh
        go_wp2
        go_round
        case rel =>
          refine ⟨k + 1, by omega, by go_num, fun j hj hj' => ?_⟩
          rcases Nat.lt_or_ge j k with h | h
          · exact unhide hno' j h hj'
          · have : j = k := by omega
            subst this
            exact unhide hh'
        case measure => simp [intOf]; omega
      · have hh' := hide hh
        go_wp2
        go_ret
        exact ⟨ret_bl (any_hit hlt (unhide hh')).symm, hself⟩
    · go_wp2
      go_ret
      exact ⟨ret_bl (any_miss (fun j hj => unhide hno' j (by omega) hj)).symm, hself⟩
theorem own_n {w : World} {base T k n m : Nat} {v : Value} {xs : List Value} (h : w.ownsRow base T k v n xs) (e : m = n) : w.ownsRow base T k v m xs := by
  subst e
  exact h
theorem atI_at {w : World} {b off : Nat} {L : List Int} (h : SlAt encI 1 w (some ⟨b, off, none⟩) L) {i : Nat} (hi : i < L.length) : ∀ W, Ext w W → W.cell? ⟨b, off + i, none⟩ = some (.int .i64 L[i]) := by
  obtain ⟨b', off', e, hc⟩ := atI h hi
  injection e with e
  injection e with e1 e2
  subst e1
  subst e2
  exact hc
def withR (L : List Int) (n : Int) : List Int := if n < 0 ∨ 1023 < n ∨ L.any (· == n) = true then L else insF (fun x => decide (n < x)) n L
set_option maxRecDepth 100000 in
set_option maxHeartbeats 8000000 in
theorem with01_any (A : Option Addr) (L : List Int) (cL : Nat) (n : Int) (w : World) (hL : SlAt encI 1 w A L) (hTL : TAt 3 w A L) (hl : L.length ≤ 100000) :
    Calls Tryz.prog 143 #[.slice A L.length cL, .int .i64 n] w (SlPostT encI 1 3 w (withR L n)) := by
  have hL' := hide hL
  have hTL' := hide hTL
  clear hTL
  have hself := hide (Ext.refl w)
  clear hL
  obtain ⟨Z, hZ⟩ : ∃ Z, Z = withR L n := ⟨_, rfl⟩
  rw [← hZ]
  have hZ' := hide hZ
  clear hZ
  go_enter Tryz.func143, Tryz.ntmps143
  by_cases h1 : n < 0
  · have e : L = Z := by rw [unhide hZ']; unfold withR; rw [if_pos (.inl h1)]
    subst e
    go_wp2_with fail
    go_ret
    exact .mk rfl (unhide hL') (unhide hTL') (unhide hself)
  by_cases h2 : 1023 < n
  · have e : L = Z := by rw [unhide hZ']; unfold withR; rw [if_pos (.inr (.inl h2))]
    subst e
    go_wp2_with fail
    go_ret
    exact .mk rfl (unhide hL') (unhide hTL') (unhide hself)
  have d1 : decide (n < 0) = false := decide_eq_false h1
  have d2 : decide (1023 < n) = false := decide_eq_false h2
  cases h3 : L.any (· == n) with
  | true =>
    have e : L = Z := by rw [unhide hZ']; unfold withR; rw [if_pos (.inr (.inr h3))]
    subst e
    have h3' := hide h3
    clear h3
    go_wp2_with fail
    refine (has01_any A L cL n w (unhide hL') (by omega)).mono ?_
    rw [unhide h3']
    rintro e w1 ⟨rfl, hx1⟩
    have hx1' := hide hx1
    clear hx1
    go_wp2_with fail
    go_ret
    exact .mk rfl ((unhide hL').ext (unhide hx1')) ((unhide hTL').ext (unhide hx1')) (unhide hx1')
  | false =>
    have e : Z = insF (fun x => decide (n < x)) n L := by rw [unhide hZ']; unfold withR; rw [if_neg (by rw [h3]; simp; omega)]
    have e' := hide e
    have h3' := hide h3
    clear h3 hZ' e
    go_wp2_with fail
    refine (has01_any A L cL n w (unhide hL') (by omega)).mono ?_
    rw [unhide h3']
    rintro e w1 ⟨rfl, hx1⟩
    have ho1 := hide (World.ownsRow_made (base := w.heap.size) (e := 3) (size := 1) w1 #[] 0 (Below.size hx1) (by decide) rfl)
    have hx1' := hide (hx1.trans (ext_self1 w1 (.cells #[] 3)))
    clear hx1 h3'
    go_wp2_with fail
    generalize w1.alloc (.cells #[] 3) = W1 at *
    generalize w1.heap.size = b1 at *
    obtain ⟨gt, hgt⟩ : ∃ gt : Int → Bool, gt = fun x => decide (n < x) := ⟨_, rfl⟩
    rw [← hgt] at e'
    have hgt' := hide hgt
    clear hgt
    go_loopw [5, 6, 7] (fun l d i wr => ∃ (k : Nat) (dn : Bool) (o : List Int) (vs : Value), k ≤ L.length ∧ i = .int .i64 k ∧ d = .bool dn ∧ vs = l ∧ (L.take k).foldl (insS gt n) (false, []) = (dn, o) ∧ wr.ownsRow w.heap.size 3 1 vs o.length (o.flatMap encI) ∧ Ext w wr) (fun _ _ i _ => L.length - (intOf i).toNat)
    case atStart => exact ⟨0, false, [], _, Nat.zero_le _, rfl, rfl, rfl, by simp, unhide ho1, unhide hx1'⟩
    case round =>
      obtain ⟨k, dn, o, vs, hk, rfl, rfl, hv, hfold, hown, hx⟩ := hrel
      subst hv
      have hown' := hide hown
      have hx' := hide hx
      have hfold' := hide hfold
      have hol := hide (show o.length ≤ 1000000 from by have := ins_take_len hfold hk; omega)
      have hbs := hide (Below.size hx)
      clear hown hx ho1 hx1'
      by_cases hlt : k < L.length
      · obtain ⟨b, off, rfl, c0⟩ := atI ((unhide hL').ext (unhide hx')) hlt
        have st := hide (ins_take hlt hfold)
        generalize hy : L[k] = y at c0 st
        have hy' := hide hy
        have hself := Ext.refl wr
        clear hfold hy
        cases dn
        · by_cases hc : n < y
          · have st2 : insS gt n (false, o) y = (true, o ++ [n] ++ [y]) := by unfold insS; rw [unhide hgt']; simp [hc]
            have st2' := hide st2
            have hc' : decide (n < y) = true := decide_eq_true hc
            clear st2 hc
            try dsimp only
            repeat ((fail_if_success (with_reducible refine wp_reg (id := 9) ?_)); (first | go_values | go_skip | go_step | go_guarded | go_upon | go_in | go_back | fail))
            with_reducible refine wp_reg (id := 9) ?_
            iterate 3
              refine wpO_want rfl ?_
              go_simp
            refine wpO_ap1 (enc := _) rfl infoI Tryz.underlying163 one_encI (fun _ => rfl) (by decide) (by decide) rfl (v := vs) (xs := o) n rfl rfl (Blk.new wr 3 #[.int .i64 n]) (own_ext (unhide hown') (ext_self1 wr (.cells #[.int .i64 n] 3))) (by have := unhide hol; omega) (Nat.le_trans (unhide hbs) (Below.size (ext_self1 wr (.cells #[.int .i64 n] 3)))) ?_
            intro A_w6 c_w6 w6 ho6 hg6 _
            obtain ⟨n_w6, hlen6⟩ : ∃ n_w6, n_w6 = (o).length + 1 := ⟨_, rfl⟩
            rw [← hlen6] at ho6 ⊢
            have hx_w6 := hide (((unhide hx').trans (ext_self1 wr (.cells #[.int .i64 n] 3))).of_new (Keep.of_grown hg6) (fun z hz => Nat.le_trans (Nat.le_refl _) (own_base (unhide hown') (by simpa using hz)).1))
            have hown_w6 := hide (own_n ho6 (m := (o ++ [n]).length) (by rw [hlen6, List.length_append (bs := [_])]; rfl))
            have hn_w6 := hide hlen6
            clear ho6 hg6 hlen6
            try go_frame
            refine wpO_want rfl ?_
            go_simp
            refine wpO_done ?_
            try go_frame
            have c6 := atI_at ((unhide hL').ext (unhide hx_w6)) hlt
            rw [unhide hy'] at c6
            have hself6 := Ext.refl w6
            clear c0 hself
            try dsimp only
            repeat ((fail_if_success (with_reducible refine wp_reg (id := 11) ?_)); (first | go_values | go_skip | go_step | go_guarded | go_upon | go_in | go_back | fail))
            with_reducible refine wp_reg (id := 11) ?_
            iterate 6
              refine wpO_want rfl ?_
              go_simp
            refine wpO_ap1 (enc := _) rfl infoI Tryz.underlying163 one_encI (fun _ => rfl) (by decide) (by decide) rfl (v := .slice A_w6 n_w6 c_w6) (xs := o ++ [n]) y rfl rfl (Blk.new w6 3 #[.int .i64 y]) (own_ext (unhide hown_w6) (ext_self1 w6 (.cells #[.int .i64 y] 3))) (by have := unhide hol; simp; omega) (Nat.le_trans (Below.size (unhide hx_w6)) (Below.size (ext_self1 w6 (.cells #[.int .i64 y] 3)))) ?_
            intro A_w7 c_w7 w7 ho6 hg6 _
            obtain ⟨n_w7, hlen6⟩ : ∃ n_w7, n_w7 = (o ++ [n]).length + 1 := ⟨_, rfl⟩
            rw [← hlen6] at ho6 ⊢
            have hx_w7 := hide (((unhide hx_w6).trans (ext_self1 w6 (.cells #[.int .i64 y] 3))).of_new (Keep.of_grown hg6) (fun z hz => Nat.le_trans (Nat.le_refl _) (own_base (unhide hown_w6) (by simpa using hz)).1))
            have hown_w7 := hide (own_n ho6 (m := (o ++ [n] ++ [y]).length) (by rw [hlen6, List.length_append (bs := [_])]; rfl))
            have hn_w7 := hide hlen6
            clear ho6 hg6 hlen6
            try go_frame
            refine wpO_want rfl ?_
            go_simp
            refine wpO_done ?_
            try go_frame
            go_wp2_with fail
            go_roundw
            case rel => exact ⟨k + 1, true, o ++ [n] ++ [y], _, by omega, by go_num, rfl, rfl, by rw [unhide st]; exact unhide st2', unhide hown_w7, unhide hx_w7⟩
            case measure => simp [intOf]; omega
          · have st2 : insS gt n (false, o) y = (false, o ++ [y]) := by unfold insS; rw [unhide hgt']; simp [hc]
            have st2' := hide st2
            have hc' : decide (n < y) = false := decide_eq_false hc
            clear st2 hc
            try dsimp only
            repeat ((fail_if_success (with_reducible refine wp_reg (id := 11) ?_)); (first | go_values | go_skip | go_step | go_guarded | go_upon | go_in | go_back | fail))
            with_reducible refine wp_reg (id := 11) ?_
            iterate 6
              refine wpO_want rfl ?_
              go_simp
            refine wpO_ap1 (enc := _) rfl infoI Tryz.underlying163 one_encI (fun _ => rfl) (by decide) (by decide) rfl (v := vs) (xs := o) y rfl rfl (Blk.new wr 3 #[.int .i64 y]) (own_ext (unhide hown') (ext_self1 wr (.cells #[.int .i64 y] 3))) (by have := unhide hol; omega) (Nat.le_trans (unhide hbs) (Below.size (ext_self1 wr (.cells #[.int .i64 y] 3)))) ?_
            intro A_w7 c_w7 w7 ho6 hg6 _
            obtain ⟨n_w7, hlen6⟩ : ∃ n_w7, n_w7 = (o).length + 1 := ⟨_, rfl⟩
            rw [← hlen6] at ho6 ⊢
            have hx_w7 := hide (((unhide hx').trans (ext_self1 wr (.cells #[.int .i64 y] 3))).of_new (Keep.of_grown hg6) (fun z hz => Nat.le_trans (Nat.le_refl _) (own_base (unhide hown') (by simpa using hz)).1))
            have hown_w7 := hide (own_n ho6 (m := (o ++ [y]).length) (by rw [hlen6, List.length_append (bs := [_])]; rfl))
            have hn_w7 := hide hlen6
            clear ho6 hg6 hlen6
            try go_frame
            refine wpO_want rfl ?_
            go_simp
            refine wpO_done ?_
            try go_frame
            go_wp2_with fail
            go_roundw
            case rel => exact ⟨k + 1, false, o ++ [y], _, by omega, by go_num, rfl, rfl, by rw [unhide st]; exact unhide st2', unhide hown_w7, unhide hx_w7⟩
            case measure => simp [intOf]; omega
        · have st2 : insS gt n (true, o) y = (true, o ++ [y]) := by unfold insS; simp
          have st2' := hide st2
          clear st2
          try dsimp only
          repeat ((fail_if_success (with_reducible refine wp_reg (id := 11) ?_)); (first | go_values | go_skip | go_step | go_guarded | go_upon | go_in | go_back | fail))
          with_reducible refine wp_reg (id := 11) ?_
          iterate 6
            refine wpO_want rfl ?_
            go_simp
          refine wpO_ap1 (enc := _) rfl infoI Tryz.underlying163 one_encI (fun _ => rfl) (by decide) (by decide) rfl (v := vs) (xs := o) y rfl rfl (Blk.new wr 3 #[.int .i64 y]) (own_ext (unhide hown') (ext_self1 wr (.cells #[.int .i64 y] 3))) (by have := unhide hol; omega) (Nat.le_trans (unhide hbs) (Below.size (ext_self1 wr (.cells #[.int .i64 y] 3)))) ?_
          intro A_w7 c_w7 w7 ho6 hg6 _
          obtain ⟨n_w7, hlen6⟩ : ∃ n_w7, n_w7 = (o).length + 1 := ⟨_, rfl⟩
          rw [← hlen6] at ho6 ⊢
          have hx_w7 := hide (((unhide hx').trans (ext_self1 wr (.cells #[.int .i64 y] 3))).of_new (Keep.of_grown hg6) (fun z hz => Nat.le_trans (Nat.le_refl _) (own_base (unhide hown') (by simpa using hz)).1))
          have hown_w7 := hide (own_n ho6 (m := (o ++ [y]).length) (by rw [hlen6, List.length_append (bs := [_])]; rfl))
          have hn_w7 := hide hlen6
          clear ho6 hg6 hlen6
          try go_frame
          refine wpO_want rfl ?_
          go_simp
          refine wpO_done ?_
          try go_frame
          go_wp2_with fail
          go_roundw
          case rel => exact ⟨k + 1, true, o ++ [y], _, by omega, by go_num, rfl, rfl, by rw [unhide st]; exact unhide st2', unhide hown_w7, unhide hx_w7⟩
          case measure => simp [intOf]; omega
      · have hke : k = L.length := by omega
        subst hke
        rw [List.take_length] at hfold
        have hins : insF gt n L = if dn = true then o else o ++ [n] := by unfold insF; rw [hfold]
        have hins' := hide hins
        clear hfold hins
        cases dn
        · rw [if_neg (by simp)] at hins'
          try dsimp only
          repeat ((fail_if_success (with_reducible refine wp_reg (id := 13) ?_)); (first | go_values | go_skip | go_step | go_guarded | go_upon | go_in | go_back | fail))
          with_reducible refine wp_reg (id := 13) ?_
          iterate 3
            refine wpO_want rfl ?_
            go_simp
          refine wpO_ap1 (enc := _) rfl infoI Tryz.underlying163 one_encI (fun _ => rfl) (by decide) (by decide) rfl (v := vs) (xs := o) n rfl rfl (Blk.new wr 3 #[.int .i64 n]) (own_ext (unhide hown') (ext_self1 wr (.cells #[.int .i64 n] 3))) (by have := unhide hol; omega) (Nat.le_trans (unhide hbs) (Below.size (ext_self1 wr (.cells #[.int .i64 n] 3)))) ?_
          intro A_w7 c_w7 w7 ho6 hg6 _
          obtain ⟨n_w7, hlen6⟩ : ∃ n_w7, n_w7 = (o).length + 1 := ⟨_, rfl⟩
          rw [← hlen6] at ho6 ⊢
          have hx_w7 := hide (((unhide hx').trans (ext_self1 wr (.cells #[.int .i64 n] 3))).of_new (Keep.of_grown hg6) (fun z hz => Nat.le_trans (Nat.le_refl _) (own_base (unhide hown') (by simpa using hz)).1))
          have hown_w7 := hide (own_n ho6 (m := (o ++ [n]).length) (by rw [hlen6, List.length_append (bs := [_])]; rfl))
          have hn_w7 := hide hlen6
          clear ho6 hg6 hlen6
          try go_frame
          refine wpO_want rfl ?_
          go_simp
          refine wpO_done ?_
          try go_frame
          go_wp2_with fail
          go_ret
          rw [unhide e', unhide hins']
          exact .mk (by rw [unhide hn_w7]; simp) (own_at (enc := encI) (unhide hown_w7) (fun _ => rfl)) (TAt.of_own (unhide hown_w7)) (unhide hx_w7)
        · rw [if_pos rfl] at hins'
          obtain ⟨A7, c7, rfl⟩ := own_slice (unhide hown')
          go_wp2_with fail
          go_ret
          rw [unhide e', unhide hins']
          exact .mk rfl (own_at (enc := encI) (unhide hown') (fun _ => rfl)) (TAt.of_own (unhide hown')) (unhide hx')
end Go.Proofs.YtoacpebmhbkmbaaGreatDoor
namespace Go.Proofs.YtoacpebmhbkmbaaGreatDoor
open Go Go.RowKit
attribute [local go_sem] qUpon lUpon
def adjR (E : List ((Int × Int) × Thing)) (come : List (Int × Int)) (u v : Int) : Bool := decide (0 ≤ posI (isE u v) E) || come.any (inP u v)
def nearF21 (E : List ((Int × Int) × Thing)) (come : List (Int × Int)) (u : Int) (near : List Int) (v : Int) : List Int := if adjR E come u v = true then withR near v else near
def nearR (E : List ((Int × Int) × Thing)) (come : List (Int × Int)) (L : List Int) (i k : Nat) : List Int := ((L.take k).drop (i + 1)).foldl (nearF21 E come (L[i]?.getD 0)) []
def rowF (E : List ((Int × Int) × Thing)) (near : List Int) (a : Nat) (come : List (Int × Int)) (b : Nat) : List (Int × Int) := if adjR E come (near[a]?.getD 0) (near[b]?.getD 0) = true then come else come ++ [(near[b]?.getD 0,near[a]?.getD 0)]
def rowR (E : List ((Int × Int) × Thing)) (near : List Int) (a : Nat) (come : List (Int × Int)) (b : Nat) : List (Int × Int) := (List.range b).foldl (rowF E near a) come
def pairR (E : List ((Int × Int) × Thing)) (near : List Int) (come : List (Int × Int)) (a : Nat) : List (Int × Int) := (List.range a).foldl (fun come a => rowR E near a come a) come
def comR (E : List ((Int × Int) × Thing)) (L : List Int) : Nat → List (Int × Int)
 | 0 => []
 | i + 1 => pairR E (nearR E (comR E L i) L i L.length) (comR E L i) (nearR E (comR E L i) L i L.length).length
def neaR (E : List ((Int × Int) × Thing)) (L : List Int) (i : Nat) : List Int := nearR E (comR E L i) L i L.length
def neasR (E : List ((Int × Int) × Thing)) (L : List Int) (k : Nat) : List (List Int) := (List.range k).map (neaR E L)
theorem rowR_next (E : List ((Int × Int) × Thing)) (near : List Int) (a : Nat) (come : List (Int × Int)) (b : Nat) : rowR E near a come (b + 1) = rowF E near a (rowR E near a come b) b := by
 unfold rowR
 rw [List.range_succ,List.foldl_append]; rfl
theorem pairR_next (E : List ((Int × Int) × Thing)) (near : List Int) (come : List (Int × Int)) (a : Nat) : pairR E near come (a + 1) = rowR E near a (pairR E near come a) a := by
 unfold pairR
 rw [List.range_succ,List.foldl_append]; rfl
theorem nearR_next (E : List ((Int × Int) × Thing)) (come : List (Int × Int)) (L : List Int) (i k : Nat) (hk : k < L.length) (hik : i < k) : nearR E come L i (k + 1) = nearF21 E come (L[i]?.getD 0) (nearR E come L i k) L[k] := by
 unfold nearR
 rw [List.take_succ_eq_append_getElem hk,List.drop_append_of_le_length (by rw [List.length_take]; omega),List.foldl_append,List.foldl_cons,List.foldl_nil]
theorem nearR_start (E : List ((Int × Int) × Thing)) (come : List (Int × Int)) (L : List Int) (i : Nat) : nearR E come L i (i + 1) = [] := by
 unfold nearR
 rw [List.drop_eq_nil_of_le (by rw [List.length_take]; omega)]
 rfl
theorem withR_len (L : List Int) (n : Int) : (withR L n).length ≤ L.length + 1 := by
 unfold withR
 split
 ·omega
 ·have h := ins_len (gt := fun x => decide (n < x)) (x := n) L (false,[])
  unfold insF
  split
  ·have := h.1; simp at this; omega
  ·rename_i hd
   have := h.2.1 (by simpa using hd)
   simp at this
   simp [this]
theorem nearR_len (E : List ((Int × Int) × Thing)) (come : List (Int × Int)) (L : List Int) (i k : Nat) : (nearR E come L i k).length ≤ L.length := by
 have key : ∀ (l near : List Int) (u : Int),(l.foldl (nearF21 E come u) near).length ≤ near.length + l.length := by
  intro l
  induction l with
  | nil => intro near u; simp
  | cons x r ih =>
   intro near u
   rw [List.foldl_cons]
   have h1 := ih (nearF21 E come u near x) u
   have h2 : (nearF21 E come u near x).length ≤ near.length + 1 := by
    unfold nearF21
    split
    ·exact withR_len _ _
    ·omega
   simp only [List.length_cons]
   omega
 have h := key ((L.take k).drop (i + 1)) [] (L[i]?.getD 0)
 have h2 : ((L.take k).drop (i + 1)).length ≤ L.length := by rw [List.length_drop,List.length_take]; omega
 unfold nearR
 simp only [List.length_nil,Nat.zero_add] at h
 omega
theorem rowR_len (E : List ((Int × Int) × Thing)) (near : List Int) (a : Nat) (come : List (Int × Int)) : ∀ b,(rowR E near a come b).length ≤ come.length + b
 | 0 => by simp [rowR]
 | b + 1 => by
  rw [rowR_next]
  have := rowR_len E near a come b
  unfold rowF
  split
  ·omega
  ·simp; omega
theorem pairR_len (E : List ((Int × Int) × Thing)) (near : List Int) (come : List (Int × Int)) : ∀ a,a ≤ 100 → (pairR E near come a).length ≤ come.length + a * 100
 | 0,_ => by simp [pairR]
 | a + 1,h => by
  rw [pairR_next]
  have h1 := rowR_len E near a (pairR E near come a) a
  have h2 := pairR_len E near come a (by omega)
  omega
theorem comR_len (E : List ((Int × Int) × Thing)) (L : List Int) (hl : L.length ≤ 100) : ∀ i,i ≤ 100 → (comR E L i).length ≤ i * 10000
 | 0,_ => by simp [comR]
 | i + 1,h => by
  have h1 := nearR_len E (comR E L i) L i L.length
  have h2 := pairR_len E (nearR E (comR E L i) L i L.length) (comR E L i) (nearR E (comR E L i) L i L.length).length (by omega)
  have h3 := comR_len E L hl i (by omega)
  have h4 : (nearR E (comR E L i) L i L.length).length * 100 ≤ 100 * 100 := Nat.mul_le_mul_right _ (by omega)
  show (pairR E (nearR E (comR E L i) L i L.length) (comR E L i) (nearR E (comR E L i) L i L.length).length).length ≤ (i + 1) * 10000
  omega
abbrev Sl3 := Option Addr × Nat × Nat
def encW (p : Sl3) : List Value := [.slice p.1 p.2.1 p.2.2]
theorem one_encW (p : Sl3) : ∀ v ∈ encW p,v.oneCell' = true := by
 intro v hv
 simp [encW] at hv
 subst hv
 rfl
def SlsAt (w : World) (vs : List Sl3) (xss : List (List Int)) : Prop := vs.length = xss.length ∧ ∀ i (h : i < xss.length), ∃ A c,vs[i]? = some (A,xss[i].length,c) ∧ SlAt encI 1 w A xss[i] ∧ TAt 3 w A xss[i]
theorem SlsAt.keep {w w' : World} {vs : List Sl3} {xss : List (List Int)} {S : List Nat} (h : SlsAt w vs xss) (hk : Keep S w w') (hS : OffT 3 w S) : SlsAt w' vs xss := ⟨h.1,fun i hi => by
 obtain ⟨A,c,h1,h2,h3⟩ := h.2 i hi
 exact ⟨A,c,h1,h2.keepT h3 hk hS,h3.keep hk hS⟩⟩
theorem SlsAt.ext {w w' : World} {vs : List Sl3} {xss : List (List Int)} (h : SlsAt w vs xss) (hk : Ext w w') : SlsAt w' vs xss := h.keep (hk.keep []) (fun _ hm => by simp at hm)
theorem SlsAt.push {w : World} {vs : List Sl3} {xss : List (List Int)} (h : SlsAt w vs xss) {A : Option Addr} {n c : Nat} {xs : List Int} (hn : n = xs.length) (h1 : SlAt encI 1 w A xs) (h2 : TAt 3 w A xs) : SlsAt w (vs ++ [(A,n,c)]) (xss ++ [xs]) := by
 subst hn
 refine ⟨by simp [h.1],fun i hi => ?_⟩
 by_cases hl : i < xss.length
 ·obtain ⟨A',c',e1,e2,e3⟩ := h.2 i hl
  rw [List.getElem_append_left hl,List.getElem?_append_left (by rw [h.1]; exact hl)]
  exact ⟨A',c',e1,e2,e3⟩
 ·have hie : i = xss.length := by simp at hi; omega
  subst hie
  rw [List.getElem_append_right (Nat.le_refl _),List.getElem?_append_right (by rw [h.1]; exact Nat.le_refl _)]
  exact ⟨A,c,by simp [h.1],by simpa using h1,by simpa using h2⟩
structure NrI (B : Nat) (w wr : World) (xss : List (List Int)) (vs : List Sl3) (vo vc : Value) (come : List (Int × Int)) : Prop where
 o : wr.ownsRow B 163 1 vo vs.length (vs.flatMap encW)
 c : wr.ownsRow B 185 2 vc come.length (come.flatMap encP)
 n : SlsAt wr vs xss
 x : Ext w wr
 lw : w.heap.size ≤ B
 lb : B ≤ wr.heap.size
theorem NrI.ext {B : Nat} {w wr W : World} {xss : List (List Int)} {vs : List Sl3} {vo vc : Value} {come : List (Int × Int)} (h : NrI B w wr xss vs vo vc come) (k : Ext wr W) : NrI B w W xss vs vo vc come :=
 ⟨own_ext h.o k,own_ext h.c k,h.n.ext k,h.x.trans k,h.lw,Nat.le_trans h.lb (Below.size k)⟩
theorem own_offT {B n1 n2 : Nat} {w : World} {v1 v2 : Value} {k1 k2 T1 T2 : Nat} {xs1 xs2 : List Value} (h1 : w.ownsRow B T1 k1 v1 n1 xs1) (h2 : w.ownsRow B T2 k2 v2 n2 xs2) (hne : T1 ≠ T2) : ∀ g ∈ v1.ownBlock.toList,v2.ownBlock ≠ some g := fun g hg e => by
 obtain ⟨_,_,c1,e1⟩ := own_base h1 (by simpa using hg)
 obtain ⟨_,_,c2,e2⟩ := own_base h2 e
 rw [e1] at e2
 injection e2 with e2
 injection e2 with _ e2
 exact hne e2
theorem NrI.pushC {B : Nat} {w wr W1 w6 : World} {xss : List (List Int)} {vs : List Sl3} {vo vc vc' : Value} {come come' : List (Int × Int)} (h : NrI B w wr xss vs vo vc come) (k : Ext wr W1) (hg : W1.grownBy w6 vc.ownBlock) (hown : w6.ownsRow B 185 2 vc' come'.length (come'.flatMap encP)) :
  NrI B w w6 xss vs vo vc' come' ∧ Keep vc.ownBlock.toList wr w6 ∧ OffT 3 wr vc.ownBlock.toList := by
 have h1 := h.ext k
 have hk := Keep.of_grown hg
 refine ⟨⟨own_keep h1.o hk (own_offT h1.c h1.o (by decide)),hown,h1.n.keep hk (OffT.of_own h1.c (by decide)),h1.x.of_new hk (fun x hx => Nat.le_trans h.lw (own_base h1.c (by simpa using hx)).1),h.lw,Nat.le_trans h1.lb hk.size⟩,(k.keep _).trans hk,OffT.of_own h.c (by decide)⟩
theorem NrI.pushO {B : Nat} {w wr W1 w6 : World} {xss : List (List Int)} {vs vs' : List Sl3} {vo vo' vc : Value} {come : List (Int × Int)} {A : Option Addr} {n c : Nat} {xs : List Int} (h : NrI B w wr xss vs vo vc come) (k : Ext wr W1) (hg : W1.grownBy w6 vo.ownBlock) (hvs : vs' = vs ++ [(A,n,c)]) (hown : w6.ownsRow B 163 1 vo' vs'.length (vs'.flatMap encW)) (hn : n = xs.length) (h1 : SlAt encI 1 wr A xs) (h2 : TAt 3 wr A xs) :
  NrI B w w6 (xss ++ [xs]) vs' vo' vc come := by
 subst hvs
 have hh := h.ext k
 have hk := Keep.of_grown hg
 have hS := OffT.of_own hh.o (T := 3) (by decide)
 exact ⟨hown,own_keep hh.c hk (own_offT hh.o hh.c (by decide)),(hh.n.keep hk hS).push hn ((h1.ext k).keepT (h2.ext k) hk hS) ((h2.ext k).keep hk hS),hh.x.of_new hk (fun x hx => Nat.le_trans h.lw (own_base hh.o (by simpa using hx)).1),h.lw,Nat.le_trans hh.lb hk.size⟩
theorem infoR : (Tryz.prog.info? 163).map (fun i => (i.zero.map (·.cells.size),i.size,i.bytes)) = some (some 1,1,24) := by kernel_rfl
theorem infoP21 : (Tryz.prog.info? 185).map (fun i => (i.zero.map (·.cells.size),i.size,i.bytes)) = some (some 2,2,16) := by kernel_rfl
def NearPost (w : World) (xss : List (List Int)) (come : List (Int × Int)) (e : Ending) (w' : World) : Prop := ∃ A1 c1 A2 c2 vs,e = .returned (.tuple #[.slice A1 xss.length c1, .slice A2 come.length c2]) ∧ SlAt encW 1 w' A1 vs ∧ SlsAt w' vs xss ∧ SlAt encP 2 w' A2 come ∧ Ext w w'
end Go.Proofs.YtoacpebmhbkmbaaGreatDoor
namespace Go.Proofs.YtoacpebmhbkmbaaGreatDoor
open Go Go.RowKit
attribute [local go_sem] qUpon lUpon
theorem lx_ap1 {α : Type} {enc : α → List Value} {T ST : TypeId} {kk byt : Nat} {R : World → World → Prop} {C : World → Prop} {safe : Nat → Bool} {Q : Act → World → Prop} {l : List Oper} {n i : Nat} {o : Oper} {s x : Operand} {listed : Array Bool} {a : Act} {W : World}
  (hr : Region.ready .any l.toArray listed = [i]) (ho0 : pick l i = some o) (hw : Region.wanted o (yielded l.toArray a.tmps) = true) (listed' : Array Bool) (hli : listed.setIfInBounds i true = listed') (hR : ∀ a b,R a b → b = a) (hs : safe i = false)
  (hi0 : (Tryz.prog.info? T).map (fun i => (i.zero.map (·.cells.size),i.size,i.bytes)) = some (some kk,kk,byt)) (hu : Tryz.prog.underlying ST = some (.slice T)) (hone : ∀ x, ∀ v ∈ enc x,v.oneCell' = true) (hlen : ∀ x,(enc x).length = kk) (hk : 0 < kk) (hby : byt ≤ 1000)
  (ho : o.op = .call { callee := .builtin .append,args := #[s,x],argTypes := #[ST,ST] }) {base : Nat} {v : Value} {m : Nat} {xs : List α} (e : α) {g : Nat} {t : TypeId} (hsv : a.eval s = v) (hx : a.eval x = .slice (some ⟨g,0,none⟩) 1 1) (hg : Blk W g t (enc e).toArray)
  (hown : W.ownsRow base T kk v m (xs.flatMap enc)) (hl : m ≤ 10000000) (hb : base ≤ W.heap.size)
  (h : ∀ A' c' w',w'.ownsRow base T kk (.slice A' (m + 1) c') (m + 1) ((xs ++ [e]).flatMap enc) → W.grownBy w' v.ownBlock → (Value.ownBlock (.slice A' (m + 1) c') = v.ownBlock ∨ Value.ownBlock (.slice A' (m + 1) c') = some W.heap.size) → wpX Tryz.prog l.toArray R C safe Q n listed' (a.put o.dst (.slice A' (m + 1) c')) w') : wpX Tryz.prog l.toArray R C safe Q (n + 1) listed a W := by
 obtain ⟨A',c',w',h1,h2,h3,h4⟩ := run_ap1 hi0 hu hone hlen hk hby ho e hsv hx hg hown hl hb
 refine lx_one hr ho0 hw listed' hli ?_
 rw [h1]
 refine lUpon_value ?_
 exact ⟨fun h => (by rw [hs] at h; cases h),fun w'' hw'' => by rw [hR _ _ hw'']; exact h A' c' w' h2 h3 h4⟩
set_option maxRecDepth 100000 in
set_option maxHeartbeats 16000000 in
theorem near21_any (A B : Option Addr) (V : List (Int × Thing)) (E : List ((Int × Int) × Thing)) (cA cB : Nat) (C : Option Addr) (L : List Int) (cL : Nat) (w : World) (hE : SlAt encE 4 w B E) (hnE0 : E.length ≤ 4096) (hL : SlAt encI 1 w C L) (hl : L.length ≤ 100) :
  Calls Tryz.prog 118 #[.agg #[.slice A V.length cA, .slice B E.length cB], .slice C L.length cL] w (NearPost w (neasR E L L.length) (comR E L L.length)) := by
 have hE' := hide hE
 have hL' := hide hL
 have hnE := hide hnE0
 clear hE hL hnE0
 go_enter Tryz.func118,Tryz.ntmps118
 go_wp2_with fail
 have hB1 := hide (Blk.new w 41 #[.slice A V.length cA, .slice B E.length cB])
 have hx1 := hide (ext_self1 w (.cells #[.slice A V.length cA, .slice B E.length cB] 41))
 generalize w.alloc (.cells #[.slice A V.length cA, .slice B E.length cB] 41) = w1 at *
 have hI0 := hide (show NrI w1.heap.size w w1 [] [] (.slice none 0 0) (.slice none 0 0) [] from ⟨World.ownsRow_nil _ _ _ _,World.ownsRow_nil _ _ _ _,⟨rfl,fun i hi => by simp at hi⟩,unhide hx1,Below.size (unhide hx1),Nat.le_refl _⟩)
 go_loopw [6,7,8] (fun ov cv iv wr => ∃ (k : Nat) (vs : List Sl3) (vo vc : Value),k ≤ L.length ∧ iv = .int .i64 k ∧ vo = ov ∧ vc = cv ∧ NrI w1.heap.size w1 wr (neasR E L k) vs vo vc (comR E L k)) (fun _ _ iv _ => L.length - (intOf iv).toNat)
 case atStart => exact ⟨0,[],_,_,Nat.zero_le _,rfl,rfl,rfl,World.ownsRow_nil _ _ _ _,World.ownsRow_nil _ _ _ _,⟨rfl,fun i hi => by simp [neasR] at hi⟩,Ext.refl _,Nat.le_refl _,Nat.le_refl _⟩
 case round =>
  obtain ⟨k,vs,vo,vc,hk,rfl,hv1,hv2,hI⟩ := hrel
  subst hv1
  subst hv2
  have hI' := hide hI
  clear hI hI0
  by_cases hlt : k < L.length
  ·obtain ⟨b,off,rfl,hzz⟩ := atI (unhide hL') hlt
   clear hzz
   obtain ⟨Ac,cc,rfl⟩ := own_slice (unhide hI').c
   have hC' := hide (own_at (enc := encP) (unhide hI').c (fun _ => rfl))
   obtain ⟨come,hce⟩ : ∃ come,come = comR E L k := ⟨_,rfl⟩
   have hcl0 : come.length ≤ 1000000 := by
    rw [hce]
    have h1 := comR_len E L hl k (by omega)
    have h2 : k * 10000 ≤ 100 * 10000 := Nat.mul_le_mul_right _ (by omega)
    omega
   have hcl := hide (show come.length ≤ 4611686018427387904 by omega)
   have hcl2 := hide hcl0
   rw [← hce] at hI' hC' ⊢
   have hce' := hide hce
   obtain ⟨x,hx⟩ : ∃ x,L[k] = x := ⟨_,rfl⟩
   have hxk := hide hx
   have hxk' := hide (show L[k]?.getD 0 = x by rw [← hx]; simp [hlt])
   clear hce hx hcl0
   generalize wr = wo at *
   have hxs := hide (ext_self1 wo (.cells #[] 3))
   go_wp2_with fail
   go_loopw [9,10] (fun nv iv W => ∃ (j : Nat) (An : Option Addr) (cn : Nat) (near : List Int),k + 1 ≤ j ∧ j ≤ L.length ∧ iv = .int .i64 j ∧ nv = .slice An near.length cn ∧ near = nearR E come L k j ∧ SlAt encI 1 W An near ∧ TAt 3 W An near ∧ Ext wo W) (fun _ iv _ => L.length - (intOf iv).toNat)
   case atStart => exact ⟨k + 1,some ⟨wo.heap.size,0,none⟩,0,[],Nat.le_refl _,hlt,by go_num,rfl,(nearR_start E come L k).symm,SlAt.nil,TAt.nil,unhide hxs⟩
   case round =>
    obtain ⟨j,An,cn,near,hkj,hj,rfl,rfl,hnear,hsn,htn,hxr⟩ := hrel
    have hnl := hide (show near.length ≤ 100 by rw [hnear]; exact Nat.le_trans (nearR_len _ _ _ _ _) hl)
    have hnear' := hide hnear
    have hsn' := hide hsn
    have htn' := hide htn
    have hxr' := hide hxr
    clear hsn htn hxr hnear hxs
    by_cases hjl : j < L.length
    ·have hLr := (unhide hL').ext ((unhide hx1).trans ((unhide hI').x.trans (unhide hxr')))
     have hst := hide (nearR_next E come L k j hjl (by omega))
     have hEr := hide ((unhide hE').ext ((unhide hx1).trans ((unhide hI').x.trans (unhide hxr'))))
     have hCr := hide ((unhide hC').ext (unhide hxr'))
     have ck := atI_at hLr hlt
     have cj := atI_at hLr hjl
     have hB2 := (unhide hB1).ext ((unhide hI').x.trans (unhide hxr'))
     have q0 := hB2.cells 0 (v := .slice A V.length cA) rfl
     have q1 := hB2.cells 1 (v := .slice B E.length cB) rfl
     have hself := Ext.refl wr
     rw [unhide hxk] at ck
     generalize L[j] = y at cj hst
     obtain ⟨p,hp⟩ : ∃ p,posI (isE x y) E = p := ⟨_,rfl⟩
     have hp' := hide hp
     clear hp hLr hB2
     by_cases hp0 : 0 ≤ p
     ·have hadj := hide (show adjR E come x y = true by unfold adjR; rw [unhide hp',decide_eq_true hp0]; rfl)
      have hq' : Hid (come.any (inP x y) = come.any (inP x y)) := hide rfl
      have hd0 : decide (0 ≤ p) = true := decide_eq_true hp0
      go_wp2_with fail
      refine wp_region_ext (P := Tryz.prog) [0,1,2,3,4,5,6,7,8,9,10,11,12,13,14,15,16,17,18,19,20,21,22] [] 0 #[true,true,true,true,true,true,true,true,true,true,true,true,true,true,true,true,true,true,true,true,true,true,true] (by kernel_rfl) (by kernel_rfl) rfl (by rfl) ?_
      iterate 12
       refine ql_want (v := ?_) rfl (by rfl) (fun W hW => ?_) ?_
       rotate_left
       ·go_simp
        first | done | rfl | (go_at_call 138; refine (redge_any _ B E _ _ cB x y _ ((unhide hEr).ext (by assumption)) (unhide hnE)).mono ?_; rw [unhide hp']; rintro _ _ ⟨h1,h2⟩; refine ⟨_,h1, ?_,h2⟩; rfl) | (go_at_call 142; refine (in21_any Ac come cc x y _ ((unhide hCr).ext (by assumption)) (unhide hcl)).mono ?_; rw [unhide hq']; rintro _ _ ⟨h1,h2⟩; refine ⟨_,h1, ?_,h2⟩; rfl)
       go_frame
      iterate 10
       refine ql_skip rfl (by rfl) ?_
       try go_frame
      iterate 1
       refine ql_want (v := ?_) rfl (by rfl) (fun W hW => ?_) ?_
       rotate_left
       ·go_simp
        first | done | rfl | (go_at_call 138; refine (redge_any _ B E _ _ cB x y _ ((unhide hEr).ext (by assumption)) (unhide hnE)).mono ?_; rw [unhide hp']; rintro _ _ ⟨h1,h2⟩; refine ⟨_,h1, ?_,h2⟩; rfl) | (go_at_call 142; refine (in21_any Ac come cc x y _ ((unhide hCr).ext (by assumption)) (unhide hcl)).mono ?_; rw [unhide hq']; rintro _ _ ⟨h1,h2⟩; refine ⟨_,h1, ?_,h2⟩; rfl)
       go_frame
      refine wpQL_nil (fun w3 hx3 => ?_)
      refine wpX_done (by kernel_rfl) ?_
      try go_frame
      have hx3' := hide hx3
      have hself3 := Ext.refl w3
      have cj3 := fun (W' : World) (hW : Ext w3 W') => cj W' (hx3.trans hW)
      clear q0 q1 ck cj hself hx3
      go_wp2_with fail
      refine (with01_any An near cn y _ ((unhide hsn').ext (unhide hx3')) ((unhide htn').ext (unhide hx3')) (by have := unhide hnl; omega)).mono ?_
      rintro e w4 ⟨A4,c4,rfl,hs4,ht4,hx4⟩
      have hs4' := hide hs4
      have ht4' := hide ht4
      have hx4' := hide (((unhide hxr').trans (unhide hx3')).trans hx4)
      clear hs4 ht4 hx4 cj3 hself3
      go_wp2_with fail
      go_roundw
      case rel => exact ⟨j + 1,A4,c4,withR near y,by omega,by omega,by go_num,rfl,by rw [unhide hst, ← unhide hnear']; unfold nearF21; rw [unhide hxk',if_pos (unhide hadj)],unhide hs4',unhide ht4',unhide hx4'⟩
      case measure => simp [intOf]; omega
     ·have hd0 : decide (0 ≤ p) = false := decide_eq_false hp0
      cases hq : come.any (inP x y) with
      | true =>
       have hadj := hide (show adjR E come x y = true by unfold adjR; rw [hq,Bool.or_true])
       have hq' := hide hq
       clear hq
       go_wp2_with fail
       refine wp_region_ext (P := Tryz.prog) [0,1,2,3,4,5,6,7,8,9,10,11,12,13,14,15,16,17,18,19,20,21,22] [] 0 #[true,true,true,true,true,true,true,true,true,true,true,true,true,true,true,true,true,true,true,true,true,true,true] (by kernel_rfl) (by kernel_rfl) rfl (by rfl) ?_
       iterate 23
        refine ql_want (v := ?_) rfl (by rfl) (fun W hW => ?_) ?_
        rotate_left
        ·go_simp
         first | done | rfl | (go_at_call 138; refine (redge_any _ B E _ _ cB x y _ ((unhide hEr).ext (by assumption)) (unhide hnE)).mono ?_; rw [unhide hp']; rintro _ _ ⟨h1,h2⟩; refine ⟨_,h1, ?_,h2⟩; rfl) | (go_at_call 142; refine (in21_any Ac come cc x y _ ((unhide hCr).ext (by assumption)) (unhide hcl)).mono ?_; rw [unhide hq']; rintro _ _ ⟨h1,h2⟩; refine ⟨_,h1, ?_,h2⟩; rfl)
        go_frame
       refine wpQL_nil (fun w3 hx3 => ?_)
       refine wpX_done (by kernel_rfl) ?_
       try go_frame
       have hx3' := hide hx3
       have hself3 := Ext.refl w3
       have cj3 := fun (W' : World) (hW : Ext w3 W') => cj W' (hx3.trans hW)
       clear q0 q1 ck cj hself hx3
       go_wp2_with fail
       refine (with01_any An near cn y _ ((unhide hsn').ext (unhide hx3')) ((unhide htn').ext (unhide hx3')) (by have := unhide hnl; omega)).mono ?_
       rintro e w4 ⟨A4,c4,rfl,hs4,ht4,hx4⟩
       have hs4' := hide hs4
       have ht4' := hide ht4
       have hx4' := hide (((unhide hxr').trans (unhide hx3')).trans hx4)
       clear hs4 ht4 hx4 cj3 hself3
       go_wp2_with fail
       go_roundw
       case rel => exact ⟨j + 1,A4,c4,withR near y,by omega,by omega,by go_num,rfl,by rw [unhide hst, ← unhide hnear']; unfold nearF21; rw [unhide hxk',if_pos (unhide hadj)],unhide hs4',unhide ht4',unhide hx4'⟩
       case measure => simp [intOf]; omega
      | false =>
       have hadj := hide (show ¬ adjR E come x y = true by unfold adjR; rw [hq,unhide hp',decide_eq_false hp0]; simp)
       have hq' := hide hq
       clear hq
       go_wp2_with fail
       refine wp_region_ext (P := Tryz.prog) [0,1,2,3,4,5,6,7,8,9,10,11,12,13,14,15,16,17,18,19,20,21,22] [] 0 #[true,true,true,true,true,true,true,true,true,true,true,true,true,true,true,true,true,true,true,true,true,true,true] (by kernel_rfl) (by kernel_rfl) rfl (by rfl) ?_
       iterate 23
        refine ql_want (v := ?_) rfl (by rfl) (fun W hW => ?_) ?_
        rotate_left
        ·go_simp
         first | done | rfl | (go_at_call 138; refine (redge_any _ B E _ _ cB x y _ ((unhide hEr).ext (by assumption)) (unhide hnE)).mono ?_; rw [unhide hp']; rintro _ _ ⟨h1,h2⟩; refine ⟨_,h1, ?_,h2⟩; rfl) | (go_at_call 142; refine (in21_any Ac come cc x y _ ((unhide hCr).ext (by assumption)) (unhide hcl)).mono ?_; rw [unhide hq']; rintro _ _ ⟨h1,h2⟩; refine ⟨_,h1, ?_,h2⟩; rfl)
        go_frame
       refine wpQL_nil (fun w3 hx3 => ?_)
       refine wpX_done (by kernel_rfl) ?_
       try go_frame
       have hx3' := hide hx3
       have hself3 := Ext.refl w3
       clear q0 q1 ck cj hself hx3
       go_wp2_with fail
       go_roundw
       case rel => exact ⟨j + 1,An,cn,near,by omega,by omega,by go_num,rfl,by rw [unhide hst, ← unhide hnear']; unfold nearF21; rw [unhide hxk',if_neg (unhide hadj)],(unhide hsn').ext (unhide hx3'),(unhide htn').ext (unhide hx3'),(unhide hxr').trans (unhide hx3')⟩
       case measure => simp [intOf]; omega
    ·have hje : j = L.length := by omega
     subst hje
     have hnear2 : near = neaR E L k := by rw [unhide hnear',unhide hce']; rfl
     have hnear2' := hide hnear2
     clear hnear2
     go_wp2_with fail
     generalize wr = wq at *
     have hI2 := hide ((unhide hI').ext (unhide hxr'))
     go_loopw [7,11] (fun cv iv W => ∃ (a : Nat) (vc2 : Value),a ≤ near.length ∧ iv = .int .i64 a ∧ vc2 = cv ∧ NrI w1.heap.size w1 W (neasR E L k) vs vo vc2 (pairR E near come a) ∧ SlAt encI 1 W An near ∧ TAt 3 W An near) (fun _ iv _ => near.length - (intOf iv).toNat)
     case atStart => exact ⟨0,_,Nat.zero_le _,rfl,rfl,by simpa [pairR] using unhide hI2,unhide hsn',unhide htn'⟩
     case round =>
      obtain ⟨a,vc2,ha,rfl,hv,hI3,hs3,ht3⟩ := hrel
      subst hv
      have hI3' := hide hI3
      have hs3' := hide hs3
      have ht3' := hide ht3
      clear hI3 hs3 ht3 hI2 hsn' htn' hxr'
      by_cases hal : a < near.length
      ·obtain ⟨bn,offn,rfl,hzz⟩ := atI (unhide hs3') hal
       clear hzz
       have hab0 : a < 100 := by have := unhide hnl; omega
       go_wp2_with fail
       generalize wr = wp at *
       go_loopw [7,12] (fun cv iv W => ∃ (d : Nat) (vc3 : Value),d ≤ a ∧ iv = .int .i64 d ∧ vc3 = cv ∧ NrI w1.heap.size w1 W (neasR E L k) vs vo vc3 (rowR E near a (pairR E near come a) d) ∧ SlAt encI 1 W (some ⟨bn,offn,none⟩) near ∧ TAt 3 W (some ⟨bn,offn,none⟩) near) (fun _ iv _ => a - (intOf iv).toNat)
       case atStart => exact ⟨0,_,Nat.zero_le _,rfl,rfl,by simpa [rowR] using unhide hI3',unhide hs3',unhide ht3'⟩
       case round =>
        obtain ⟨d,vc3,hd,rfl,hv,hI4,hs4,ht4⟩ := hrel
        subst hv
        have hI4' := hide hI4
        have hs4' := hide hs4
        have ht4' := hide ht4
        clear hI4 hs4 ht4 hI3' hs3' ht3'
        by_cases hda : d < a
        ·obtain ⟨Ac4,cc4,rfl⟩ := own_slice (unhide hI4').c
         have hCr := hide (own_at (enc := encP) (unhide hI4').c (fun _ => rfl))
         obtain ⟨cm,hcm⟩ : ∃ cm,cm = rowR E near a (pairR E near come a) d := ⟨_,rfl⟩
         have hcl40 : cm.length ≤ 2000000 := by
          have h1 := rowR_len E near a (pairR E near come a) d
          have h2 := pairR_len E near come a (by have := unhide hnl; omega)
          have h3 : a * 100 ≤ 100 * 100 := Nat.mul_le_mul_right _ (by have := unhide hnl; omega)
          have h4 := unhide hcl2
          have h5 := unhide hnl
          rw [hcm]
          omega
         have hcl4 := hide hcl40
         have hcl := hide (show cm.length ≤ 4611686018427387904 by omega)
         rw [← hcm] at hI4' hCr ⊢
         have hcm' := hide hcm
         have hdn : d < near.length := by omega
         have hEr := hide ((unhide hE').ext ((unhide hx1).trans (unhide hI4').x))
         have ca := atI_at (unhide hs4') hal
         have cb := atI_at (unhide hs4') hdn
         have hB2 := (unhide hB1).ext (unhide hI4').x
         have q0 := hB2.cells 0 (v := .slice A V.length cA) rfl
         have q1 := hB2.cells 1 (v := .slice B E.length cB) rfl
         have hself := Ext.refl wr
         have hab : a < 100 := by have := unhide hnl; omega
         have hua := hide (show near[a]?.getD 0 = near[a] by simp [hal])
         have hub := hide (show near[d]?.getD 0 = near[d] by simp [hdn])
         generalize near[a] = x2 at ca hua
         generalize near[d] = y at cb hub
         obtain ⟨p,hp⟩ : ∃ p,posI (isE x2 y) E = p := ⟨_,rfl⟩
         have hp' := hide hp
         clear hp hB2 hcm hcl40
         by_cases hp0 : 0 ≤ p
         ·have hadj := hide (show adjR E cm x2 y = true by unfold adjR; rw [unhide hp',decide_eq_true hp0]; rfl)
          have hq' : Hid (cm.any (inP x2 y) = cm.any (inP x2 y)) := hide rfl
          have hd0 : decide (p < 0) = false := decide_eq_false (by omega)
          go_wp2_with fail
          refine wp_region_ext (P := Tryz.prog) [0,1,2,3,4,5,6,7,8,9,10,11,12,13,14,15,16,17,18,19,20,21,22,23] [] 0 #[true,true,true,true,true,true,true,true,true,true,true,true,true,true,true,true,true,true,true,true,true,true,true,true] (by kernel_rfl) (by kernel_rfl) rfl (by rfl) ?_
          iterate 12
           refine ql_want (v := ?_) rfl (by rfl) (fun W hW => ?_) ?_
           rotate_left
           ·go_simp
            first | done | rfl | (go_at_call 138; refine (redge_any _ B E _ _ cB x2 y _ ((unhide hEr).ext (by assumption)) (unhide hnE)).mono ?_; rw [unhide hp']; rintro _ _ ⟨h1,h2⟩; refine ⟨_,h1, ?_,h2⟩; rfl) | (go_at_call 142; refine (in21_any Ac4 cm cc4 x2 y _ ((unhide hCr).ext (by assumption)) (unhide hcl)).mono ?_; rw [unhide hq']; rintro _ _ ⟨h1,h2⟩; refine ⟨_,h1, ?_,h2⟩; rfl)
           go_frame
          iterate 11
           refine ql_skip rfl (by rfl) ?_
           try go_frame
          iterate 1
           refine ql_want (v := ?_) rfl (by rfl) (fun W hW => ?_) ?_
           rotate_left
           ·go_simp
            first | done | rfl | (go_at_call 138; refine (redge_any _ B E _ _ cB x2 y _ ((unhide hEr).ext (by assumption)) (unhide hnE)).mono ?_; rw [unhide hp']; rintro _ _ ⟨h1,h2⟩; refine ⟨_,h1, ?_,h2⟩; rfl) | (go_at_call 142; refine (in21_any Ac4 cm cc4 x2 y _ ((unhide hCr).ext (by assumption)) (unhide hcl)).mono ?_; rw [unhide hq']; rintro _ _ ⟨h1,h2⟩; refine ⟨_,h1, ?_,h2⟩; rfl)
           go_frame
          refine wpQL_nil (fun w3 hx3 => ?_)
          refine wpX_done (by kernel_rfl) ?_
          try go_frame
          have hx3' := hide hx3
          have hself3 := Ext.refl w3
          clear q0 q1 ca cb hself hx3 hself3
          go_wp2_with fail
          go_roundw
          case rel => exact ⟨d + 1,_,by omega,by go_num,rfl,by rw [rowR_next, ← unhide hcm']; unfold rowF; rw [unhide hua,unhide hub,if_pos (unhide hadj)]; exact (unhide hI4').ext (unhide hx3'),(unhide hs4').ext (unhide hx3'),(unhide ht4').ext (unhide hx3')⟩
          case measure => simp [intOf]; omega
         ·have hd0 : decide (p < 0) = true := decide_eq_true (by omega)
          cases hq : cm.any (inP x2 y) with
          | true =>
           have hadj := hide (show adjR E cm x2 y = true by unfold adjR; rw [hq,Bool.or_true])
           have hq' := hide hq
           clear hq
           go_wp2_with fail
           refine wp_region_ext (P := Tryz.prog) [0,1,2,3,4,5,6,7,8,9,10,11,12,13,14,15,16,17,18,19,20,21,22,23] [] 0 #[true,true,true,true,true,true,true,true,true,true,true,true,true,true,true,true,true,true,true,true,true,true,true,true] (by kernel_rfl) (by kernel_rfl) rfl (by rfl) ?_
           iterate 24
            refine ql_want (v := ?_) rfl (by rfl) (fun W hW => ?_) ?_
            rotate_left
            ·go_simp
             first | done | rfl | (go_at_call 138; refine (redge_any _ B E _ _ cB x2 y _ ((unhide hEr).ext (by assumption)) (unhide hnE)).mono ?_; rw [unhide hp']; rintro _ _ ⟨h1,h2⟩; refine ⟨_,h1, ?_,h2⟩; rfl) | (go_at_call 142; refine (in21_any Ac4 cm cc4 x2 y _ ((unhide hCr).ext (by assumption)) (unhide hcl)).mono ?_; rw [unhide hq']; rintro _ _ ⟨h1,h2⟩; refine ⟨_,h1, ?_,h2⟩; rfl)
            go_frame
           refine wpQL_nil (fun w3 hx3 => ?_)
           refine wpX_done (by kernel_rfl) ?_
           try go_frame
           have hx3' := hide hx3
           have hself3 := Ext.refl w3
           clear q0 q1 ca cb hself hx3 hself3
           go_wp2_with fail
           go_roundw
           case rel => exact ⟨d + 1,_,by omega,by go_num,rfl,by rw [rowR_next, ← unhide hcm']; unfold rowF; rw [unhide hua,unhide hub,if_pos (unhide hadj)]; exact (unhide hI4').ext (unhide hx3'),(unhide hs4').ext (unhide hx3'),(unhide ht4').ext (unhide hx3')⟩
           case measure => simp [intOf]; omega
          | false =>
           have hadj := hide (show ¬ adjR E cm x2 y = true by unfold adjR; rw [hq,unhide hp',decide_eq_false hp0]; simp)
           have hq' := hide hq
           clear hq
           go_wp2_with fail
           refine wp_region_ext (P := Tryz.prog) [0,1,2,3,4,5,6,7,8,9,10,11,12,13,14,15,16,17,18,19,20,21,22,23] [] 0 #[true,true,true,true,true,true,true,true,true,true,true,true,true,true,true,true,true,true,true,true,true,true,true,true] (by kernel_rfl) (by kernel_rfl) rfl (by rfl) ?_
           iterate 24
            refine ql_want (v := ?_) rfl (by rfl) (fun W hW => ?_) ?_
            rotate_left
            ·go_simp
             first | done | rfl | (go_at_call 138; refine (redge_any _ B E _ _ cB x2 y _ ((unhide hEr).ext (by assumption)) (unhide hnE)).mono ?_; rw [unhide hp']; rintro _ _ ⟨h1,h2⟩; refine ⟨_,h1, ?_,h2⟩; rfl) | (go_at_call 142; refine (in21_any Ac4 cm cc4 x2 y _ ((unhide hCr).ext (by assumption)) (unhide hcl)).mono ?_; rw [unhide hq']; rintro _ _ ⟨h1,h2⟩; refine ⟨_,h1, ?_,h2⟩; rfl)
            go_frame
           refine wpQL_nil (fun w3 hx3 => ?_)
           refine wpX_done (by kernel_rfl) ?_
           try go_frame
           have hx3' := hide hx3
           have hself3 := Ext.refl w3
           have ca3 := fun (W' : World) (hW : Ext w3 W') => ca W' (hx3.trans hW)
           have cb3 := fun (W' : World) (hW : Ext w3 W') => cb W' (hx3.trans hW)
           clear q0 q1 ca cb hself hx3
           go_wp2_with fail
           refine wp_region_still (P := Tryz.prog) [0,1,2,3,4,5,6,7,8,9] [11,12] 3 #[true,true,true,true,true,true,true,true,true,true,false,false,false] (by kernel_rfl) (by kernel_rfl) rfl (by rfl) ?_
           iterate 10
            refine ql_want (v := ?_) rfl (by rfl) (fun W hW => ?_) ?_
            rotate_left
            ·go_simp
             first | done | rfl
            go_frame
           refine wpQL_nil (fun w5 hx5 => ?_)
           have hI5 := hide ((unhide hI4').ext ((unhide hx3').trans hx5))
           have hs5 := hide ((unhide hs4').ext ((unhide hx3').trans hx5))
           have ht5 := hide ((unhide ht4').ext ((unhide hx3').trans hx5))
           have hx5' := hide hx5
           clear ca3 cb3 hself3 hx5
           refine lx_one (i := 10) (by kernel_rfl) rfl (by rfl) #[true,true,true,true,true,true,true,true,true,true,true,false,false] (by rfl) ?_
           go_simp
           refine ⟨(unhide hx5').alloc _, ?_⟩
           try go_frame
           refine lx_ap1 (i := 11) (enc := encP) (by kernel_rfl) rfl (by rfl) #[true,true,true,true,true,true,true,true,true,true,true,true,false] (by rfl) (fun _ _ h => h) rfl infoP21 Tryz.underlying160 one_encP (fun _ => rfl) (by decide) (by decide) rfl (v := .slice Ac4 cm.length cc4) (xs := cm) (y,x2) (by rfl) (by rfl) (Blk.new w5 185 #[.int .i64 y, .int .i64 x2]) (own_ext (unhide hI5).c (ext_self1 w5 _)) (by have := unhide hcl4; omega) (Nat.le_trans (unhide hI5).lb (Below.size (ext_self1 w5 _))) ?_
           intro A6 c6 w6 ho6 hg6 _
           obtain ⟨n6,hn6⟩ : ∃ n6,n6 = cm.length + 1 := ⟨_,rfl⟩
           rw [← hn6] at ho6 ⊢
           have ho6' := own_n ho6 (m := (cm ++ [(y,x2)]).length) (by rw [hn6,List.length_append]; rfl)
           obtain ⟨hI6,hk6,hS6⟩ := (unhide hI5).pushC (ext_self1 w5 _) hg6 ho6'
           have hs6 := hide ((unhide hs5).keepT (unhide ht5) hk6 hS6)
           have ht6 := hide ((unhide ht5).keep hk6 hS6)
           have hI6' := hide hI6
           clear ho6 hg6 hn6 ho6' hI6 hk6 hS6
           try go_frame
           refine lx_one (i := 12) (by kernel_rfl) rfl (by rfl) #[true,true,true,true,true,true,true,true,true,true,true,true,true] (by rfl) ?_
           go_simp
           refine wpX_done (by kernel_rfl) ?_
           try go_frame
           clear hI5 hs5 ht5 hx5'
           go_wp2_with fail
           go_roundw
           case rel => exact ⟨d + 1,_,by omega,by go_num,rfl,by rw [rowR_next, ← unhide hcm']; unfold rowF; rw [unhide hua,unhide hub,if_neg (unhide hadj)]; exact unhide hI6',unhide hs6,unhide ht6⟩
           case measure => simp [intOf]; omega
        ·have hde : d = a := by omega
         subst hde
         rw [← pairR_next] at hI4'
         go_wp2_with fail
         go_roundw
         case rel => exact ⟨d + 1,_,by omega,by go_num,rfl,unhide hI4',unhide hs4',unhide ht4'⟩
         case measure => simp [intOf]; omega
      ·have hae : a = near.length := by omega
       subst hae
       obtain ⟨nl,hnl2⟩ : ∃ nl,nl = near.length := ⟨_,rfl⟩
       rw [← hnl2] at ⊢
       have hnl2' := hide hnl2
       have hvl := hide (show vs.length ≤ 10000000 by have := (unhide hI3').n.1; simp [neasR] at this; omega)
       clear hnl2
       try dsimp only
       repeat ((fail_if_success (with_reducible refine wp_reg (id := 20) ?_)); (first | go_values | go_skip | go_step | go_guarded | go_upon | go_in | go_back | fail))
       with_reducible refine wp_reg (id := 20) ?_
       iterate 3
        refine wpO_want rfl ?_
        go_simp
       refine wpO_ap1 rfl infoR Tryz.underlying159 one_encW (fun _ => rfl) (by decide) (by decide) rfl (v := vo) (xs := vs) (An,nl,cn) rfl rfl (Blk.new wr 163 #[.slice An nl cn]) (own_ext (unhide hI3').o (ext_self1 wr _)) (unhide hvl) (Nat.le_trans (unhide hI3').lb (Below.size (ext_self1 wr _))) ?_
       intro A6 c6 w6 ho6 hg6 _
       obtain ⟨n6,hn6⟩ : ∃ n6,n6 = vs.length + 1 := ⟨_,rfl⟩
       rw [← hn6] at ho6 ⊢
       have ho6' := own_n ho6 (m := (vs ++ [((An,nl,cn) : Sl3)]).length) (by rw [hn6,List.length_append]; rfl)
       have hI6 := hide ((unhide hI3').pushO (ext_self1 wr _) hg6 rfl ho6' (unhide hnl2') (unhide hs3') (unhide ht3'))
       clear ho6 hg6 hn6 ho6'
       try go_frame
       refine wpO_want rfl ?_
       go_simp
       refine wpO_done ?_
       try go_frame
       have hnx : NrI w1.heap.size w1 w6 (neasR E L (k + 1)) (vs ++ [((An,nl,cn) : Sl3)]) (.slice A6 n6 c6) vc2 (comR E L (k + 1)) := by
        have h := unhide hI6
        have e1 : neasR E L (k + 1) = neasR E L k ++ [near] := by unfold neasR; rw [List.range_succ,List.map_append,unhide hnear2']; rfl
        have e2 : comR E L (k + 1) = pairR E near come near.length := by rw [unhide hnear2',unhide hce']; rfl
        rw [e1,e2]
        exact h
       have hnx' := hide hnx
       clear hnx
       go_wp2_with fail
       go_roundw
       case rel => exact ⟨k + 1,_,_,_,by omega,by go_num,rfl,rfl,unhide hnx'⟩
       case measure => simp [intOf]; omega
  ·have hke : k = L.length := by omega
   subst hke
   obtain ⟨A1,c1,rfl⟩ := own_slice (unhide hI').o
   obtain ⟨A2,c2,rfl⟩ := own_slice (unhide hI').c
   go_wp2_with fail
   go_ret2
   have h := unhide hI'
   exact ⟨A1,c1,A2,c2,vs,by rw [h.n.1]; rfl,own_at (enc := encW) h.o (fun _ => rfl),h.n,own_at (enc := encP) h.c (fun _ => rfl),(unhide hx1).trans h.x⟩
end Go.Proofs.YtoacpebmhbkmbaaGreatDoor
namespace Go.Proofs.YtoacpebmhbkmbaaGreatDoor
open Go Go.RowKit
attribute [local go_sem] qUpon lUpon
theorem atSls {w : World} {A : Option Addr} {vs : List Sl3} {xss : List (List Int)} (h : SlAt encW 1 w A vs) (hs : SlsAt w vs xss) {i : Nat} (hi : i < xss.length) : ∃ b off Ai ci,A = some ⟨b,off,none⟩ ∧ (∀ W,Ext w W → W.cell? ⟨b,off + i,none⟩ = some (.slice Ai xss[i].length ci)) ∧ SlAt encI 1 w Ai xss[i] := by
 obtain ⟨Ai,ci,h1,h2,_⟩ := hs.2 i hi
 have hiv : i < vs.length := by rw [hs.1]; exact hi
 obtain ⟨b,off,hA,hc⟩ := h.at_ hiv
 have hv : vs[i] = (Ai,xss[i].length,ci) := by rw [List.getElem?_eq_getElem hiv] at h1; exact Option.some.inj h1
 refine ⟨b,off,Ai,ci,hA,fun W hW => ?_,h2⟩
 have := hc 0 (.slice Ai xss[i].length ci) (by rw [hv]; rfl) W hW
 simpa using this
def widRK (xss : List (List Int)) (k : Nat) : Int := (xss.take k).foldl (fun m l => max m (l.length : Int)) (-1)
def widR (E : List ((Int × Int) × Thing)) (L : List Int) : Int := widRK (neasR E L L.length) L.length
theorem widRK_next (xss : List (List Int)) (k : Nat) (h : k < xss.length) : widRK xss (k + 1) = max (widRK xss k) (xss[k].length : Int) := by
 unfold widRK
 rw [List.take_succ_eq_append_getElem h,List.foldl_append]; rfl
set_option maxRecDepth 100000 in
set_option maxHeartbeats 4000000 in
theorem width21_any (A B : Option Addr) (V : List (Int × Thing)) (E : List ((Int × Int) × Thing)) (cA cB : Nat) (C : Option Addr) (L : List Int) (cL : Nat) (w : World) (hE : SlAt encE 4 w B E) (hnE : E.length ≤ 4096) (hL : SlAt encI 1 w C L) (hl : L.length ≤ 100) :
  Calls Tryz.prog 69 #[.agg #[.slice A V.length cA, .slice B E.length cB], .slice C L.length cL] w fun e w' => e = .returned (.int .i64 (widR E L)) ∧ Ext w w' := by
 have hE' := hide hE
 have hL' := hide hL
 clear hE hL
 go_enter Tryz.func69,Tryz.ntmps69
 go_wp2_with fail
 have hx1 := hide (ext_self1 w (.cells #[.slice A V.length cA, .slice B E.length cB] 41))
 generalize w.alloc (.cells #[.slice A V.length cA, .slice B E.length cB] 41) = w1 at *
 refine (near21_any A B V E cA cB C L cL w1 ((unhide hE').ext (unhide hx1)) hnE ((unhide hL').ext (unhide hx1)) hl).mono ?_
 rintro e w2 ⟨A1,c1,A2,c2,vs,rfl,hA1,hS1,hA2,hx2⟩
 have hA1' := hide hA1
 have hS1' := hide hS1
 have hA2' := hide hA2
 have hx2' := hide ((unhide hx1).trans hx2)
 have hnl : (neasR E L L.length).length = L.length := by simp [neasR]
 rw [hnl]
 have hnl' := hide hnl
 clear hA1 hS1 hA2 hx2 hnl
 go_wp2_with fail
 go_loopw [7,8] (fun wv iv wr => ∃ k : Nat,k ≤ L.length ∧ iv = .int .i64 k ∧ wv = .int .i64 (widRK (neasR E L L.length) k) ∧ Ext w2 wr) (fun _ iv _ => L.length - (intOf iv).toNat)
 case atStart => exact ⟨0,Nat.zero_le _,rfl,rfl,Ext.refl _⟩
 case round =>
  obtain ⟨k,hk,rfl,rfl,hx⟩ := hrel
  have hx' := hide hx
  clear hx
  by_cases hlt : k < L.length
  ·have hki : k < (neasR E L L.length).length := by rw [unhide hnl']; exact hlt
   obtain ⟨b,off,Ai,ci,rfl,c0,hzz⟩ := atSls ((unhide hA1').ext (unhide hx')) ((unhide hS1').ext (unhide hx')) hki
   have hst := hide (widRK_next (neasR E L L.length) k hki)
   generalize (neasR E L L.length)[k].length = m at c0 hst
   generalize widRK (neasR E L L.length) k = wk at *
   have hself := Ext.refl wr
   clear hzz hki
   go_wp2_with fail
   go_roundw
   case rel => exact ⟨k + 1,by omega,by go_num,by rw [unhide hst],unhide hx'⟩
   case measure => simp [intOf]; omega
  ·have hke : k = L.length := by omega
   subst hke
   go_wp2_with fail
   go_ret
   exact ⟨rfl,(unhide hx2').trans (unhide hx')⟩
end Go.Proofs.YtoacpebmhbkmbaaGreatDoor
namespace Go.Proofs.YtoacpebmhbkmbaaGreatDoor
open Go Go.RowKit
theorem withR_perm {L : List Int} {n : Int} (h : 0 ≤ n ∧ n < 1024) (hn : n ∉ L) : (withR L n).Perm (L ++ [n]) := by
  unfold withR
  rw [if_neg]
  · rw [insF_eq]; exact insP_perm _ _ _
  · rintro (h1 | h1 | h1)
    · omega
    · omega
    · rw [List.any_eq_true] at h1
      obtain ⟨x, hx, e⟩ := h1
      have : x = n := by simpa using e
      exact hn (this ▸ hx)
theorem withR_sorted {L : List Int} {n : Int} (hn : n ∉ L) (hs : L.Pairwise (· < ·)) : (withR L n).Pairwise (· < ·) := by
  unfold withR
  split
  · exact hs
  · rw [insF_eq]
    refine insP_sorted (lt := fun a b : Int => a < b) (fun a b c h1 h2 => Int.lt_trans h1 h2) (fun y hy => by simpa using hy) L (fun y hy => ?_) hs
    by_cases h : n < y
    · exact .inl (decide_eq_true h)
    · right
      have : y ≠ n := fun e => hn (e ▸ hy)
      omega
section
variable {V : List (Int × Thing)} {E : List ((Int × Int) × Thing)} {L : List Int}
theorem adj0_iff (hi : GInv V E) (u v : Int) : 0 ≤ posI (isE u v) E ↔ Adj0 E u v := by
  rw [posI_nonneg]
  constructor
  · rintro ⟨e, he, h⟩; exact ⟨e, he, (isE_iff (hi.lo e he)).1 h⟩
  · rintro ⟨e, he, h⟩; exact ⟨e, he, (isE_iff (hi.lo e he)).2 h⟩
def ComeIs (E : List ((Int × Int) × Thing)) (L : List Int) (i : Nat) (come : List (Int × Int)) : Prop := come.Nodup ∧ ∀ p, p ∈ come ↔ p.1 < p.2 ∧ Adj E L i p.1 p.2 ∧ ¬ Adj0 E p.1 p.2
theorem adjR_iff (hi : GInv V E) {i : Nat} {come : List (Int × Int)} (hc : ComeIs E L i come) (u v : Int) : adjR E come u v = true ↔ Adj E L i u v := by
  unfold adjR
  rw [Bool.or_eq_true, decide_eq_true_eq, adj0_iff hi, List.any_eq_true]
  constructor
  · rintro (h | ⟨p, hp, h⟩)
    · exact Adj.mono (k := 0) h (Nat.zero_le _)
    · have h2 := (hc.2 p).1 hp
      simp only [inP, Bool.or_eq_true, Bool.and_eq_true, beq_iff_eq] at h
      rcases h with ⟨h3, h4⟩ | ⟨h3, h4⟩
      · rw [h3, h4] at h2; exact h2.2.1
      · rw [h3, h4] at h2; exact h2.2.1.symm
  · intro h
    by_cases h0 : Adj0 E u v
    · exact .inl h0
    · right
      have hne := Adj.ne hi h
      rcases Int.lt_or_gt_of_ne hne with hlt | hlt
      · exact ⟨(u, v), (hc.2 _).2 ⟨hlt, h, h0⟩, by simp [inP]⟩
      · exact ⟨(v, u), (hc.2 _).2 ⟨hlt, h.symm, fun h1 => h0 (Adj.symm (L := L) (k := 0) h1)⟩, by simp [inP]⟩
theorem nearR_is (hi : GInv V E) (ho : Ord V L) {i : Nat} (hil : i < L.length) {come : List (Int × Int)} (hc : ComeIs E L i come) : ∀ k, i + 1 ≤ k → k ≤ L.length → (nearR E come L i k).Pairwise (· < ·) ∧ ∀ x, x ∈ nearR E come L i k ↔ x ∈ (L.take k).drop (i + 1) ∧ Adj E L i L[i] x := by
  have key : ∀ m, i + 1 + m ≤ L.length → (nearR E come L i (i + 1 + m)).Pairwise (· < ·) ∧ ∀ x, x ∈ nearR E come L i (i + 1 + m) ↔ x ∈ (L.take (i + 1 + m)).drop (i + 1) ∧ Adj E L i L[i] x := by
   intro m
   induction m with
   | zero =>
    intro _
    rw [Nat.add_zero, nearR_start]
    refine ⟨.nil, fun x => ?_⟩
    rw [List.drop_eq_nil_of_le (by rw [List.length_take]; omega)]
    simp
   | succ m ih =>
    intro hkl
    obtain ⟨h1, h2⟩ := ih (by omega)
    rw [show i + 1 + (m + 1) = (i + 1 + m) + 1 by omega]
    have hk : i + 1 ≤ i + 1 + m := by omega
    have hkL : i + 1 + m < L.length := by omega
    generalize i + 1 + m = k at *
    have hg : L[i]?.getD 0 = L[i] := by simp [hil]
    have ht : (L.take (k + 1)).drop (i + 1) = (L.take k).drop (i + 1) ++ [L[k]] := by
      rw [List.take_succ_eq_append_getElem hkL, List.drop_append_of_le_length (by rw [List.length_take]; omega)]
    have hnk : L[k] ∉ nearR E come L i k := fun hm => by
      have h3 := List.mem_of_mem_drop ((h2 _).1 hm).1
      obtain ⟨j, hj, e⟩ := List.getElem_of_mem h3
      rw [List.length_take] at hj
      rw [List.getElem_take] at e
      have := (List.getElem_inj ho.nodup).1 e
      omega
    rw [nearR_next E come L i k hkL (by omega), ht]
    unfold nearF21
    rw [hg]
    by_cases ha : adjR E come L[i] L[k] = true
    · rw [if_pos ha]
      have hr := ho.rng hi (List.getElem_mem hkL)
      refine ⟨withR_sorted hnk h1, fun x => ?_⟩
      rw [(withR_perm hr hnk).mem_iff, List.mem_append, List.mem_singleton, h2, List.mem_append, List.mem_singleton]
      have ha2 := (adjR_iff hi hc _ _).1 ha
      constructor
      · rintro (h | rfl)
        · exact ⟨.inl h.1, h.2⟩
        · exact ⟨.inr rfl, ha2⟩
      · rintro ⟨h | rfl, h3⟩
        · exact .inl ⟨h, h3⟩
        · exact .inr rfl
    · rw [if_neg ha]
      refine ⟨h1, fun x => ?_⟩
      rw [h2, List.mem_append, List.mem_singleton]
      constructor
      · rintro ⟨h3, h4⟩; exact ⟨.inl h3, h4⟩
      · rintro ⟨h3 | rfl, h4⟩
        · exact ⟨h3, h4⟩
        · exact absurd ((adjR_iff hi hc _ _).2 h4) ha
  intro k hk1 hk2
  have := key (k - (i + 1)) (by omega)
  rwa [show i + 1 + (k - (i + 1)) = k by omega] at this
theorem sorted_eq {l m : List Int} (h1 : l.Pairwise (· < ·)) (h2 : m.Pairwise (· < ·)) (h : ∀ x, x ∈ l ↔ x ∈ m) : l = m := by
  have n1 : l.Nodup := h1.imp fun {_ _} h => by omega
  have n2 : m.Nodup := h2.imp fun {_ _} h => by omega
  refine sorted_unique (lt := fun a b : Int => decide (a < b)) m l ((List.perm_ext_iff_of_nodup n1 n2).2 h) (h2.imp fun {_ _} h => decide_eq_true h) (h1.imp fun {_ _} h => decide_eq_false (by omega))
theorem nearR_eq (hi : GInv V E) (ho : Ord V L) {i : Nat} (hil : i < L.length) {come : List (Int × Int)} (hc : ComeIs E L i come) : nearR E come L i L.length = toL (sAt E L i) := by
  obtain ⟨h1, h2⟩ := nearR_is hi ho hil hc L.length hil (Nat.le_refl _)
  refine sorted_eq h1 (toL_sorted _) fun x => ?_
  rw [h2, mem_sAt hi ho hil, List.take_length]
theorem rowF_mem (hi : GInv V E) {near : List Int} (hs : near.Pairwise (· < ·)) {a b : Nat} (ha : a < near.length) (hb : b < a) {come : List (Int × Int)} (hlt : ∀ p ∈ come, p.1 < p.2) (hn : come.Nodup) :
    (rowF E near a come b).Nodup ∧ ∀ p, p ∈ rowF E near a come b ↔ p ∈ come ∨ (p = (near[b]?.getD 0, near[a]?.getD 0) ∧ ¬ Adj0 E p.1 p.2) := by
  have hba : near[b]?.getD 0 < near[a]?.getD 0 := by
    rw [show near[b]?.getD 0 = near[b]'(by omega) by simp [show b < near.length by omega], show near[a]?.getD 0 = near[a] by simp [ha]]
    exact List.pairwise_iff_getElem.1 hs b a (by omega) ha hb
  unfold rowF
  generalize near[b]?.getD 0 = y at *
  generalize near[a]?.getD 0 = x at *
  have key : adjR E come x y = true ↔ Adj0 E x y ∨ (y, x) ∈ come := by
    unfold adjR
    rw [Bool.or_eq_true, decide_eq_true_eq, adj0_iff hi, List.any_eq_true]
    refine or_congr Iff.rfl ⟨?_, fun h => ⟨(y, x), h, by simp [inP]⟩⟩
    rintro ⟨p, hp, h⟩
    simp only [inP, Bool.or_eq_true, Bool.and_eq_true, beq_iff_eq] at h
    have h3 := hlt p hp
    obtain ⟨p1, p2⟩ := p
    simp only at h h3
    rcases h with ⟨rfl, rfl⟩ | ⟨rfl, rfl⟩
    · omega
    · exact hp
  have hsym : Adj0 E x y ↔ Adj0 E y x := ⟨fun h => Adj.symm (L := []) (k := 0) h, fun h => Adj.symm (L := []) (k := 0) h⟩
  by_cases hA : adjR E come x y = true
  · rw [if_pos (by simpa using hA)]
    refine ⟨hn, fun p => ⟨.inl, ?_⟩⟩
    rintro (h | ⟨rfl, h⟩)
    · exact h
    · rcases key.1 hA with h1 | h1
      · exact absurd (hsym.1 h1) h
      · exact h1
  · rw [if_neg (by simpa using hA)]
    have hA0 : ¬ Adj0 E y x := fun h => hA (key.2 (.inl (hsym.2 h)))
    have hAc : (y, x) ∉ come := fun h => hA (key.2 (.inr h))
    refine ⟨?_, fun p => ?_⟩
    · rw [List.nodup_append]
      exact ⟨hn, by simp, fun p hp q hq e => by rw [List.mem_singleton] at hq; rw [e, hq] at hp; exact hAc hp⟩
    · rw [List.mem_append, List.mem_singleton]
      exact or_congr Iff.rfl ⟨fun h => ⟨h, by rw [h]; exact hA0⟩, fun h => h.1⟩
theorem rowR_mem (hi : GInv V E) {near : List Int} (hs : near.Pairwise (· < ·)) {a : Nat} (ha : a < near.length) {come : List (Int × Int)} (hlt : ∀ p ∈ come, p.1 < p.2) (hn : come.Nodup) : ∀ b, b ≤ a →
    (rowR E near a come b).Nodup ∧ (∀ p ∈ rowR E near a come b, p.1 < p.2) ∧ ∀ p, p ∈ rowR E near a come b ↔ p ∈ come ∨ ((∃ b', b' < b ∧ p = (near[b']?.getD 0, near[a]?.getD 0)) ∧ ¬ Adj0 E p.1 p.2)
  | 0, _ => by simp [rowR]; exact ⟨hn, fun a b h => hlt (a, b) h⟩
  | b + 1, hb => by
    obtain ⟨h1, h2, h3⟩ := rowR_mem hi hs ha hlt hn b (by omega)
    rw [rowR_next]
    obtain ⟨h4, h5⟩ := rowF_mem hi hs ha (show b < a by omega) h2 h1
    have hba : near[b]?.getD 0 < near[a]?.getD 0 := by
      rw [show near[b]?.getD 0 = near[b]'(by omega) by simp [show b < near.length by omega], show near[a]?.getD 0 = near[a] by simp [ha]]
      exact List.pairwise_iff_getElem.1 hs b a (by omega) ha (by omega)
    refine ⟨h4, fun p hp => ?_, fun p => ?_⟩
    · rcases (h5 p).1 hp with h | ⟨rfl, _⟩
      · exact h2 p h
      · exact hba
    · rw [h5, h3]
      constructor
      · rintro ((h | ⟨⟨b', hb', e⟩, h⟩) | ⟨e, h⟩)
        · exact .inl h
        · exact .inr ⟨⟨b', by omega, e⟩, h⟩
        · exact .inr ⟨⟨b, by omega, e⟩, h⟩
      · rintro (h | ⟨⟨b', hb', e⟩, h⟩)
        · exact .inl (.inl h)
        · by_cases hbb : b' = b
          · subst hbb; exact .inr ⟨e, h⟩
          · exact .inl (.inr ⟨⟨b', by omega, e⟩, h⟩)
theorem pairR_mem (hi : GInv V E) {near : List Int} (hs : near.Pairwise (· < ·)) {come : List (Int × Int)} (hlt : ∀ p ∈ come, p.1 < p.2) (hn : come.Nodup) : ∀ a, a ≤ near.length →
    (pairR E near come a).Nodup ∧ (∀ p ∈ pairR E near come a, p.1 < p.2) ∧ ∀ p, p ∈ pairR E near come a ↔ p ∈ come ∨ ((∃ a' b', a' < a ∧ b' < a' ∧ p = (near[b']?.getD 0, near[a']?.getD 0)) ∧ ¬ Adj0 E p.1 p.2)
  | 0, _ => by simp [pairR]; exact ⟨hn, fun a b h => hlt (a, b) h⟩
  | a + 1, ha => by
    obtain ⟨h1, h2, h3⟩ := pairR_mem hi hs hlt hn a (by omega)
    rw [pairR_next]
    obtain ⟨h4, h5, h6⟩ := rowR_mem hi hs (show a < near.length by omega) h2 h1 a (Nat.le_refl _)
    refine ⟨h4, h5, fun p => ?_⟩
    rw [h6, h3]
    constructor
    · rintro ((h | ⟨⟨a', b', h7, h8, e⟩, h⟩) | ⟨⟨b', hb', e⟩, h⟩)
      · exact .inl h
      · exact .inr ⟨⟨a', b', by omega, h8, e⟩, h⟩
      · exact .inr ⟨⟨a, b', by omega, hb', e⟩, h⟩
    · rintro (h | ⟨⟨a', b', h7, h8, e⟩, h⟩)
      · exact .inl (.inl h)
      · by_cases haa : a' = a
        · subst haa; exact .inr ⟨⟨b', h8, e⟩, h⟩
        · exact .inl (.inr ⟨⟨a', b', by omega, h8, e⟩, h⟩)
theorem pair_places {near : List Int} (hs : near.Pairwise (· < ·)) (p : Int × Int) : (∃ a' b', a' < near.length ∧ b' < a' ∧ p = (near[b']?.getD 0, near[a']?.getD 0)) ↔ p.1 < p.2 ∧ p.1 ∈ near ∧ p.2 ∈ near := by
  constructor
  · rintro ⟨a, b, ha, hb, rfl⟩
    have hbl : b < near.length := by omega
    rw [show near[b]?.getD 0 = near[b] by simp [hbl], show near[a]?.getD 0 = near[a] by simp [ha]]
    exact ⟨List.pairwise_iff_getElem.1 hs b a hbl ha hb, List.getElem_mem _, List.getElem_mem _⟩
  · obtain ⟨u, v⟩ := p
    rintro ⟨h1, h2, h3⟩
    simp only at h1 h2 h3
    obtain ⟨b, hb, rfl⟩ := List.getElem_of_mem h2
    obtain ⟨a, ha, rfl⟩ := List.getElem_of_mem h3
    refine ⟨a, b, ha, ?_, by simp [ha, hb]⟩
    rcases Nat.lt_or_ge b a with h | h
    · exact h
    · rcases Nat.lt_or_ge a b with h4 | h4
      · have := List.pairwise_iff_getElem.1 hs a b ha hb h4
        omega
      · have : a = b := by omega
        subst this
        omega
theorem comR_is (hi : GInv V E) (ho : Ord V L) : ∀ i, i ≤ L.length → ComeIs E L i (comR E L i)
  | 0, _ => by
    refine ⟨.nil, fun p => ?_⟩
    simp only [comR, List.not_mem_nil, false_iff]
    rintro ⟨_, h1, h2⟩
    exact h2 h1
  | i + 1, hil => by
    have ih := comR_is hi ho i (by omega)
    have hi2 : i < L.length := by omega
    have hne := nearR_eq hi ho hi2 ih
    have hs := toL_sorted (sAt E L i)
    obtain ⟨h1, h2, h3⟩ := pairR_mem hi hs (fun p hp => ((ih.2 p).1 hp).1) ih.1 _ (Nat.le_refl (toL (sAt E L i)).length)
    have he : comR E L (i + 1) = pairR E (toL (sAt E L i)) (comR E L i) (toL (sAt E L i)).length := by
      show pairR E (nearR E (comR E L i) L i L.length) (comR E L i) (nearR E (comR E L i) L i L.length).length = _
      rw [hne]
    rw [he]
    refine ⟨h1, fun p => ?_⟩
    have hg : Adj E L (i + 1) p.1 p.2 ↔ Adj E L i p.1 p.2 ∨ (p.1 ≠ p.2 ∧ p.1 ∈ L.drop (i + 1) ∧ p.2 ∈ L.drop (i + 1) ∧ Adj E L i L[i] p.1 ∧ Adj E L i L[i] p.2) := by
      show (_ ∨ _) ↔ _
      rw [show L[i]?.getD 0 = L[i] by simp [hi2]]
    rw [h3, pair_places hs, ih.2, hg, mem_sAt hi ho hi2, mem_sAt hi ho hi2]
    constructor
    · rintro (⟨h4, h5, h6⟩ | ⟨⟨h4, h5, h6⟩, h7⟩)
      · exact ⟨h4, .inl h5, h6⟩
      · exact ⟨h4, .inr ⟨by omega, h5.1, h6.1, h5.2, h6.2⟩, h7⟩
    · rintro ⟨h4, h5 | ⟨_, h5, h6, h7, h8⟩, h9⟩
      · exact .inl ⟨h4, h5, h9⟩
      · exact .inr ⟨⟨h4, ⟨h5, h7⟩, h6, h8⟩, h9⟩
theorem neaR_eq (hi : GInv V E) (ho : Ord V L) {i : Nat} (hil : i < L.length) : neaR E L i = toL (sAt E L i) := nearR_eq hi ho hil (comR_is hi ho i (by omega))
theorem toK_len (N k : Nat) : (toK N k).length = cntF N k := by
  induction k with
  | zero => rfl
  | succ k ih =>
    rw [toK_next]
    show _ = cntF N k + (N.testBit k).toNat
    cases hb : N.testBit k
    · simp [ih]
    · simp [ih]
theorem toL_len (N : Nat) : (toL N).length = cntF N 1024 := toK_len N 1024
theorem wid_eq (hi : GInv V E) (ho : Ord V L) : widR E L = widK E L L.length := by
  unfold widR widRK widK neasR
  rw [List.take_of_length_le (by simp), List.foldl_map]
  have : ∀ (l : List Nat) (m : Int), (∀ i ∈ l, i < L.length) → l.foldl (fun m i => max m ((neaR E L i).length : Int)) m = l.foldl (fun m i => max m (cntF (sAt E L i) 1024 : Int)) m := by
    intro l
    induction l with
    | nil => intro m _; rfl
    | cons a r ih =>
      intro m h
      rw [List.foldl_cons, List.foldl_cons, neaR_eq hi ho (h a (by simp)), toL_len]
      exact ih _ (fun i hi => h i (by simp [hi]))
  exact this _ _ (fun i hi => List.mem_range.1 hi)
end
end Go.Proofs.YtoacpebmhbkmbaaGreatDoor
namespace Go.Proofs.YtoacpebmhbkmbaaGreatDoor
open Go Go.RowKit Go.Shelf
attribute [local go_sem] qUpon lUpon
attribute [local irreducible] wpO wpX wpQL
set_option maxRecDepth 100000 in
set_option maxHeartbeats 16000000 in
theorem upper22_any (A B : Option Addr) (V : List (Int × Thing)) (E : List ((Int × Int) × Thing)) (cA cB : Nat) (w : World) (hV : SlAt encV 3 w A V) (hE : SlAt encE 4 w B E) (hi : GInv V E) (hl : V.length ≤ 100) :
  Calls Tryz.prog 25 #[.agg #[.slice A V.length cA, .slice B E.length cB]] w (DgPost w (ubS E (nr0 E) (toL (vS V))).1 (ubS E (nr0 E) (toL (vS V))).2) := by
 have hld := hide (fun W (hW : Ext w W) => leastDegree22_any A B V E cA cB W (hV.ext hW) (hE.ext hW) hi hl)
 have hlf := hide (fun W (hW : Ext w W) => leastFill22_any A B V E cA cB W (hV.ext hW) (hE.ext hW) hi hl)
 have hub : ubS E (nr0 E) (toL (vS V)) = if widK E (ordS filP (toL (vS V)).length (nr0 E) (toL (vS V))) (ordS filP (toL (vS V)).length (nr0 E) (toL (vS V))).length < widK E (ordS degP (toL (vS V)).length (nr0 E) (toL (vS V))) (ordS degP (toL (vS V)).length (nr0 E) (toL (vS V))).length then (widK E (ordS filP (toL (vS V)).length (nr0 E) (toL (vS V))) (ordS filP (toL (vS V)).length (nr0 E) (toL (vS V))).length,ordS filP (toL (vS V)).length (nr0 E) (toL (vS V))) else (widK E (ordS degP (toL (vS V)).length (nr0 E) (toL (vS V))) (ordS degP (toL (vS V)).length (nr0 E) (toL (vS V))).length,ordS degP (toL (vS V)).length (nr0 E) (toL (vS V))) := rfl
 have hpa := ordS_perm (key := degP) (toL (vS V)).length (nr0 E) (toL (vS V)) (Nat.le_refl _)
 have hpb := ordS_perm (key := filP) (toL (vS V)).length (nr0 E) (toL (vS V)) (Nat.le_refl _)
 have hV0 := toL_vS hi
 generalize ordS degP (toL (vS V)).length (nr0 E) (toL (vS V)) = a at hld hub hpa
 generalize ordS filP (toL (vS V)).length (nr0 E) (toL (vS V)) = b at hlf hub hpb
 have hal : a.length = V.length := by rw [hpa.length_eq,hV0,List.length_map]
 have hbl : b.length = V.length := by rw [hpb.length_eq,hV0,List.length_map]
 have hwa := fun (W : World) (hW : Ext w W) (C : Option Addr) (c : Nat) (hC : SlAt encI 1 W C a) => width21_any A B V E cA cB C a c W (hE.ext hW) (Nat.le_trans hi.ne (by decide)) hC (by rw [hal]; exact hl)
 have hwb := fun (W : World) (hW : Ext w W) (C : Option Addr) (c : Nat) (hC : SlAt encI 1 W C b) => width21_any A B V E cA cB C b c W (hE.ext hW) (Nat.le_trans hi.ne (by decide)) hC (by rw [hbl]; exact hl)
 have hea := wid_eq hi (perm_ord hV0 hpa)
 have heb := wid_eq hi (perm_ord hV0 hpb)
 rw [hub]
 rw [← hea, ← heb]
 generalize widR E a = x at hwa ⊢
 generalize widR E b = y at hwb ⊢
 obtain ⟨R,hR⟩ : ∃ R : Int × List Int,R = if y < x then (y,b) else (x,a) := ⟨_,rfl⟩
 rw [← hR]
 have hR' := hide hR
 clear hR
 obtain ⟨nV,hnV⟩ : ∃ nV,nV = V.length := ⟨_,rfl⟩
 obtain ⟨nE,hnE⟩ : ∃ nE,nE = E.length := ⟨_,rfl⟩
 obtain ⟨na,hna⟩ : ∃ n,n = a.length := ⟨_,rfl⟩
 obtain ⟨nb,hnb⟩ : ∃ n,n = b.length := ⟨_,rfl⟩
 rw [← hnV, ← hnE] at hld hlf ⊢
 simp only [← hnV, ← hnE, ← hna] at hwa
 simp only [← hnV, ← hnE, ← hnb] at hwb
 have hna' := hide hna
 have hnb' := hide hnb
 have hwa' := hide hwa
 have hwb' := hide hwb
 clear hV hE hi hl hub hpa hpb hV0 hal hbl hwa hwb hea heb hnV hnE hna hnb
 have hP := hide (Sp.new w)
 refine callsIn_wide.1 (callsIn_of_wp_marks (n := 0) Tryz.func25 rfl trivial (wpIn_wide.2 ?_))
 simp only [Tryz.ntmps25,List.size_toArray,List.length_cons,List.length_nil,Nat.reduceAdd,Nat.reduceSub,Array.replicate_succ,Array.replicate_zero,List.push_toArray,List.append_toArray,List.nil_append,List.cons_append]
 try dsimp only
 repeat ((fail_if_success (with_reducible refine wp_reg (id := 0) ?_)); (first | go_values | go_skip | go_step | go_guarded | go_upon | go_in | go_back | fail))
 with_reducible refine wp_reg (id := 0) ?_
 refine (unhide hP).allocO 41 #[.slice A nV cA, .slice B nE cB] rfl (run_box (v := .agg #[.slice A nV cA, .slice B nE cB]) rfl rfl) ?_
 intro r1 y1 hQ
 replace hP : Hid (Sp w [] w [] [(r1,41, #[.slice A nV cA, .slice B nE cB])] [] y1) := hide hQ
 clear hQ
 iterate 2
  refine wpO_want rfl ?_
  go_simp
 refine wpO_done ?_
 try go_frame
 go_wp2_with fail
 have hself := Keep.refl [] y1
 refine wp_regionK (P := Tryz.prog) [] [0,2] [] 4 #[true,false,true,false,false,false] (by kernel_rfl) (by kernel_rfl) rfl (by rfl) ?_
 refine ql_want (v := .agg #[.slice A nV cA, .slice B nE cB]) rfl (by rfl) (fun W hW => qUpon_ofX (run_load_agg (cs := #[.slice A nV cA, .slice B nE cB]) rfl rfl (by simp [go_sem]) (by simp [go_sem]) ((unhide hP).wholeK 0 rfl hW (by simp)))) ?_
 go_frame
 refine ql_want (v := .agg #[.slice A nV cA, .slice B nE cB]) rfl (by rfl) (fun W hW => qUpon_ofX (run_load_agg (cs := #[.slice A nV cA, .slice B nE cB]) rfl rfl (by simp [go_sem]) (by simp [go_sem]) ((unhide hP).wholeK 0 rfl hW (by simp)))) ?_
 go_frame
 refine wpQL_nil (fun y2 hxq => ?_)
 have hK := hide (hxq.keep [])
 replace hP : Hid (Sp w [] w [] [(r1,41, #[.slice A nV cA, .slice B nE cB])] [] y2) := hide ((unhide hP).ext hxq)
 clear hxq
 clear hself
 refine lx_one (i := 1) (by kernel_rfl) rfl (by rfl) #[true,true,true,false,false,false] (by rfl) ?_
 go_simp
 refine (unhide hld y2 (unhide hP).extf).mono ?_
 rintro _ zy3 ⟨A2,c2,rfl,ho,hxc⟩
 rw [← unhide hna'] at ho
 rw [← unhide hna']
 refine ⟨_,rfl,(unhide hK).trans (hxc.keep _),fun y3 hxd => ?_⟩
 replace hP : Hid (Sp w [] w [] [(r1,41, #[.slice A nV cA, .slice B nE cB])] [(3,1, .slice A2 na c2,na,a.flatMap encI)] y3) := hide (((unhide hP).addRow hxc ho).ext hxd)
 replace hK := hide ((unhide hK).trans ((hxc.trans hxd).keep _))
 clear ho
 clear hxc hxd
 try go_frame
 refine lx_one (i := 3) (by kernel_rfl) rfl (by rfl) #[true,true,true,true,false,false] (by rfl) ?_
 go_simp
 refine (unhide hlf y3 (unhide hP).extf).mono ?_
 rintro _ zy4 ⟨A3,c3,rfl,ho,hxc⟩
 rw [← unhide hnb'] at ho
 rw [← unhide hnb']
 refine ⟨_,rfl,(unhide hK).trans (hxc.keep _),fun y4 hxd => ?_⟩
 replace hP : Hid (Sp w [] w [] [(r1,41, #[.slice A nV cA, .slice B nE cB])] [(3,1, .slice A2 na c2,na,a.flatMap encI),(3,1, .slice A3 nb c3,nb,b.flatMap encI)] y4) := hide (((unhide hP).addRow hxc ho).ext hxd)
 replace hK := hide ((unhide hK).trans ((hxc.trans hxd).keep _))
 clear ho
 clear hxc hxd
 try go_frame
 refine lx_rekeep (unhide hK) [4,5] [] 0 2 #[true,true,true,true,false,false] #[true,true,true,true,true,true] (by kernel_rfl) rfl (by rfl) ?_
 clear hK
 iterate 2
  refine ql_want (v := ?_) rfl (by rfl) (fun W hW => ?_) ?_
  rotate_left
  ·go_simp
   first | done | rfl
  go_frame
 refine wpQL_nil (fun y5 hxq => ?_)
 replace hP : Hid (Sp w [] w [] [(r1,41, #[.slice A nV cA, .slice B nE cB])] [(3,1, .slice A2 na c2,na,a.flatMap encI),(3,1, .slice A3 nb c3,nb,b.flatMap encI)] y5) := hide ((unhide hP).ext hxq)
 clear hxq
 refine wpX_done (by kernel_rfl) ?_
 try go_frame
 go_wp2_with fail
 have hsa := hide (show SlAt encI 1 y5 A2 a from own_at (enc := encI) (c := c2) (by have h := (unhide hP).row 0 rfl; rw [unhide hna'] at h; exact h) (fun _ => rfl))
 have hsb := hide (show SlAt encI 1 y5 A3 b from own_at (enc := encI) (c := c3) (by have h := (unhide hP).row 1 rfl; rw [unhide hnb'] at h; exact h) (fun _ => rfl))
 have hself := Keep.refl [] y5
 refine wp_regionK (P := Tryz.prog) [] [0,1,2,3,4,5,6,7] [] 0 #[true,true,true,true,true,true,true,true] (by kernel_rfl) (by kernel_rfl) rfl (by rfl) ?_
 refine ql_want (v := .agg #[.slice A nV cA, .slice B nE cB]) rfl (by rfl) (fun W hW => qUpon_ofX (run_load_agg (cs := #[.slice A nV cA, .slice B nE cB]) rfl rfl (by simp [go_sem]) (by simp [go_sem]) ((unhide hP).wholeK 0 rfl hW (by simp)))) ?_
 go_frame
 iterate 1
  refine ql_want (v := ?_) rfl (by rfl) (fun W hW => ?_) ?_
  rotate_left
  ·go_simp
   first | done | rfl
  go_frame
 refine ql_want (v := .int .i64 x) rfl (by rfl) (fun W hW => ?_) ?_
 ·go_simp
  refine ((unhide hwa') W ((unhide hP).extf.trans ((Ext.refl _).of_new hW (by simp))) A2 c2 ((unhide hsa).ext ((Ext.refl _).of_new hW (by simp)))).mono ?_
  rintro _ _ ⟨h1,h2⟩
  exact ⟨_,h1,rfl,h2⟩
 go_frame
 refine ql_want (v := .agg #[.slice A nV cA, .slice B nE cB]) rfl (by rfl) (fun W hW => qUpon_ofX (run_load_agg (cs := #[.slice A nV cA, .slice B nE cB]) rfl rfl (by simp [go_sem]) (by simp [go_sem]) ((unhide hP).wholeK 0 rfl hW (by simp)))) ?_
 go_frame
 iterate 1
  refine ql_want (v := ?_) rfl (by rfl) (fun W hW => ?_) ?_
  rotate_left
  ·go_simp
   first | done | rfl
  go_frame
 refine ql_want (v := .int .i64 y) rfl (by rfl) (fun W hW => ?_) ?_
 ·go_simp
  refine ((unhide hwb') W ((unhide hP).extf.trans ((Ext.refl _).of_new hW (by simp))) A3 c3 ((unhide hsb).ext ((Ext.refl _).of_new hW (by simp)))).mono ?_
  rintro _ _ ⟨h1,h2⟩
  exact ⟨_,h1,rfl,h2⟩
 go_frame
 iterate 2
  refine ql_want (v := ?_) rfl (by rfl) (fun W hW => ?_) ?_
  rotate_left
  ·go_simp
   first | done | rfl
  go_frame
 refine wpQL_nil (fun y6 hxq => ?_)
 replace hP : Hid (Sp w [] w [] [(r1,41, #[.slice A nV cA, .slice B nE cB])] [(3,1, .slice A2 na c2,na,a.flatMap encI),(3,1, .slice A3 nb c3,nb,b.flatMap encI)] y6) := hide ((unhide hP).ext hxq)
 clear hxq
 refine wpX_done (by kernel_rfl) ?_
 try go_frame
 clear hsa hsb hself hwa' hwb' hld hlf
 by_cases hyx : y < x
 ·skip
  obtain rfl : R = (y,b) := by rw [unhide hR',if_pos hyx]
  clear hR'
  try dsimp only
  repeat ((fail_if_success (with_reducible refine wp_reg (id := 3) ?_)); (first | go_values | go_skip | go_step | go_guarded | go_upon | go_in | go_back | fail))
  with_reducible refine wp_reg (id := 3) ?_
  iterate 3
   refine wpO_want rfl ?_
   go_simp
  refine wpO_done ?_
  try go_frame
  clear hyx
  try dsimp only
  repeat ((fail_if_success (with_reducible refine wp_reg (id := 4) ?_)); (first | go_values | go_skip | go_step | go_guarded | go_upon | go_in | go_back | fail))
  with_reducible refine wp_reg (id := 4) ?_
  iterate 4
   refine wpO_want rfl ?_
   go_simp
  refine wpO_done ?_
  try go_frame
  go_wp2_with fail
  refine Sp.leaves0 ?_
  exact ⟨_,results_tmp2 (t := 2) (u := 3) rfl _ _ _,DgPost.mk rfl (unhide hnb') ((unhide hP).row 1 rfl) (unhide hP).extf⟩
 ·skip
  obtain rfl : R = (x,a) := by rw [unhide hR',if_neg hyx]
  clear hR'
  try dsimp only
  repeat ((fail_if_success (with_reducible refine wp_reg (id := 3) ?_)); (first | go_values | go_skip | go_step | go_guarded | go_upon | go_in | go_back | fail))
  with_reducible refine wp_reg (id := 3) ?_
  iterate 3
   refine wpO_want rfl ?_
   go_simp
  refine wpO_done ?_
  try go_frame
  clear hyx
  try dsimp only
  repeat ((fail_if_success (with_reducible refine wp_reg (id := 5) ?_)); (first | go_values | go_skip | go_step | go_guarded | go_upon | go_in | go_back | fail))
  with_reducible refine wp_reg (id := 5) ?_
  iterate 4
   refine wpO_want rfl ?_
   go_simp
  refine wpO_done ?_
  try go_frame
  go_wp2_with fail
  refine Sp.leaves0 ?_
  exact ⟨_,results_tmp2 (t := 2) (u := 3) rfl _ _ _,DgPost.mk rfl (unhide hna') ((unhide hP).row 0 rfl) (unhide hP).extf⟩
end Go.Proofs.YtoacpebmhbkmbaaGreatDoor
namespace Go.Proofs.YtoacpebmhbkmbaaGreatDoor
open Go Go.RowKit Go.Shelf
attribute [local go_sem] qUpon lUpon
attribute [local irreducible] wpO wpX wpQL
set_option maxRecDepth 100000 in
set_option maxHeartbeats 16000000 in
theorem boundsOrders_walk (A : Option Addr) (L : List Ed) (cL : Nat) (w : World) (hL : SlAt encD 5 w A L) (hl : L.length ≤ 9223372036854775807) (hc : L.length ≤ cL) (hT : Tab w) :
  Calls Tryz.prog 6 #[.slice A L.length cL] w fun e w' => e = .returned (.bool true) ∧ Ext w w' := by
 have hL' := hide hL
 have hl' := hide hl
 have hc' := hide hc
 have hT' := hide hT
 have hi := hide (show GInv (bgS L).1 (bgS L).2 from mdS_inv (L.take 40))
 have hVl := hide (show (bgS L).1.length ≤ 100 from bgS_len L)
 clear hL hl hc hT
 have hP := hide (Sp.new w)
 refine callsIn_wide.1 (callsIn_of_wp_marks (n := 0) Tryz.func6 rfl trivial (wpIn_wide.2 ?_))
 simp only [Tryz.ntmps6,List.size_toArray,List.length_cons,List.length_nil,Nat.reduceAdd,Nat.reduceSub,Array.replicate_succ,Array.replicate_zero,List.push_toArray,List.append_toArray,List.nil_append,List.cons_append]
 try dsimp only
 repeat ((fail_if_success (with_reducible refine wp_reg (id := 1) ?_)); (first | go_values | go_skip | go_step | go_guarded | go_upon | go_in | go_back | fail))
 with_reducible refine wp_reg (id := 1) ?_
 refine wpO_want rfl ?_
 go_simp
 refine wpO_want rfl ?_
 go_simp
 have hca := begun22_any A L cL w ((unhide hL').ext (unhide hP).extf) (unhide hl') (unhide hc')
 generalize bgS L = S at *
 obtain ⟨V,E⟩ := S
 try dsimp only at hi hca ⊢
 refine hca.mono ?_
 clear hca
 rintro _ y1 ⟨g,bv,be,A1,B1,cA,cB,rfl,hg0,hs0,he0,hxc⟩
 refine ⟨_,rfl, ?_⟩
 replace hP : Hid (Sp w [] w [] [] [] y1) := hide ((unhide hP).ext hxc)
 have hg := hide hg0
 have hsV := hide hs0
 have hsE := hide he0
 obtain ⟨q,hq⟩ : ∃ q,q = decide ((L.length : Int) ≤ 40) := ⟨_,rfl⟩
 rw [← hq]
 have hnV := hide hg0.nV
 have hnE := hide hg0.nE
 clear hxc hg0 hs0 he0 hq
 generalize htu0 : Value.tuple _ = tu
 have htu := hide htu0
 clear htu0
 refine wpO_val rfl (run_move rfl rfl) ?_
 go_frame
 refine wpO_val rfl (run_extract (i := 0) (v := .pointer (some ⟨g,0,none⟩)) rfl (unhide htu).symm rfl) ?_
 go_frame
 refine wpO_val rfl (run_extract (i := 1) (v := .agg #[.slice A1 V.length cA, .slice B1 E.length cB]) rfl (unhide htu).symm rfl) ?_
 go_frame
 refine wpO_val rfl (run_extract (i := 2) (v := .bool q) rfl (unhide htu).symm rfl) ?_
 go_frame
 refine (unhide hP).allocT 41 #[.slice none 0 0, .slice none 0 0] rfl (by go_simp) ?_
 intro r6 y2 hQ hxa hga
 replace hP : Hid (Sp w [] w [] [(r6,41, #[.slice none 0 0, .slice none 0 0])] [] y2) := hide hQ
 clear hQ
 try go_frame
 refine wpO_want rfl ?_
 go_simp
 refine (unhide hP).setT 0 #[.slice A1 V.length cA, .slice B1 E.length cB] rfl rfl (fun hb => run_store_row (v := .agg #[.slice A1 V.length cA, .slice B1 E.length cB]) rfl (by rfl) (by rfl) (by simp [go_sem]) hb rfl (fun u hu => by simp [Value.cells] at hu; rcases hu with rfl | rfl <;> rfl)) ?_
 intro y3 hQ hkq
 replace hP : Hid (Sp w [] w [] [(r6,41, #[.slice A1 V.length cA, .slice B1 E.length cB])] [] y3) := hide hQ
 have hxs := hxa.of_new hkq (fun x hx => by rw [List.mem_singleton] at hx; rw [hx]; exact hga)
 clear hQ hkq hxa hga
 try go_frame
 replace hg := hide ((unhide hg).ext (hxs))
 replace hsV := hide ((unhide hsV).ext (hxs))
 replace hsE := hide ((unhide hsE).ext (hxs))
 clear hxs
 refine wpO_want rfl ?_
 go_simp
 refine wpO_done ?_
 try go_frame
 clear htu
 try dsimp only
 repeat ((fail_if_success (with_reducible refine wp_reg (id := 2) ?_)); (first | go_values | go_skip | go_step | go_guarded | go_upon | go_in | go_back | fail))
 with_reducible refine wp_reg (id := 2) ?_
 refine wpO_want rfl ?_
 go_simp
 have hca := known22_any y3 ((unhide hT').ext (unhide hP).extf)
 refine (hca).mono ?_
 rintro _ y4 ⟨rfl,hxc⟩
 clear hca
 refine ⟨_,rfl, ?_⟩
 replace hP : Hid (Sp w [] w [] [(r6,41, #[.slice A1 V.length cA, .slice B1 E.length cB])] [] y4) := hide ((unhide hP).ext hxc)
 replace hg := hide ((unhide hg).ext (hxc))
 replace hsV := hide ((unhide hsV).ext (hxc))
 replace hsE := hide ((unhide hsE).ext (hxc))
 clear hxc
 cases q
 ·skip
  iterate 5
   refine wpO_want rfl ?_
   go_simp
  refine wpO_done ?_
  try go_frame
  try dsimp only
  repeat ((fail_if_success (with_reducible refine wp_reg (id := 3) ?_)); (first | go_values | go_skip | go_step | go_guarded | go_upon | go_in | go_back | fail))
  with_reducible refine wp_reg (id := 3) ?_
  refine wpO_want rfl ?_
  go_simp
  have hca := known22_any y4 ((unhide hT').ext (unhide hP).extf)
  refine (hca).mono ?_
  rintro _ y5 ⟨rfl,hxc⟩
  clear hca
  refine ⟨_,rfl, ?_⟩
  replace hP : Hid (Sp w [] w [] [(r6,41, #[.slice A1 V.length cA, .slice B1 E.length cB])] [] y5) := hide ((unhide hP).ext hxc)
  replace hg := hide ((unhide hg).ext (hxc))
  replace hsV := hide ((unhide hsV).ext (hxc))
  replace hsE := hide ((unhide hsE).ext (hxc))
  clear hxc
  refine wpO_want rfl ?_
  go_simp
  refine wpO_done ?_
  try go_frame
  go_wp2_with fail
  refine Sp.leaves0 ?_
  exact ⟨_,results_tmp rfl _ _ _,rfl,(unhide hP).extf⟩
 ·skip
  iterate 5
   refine wpO_want rfl ?_
   go_simp
  refine wpO_done ?_
  try go_frame
  obtain ⟨z,hz⟩ : ∃ z,z = (ubS E (nr0 E) (toL (vS V))).1 := ⟨_,rfl⟩
  obtain ⟨O,hO⟩ : ∃ O,O = (ubS E (nr0 E) (toL (vS V))).2 := ⟨_,rfl⟩
  obtain ⟨O1,hO1⟩ : ∃ O,O = ordS degP (toL (vS V)).length (nr0 E) (toL (vS V)) := ⟨_,rfl⟩
  obtain ⟨O2,hO2⟩ : ∃ O,O = ordS filP (toL (vS V)).length (nr0 E) (toL (vS V)) := ⟨_,rfl⟩
  obtain ⟨nO,hnO⟩ : ∃ n,n = O.length := ⟨_,rfl⟩
  obtain ⟨n1,hn1⟩ : ∃ n,n = O1.length := ⟨_,rfl⟩
  obtain ⟨n2,hn2⟩ : ∃ n,n = O2.length := ⟨_,rfl⟩
  have hb1 := hide (show n1 ≤ 100000 by rw [hn1,hO1,(ordS_perm _ _ _ (Nat.le_refl _)).length_eq]; exact Nat.le_trans (toL_len_le _) (by decide))
  have hb2 := hide (show n2 ≤ 100000 by rw [hn2,hO2,(ordS_perm _ _ _ (Nat.le_refl _)).length_eq]; exact Nat.le_trans (toL_len_le _) (by decide))
  have hOb := hide (show nO ≤ 100000 by rw [hnO,hO,(ub_spec (unhide hi)).2.len (unhide hi)]; exact Nat.le_trans (unhide hi).nv (by decide))
  have hz' := hide hz
  have hO' := hide hO
  have hO1' := hide hO1
  have hO2' := hide hO2
  have hnO' := hide hnO
  have hn1' := hide hn1
  have hn2' := hide hn2
  clear hz hO hO1 hO2 hnO hn1 hn2
  try dsimp only
  repeat ((fail_if_success (with_reducible refine wp_reg (id := 4) ?_)); (first | go_values | go_skip | go_step | go_guarded | go_upon | go_in | go_back | fail))
  with_reducible refine wp_reg (id := 4) ?_
  refine wpO_want rfl ?_
  go_simp
  refine wpO_want rfl ?_
  go_simp
  have hca := upper_any (some ⟨g,0,none⟩) V E y4 (GL.of (unhide hg)) (unhide hi) ((unhide hT').ext (unhide hP).extf)
  rw [← unhide hz', ← unhide hO'] at hca
  refine hca.mono ?_
  clear hca
  rintro _ y5 ⟨Ao,co,rfl,ho,hxc⟩
  rw [← unhide hnO'] at ho
  rw [← unhide hnO']
  refine ⟨_,rfl, ?_⟩
  replace hP : Hid (Sp w [] w [] [(r6,41, #[.slice A1 V.length cA, .slice B1 E.length cB])] [(3,1, .slice Ao nO co,nO,O.flatMap encI)] y5) := hide ((unhide hP).addRow hxc ho)
  replace hg := hide ((unhide hg).ext (hxc))
  replace hsV := hide ((unhide hsV).ext (hxc))
  replace hsE := hide ((unhide hsE).ext (hxc))
  clear hxc ho
  generalize htu0 : Value.tuple _ = tu
  have htu := hide htu0
  clear htu0
  refine wpO_val rfl (run_move rfl rfl) ?_
  go_frame
  refine wpO_val rfl (run_extract (i := 0) (v := .int .i64 z) rfl (unhide htu).symm rfl) ?_
  go_frame
  refine wpO_val rfl (run_extract (i := 1) (v := .slice Ao nO co) rfl (unhide htu).symm rfl) ?_
  go_frame
  iterate 2
   refine wpO_want rfl ?_
   go_simp
  refine wpO_done ?_
  try go_frame
  clear htu
  try dsimp only
  repeat ((fail_if_success (with_reducible refine wp_reg (id := 5) ?_)); (first | go_values | go_skip | go_step | go_guarded | go_upon | go_in | go_back | fail))
  with_reducible refine wp_reg (id := 5) ?_
  refine wpO_val rfl (run_load_agg (cs := #[.slice A1 V.length cA, .slice B1 E.length cB]) rfl rfl (by simp [go_sem]) (by simp [go_sem]) ((unhide hP).get 0 rfl).whole) ?_
  go_frame
  refine wpO_want rfl ?_
  go_simp
  have hca := upper22_any A1 B1 V E cA cB y5 (unhide hsV) (unhide hsE) (unhide hi) (unhide hVl)
  rw [← unhide hz', ← unhide hO'] at hca
  refine hca.mono ?_
  clear hca
  rintro _ y6 ⟨Au,cu,rfl,ho,hxc⟩
  rw [← unhide hnO'] at ho
  rw [← unhide hnO']
  refine ⟨_,rfl, ?_⟩
  replace hP : Hid (Sp w [] w [] [(r6,41, #[.slice A1 V.length cA, .slice B1 E.length cB])] [(3,1, .slice Ao nO co,nO,O.flatMap encI),(3,1, .slice Au nO cu,nO,O.flatMap encI)] y6) := hide ((unhide hP).addRow hxc ho)
  replace hg := hide ((unhide hg).ext (hxc))
  replace hsV := hide ((unhide hsV).ext (hxc))
  replace hsE := hide ((unhide hsE).ext (hxc))
  clear hxc ho
  generalize htu0 : Value.tuple _ = tu
  have htu := hide htu0
  clear htu0
  refine wpO_val rfl (run_move rfl rfl) ?_
  go_frame
  refine wpO_val rfl (run_extract (i := 0) (v := .int .i64 z) rfl (unhide htu).symm rfl) ?_
  go_frame
  refine wpO_val rfl (run_extract (i := 1) (v := .slice Au nO cu) rfl (unhide htu).symm rfl) ?_
  go_frame
  iterate 2
   refine wpO_want rfl ?_
   go_simp
  refine wpO_done ?_
  try go_frame
  clear htu
  go_wp2_with fail
  have hself := Keep.refl [] y6
  have hbz : (z == z) = true := beq_self_eq_true z
  refine wp_regionK (P := Tryz.prog) [] [0,2] [] 21 #[true,false,true,false,false,false,false,false,false,false,false,false,false,false,false,false,false,false,false,false,false,false,false] (by kernel_rfl) (by kernel_rfl) rfl (by rfl) ?_
  iterate 1
   refine ql_want (v := ?_) rfl (by rfl) (fun W hW => ?_) ?_
   rotate_left
   ·go_simp
    first | done | rfl
   go_frame
  refine ql_want (v := .agg #[.slice A1 V.length cA, .slice B1 E.length cB]) rfl (by rfl) (fun W hW => qUpon_ofX (run_load_agg (cs := #[.slice A1 V.length cA, .slice B1 E.length cB]) rfl rfl (by simp [go_sem]) (by simp [go_sem]) ((unhide hP).wholeK 0 rfl hW (by simp)))) ?_
  go_frame
  refine wpQL_nil (fun y7 hxq => ?_)
  have hK := hide (hxq.keep [])
  replace hP : Hid (Sp w [] w [] [(r6,41, #[.slice A1 V.length cA, .slice B1 E.length cB])] [(3,1, .slice Ao nO co,nO,O.flatMap encI),(3,1, .slice Au nO cu,nO,O.flatMap encI)] y7) := hide ((unhide hP).ext hxq)
  replace hg := hide ((unhide hg).ext hxq)
  replace hsV := hide ((unhide hsV).ext hxq)
  replace hsE := hide ((unhide hsE).ext hxq)
  clear hxq
  clear hself
  refine lx_one (i := 1) (by kernel_rfl) rfl (by rfl) #[true,true,true,false,false,false,false,false,false,false,false,false,false,false,false,false,false,false,false,false,false,false,false] (by rfl) ?_
  have hca := minDegree_any (some ⟨g,0,none⟩) V E y7 (GL.of (unhide hg)) (unhide hi) ((unhide hT').ext (unhide hP).extf)
  rw [← unhide hO1'] at hca
  go_simp
  refine (hca).mono ?_
  rintro _ zy8 ⟨Ap,cp,rfl,ho,hxc⟩
  rw [← unhide hn1'] at ho
  rw [← unhide hn1']
  clear hca
  refine ⟨_,rfl,(unhide hK).trans (hxc.keep _),fun y8 hxd => ?_⟩
  replace hP : Hid (Sp w [] w [] [(r6,41, #[.slice A1 V.length cA, .slice B1 E.length cB])] [(3,1, .slice Ao nO co,nO,O.flatMap encI),(3,1, .slice Au nO cu,nO,O.flatMap encI),(3,1, .slice Ap n1 cp,n1,O1.flatMap encI)] y8) := hide (((unhide hP).addRow hxc ho).ext hxd)
  replace hK := hide ((unhide hK).trans ((hxc.trans hxd).keep _))
  replace hg := hide ((unhide hg).ext (hxc.trans hxd))
  replace hsV := hide ((unhide hsV).ext (hxc.trans hxd))
  replace hsE := hide ((unhide hsE).ext (hxc.trans hxd))
  clear ho
  clear hxc hxd
  try go_frame
  refine lx_one (i := 3) (by kernel_rfl) rfl (by rfl) #[true,true,true,true,false,false,false,false,false,false,false,false,false,false,false,false,false,false,false,false,false,false,false] (by rfl) ?_
  have hca := leastDegree22_any A1 B1 V E cA cB y8 (unhide hsV) (unhide hsE) (unhide hi) (unhide hVl)
  rw [← unhide hO1'] at hca
  go_simp
  refine (hca).mono ?_
  rintro _ zy9 ⟨Aq,cq,rfl,ho,hxc⟩
  rw [← unhide hn1'] at ho
  rw [← unhide hn1']
  clear hca
  refine ⟨_,rfl,(unhide hK).trans (hxc.keep _),fun y9 hxd => ?_⟩
  replace hP : Hid (Sp w [] w [] [(r6,41, #[.slice A1 V.length cA, .slice B1 E.length cB])] [(3,1, .slice Ao nO co,nO,O.flatMap encI),(3,1, .slice Au nO cu,nO,O.flatMap encI),(3,1, .slice Ap n1 cp,n1,O1.flatMap encI),(3,1, .slice Aq n1 cq,n1,O1.flatMap encI)] y9) := hide (((unhide hP).addRow hxc ho).ext hxd)
  replace hK := hide ((unhide hK).trans ((hxc.trans hxd).keep _))
  replace hg := hide ((unhide hg).ext (hxc.trans hxd))
  replace hsV := hide ((unhide hsV).ext (hxc.trans hxd))
  replace hsE := hide ((unhide hsE).ext (hxc.trans hxd))
  clear ho
  clear hxc hxd
  try go_frame
  refine lx_one (i := 4) (by kernel_rfl) rfl (by rfl) #[true,true,true,true,true,false,false,false,false,false,false,false,false,false,false,false,false,false,false,false,false,false,false] (by rfl) ?_
  have hca := same_ints Ap Aq O1 O1 n1 n1 cp cq y9 (own_at (enc := encI) (c := cp) (by have h := (unhide hP).row 2 rfl; rw [unhide hn1'] at h; exact h) (fun _ => rfl)) (own_at (enc := encI) (c := cq) (by have h := (unhide hP).row 3 rfl; rw [unhide hn1'] at h; exact h) (fun _ => rfl)) (unhide hn1') (unhide hn1') (unhide hb1) (unhide hb1)
  rw [decide_eq_true rfl] at hca
  go_simp
  refine (hca).mono ?_
  rintro _ zy10 ⟨rfl,hxc⟩
  clear hca
  refine ⟨_,rfl,(unhide hK).trans (hxc.keep _),fun y10 hxd => ?_⟩
  replace hP : Hid (Sp w [] w [] [(r6,41, #[.slice A1 V.length cA, .slice B1 E.length cB])] [(3,1, .slice Ao nO co,nO,O.flatMap encI),(3,1, .slice Au nO cu,nO,O.flatMap encI),(3,1, .slice Ap n1 cp,n1,O1.flatMap encI),(3,1, .slice Aq n1 cq,n1,O1.flatMap encI)] y10) := hide ((unhide hP).ext (hxc.trans hxd))
  replace hK := hide ((unhide hK).trans ((hxc.trans hxd).keep _))
  replace hg := hide ((unhide hg).ext (hxc.trans hxd))
  replace hsV := hide ((unhide hsV).ext (hxc.trans hxd))
  replace hsE := hide ((unhide hsE).ext (hxc.trans hxd))
  clear hxc hxd
  try go_frame
  refine lx_rekeep (unhide hK) [5,6,8] [] 15 18 #[true,true,true,true,true,false,false,false,false,false,false,false,false,false,false,false,false,false,false,false,false,false,false] #[true,true,true,true,true,true,true,false,true,false,false,false,false,false,false,false,false,false,false,false,false,false,false] (by kernel_rfl) rfl (by rfl) ?_
  clear hK
  iterate 2
   refine ql_want (v := ?_) rfl (by rfl) (fun W hW => ?_) ?_
   rotate_left
   ·go_simp
    first | done | rfl
   go_frame
  refine ql_want (v := .agg #[.slice A1 V.length cA, .slice B1 E.length cB]) rfl (by rfl) (fun W hW => qUpon_ofX (run_load_agg (cs := #[.slice A1 V.length cA, .slice B1 E.length cB]) rfl rfl (by simp [go_sem]) (by simp [go_sem]) ((unhide hP).wholeK 0 rfl hW (by simp)))) ?_
  go_frame
  refine wpQL_nil (fun y11 hxq => ?_)
  have hK := hide (hxq.keep [])
  replace hP : Hid (Sp w [] w [] [(r6,41, #[.slice A1 V.length cA, .slice B1 E.length cB])] [(3,1, .slice Ao nO co,nO,O.flatMap encI),(3,1, .slice Au nO cu,nO,O.flatMap encI),(3,1, .slice Ap n1 cp,n1,O1.flatMap encI),(3,1, .slice Aq n1 cq,n1,O1.flatMap encI)] y11) := hide ((unhide hP).ext hxq)
  replace hg := hide ((unhide hg).ext hxq)
  replace hsV := hide ((unhide hsV).ext hxq)
  replace hsE := hide ((unhide hsE).ext hxq)
  clear hxq
  refine lx_one (i := 7) (by kernel_rfl) rfl (by rfl) #[true,true,true,true,true,true,true,true,true,false,false,false,false,false,false,false,false,false,false,false,false,false,false] (by rfl) ?_
  have hca := minFill_any (some ⟨g,0,none⟩) V E y11 (GL.of (unhide hg)) (unhide hi) ((unhide hT').ext (unhide hP).extf)
  rw [← unhide hO2'] at hca
  go_simp
  refine (hca).mono ?_
  rintro _ zy12 ⟨As,cs,rfl,ho,hxc⟩
  rw [← unhide hn2'] at ho
  rw [← unhide hn2']
  clear hca
  refine ⟨_,rfl,(unhide hK).trans (hxc.keep _),fun y12 hxd => ?_⟩
  replace hP : Hid (Sp w [] w [] [(r6,41, #[.slice A1 V.length cA, .slice B1 E.length cB])] [(3,1, .slice Ao nO co,nO,O.flatMap encI),(3,1, .slice Au nO cu,nO,O.flatMap encI),(3,1, .slice Ap n1 cp,n1,O1.flatMap encI),(3,1, .slice Aq n1 cq,n1,O1.flatMap encI),(3,1, .slice As n2 cs,n2,O2.flatMap encI)] y12) := hide (((unhide hP).addRow hxc ho).ext hxd)
  replace hK := hide ((unhide hK).trans ((hxc.trans hxd).keep _))
  replace hg := hide ((unhide hg).ext (hxc.trans hxd))
  replace hsV := hide ((unhide hsV).ext (hxc.trans hxd))
  replace hsE := hide ((unhide hsE).ext (hxc.trans hxd))
  clear ho
  clear hxc hxd
  try go_frame
  refine lx_one (i := 9) (by kernel_rfl) rfl (by rfl) #[true,true,true,true,true,true,true,true,true,true,false,false,false,false,false,false,false,false,false,false,false,false,false] (by rfl) ?_
  have hca := leastFill22_any A1 B1 V E cA cB y12 (unhide hsV) (unhide hsE) (unhide hi) (unhide hVl)
  rw [← unhide hO2'] at hca
  go_simp
  refine (hca).mono ?_
  rintro _ zy13 ⟨At,ct,rfl,ho,hxc⟩
  rw [← unhide hn2'] at ho
  rw [← unhide hn2']
  clear hca
  refine ⟨_,rfl,(unhide hK).trans (hxc.keep _),fun y13 hxd => ?_⟩
  replace hP : Hid (Sp w [] w [] [(r6,41, #[.slice A1 V.length cA, .slice B1 E.length cB])] [(3,1, .slice Ao nO co,nO,O.flatMap encI),(3,1, .slice Au nO cu,nO,O.flatMap encI),(3,1, .slice Ap n1 cp,n1,O1.flatMap encI),(3,1, .slice Aq n1 cq,n1,O1.flatMap encI),(3,1, .slice As n2 cs,n2,O2.flatMap encI),(3,1, .slice At n2 ct,n2,O2.flatMap encI)] y13) := hide (((unhide hP).addRow hxc ho).ext hxd)
  replace hK := hide ((unhide hK).trans ((hxc.trans hxd).keep _))
  replace hg := hide ((unhide hg).ext (hxc.trans hxd))
  replace hsV := hide ((unhide hsV).ext (hxc.trans hxd))
  replace hsE := hide ((unhide hsE).ext (hxc.trans hxd))
  clear ho
  clear hxc hxd
  try go_frame
  refine lx_one (i := 10) (by kernel_rfl) rfl (by rfl) #[true,true,true,true,true,true,true,true,true,true,true,false,false,false,false,false,false,false,false,false,false,false,false] (by rfl) ?_
  have hca := same_ints As At O2 O2 n2 n2 cs ct y13 (own_at (enc := encI) (c := cs) (by have h := (unhide hP).row 4 rfl; rw [unhide hn2'] at h; exact h) (fun _ => rfl)) (own_at (enc := encI) (c := ct) (by have h := (unhide hP).row 5 rfl; rw [unhide hn2'] at h; exact h) (fun _ => rfl)) (unhide hn2') (unhide hn2') (unhide hb2) (unhide hb2)
  rw [decide_eq_true rfl] at hca
  go_simp
  refine (hca).mono ?_
  rintro _ zy14 ⟨rfl,hxc⟩
  clear hca
  refine ⟨_,rfl,(unhide hK).trans (hxc.keep _),fun y14 hxd => ?_⟩
  replace hP : Hid (Sp w [] w [] [(r6,41, #[.slice A1 V.length cA, .slice B1 E.length cB])] [(3,1, .slice Ao nO co,nO,O.flatMap encI),(3,1, .slice Au nO cu,nO,O.flatMap encI),(3,1, .slice Ap n1 cp,n1,O1.flatMap encI),(3,1, .slice Aq n1 cq,n1,O1.flatMap encI),(3,1, .slice As n2 cs,n2,O2.flatMap encI),(3,1, .slice At n2 ct,n2,O2.flatMap encI)] y14) := hide ((unhide hP).ext (hxc.trans hxd))
  replace hK := hide ((unhide hK).trans ((hxc.trans hxd).keep _))
  replace hg := hide ((unhide hg).ext (hxc.trans hxd))
  replace hsV := hide ((unhide hsV).ext (hxc.trans hxd))
  replace hsE := hide ((unhide hsE).ext (hxc.trans hxd))
  clear hxc hxd
  try go_frame
  refine lx_rekeep (unhide hK) [11,12,13,14,15,16,17,18,19] [] 3 12 #[true,true,true,true,true,true,true,true,true,true,true,false,false,false,false,false,false,false,false,false,false,false,false] #[true,true,true,true,true,true,true,true,true,true,true,true,true,true,true,true,true,true,true,true,false,false,false] (by kernel_rfl) rfl (by rfl) ?_
  clear hK
  iterate 9
   refine ql_want (v := ?_) rfl (by rfl) (fun W hW => ?_) ?_
   rotate_left
   ·go_simp
    first | done | rfl
   go_frame
  refine wpQL_nil (fun y15 hxq => ?_)
  have hK := hide (hxq.keep [])
  replace hP : Hid (Sp w [] w [] [(r6,41, #[.slice A1 V.length cA, .slice B1 E.length cB])] [(3,1, .slice Ao nO co,nO,O.flatMap encI),(3,1, .slice Au nO cu,nO,O.flatMap encI),(3,1, .slice Ap n1 cp,n1,O1.flatMap encI),(3,1, .slice Aq n1 cq,n1,O1.flatMap encI),(3,1, .slice As n2 cs,n2,O2.flatMap encI),(3,1, .slice At n2 ct,n2,O2.flatMap encI)] y15) := hide ((unhide hP).ext hxq)
  clear hxq
  refine lx_one (i := 20) (by kernel_rfl) rfl (by rfl) #[true,true,true,true,true,true,true,true,true,true,true,true,true,true,true,true,true,true,true,true,true,false,false] (by rfl) ?_
  have hca := same_ints Ao Au O O nO nO co cu y15 (own_at (enc := encI) (c := co) (by have h := (unhide hP).row 0 rfl; rw [unhide hnO'] at h; exact h) (fun _ => rfl)) (own_at (enc := encI) (c := cu) (by have h := (unhide hP).row 1 rfl; rw [unhide hnO'] at h; exact h) (fun _ => rfl)) (unhide hnO') (unhide hnO') (unhide hOb) (unhide hOb)
  rw [decide_eq_true rfl] at hca
  go_simp
  refine (hca).mono ?_
  rintro _ zy16 ⟨rfl,hxc⟩
  clear hca
  refine ⟨_,rfl,(unhide hK).trans (hxc.keep _),fun y16 hxd => ?_⟩
  replace hP : Hid (Sp w [] w [] [(r6,41, #[.slice A1 V.length cA, .slice B1 E.length cB])] [(3,1, .slice Ao nO co,nO,O.flatMap encI),(3,1, .slice Au nO cu,nO,O.flatMap encI),(3,1, .slice Ap n1 cp,n1,O1.flatMap encI),(3,1, .slice Aq n1 cq,n1,O1.flatMap encI),(3,1, .slice As n2 cs,n2,O2.flatMap encI),(3,1, .slice At n2 ct,n2,O2.flatMap encI)] y16) := hide ((unhide hP).ext (hxc.trans hxd))
  replace hK := hide ((unhide hK).trans ((hxc.trans hxd).keep _))
  clear hxc hxd
  try go_frame
  refine lx_rekeep (unhide hK) [21,22] [] 0 2 #[true,true,true,true,true,true,true,true,true,true,true,true,true,true,true,true,true,true,true,true,true,false,false] #[true,true,true,true,true,true,true,true,true,true,true,true,true,true,true,true,true,true,true,true,true,true,true] (by kernel_rfl) rfl (by rfl) ?_
  clear hK
  iterate 2
   refine ql_want (v := ?_) rfl (by rfl) (fun W hW => ?_) ?_
   rotate_left
   ·go_simp
    first | done | rfl
   go_frame
  refine wpQL_nil (fun y17 hxq => ?_)
  replace hP : Hid (Sp w [] w [] [(r6,41, #[.slice A1 V.length cA, .slice B1 E.length cB])] [(3,1, .slice Ao nO co,nO,O.flatMap encI),(3,1, .slice Au nO cu,nO,O.flatMap encI),(3,1, .slice Ap n1 cp,n1,O1.flatMap encI),(3,1, .slice Aq n1 cq,n1,O1.flatMap encI),(3,1, .slice As n2 cs,n2,O2.flatMap encI),(3,1, .slice At n2 ct,n2,O2.flatMap encI)] y17) := hide ((unhide hP).ext hxq)
  clear hxq
  refine wpX_done (by kernel_rfl) ?_
  try go_frame
  clear hbz
  go_wp2_with fail
  refine Sp.leaves0 ?_
  exact ⟨_,results_tmp rfl _ _ _,rfl,(unhide hP).extf⟩
end Go.Proofs.YtoacpebmhbkmbaaGreatDoor
namespace Go.Proofs.YtoacpebmhbkmbaaGreatDoor.boundsOrdersRow
open Go.ChangeShapes Go.WideShapes Go.ChangeAt Go.RowKit
set_option linter.unusedVariables false
theorem own : ownKnob Tryz.prog.godebug = none := by kernel_rfl
theorem laidOut : laidOutB Tryz.prog = true := by kernel_rfl
theorem door_met (os : Os) (args : Array Value) : laidMetH Tryz.prog laidL ((World.doorLaid Tryz.prog 400 os).forCall (fun _ _ => 0) ⟨#[],args,[]⟩).memory :=
 laidMetH_of_parts3 (fuel := 8) (laidMet_of_run' 8 (by kernel_rfl) (by kernel_rfl)) (by kernel_rfl) (by kernel_rfl)
set_option maxRecDepth 100000 in
theorem lifted (os : Os) (started : os.Started) (H : Type) (enc : TypeId × Value → H) :
  ReturnsInHanded {} Tryz.checked os 6 .any (fun w args => (Rows.boundsOrdersSpec.pre enc Tryz.prog Tryz.f6 [] false w args ∧ laidMetH Tryz.prog laidL w) ∧ sizedMet enc Tryz.prog Tryz.f6 (OpenSpec.ofChange Rows.boundsOrdersSpec) false w args)
   (Rows.boundsOrdersSpec.post enc Tryz.prog Tryz.f6 false true false false) := by
 refine returnsInHanded_of_change_and (C := Tryz.checked) (X := fun w _ => laidMetH Tryz.prog laidL w) (fun _ _ _ hh h => h.of_heap hh) own started (by kernel_rfl) Tryz.func6
  (ChangeSpec.witness_shaped (enc := enc) (C := Tryz.checked) (os := os) (X := fun w _ => laidMetH Tryz.prog laidL w) false (World.doorLaid Tryz.prog 400 os) #[.slice none 0 0] 8 rfl (World.shaped_of_RefB (by kernel_rfl) (by kernel_rfl)) (by kernel_rfl) (by kernel_rfl) (by kernel_rfl) (door_met os _)) ?_
 intro W base args ds gs before hval0 hW _ _ hL _
 have hval : ∀ (j : Nat) t v,Tryz.f6.params[j]? = some t → args[j]? = some v → Value.okWide Tryz.prog W .any base t v := hval0
 have hW' := hW
 obtain ⟨p,q,hA0,hV,rfl,hfz,hnd⟩ := hW
 have hA : DataW.TrodAll enc Tryz.prog W 0 (fun _ => true) true Tryz.f6.params.toList args.toList ds p := hA0
 rw [Tryz.params6] at hA hval
 obtain ⟨v0,vs0,d0,ds0,p0,q0,hargs,rfl,rfl,h0,r0⟩ := trodAll_cons hA
 obtain ⟨rfl,rfl,rfl⟩ := trodAll_nil r0
 obtain rfl : args = #[v0] := by cases args; simp_all
 obtain ⟨rfl,rfl⟩ := trodVars_none hV
 obtain ⟨a0,len0,cap0,rfl⟩ := okWide_slice Tryz.underlying37 (hval 0 37 v0 rfl rfl)
 have k0 := h0
 have lt0 : ∀ x ∈ p0,x.block < W.heap.size := by obtain ⟨m,hm⟩ := k0; exact DataW.trod_lt m _ _ _ hm
 obtain ⟨fu0,hf0⟩ := h0
 obtain ⟨L0,hn0,hs0,ho0,hm0,hz0⟩ := open_edits (by simpa [Value.cells] using hf0)
 subst hn0
 clear hA0 hval0
 refine (boundsOrders_walk a0 L0 cap0 W hs0 hm0 hz0 (tab_of_laid hL)).mono fun e W' ⟨he,bel⟩ => ?_
 subst he
 exact ⟨_,rfl,_,_,_,[],_,[],hW',trodAll_mk1 (shut_bool Tryz.underlying4 _),(trodAll_cons_mk (Below.trod laidOut (by kernel_rfl) (of_decide_eq_true (by kernel_rfl)) k0 bel lt0) trodAll_mk0),rfl,bel.frame _,fun h => by cases h⟩
theorem over : Rows.boundsOrdersRow.holds Tryz.pinned (OpenSpec.ofChange Rows.boundsOrdersSpec) :=
 OpenClaim.holds_of_wide 6 Tryz.f6 rfl rfl rfl rfl rfl rfl rfl ⟨rfl,rfl,rfl,rfl,rfl⟩ rfl rfl rfl rfl rfl (by kernel_rfl) Tryz.func6 (by kernel_rfl)
  (of_decide_eq_true (by kernel_rfl)) (by unfold Func.isWrapper; first | (rw [if_pos (by decide +kernel)]; kernel_rfl) | (rw [if_neg (by decide +kernel)]; exact ⟨rfl,rfl⟩))
  (fun os started H enc _ => lifted os started H enc)
end Go.Proofs.YtoacpebmhbkmbaaGreatDoor.boundsOrdersRow
namespace Go.Proofs.YtoacpebmhbkmbaaGreatDoor
open Go
theorem boundsOrders_holds : Rows.BoundsOrdersCardSaid :=
 Claim7.holds_tied_plain_at .later [] [.data] true (true, "82c6bed31ad2c7c2e5153cee67ccc1cbee0e26a323fdf1de3a9a6c1e0005317a") false
  boundsOrdersRow.over (fun _ h => by cases h) (by kernel_rfl) (fun _ h => by cases h) boundsOrders_row_tie rfl ⟨rfl,rfl⟩ (by kernel_rfl) rfl
  (fun f fn hf hfn => by
   obtain rfl : f = 6 := Option.some.inj ((show Tryz.prog.funcNamed "palmette/palmettelaw22.BoundsOrders" = some 6 by kernel_rfl).symm.trans hf) |>.symm
   obtain rfl : fn = Tryz.f6 := (Option.some.inj (Tryz.func6.symm.trans hfn)).symm
   exact ⟨by kernel_rfl,fun j t ht => by
    rw [Tryz.params6] at ht
    have h3 : t = 37 := by
     rcases j with _ | j
     ·simp at ht; simp [ht]
     ·simp at ht
    rcases h3 with rfl
    ·exact (show Tryz.prog.wantsStandIn 37 = false by kernel_rfl)⟩)
  (by kernel_rfl)
#print axioms boundsOrders_holds
end Go.Proofs.YtoacpebmhbkmbaaGreatDoor
