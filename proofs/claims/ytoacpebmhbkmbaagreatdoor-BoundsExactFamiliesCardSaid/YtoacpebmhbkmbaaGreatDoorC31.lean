/- Parts of a proof, laid together. Each part says its own conditions. -/
import Derived.Test.YtoacpebmhbkmbaaGreatDoorC30
import Derived.Test.YtoacpebmhbkmbaaGreatDoorC29
import Derived.Test.YtoacpebmhbkmbaaGreatDoorC2
import Derived.Test.YtoacpebmhbkmbaaGreatDoorC27
namespace Go.Proofs.YtoacpebmhbkmbaaGreatDoor
open Go Go.RowKit
theorem nodup_of_sub : ∀ (l m : List Int),l.Nodup → (∀ x ∈ l,x ∈ m) → m.length ≤ l.length → m.Nodup ∧ ∀ x ∈ m,x ∈ l
 | [],m,_,_,h => by
  have : m = [] := List.eq_nil_of_length_eq_zero (by simpa using h)
  subst this
  exact ⟨.nil,by simp⟩
 | a :: r,m,hn,hs,hl => by
  have ha : a ∈ m := hs a (by simp)
  have hp := List.perm_cons_erase ha
  obtain ⟨hna,hnr⟩ := List.nodup_cons.1 hn
  have hlen := hp.length_eq
  simp only [List.length_cons] at hlen hl
  obtain ⟨h1,h2⟩ := nodup_of_sub r (m.erase a) hnr (fun x hx => (List.mem_erase_of_ne (fun e => hna (by rw [← e]; exact hx))).2 (hs x (by simp [hx]))) (by omega)
  refine ⟨hp.nodup_iff.2 (List.nodup_cons.2 ⟨fun h => hna (h2 a h),h1⟩),fun x hx => ?_⟩
  rcases List.mem_cons.1 (hp.mem_iff.1 hx) with rfl | h
  ·simp
  ·exact List.mem_cons_of_mem _ (h2 x h)
structure Ord (V : List (Int × Thing)) (L : List Int) : Prop where
 nodup : L.Nodup
 mem : ∀ x,x ∈ L ↔ x ∈ V.map (·.1)
theorem check_ord {L : List Int} {V : List (Int × Thing)} {E : List ((Int × Int) × Thing)} (hi : GInv V E) (h : checkS L V = 0) : Ord V L := by
 have hm := checkS_mem hi h
 have hl : L.length = V.length := by
  unfold checkS at h
  split at h
  ·rename_i h2; exact h2.1
  ·cases h
 obtain ⟨h1,h2⟩ := nodup_of_sub (V.map (·.1)) L (sv_nodup hi.sv) hm (by simp [hl])
 exact ⟨h1,fun x => ⟨h2 x,hm x⟩⟩
theorem ord_check {L : List Int} {V : List (Int × Thing)} (h : Ord V L) (hl : L.length = V.length) : checkS L V = 0 := by
 unfold checkS
 have he : eqS (fromS L) (vS V) = true := by
  rw [eqS_iff]
  intro k hk
  rw [vS_eq,fromS_bit,fromS_bit]
  congr 1
  rw [decide_eq_decide]
  exact h.mem _
 rw [if_pos ⟨hl,he⟩]
theorem Ord.rng {V : List (Int × Thing)} {E : List ((Int × Int) × Thing)} {L : List Int} (h : Ord V L) (hi : GInv V E) {x : Int} (hx : x ∈ L) : 0 ≤ x ∧ x < 1024 := by
 obtain ⟨p,hp,rfl⟩ := List.mem_map.1 ((h.mem x).1 hx)
 have hid := hi.ids p hp
 simpa [idB] using hid
def Adj0 (E : List ((Int × Int) × Thing)) (u v : Int) : Prop := ∃ e ∈ E,e.1 = (min u v,max u v)
def Adj (E : List ((Int × Int) × Thing)) (L : List Int) : Nat → Int → Int → Prop
 | 0,u,v => Adj0 E u v
 | k + 1,u,v => Adj E L k u v ∨ (u ≠ v ∧ u ∈ L.drop (k + 1) ∧ v ∈ L.drop (k + 1) ∧ Adj E L k (L[k]?.getD 0) u ∧ Adj E L k (L[k]?.getD 0) v)
section
variable {V : List (Int × Thing)} {E : List ((Int × Int) × Thing)} {L : List Int}
theorem Adj.symm : ∀ {k : Nat} {u v : Int},Adj E L k u v → Adj E L k v u
 | 0,u,v,⟨e,he,h⟩ => ⟨e,he,by rw [h]; simp only [Prod.mk.injEq]; omega⟩
 | k + 1,u,v,h => h.imp (Adj.symm) fun ⟨h1,h2,h3,h4,h5⟩ => ⟨h1.symm,h3,h2,h5,h4⟩
theorem Adj.ne (hi : GInv V E) : ∀ {k : Nat} {u v : Int},Adj E L k u v → u ≠ v
 | 0,u,v,⟨e,he,h⟩ => by
  have := hi.lo e he
  rw [h] at this
  simp at this
  omega
 | k + 1,u,v,h => by
  rcases h with h | h
  ·exact Adj.ne hi h
  ·exact h.1
theorem Adj.mem (hi : GInv V E) (ho : Ord V L) : ∀ {k : Nat} {u v : Int},Adj E L k u v → u ∈ L ∧ v ∈ L
 | 0,u,v,⟨e,he,h⟩ => by
  obtain ⟨⟨t1,h1⟩,t2,h2⟩ := hi.ends e he
  rw [h] at h1 h2
  have h3 := (ho.mem _).2 (List.mem_map_of_mem (f := (·.1)) h1)
  have h4 := (ho.mem _).2 (List.mem_map_of_mem (f := (·.1)) h2)
  simp only at h3 h4
  rcases Int.le_total u v with h5 | h5
  ·rw [show min u v = u by omega] at h3
   rw [show max u v = v by omega] at h4
   exact ⟨h3,h4⟩
  ·rw [show min u v = v by omega] at h3
   rw [show max u v = u by omega] at h4
   exact ⟨h4,h3⟩
 | k + 1,u,v,h => by
  rcases h with h | ⟨_,h1,h2,_⟩
  ·exact Adj.mem hi ho h
  ·exact ⟨List.mem_of_mem_drop h1,List.mem_of_mem_drop h2⟩
theorem drop_get {k : Nat} (hk : k < L.length) : L.drop k = L[k] :: L.drop (k + 1) := List.drop_eq_getElem_cons hk
theorem not_drop (hn : L.Nodup) {k : Nat} (hk : k < L.length) : L[k] ∉ L.drop (k + 1) := by
 have h := (List.drop_sublist k L).nodup hn
 rw [drop_get hk] at h
 exact (List.nodup_cons.1 h).1
theorem mem_drop_iff (hn : L.Nodup) {k : Nat} (hk : k < L.length) {x : Int} : x ∈ L.drop (k + 1) ↔ x ∈ L.drop k ∧ x ≠ L[k] := by
 rw [drop_get hk,List.mem_cons]
 constructor
 ·intro h
  exact ⟨.inr h,fun e => not_drop hn hk (by rw [← e]; exact h)⟩
 ·rintro ⟨h | h,h2⟩
  ·exact absurd h h2
  ·exact h
theorem lookM_map (u x : Int) (v : Nat) : ∀ M : List (Int × Nat),lookM (M.map fun p => if p.1 = u then (u,v) else p) x = if x = u ∧ (lookM M u).isSome = true then some v else lookM M x
 | [] => by simp [lookM]
 | p :: r => by
  have ih := lookM_map u x v r
  unfold lookM at ih ⊢
  rw [List.map_cons,List.find?_cons,List.find?_cons,List.find?_cons]
  by_cases h1 : p.1 = u
  ·by_cases h2 : x = u
   ·subst h2; simp [h1]
   ·have h3 : ¬ u = x := fun e => h2 e.symm
    rw [if_pos h1,decide_eq_false h3,decide_eq_false (show ¬ p.1 = x from fun e => h3 (h1.symm.trans e)),ih,if_neg (fun h => h2 h.1),if_neg (fun h => h2 h.1)]
  ·rw [if_neg h1,decide_eq_false h1]
   by_cases h2 : p.1 = x
   ·have h3 : ¬ x = u := fun e => h1 (h2.trans e)
    rw [decide_eq_true h2,if_neg (fun h => h3 h.1)]
   ·rw [decide_eq_false h2,ih]
theorem lookM_putM (M : List (Int × Nat)) (u x : Int) (v : Nat) : lookM (putM M u v) x = if x = u then some v else lookM M x := by
 unfold putM
 split
 ·rename_i h
  rw [lookM_map]
  by_cases h2 : x = u
  ·rw [if_pos ⟨h2,h⟩,if_pos h2]
  ·rw [if_neg (fun h => h2 h.1),if_neg h2]
 ·rename_i h
  have h0 : lookM M u = none := by simpa using h
  unfold lookM at h0 ⊢
  rw [List.find?_append]
  by_cases h2 : x = u
  ·subst h2
   have h1 : M.find? (fun p => decide (p.1 = x)) = none := by simpa using h0
   rw [h1,if_pos rfl]
   simp
  ·rw [if_neg h2]
   have h3 : ¬ u = x := fun e => h2 e.symm
   simp [h3]
theorem nr_put (M : List (Int × Nat)) (u x : Int) (v : Nat) : nrM (putM M u v) x = if x = u then v else nrM M x := by
 unfold nrM
 rw [lookM_putM]
 split <;> rfl
theorem m0_nr : ∀ {x : Int},x ∈ L → nrM (m0 E L) x = nearS x E := by
 have key : ∀ (l : List Int) (M : List (Int × Nat)) (x : Int),nrM (l.foldl (fun M id => putM M id (nearS id E)) M) x = if x ∈ l then nearS x E else nrM M x := by
  intro l
  induction l with
  | nil => intro M x; simp
  | cons a r ih =>
   intro M x
   rw [List.foldl_cons,ih,nr_put]
   by_cases h1 : x ∈ r
   ·rw [if_pos h1,if_pos (by simp [h1])]
   ·by_cases h2 : x = a
    ·subst h2; rw [if_neg h1,if_pos rfl,if_pos (by simp)]
    ·rw [if_neg h1,if_neg h2,if_neg (by simp [h1,h2])]
 intro x hx
 unfold m0
 rw [key,if_pos hx]
theorem withoutS_bit (N : Nat) (x : Int) (k : Nat) : (withoutS N x).testBit k = (N.testBit k && !(decide (k < 1024) && decide (x = (k : Int)))) := by
 unfold withoutS fitB
 by_cases h : 0 ≤ x ∧ x < 1024
 ·rw [if_pos (by simp [h.1,h.2]),minusS_bit,Nat.testBit_two_pow]
  congr 2
  rw [Bool.eq_iff_iff]
  simp only [Bool.and_eq_true,decide_eq_true_eq]
  omega
 ·rw [if_neg (by simp; omega)]
  have : (decide (k < 1024) && decide (x = (k : Int))) = false := by
   rw [Bool.eq_false_iff]
   simp only [ne_eq,Bool.and_eq_true,decide_eq_true_eq]
   omega
  rw [this,Bool.not_false,Bool.and_true]
theorem upd_nr (s : Nat) (id : Int) : ∀ (l : List Int) (M : List (Int × Nat)) (x : Int),l.Nodup → nrM (l.foldl (updF s id) M) x = if x ∈ l then withoutS (withoutS (nrM M x ||| s) x) id else nrM M x
 | [],M,x,_ => by simp
 | a :: r,M,x,hn => by
  obtain ⟨h0,h1⟩ := List.nodup_cons.1 hn
  have hp : nrM (updF s id M a) x = if x = a then withoutS (withoutS (nrM M a ||| s) a) id else nrM M x := by
   unfold updF
   rw [nr_put]
  rw [List.foldl_cons,upd_nr s id r _ x h1,hp]
  by_cases h2 : x ∈ r
  ·have : x ≠ a := fun e => h0 (by rw [← e]; exact h2)
   rw [if_pos h2,if_neg this,if_pos (List.mem_cons_of_mem _ h2)]
  ·by_cases h3 : x = a
   ·subst h3; rw [if_neg h2,if_pos rfl,if_pos List.mem_cons_self]
   ·rw [if_neg h2,if_neg h3,if_neg (by simp [h2,h3])]
theorem mAt_bit (hi : GInv V E) (ho : Ord V L) : ∀ (k : Nat),k ≤ L.length → ∀ u ∈ L.drop k, ∀ v : Nat,v < 1024 → ((nrM (mAt E L k) u).testBit v = true ↔ (v : Int) ∈ L.drop k ∧ Adj E L k u v)
 | 0,_,u,hu,v,hv => by
  rw [List.drop_zero] at hu ⊢
  have h1 : nrM (mAt E L 0) u = nearS u E := by
   unfold mAt
   rw [List.take_zero,List.foldl_nil]
   exact m0_nr hu
  rw [h1,nearS_eq,fromS_bit]
  simp only [Bool.and_eq_true,decide_eq_true_eq,hv,true_and]
  rw [mem_nearL hi.lo]
  constructor
  ·intro h; exact ⟨(Adj.mem (L := L) (k := 0) hi ho h).2,h⟩
  ·intro h; exact h.2
 | k + 1,hk,u,hu,v,hv => by
  have hkl : k < L.length := by omega
  have ih := mAt_bit hi ho k (by omega)
  obtain ⟨hud,hux⟩ := (mem_drop_iff ho.nodup hkl).1 hu
  have hxk : L[k] ∈ L.drop k := by rw [drop_get hkl]; exact List.mem_cons_self
  have hs : ∀ y : Nat,y < 1024 → ((sAt E L k).testBit y = true ↔ (y : Int) ∈ L.drop k ∧ Adj E L k L[k] y) := fun y hy => by
   rw [sAt_eq E L k hkl]
   exact ih L[k] hxk y hy
  have hxr := ho.rng hi (List.getElem_mem hkl)
  have hur := ho.rng hi (List.mem_of_mem_drop hu)
  rw [mAt_next E L k hkl]
  unfold stM updM
  rw [← sAt_eq E L k hkl]
  rw [upd_nr _ _ _ _ _ (toL_nodup _)]
  have hgk : L[k]?.getD 0 = L[k] := by simp [hkl]
  have hmu : u ∈ toL (sAt E L k) ↔ Adj E L k L[k] u := by
   rw [mem_toL',hs u.toNat (by omega)]
   rw [show ((u.toNat : Nat) : Int) = u by omega]
   constructor
   ·intro h; exact h.2.2.2
   ·intro h; exact ⟨hur.1,hur.2,hud,h⟩
  rw [mem_drop_iff ho.nodup hkl]
  have hg : Adj E L (k + 1) u v ↔ Adj E L k u v ∨ (u ≠ v ∧ u ∈ L.drop (k + 1) ∧ (v : Int) ∈ L.drop (k + 1) ∧ Adj E L k L[k] u ∧ Adj E L k L[k] v) := by
   show (_ ∨ _) ↔ _
   rw [hgk]
  rw [hg]
  have h1 := ih u hud v hv
  have h2 := hs v hv
  by_cases hm : u ∈ toL (sAt E L k)
  ·have hxu := hmu.1 hm
   rw [if_pos hm,withoutS_bit,withoutS_bit,Nat.testBit_or]
   simp only [Bool.and_eq_true,Bool.or_eq_true,Bool.not_eq_true',Bool.and_eq_false_iff,decide_eq_false_iff_not,h1,h2,hv,not_true_eq_false,false_or]
   constructor
   ·rintro ⟨⟨h | h,h3⟩,h4⟩
    ·exact ⟨⟨h.1,fun e => h4 e.symm⟩, .inl h.2⟩
    ·exact ⟨⟨h.1,fun e => h4 e.symm⟩, .inr ⟨h3,hu,(mem_drop_iff ho.nodup hkl).2 ⟨h.1,fun e => h4 e.symm⟩,hxu,h.2⟩⟩
   ·rintro ⟨⟨h3,h4⟩,h | ⟨h5,h6,h7,h8,h9⟩⟩
    ·exact ⟨⟨.inl ⟨h3,h⟩,Adj.ne hi h⟩,fun e => h4 e.symm⟩
    ·exact ⟨⟨.inr ⟨h3,h9⟩,h5⟩,fun e => h4 e.symm⟩
  ·rw [if_neg hm,h1]
   have hxu : ¬ Adj E L k L[k] u := fun h => hm (hmu.2 h)
   constructor
   ·rintro ⟨h3,h4⟩
    refine ⟨⟨h3,fun e => ?_⟩, .inl h4⟩
    rw [e] at h4
    exact hxu h4.symm
   ·rintro ⟨⟨h3,h4⟩,h | h⟩
    ·exact ⟨h3,h⟩
    ·exact absurd h.2.2.2.1 hxu
theorem sAt_bit (hi : GInv V E) (ho : Ord V L) {k : Nat} (hk : k < L.length) (v : Nat) (hv : v < 1024) : (sAt E L k).testBit v = true ↔ (v : Int) ∈ L.drop (k + 1) ∧ Adj E L k L[k] v := by
 rw [sAt_eq E L k hk,mAt_bit hi ho k (by omega) L[k] (by rw [drop_get hk]; exact List.mem_cons_self) v hv,mem_drop_iff ho.nodup hk]
 constructor
 ·rintro ⟨h1,h2⟩; exact ⟨⟨h1,fun e => Adj.ne hi h2 e.symm⟩,h2⟩
 ·rintro ⟨h1,h2⟩; exact ⟨h1.1,h2⟩
theorem mem_sAt (hi : GInv V E) (ho : Ord V L) {k : Nat} (hk : k < L.length) {v : Int} : v ∈ toL (sAt E L k) ↔ v ∈ L.drop (k + 1) ∧ Adj E L k L[k] v := by
 rw [mem_toL']
 constructor
 ·rintro ⟨h1,h2,h3⟩
  have := (sAt_bit hi ho hk v.toNat (by omega)).1 h3
  rwa [show ((v.toNat : Nat) : Int) = v by omega] at this
 ·intro h
  have hr := ho.rng hi (List.mem_of_mem_drop h.1)
  refine ⟨hr.1,hr.2,(sAt_bit hi ho hk v.toNat (by omega)).2 ?_⟩
  rwa [show ((v.toNat : Nat) : Int) = v by omega]
end
end Go.Proofs.YtoacpebmhbkmbaaGreatDoor
namespace Go.Proofs.YtoacpebmhbkmbaaGreatDoor
section
variable {key : (Int → Int → Bool) → List Int → Int → Nat}
theorem ordS_perm : ∀ (n : Nat) (near : Int → Int → Bool) (L : List Int),L.length ≤ n → (ordS key n near L).Perm L
 | 0,_,L,hl => by
  have : L = [] := List.eq_nil_of_length_eq_zero (by omega)
  subst this
  exact .refl _
 | _ + 1,_,[],_ => .refl _
 | n + 1,near,a :: l,hl => by
  unfold ordS
  simp only
  have hx := leastP_mem (key near (a :: l)) (L := a :: l) (by simp)
  generalize leastP (key near (a :: l)) (a :: l) = x at hx ⊢
  exact (List.Perm.cons x (ordS_perm n (eliB near x) ((a :: l).erase x) (by rw [List.length_erase_of_mem hx]; simp at hl ⊢; omega))).trans (List.perm_cons_erase hx).symm
end
end Go.Proofs.YtoacpebmhbkmbaaGreatDoor
namespace Go.Proofs.YtoacpebmhbkmbaaGreatDoor
def lackP (near : Int → Int → Bool) : List Int → Nat
 | [] => 0
 | a :: r => (r.filter (fun b => !near a b)).length + lackP near r
def missP (near : Int → Int → Bool) (N : List Int) (o : Int) : Nat := (N.filter (fun v => !near o v && decide (v ≠ o))).length
section
variable {near : Int → Int → Bool}
theorem sum_filter (p : Int → Bool) (f : Int → Nat) : ∀ r : List Int,(r.map fun o => (if p o then 1 else 0) + f o).sum = (r.filter p).length + (r.map f).sum
 | [] => rfl
 | a :: r => by
  rw [List.map_cons,List.sum_cons,sum_filter p f r,List.map_cons,List.sum_cons]
  by_cases h : p a = true
  ·rw [if_pos h,List.filter_cons_of_pos h,List.length_cons]; omega
  ·rw [if_neg h,List.filter_cons_of_neg h]; omega
theorem miss_sum (hs : ∀ u v,near u v = near v u) : ∀ N : List Int,N.Nodup → (N.map (missP near N)).sum = 2 * lackP near N
 | [],_ => rfl
 | a :: r,hn => by
  obtain ⟨ha,hr⟩ := List.nodup_cons.1 hn
  have h1 : missP near (a :: r) a = (r.filter (fun b => !near a b)).length := by
   unfold missP
   rw [List.filter_cons_of_neg (by simp)]
   refine congrArg _ (List.filter_congr fun v hv => ?_)
   have : v ≠ a := fun e => ha (e ▸ hv)
   simp [this]
  have h2 : r.map (missP near (a :: r)) = r.map fun o => (if (!near a o) = true then 1 else 0) + missP near r o := by
   refine List.map_congr_left fun o ho => ?_
   have hne : a ≠ o := fun e => ha (e ▸ ho)
   unfold missP
   by_cases h : near o a = true
   ·rw [List.filter_cons_of_neg (by simp [h]),if_neg (by rw [hs a o]; simp [h])]; omega
   ·rw [List.filter_cons_of_pos (by simp [h,hne]),if_pos (by rw [hs a o]; simp [h]),List.length_cons]; omega
  rw [List.map_cons,List.sum_cons,h1,h2,sum_filter (fun o => !near a o) (missP near r),miss_sum hs r hr]
  have h3 : lackP near (a :: r) = (r.filter (fun b => !near a b)).length + lackP near r := rfl
  rw [h3]
  omega
theorem fill_half (hs : ∀ u v,near u v = near v u) {N : List Int} (hn : N.Nodup) : (N.map (missP near N)).sum / 2 = lackP near N := by
 rw [miss_sum hs N hn]
 omega
variable {k : Int}
end
end Go.Proofs.YtoacpebmhbkmbaaGreatDoor
namespace Go.Proofs.YtoacpebmhbkmbaaGreatDoor
open Go Go.RowKit
section
variable {V : List (Int × Thing)} {E : List ((Int × Int) × Thing)} {L : List Int}
theorem adj_of_rch (hn : L.Nodup) : ∀ (k : Nat),k ≤ L.length → ∀ u v,u ∈ L.drop k → v ∈ L.drop k → u ≠ v → Rch (Adj0 E) (fun x => x ∈ L.take k) u v → Adj E L k u v
 | 0,_,u,v,_,_,_,h => by
  cases h with
  | edge h => exact h
  | step _ hs _ => simp at hs
 | k + 1,hk,u,v,hu,hv,hne,h => by
  have hk' : k < L.length := hk
  have hu2 := (mem_drop_iff hn hk').1 hu
  have hv2 := (mem_drop_iff hn hk').1 hv
  have hc : L[k] ∈ L.drop k := by rw [drop_get hk']; exact List.mem_cons_self
  have h1 : Rch (Adj0 E) (fun x => x ∈ L.take k ∨ x = L[k]) u v := h.lift (fun _ _ h => .edge h) fun x hx => by
   rw [List.take_succ_eq_append_getElem hk',List.mem_append] at hx
   simpa using hx
  rcases h1.split with h1 | ⟨h1,h2⟩
  ·exact .inl (adj_of_rch hn k (by omega) u v hu2.1 hv2.1 hne h1)
  ·refine .inr ⟨hne,hu,hv, ?_, ?_⟩
   ·have h3 := (adj_of_rch hn k (by omega) u L[k] hu2.1 hc hu2.2 h1).symm
    simpa [hk'] using h3
   ·have h3 := adj_of_rch hn k (by omega) L[k] v hc hv2.1 (Ne.symm hv2.2) h2
    simpa [hk'] using h3
theorem cnt_toK3 (N : Nat) : ∀ k,cntF N k = (toK N k).length
 | 0 => rfl
 | k + 1 => by
  rw [toK_next]
  show cntF N k + (N.testBit k).toNat = _
  rw [cnt_toK3 N k]
  cases N.testBit k <;> simp
theorem wd_of_cnt (hi : GInv V E) (ho : Ord V L) {w : Nat} (h : ∀ k,k < L.length → cntF (sAt E L k) 1024 ≤ w) : Wd (Adj0 E) L w := by
 intro pre v post he l hl hu
 have hk : pre.length < L.length := by rw [he]; simp
 have hg : L[pre.length] = v := by simp [he]
 have hd : L.drop (pre.length + 1) = post := by rw [he]; simp
 have ht : L.take pre.length = pre := by rw [he]; simp
 have hdk : L.drop pre.length = v :: post := by rw [he]; simp
 have hn := ho.nodup
 refine Nat.le_trans ?_ (h pre.length hk)
 rw [cnt_toK3]
 refine len_sub l _ hl fun u hul => (mem_sAt hi ho hk).2 ?_
 obtain ⟨h1,h2⟩ := hu u hul
 rw [hd,hg]
 refine ⟨h1,adj_of_rch hn pre.length (by omega) v u (by rw [hdk]; simp) (by rw [hdk]; simp [h1]) (fun e => ?_) (by rw [ht]; exact h2)⟩
 rw [he] at hn
 exact (List.nodup_cons.1 (List.nodup_append.1 hn).2.1).1 (e ▸ h1)
end
end Go.Proofs.YtoacpebmhbkmbaaGreatDoor
