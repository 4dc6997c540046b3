/- Parts of a proof, laid together. Each part says its own conditions. -/
import Derived.Test.YtoacpebmhbkmbaaGreatDoorT25
import Derived.Test.YtoacpebmhbkmbaaGreatDoorT26
import Derived.Lib.SlKeysI
import Derived.Test.YtoacpebmhbkmbaaGreatDoorT22
import Derived.Test.YtoacpebmhbkmbaaGreatDoorT24
namespace Go.Proofs.YtoacpebmhbkmbaaGreatDoor
open Go
structure Rep (m : List (Int × Nat)) (L : List Int) (near : Int → Int → Bool) : Prop where
 keys : (m.map (·.1)).Perm L
 sorted : L.Pairwise (· < ·)
 rng : ∀ x ∈ L,0 ≤ x ∧ x < 1024
 nb : ∀ x ∈ L,toL (nrM m x) = L.filter (near x)
 symm : ∀ u v,near u v = near v u
 irr : ∀ u,near u u = false
theorem cnt_toL (N : Nat) : cntF N 1024 = (toL N).length := cnt_toK3 N 1024
theorem short_of {K : Nat} {L : List Int} (hn : L.Nodup) (hr : ∀ x ∈ L,0 ≤ x ∧ x < (K : Int)) : L.length ≤ K := by
 have h := len_sub L ((List.range K).map Int.ofNat) hn fun x hx => List.mem_map.2 ⟨x.toNat,List.mem_range.2 (by have := hr x hx; omega),by have := hr x hx; show ((x.toNat : Nat) : Int) = x; omega⟩
 rwa [List.length_map,List.length_range] at h
section
variable {m : List (Int × Nat)} {L : List Int} {near : Int → Int → Bool}
theorem Rep.nodup (h : Rep m L near) : L.Nodup := h.sorted.imp fun {_ _} h => by omega
theorem Rep.len (h : Rep m L near) : m.length = L.length := by
 have := h.keys.length_eq
 rwa [List.length_map] at this
theorem Rep.le (h : Rep m L near) : L.length ≤ 1024 := short_of (K := 1024) h.nodup h.rng
theorem Rep.mem (h : Rep m L near) {x : Int} : x ∈ m.map (·.1) ↔ x ∈ L := h.keys.mem_iff
theorem sort_self {l : List Int} (hp : l.Perm L) (hs : L.Pairwise (· < ·)) : l.mergeSort leI = L := by
 have tr : ∀ a b c : Int,leI a b = true → leI b c = true → leI a c = true := fun a b c h1 h2 => by simp only [leI,decide_eq_true_eq] at *; exact Int.le_trans h1 h2
 have to : ∀ a b : Int,(leI a b || leI b a) = true := fun a b => by simp only [leI,Bool.or_eq_true,decide_eq_true_eq]; exact Int.le_total a b
 refine List.Perm.eq_of_pairwise (le := fun a b => leI a b = true) (fun a b _ _ h1 h2 => ?_) (List.pairwise_mergeSort tr to l) (hs.imp fun {a b} h => by simp only [leI,decide_eq_true_eq]; omega) ((List.mergeSort_perm l leI).trans hp)
 simp only [leI,decide_eq_true_eq] at h1 h2
 exact Int.le_antisymm h1 h2
theorem Rep.deg (h : Rep m L near) {x : Int} (hx : x ∈ L) : cntF (nrM m x) 1024 = degP near L x := by
 rw [cnt_toL,h.nb x hx]
 rfl
theorem look_del : ∀ (m : List (Int × Nat)) (x u : Int),lookM (delM m x) u = if u = x then none else lookM m u
 | [],x,u => by simp [delM,lookM]
 | p :: m,x,u => by
  have ih := look_del m x u
  have e1 : delM (p :: m) x = if p.1 = x then delM m x else p :: delM m x := by
   unfold delM
   rw [List.filter_cons]
   by_cases h : p.1 = x
   ·simp [h]
   ·simp [h]
  have e2 : ∀ l : List (Int × Nat),lookM (p :: l) u = if p.1 = u then some p.2 else lookM l u := fun l => by
   unfold lookM
   rw [List.find?_cons]
   by_cases h : p.1 = u
   ·simp [h]
   ·simp [h]
  rw [e1,e2]
  by_cases h1 : p.1 = x
  ·rw [if_pos h1,ih]
   by_cases h2 : u = x
   ·rw [if_pos h2,if_pos h2]
   ·rw [if_neg h2,if_neg h2,if_neg (fun e => h2 (by rw [← e,h1]))]
  ·rw [if_neg h1,e2,ih]
   by_cases h2 : p.1 = u
   ·rw [if_pos h2,if_pos h2,if_neg (fun e => h1 (by rw [h2,e]))]
   ·rw [if_neg h2,if_neg h2]
theorem nr_del (m : List (Int × Nat)) (x u : Int) : nrM (delM m x) u = if u = x then 0 else nrM m u := by
 unfold nrM
 rw [look_del]
 split <;> rfl
theorem keys_del (m : List (Int × Nat)) (x : Int) : (delM m x).map (·.1) = (m.map (·.1)).filter (fun y => decide (y ≠ x)) := by
 unfold delM
 rw [List.filter_map]
 rfl
theorem look_mem_keys {m : List (Int × Nat)} {x : Int} (h : x ∈ m.map (·.1)) : (lookM m x).isSome = true := by
 cases hl : lookM m x with
 | some _ => rfl
 | none =>
  obtain ⟨p,hp,e⟩ := List.mem_map.1 h
  exact absurd e (lookM_none.1 hl p hp)
theorem keys_put {m : List (Int × Nat)} {x : Int} (h : x ∈ m.map (·.1)) (v : Nat) : (putM m x v).map (·.1) = m.map (·.1) := by
 unfold putM
 rw [if_pos (look_mem_keys h),List.map_map]
 refine List.map_congr_left fun p _ => ?_
 show (if p.1 = x then (x,v) else p).1 = p.1
 split
 ·rename_i e; exact e.symm
 ·rfl
def turnM (f : Nat → Int → Nat) (l : List Int) (m : List (Int × Nat)) : List (Int × Nat) := l.foldl (fun M o => putM M o (f (nrM M o) o)) m
theorem turn_nr (f : Nat → Int → Nat) : ∀ (l : List Int) (m : List (Int × Nat)),l.Nodup → ∀ u,nrM (turnM f l m) u = if u ∈ l then f (nrM m u) u else nrM m u
 | [],m,_,u => by simp [turnM]
 | o :: l,m,hn,u => by
  obtain ⟨h1,h2⟩ := List.nodup_cons.1 hn
  have ih := turn_nr f l (putM m o (f (nrM m o) o)) h2 u
  have e : turnM f (o :: l) m = turnM f l (putM m o (f (nrM m o) o)) := rfl
  rw [e,ih,nr_put]
  by_cases hu : u = o
  ·subst hu
   rw [if_neg h1,if_pos rfl,if_pos (by simp)]
  ·rw [if_neg hu]
   by_cases hl : u ∈ l
   ·rw [if_pos hl,if_pos (by simp [hl])]
   ·rw [if_neg hl,if_neg (by simp [hl,hu])]
theorem turn_keys (f : Nat → Int → Nat) : ∀ (l : List Int) (m : List (Int × Nat)),(∀ x ∈ l,x ∈ m.map (·.1)) → (turnM f l m).map (·.1) = m.map (·.1)
 | [],_,_ => rfl
 | o :: l,m,h => by
  have e := keys_put (h o (by simp)) (f (nrM m o) o)
  have ih := turn_keys f l (putM m o (f (nrM m o) o)) (fun x hx => by rw [e]; exact h x (by simp [hx]))
  exact ih.trans e
def awayM (m : List (Int × Nat)) (x : Int) : List (Int × Nat) := delM (turnM (fun v _ => withoutS v x) (toL (nrM m x)) m) x
def togM (m : List (Int × Nat)) (x : Int) : List (Int × Nat) := turnM (fun v o => withoutS (v ||| nrM m x) o) (toL (nrM m x)) m
def fillM (m : List (Int × Nat)) (x : Int) : Nat := ((toL (nrM m x)).map fun o => cntF (withoutS (minusS (nrM m x) (nrM m o)) o) 1024).sum / 2
theorem Rep.mem_nb (h : Rep m L near) {x u : Int} (hx : x ∈ L) : u ∈ toL (nrM m x) ↔ u ∈ L ∧ near x u = true := by rw [h.nb x hx,List.mem_filter]
theorem filter_sorted {p : Int → Bool} (h : L.Pairwise (· < ·)) : (L.filter p).Pairwise (· < ·) := h.filter _
theorem erase_sorted (h : L.Pairwise (· < ·)) (x : Int) : (L.erase x).Pairwise (· < ·) := h.sublist List.erase_sublist
theorem Rep.away (h : Rep m L near) {x : Int} (hx : x ∈ L) : Rep (awayM m x) (L.erase x) near := by
 have hn := h.nodup
 have hsub : ∀ y ∈ toL (nrM m x),y ∈ m.map (·.1) := fun y hy => h.mem.2 ((h.mem_nb hx).1 hy).1
 refine ⟨?_,erase_sorted h.sorted x,fun y hy => h.rng y (List.mem_of_mem_erase hy),fun u hu => ?_,h.symm,h.irr⟩
 ·unfold awayM
  rw [keys_del,turn_keys _ _ _ hsub,hn.erase_eq_filter]
  refine (h.keys.filter _).trans (List.Perm.of_eq (List.filter_congr fun y _ => ?_))
  rw [Bool.eq_iff_iff]
  simp
 ·rw [hn.mem_erase_iff] at hu
  have hu2 := hu.2
  unfold awayM
  rw [nr_del,if_neg hu.1,turn_nr _ _ _ (toL_nodup _)]
  refine sorted_ext (toL_sorted _) (filter_sorted (erase_sorted h.sorted x)) fun y => ?_
  rw [List.mem_filter,hn.mem_erase_iff]
  by_cases hm : u ∈ toL (nrM m x)
  ·rw [if_pos hm,mem_without,h.mem_nb hu2]
   constructor
   ·rintro ⟨⟨h1,h2⟩,h3⟩; exact ⟨⟨h3,h1⟩,h2⟩
   ·rintro ⟨⟨h1,h2⟩,h3⟩; exact ⟨⟨h2,h3⟩,h1⟩
  ·rw [if_neg hm,h.mem_nb hu2]
   constructor
   ·rintro ⟨h1,h2⟩
    refine ⟨⟨fun e => hm ((h.mem_nb hx).2 ⟨hu2, ?_⟩),h1⟩,h2⟩
    rw [h.symm, ← e]
    exact h2
   ·rintro ⟨⟨h1,h2⟩,h3⟩; exact ⟨h2,h3⟩
theorem eliB_symm (hs : ∀ u v,near u v = near v u) (x u v : Int) : eliB near x u v = eliB near x v u := by
 unfold eliB
 rw [hs u v,Bool.and_assoc,Bool.and_assoc,Bool.and_comm (near x u),show decide (u ≠ v) = decide (v ≠ u) from decide_eq_decide.2 ⟨Ne.symm,Ne.symm⟩]
theorem eliB_irr (hr : ∀ u,near u u = false) (x u : Int) : eliB near x u u = false := by
 unfold eliB
 rw [hr]
 simp
theorem Rep.tog (h : Rep m L near) {x : Int} (hx : x ∈ L) : Rep (togM m x) L (eliB near x) := by
 have hsub : ∀ y ∈ toL (nrM m x),y ∈ m.map (·.1) := fun y hy => h.mem.2 ((h.mem_nb hx).1 hy).1
 refine ⟨?_,h.sorted,h.rng,fun u hu => ?_,eliB_symm h.symm x,eliB_irr h.irr x⟩
 ·unfold togM
  rw [turn_keys _ _ _ hsub]
  exact h.keys
 ·unfold togM
  rw [turn_nr _ _ _ (toL_nodup _)]
  refine sorted_ext (toL_sorted _) (filter_sorted h.sorted) fun y => ?_
  rw [List.mem_filter,eliB_iff]
  by_cases hm : u ∈ toL (nrM m x)
  ·have hxu := ((h.mem_nb hx).1 hm).2
   rw [if_pos hm,mem_without,mem_or,h.mem_nb hu,h.mem_nb hx]
   constructor
   ·rintro ⟨h1 | h1,h2⟩
    ·exact ⟨h1.1, .inl h1.2⟩
    ·exact ⟨h1.1, .inr ⟨fun e => h2 e.symm,hxu,h1.2⟩⟩
   ·rintro ⟨h1,h2 | ⟨h2,h3,h4⟩⟩
    ·exact ⟨.inl ⟨h1,h2⟩,fun e => by rw [e,h.irr] at h2; cases h2⟩
    ·exact ⟨.inr ⟨h1,h4⟩,fun e => h2 e.symm⟩
  ·rw [if_neg hm,h.mem_nb hu]
   constructor
   ·rintro ⟨h1,h2⟩; exact ⟨h1, .inl h2⟩
   ·rintro ⟨h1,h2 | ⟨_,h3,_⟩⟩
    ·exact ⟨h1,h2⟩
    ·exact absurd ((h.mem_nb hx).2 ⟨hu,h3⟩) hm
theorem Rep.fill (h : Rep m L near) {x : Int} (hx : x ∈ L) : fillM m x = lackP near (L.filter (near x)) := by
 rw [← fill_half h.symm (h.nodup.filter (near x))]
 unfold fillM
 rw [h.nb x hx]
 refine congrArg (fun l : List Nat => l.sum / 2) ?_
 refine List.map_congr_left fun o ho => ?_
 have ho' := (List.mem_filter.1 ho).1
 unfold missP
 rw [cnt_toL]
 refine congrArg List.length ?_
 refine sorted_ext (toL_sorted _) (filter_sorted (filter_sorted h.sorted)) fun y => ?_
 rw [mem_without,mem_minus,h.mem_nb hx,h.mem_nb ho',List.mem_filter,List.mem_filter]
 simp only [Bool.and_eq_true,Bool.not_eq_true',decide_eq_true_eq,not_and,Bool.not_eq_true]
 constructor
 ·rintro ⟨⟨⟨h1,h2⟩,h3⟩,h4⟩; exact ⟨⟨h1,h2⟩,h3 h1,h4⟩
 ·rintro ⟨⟨h1,h2⟩,h3,h4⟩; exact ⟨⟨⟨h1,h2⟩,fun _ => h3⟩,h4⟩
theorem mem_wth {c : Nat} {v x : Int} (hv : 0 ≤ v ∧ v < 1024) : x ∈ toL (withS c v) ↔ x = v ∨ x ∈ toL c := by
 rw [mem_toL',mem_toL',withS_bit]
 constructor
 ·rintro ⟨h1,h2,h3⟩
  rw [Bool.or_eq_true,Bool.and_eq_true,decide_eq_true_eq,decide_eq_true_eq] at h3
  rcases h3 with h3 | ⟨_,h3⟩
  ·exact .inr ⟨h1,h2,h3⟩
  ·left; omega
 ·rintro (rfl | ⟨h1,h2,h3⟩)
  ·refine ⟨hv.1,hv.2, ?_⟩
   rw [Bool.or_eq_true,Bool.and_eq_true,decide_eq_true_eq,decide_eq_true_eq]
   right; omega
  ·exact ⟨h1,h2,by rw [h3,Bool.true_or]⟩
def joinM (d : Int) (m : List (Int × Nat)) (o : Int) : List (Int × Nat) := putM (putM m o (withS (nrM m o) d)) d (withS (nrM (putM m o (withS (nrM m o) d)) d) o)
def conM (m : List (Int × Nat)) (x d : Int) : List (Int × Nat) := (toL (withoutS (nrM m x) d)).foldl (joinM d) m
theorem join_nr {d : Int} : ∀ (l : List Int) (m : List (Int × Nat)),l.Nodup → d ∉ l → (∀ x ∈ l,0 ≤ x ∧ x < 1024) → (0 ≤ d ∧ d < 1024) → ∀ u y,y ∈ toL (nrM (l.foldl (joinM d) m) u) ↔ y ∈ toL (nrM m u) ∨ (u ∈ l ∧ y = d) ∨ (u = d ∧ y ∈ l)
 | [],m,_,_,_,_,u,y => by simp
 | o :: l,m,hn,hd,hr,hdr,u,y => by
  obtain ⟨h1,h2⟩ := List.nodup_cons.1 hn
  have hod : d ≠ o := fun e => hd (by rw [e]; simp)
  have ih := join_nr l (joinM d m o) h2 (fun hm => hd (by simp [hm])) (fun x hx => hr x (by simp [hx])) hdr u y
  rw [List.foldl_cons,ih]
  unfold joinM
  rw [nr_put,nr_put,if_neg hod,nr_put]
  have ho := hr o (by simp)
  by_cases hud : u = d
  ·subst hud
   rw [if_pos rfl,mem_wth ho]
   have hul : u ∉ o :: l := hd
   simp only [List.mem_cons,not_or] at hul ⊢
   constructor
   ·rintro ((h3 | h3) | ⟨h3,_⟩ | ⟨_,h3⟩)
    ·exact .inr (.inr ⟨trivial, .inl h3⟩)
    ·exact .inl h3
    ·exact absurd h3 hul.2
    ·exact .inr (.inr ⟨trivial, .inr h3⟩)
   ·rintro (h3 | ⟨h3 | h3,_⟩ | ⟨_,h3 | h3⟩)
    ·exact .inl (.inr h3)
    ·exact absurd h3 hul.1
    ·exact absurd h3 hul.2
    ·exact .inl (.inl h3)
    ·exact .inr (.inr ⟨trivial,h3⟩)
  ·rw [if_neg hud]
   by_cases huo : u = o
   ·subst huo
    rw [if_pos rfl,mem_wth hdr]
    simp only [List.mem_cons]
    constructor
    ·rintro ((h3 | h3) | ⟨h3,h4⟩ | ⟨h3,_⟩)
     ·exact .inr (.inl ⟨.inl trivial,h3⟩)
     ·exact .inl h3
     ·exact absurd h3 h1
     ·exact absurd h3 hud
    ·rintro (h3 | ⟨_,h3⟩ | ⟨h3,_⟩)
     ·exact .inl (.inr h3)
     ·exact .inl (.inl h3)
     ·exact absurd h3 hud
   ·rw [if_neg huo]
    simp only [List.mem_cons]
    constructor
    ·rintro (h3 | ⟨h3,h4⟩ | ⟨h3,_⟩)
     ·exact .inl h3
     ·exact .inr (.inl ⟨.inr h3,h4⟩)
     ·exact absurd h3 hud
    ·rintro (h3 | ⟨h3 | h3,h4⟩ | ⟨h3,_⟩)
     ·exact .inl h3
     ·exact absurd h3 huo
     ·exact .inr (.inl ⟨h3,h4⟩)
     ·exact absurd h3 hud
theorem join_keys {d : Int} : ∀ (l : List Int) (m : List (Int × Nat)),d ∈ m.map (·.1) → (∀ x ∈ l,x ∈ m.map (·.1)) → (l.foldl (joinM d) m).map (·.1) = m.map (·.1)
 | [],_,_,_ => rfl
 | o :: l,m,hd,h => by
  have e1 := keys_put (h o (by simp)) (withS (nrM m o) d)
  have e : (joinM d m o).map (·.1) = m.map (·.1) := by
   unfold joinM
   rw [keys_put (by rw [e1]; exact hd),e1]
  rw [List.foldl_cons,join_keys l _ (by rw [e]; exact hd) (fun x hx => by rw [e]; exact h x (by simp [hx])),e]
theorem mrgB_symm (hs : ∀ u v,near u v = near v u) (x y u v : Int) : mrgB near x y u v = mrgB near x y v u := by
 unfold mrgB
 rw [hs u v,Bool.or_assoc,Bool.or_assoc]
 congr 1
 exact Bool.or_comm _ _
theorem mrgB_irr (hr : ∀ u,near u u = false) (x y u : Int) : mrgB near x y u u = false := by
 unfold mrgB
 rw [hr]
 by_cases e : u = y <;> simp [e]
theorem Rep.con (h : Rep m L near) {x y : Int} (hx : x ∈ L) (hy : y ∈ L) (_hxy : near x y = true) : Rep (conM m x y) L (mrgB near x y) := by
 have hmem : ∀ o,o ∈ toL (withoutS (nrM m x) y) ↔ (o ∈ L ∧ near x o = true) ∧ o ≠ y := fun o => by rw [mem_without,h.mem_nb hx]
 have hyl : y ∉ toL (withoutS (nrM m x) y) := fun hm => ((hmem y).1 hm).2 rfl
 refine ⟨?_,h.sorted,h.rng,fun u hu => ?_,mrgB_symm h.symm x y,mrgB_irr h.irr x y⟩
 ·unfold conM
  rw [join_keys _ _ (h.mem.2 hy) fun o ho => h.mem.2 ((hmem o).1 ho).1.1]
  exact h.keys
 ·unfold conM
  refine sorted_ext (toL_sorted _) (filter_sorted h.sorted) fun v => ?_
  rw [join_nr _ _ (toL_nodup _) hyl (fun o ho => h.rng o ((hmem o).1 ho).1.1) (h.rng y hy),h.mem_nb hu,List.mem_filter,hmem,hmem]
  unfold mrgB
  simp only [Bool.or_eq_true,Bool.and_eq_true,decide_eq_true_eq]
  constructor
  ·rintro (⟨h1,h2⟩ | ⟨⟨⟨h1,h2⟩,h3⟩,h4⟩ | ⟨h1,⟨h2,h3⟩,h4⟩)
   ·exact ⟨h1, .inl (.inl h2)⟩
   ·exact ⟨by rw [h4]; exact hy, .inr ⟨⟨h4,h2⟩,h3⟩⟩
   ·exact ⟨h2, .inl (.inr ⟨⟨h1,h3⟩,h4⟩)⟩
  ·rintro ⟨h1,(h2 | ⟨⟨h2,h3⟩,h4⟩) | ⟨⟨h2,h3⟩,h4⟩⟩
   ·exact .inl ⟨h1,h2⟩
   ·exact .inr (.inr ⟨h2,⟨h1,h3⟩,h4⟩)
   ·exact .inr (.inl ⟨⟨⟨hu,h3⟩,h4⟩,h2⟩)
theorem and_nb {N M : Nat} {l : List Int} {p : Int → Bool} (h1 : toL N = l) (h2 : ∀ x ∈ l,(x ∈ toL M ↔ p x = true)) : toL (N &&& M) = l.filter p := by
 subst h1
 refine sorted_ext (toL_sorted _) (filter_sorted (toL_sorted N)) fun x => ?_
 rw [mem_and,List.mem_filter]
 constructor
 ·rintro ⟨h3,h4⟩; exact ⟨h3,(h2 x h3).1 h4⟩
 ·rintro ⟨h3,h4⟩; exact ⟨h3,(h2 x h3).2 h4⟩
end
section
variable {V : List (Int × Thing)} {E : List ((Int × Int) × Thing)}
def nr0 (E : List ((Int × Int) × Thing)) (u v : Int) : Bool := hasE u v E
theorem m0_keys : ∀ (L : List Int),L.Nodup → (m0 E L).map (·.1) = L := by
 have key : ∀ (L : List Int) (M : List (Int × Nat)),L.Nodup → (∀ x ∈ L,x ∉ M.map (·.1)) → (L.foldl (fun M id => putM M id (nearS id E)) M).map (·.1) = M.map (·.1) ++ L := by
  intro L
  induction L with
  | nil => intro M _ _; simp
  | cons a L ih =>
   intro M hn h
   obtain ⟨h1,h2⟩ := List.nodup_cons.1 hn
   have hno : (lookM M a).isSome = false := by
    have : lookM M a = none := lookM_none.2 fun p hp e => h a (by simp) (List.mem_map.2 ⟨p,hp,e⟩)
    rw [this]; rfl
   have e : (putM M a (nearS a E)).map (·.1) = M.map (·.1) ++ [a] := by
    unfold putM
    rw [if_neg (by rw [hno]; simp),List.map_append]
    rfl
   rw [List.foldl_cons,ih _ h2 (fun x hx hm => ?_),e,List.append_assoc]
   ·rfl
   ·rw [e,List.mem_append,List.mem_singleton] at hm
    rcases hm with hm | hm
    ·exact h x (by simp [hx]) hm
    ·exact h1 (by rw [← hm]; exact hx)
 intro L hn
 have := key L [] hn (by simp)
 simpa [m0] using this
theorem rep_of (hi : GInv V E) : Rep (m0 E (toL (vS V))) (toL (vS V)) (nr0 E) where
 keys := by rw [m0_keys _ (toL_nodup _)]
 sorted := toL_sorted _
 rng x hx := ⟨(mem_toL'.1 hx).1,(mem_toL'.1 hx).2.1⟩
 nb x hx := by
  rw [m0_nr hx]
  refine sorted_ext (toL_sorted _) (filter_sorted (toL_sorted _)) fun y => ?_
  rw [mem_near hi,List.mem_filter]
  constructor
  ·intro h; exact ⟨(mem_vS hi).2 (hasE_rng hi h).2,h⟩
  ·rintro ⟨_,h⟩; exact h
 symm u v := by
  unfold nr0
  rw [Bool.eq_iff_iff]
  exact ⟨hasE_symm,hasE_symm⟩
 irr u := by
  unfold nr0
  cases h : hasE u u E with
  | false => rfl
  | true => exact absurd rfl (hasE_ne hi h)
end
end Go.Proofs.YtoacpebmhbkmbaaGreatDoor
namespace Go.Proofs.YtoacpebmhbkmbaaGreatDoor
open Go Go.RowKit Go.Shelf
def cutW (w : World) (b : Nat) : World := { w with heap := w.heap.extract 0 b }
theorem cut_size {w : World} {b : Nat} (h : b ≤ w.heap.size) : (cutW w b).heap.size = b := by
 show (w.heap.extract 0 b).size = b
 rw [Array.size_extract]
 omega
theorem cut_get {w : World} {b k : Nat} (h : b ≤ w.heap.size) (hk : k < b) : (cutW w b).heap[k]? = w.heap[k]? := by
 show (w.heap.extract 0 b)[k]? = w.heap[k]?
 rw [Array.getElem?_extract]
 rw [if_pos (by omega),Nat.zero_add]
theorem cut_ext {w : World} {b : Nat} (h : b ≤ w.heap.size) : Ext (cutW w b) w :=
 ⟨rfl,rfl,rfl,by rw [cut_size h]; exact h,fun k hk => (cut_get h (by rw [cut_size h] at hk; exact hk)).symm⟩
section
variable {w W : World} {mb : Nat} {m : List (Int × Nat)}
theorem Sp.cut (hM : MapIs ekV evS i64ok w mb m) (T n : Nat) : Sp (cutW w mb) [mb] w [] [] [(T,0, .map (some mb),n,mapXs ekV evS m)] w := by
 have hlt := hM.lt
 have hs : stT ([] : List Cl) [(T,0, .map (some mb),n,mapXs ekV evS m)] = [mb] := rfl
 have hz : (cutW w mb).heap.size = mb := cut_size (by omega)
 refine ⟨⟨by simp,fun r hr => ?_,by rw [hs]; simp,fun x hx => ?_⟩,cut_ext (by omega),Keep.refl _ _,fun x hx => ?_, .nil _,by simp⟩
 ·rw [List.mem_singleton] at hr
  subst hr
  unfold RowIs
  rw [if_pos rfl]
  exact ⟨mb,rfl,by omega,hM.raw⟩
 ·rw [hs,List.mem_singleton] at hx
  omega
 ·rw [hs] at hx
  exact .inl hx
theorem Marks.up {B B' D : Nat} (h : Marks B [{ target := .collected D,args := #[] }] W) (hB : B' ≤ D) : Marks B' [{ target := .collected D,args := #[] }] W := by
 cases h with
 | cons _ hD hne h => exact .cons hB hD hne (.nil _)
theorem Sp.leavesM {wf : World} {ds : List Deferred} {L : List Cl} {Rs : List Rw} {P : Program} {fn : Func} {tmps : Array Value} {R : Ending → World → Prop} (h : Sp wf [mb] w ds L Rs W) (h2 : Marks w.heap.size ds W) (hR : ∀ w',Keep [mb] w w' → St wf.heap.size L Rs w' → LeavesIn Fence.wide 0 P fn tmps R [] .returning w') : LeavesInM Fence.wide 0 P fn tmps R ds .returning W := by
 refine leaves_marks (B := w.heap.size) ds W h2 ?_
 rintro w' ⟨S,hS,hkS⟩
 have hS' : ∀ x ∈ S,x ∉ stT L Rs := fun x hx hm => by
  obtain ⟨d,hd,e⟩ := hS x hx
  exact h.nd x hm d hd e
 refine hR w' ?_ (h.st.keep hkS hS')
 refine h.keep.of_new hkS fun x hx => ?_
 obtain ⟨d,hd,e⟩ := hS x hx
 obtain ⟨D,e1,h3,_⟩ := h2.lt d hd
 rw [e1] at e
 injection e with e
 exact .inr (by omega)
end
section
variable {κ τ : Type} [DecidableEq κ] {ek : κ → Value} {ev : τ → Value} {ok : κ → Prop} {P : Program} {kt et t T : TypeId} {wf : World} {T0 : List Nat} {w W : World} {ds : List Deferred} {L : List Cl} {Rs : List Rw} {l : List Oper} {K : Act → World → Prop} {r : List Oper} {o : Oper} {a : Act} {mb n : Nat} {m : List (κ × τ)}
theorem Sp.mapPutX {C : World → Prop} {safe : Nat → Bool} {Q : Act → World → Prop} {listed : Array Bool} {j nn : Nat} (h : Sp wf T0 w ds L Rs W) (i : Nat) (hi : Rs[i]? = some (T,0, .map (some mb),n,mapXs ek ev m)) (hok : ∀ p ∈ m,ok p.1)
  (hr : Region.ready .any l.toArray listed = [j]) (ho0 : pick l j = some o) (hw : Region.wanted o (yielded l.toArray a.tmps) = true) (listed' : Array Bool) (hl : listed.setIfInBounds j true = listed') (hs0 : safe j = false)
  (Kk : KE P kt ek ok) (ht : P.underlying t = some (.map kt et)) {x : κ} (hx : ok x) (v : τ) {p q s : Operand} (ho : o.op = .mapUpdate t p q s) (hp : a.eval p = .map (some mb)) (hq : a.eval q = ek x) (hs : a.eval s = ev v) (n' : Nat)
  (hk : ∀ W',Sp wf T0 w ds L (Rs.set i (T,0, .map (some mb),n',mapXs ek ev (putM m x v))) W' → wpX P l.toArray Ext C safe Q nn listed' (a.put o.dst undef) W') : wpX P l.toArray Ext C safe Q (nn + 1) listed a W := by
 obtain ⟨w',h1,h2,h3,_⟩ := run_update_op Kk ht (h.map i hi hok) hx v ho hp hq hs
 exact lx_skipX hr ho0 hw listed' hl h1 (fun h => by rw [hs0] at h; cases h) (fun _ hx => hk _ ((h.mapSet i hi h2.raw h3).ext hx))
theorem run_delete_op (K : KE P kt ek ok) (ht : P.underlying t = some (.map kt et)) (h : MapIs ek ev ok W mb m) {x : κ} (hx : ok x)
  {ρ : Operand → Value} {o : Oper} {p q : Operand} (ho : o.op = .call { callee := .builtin .delete,args := #[p,q],argTypes := #[t,kt] }) (hp : ρ p = .map (some mb)) (hq : ρ q = ek x) :
  ∃ w',(execOp ρ o).run P W = .ok (.value (.tuple #[])) w' ∧ MapIs ek ev ok w' mb (delM m x) ∧ Keep [mb] W w' := by
 obtain ⟨w',h1,h2,h3,_⟩ := h.delete K ht hx 0
 have h1' : ∀ ty,(Builtin.delete_ #[t,kt] ty #[.map (some mb),ek x]).run P W = .ok (.tuple #[]) w' := fun _ => h1
 refine ⟨w', ?_,h2,h3⟩
 unfold execOp
 simp only [ho]
 simp [go_sem,hp,hq,h1']
theorem Sp.mapDelO (h : Sp wf T0 w ds L Rs W) (i : Nat) (hi : Rs[i]? = some (T,0, .map (some mb),n,mapXs ek ev m)) (hok : ∀ p ∈ m,ok p.1) (hw : Region.wanted o (yielded l.toArray a.tmps) = true) (Kk : KE P kt ek ok) (ht : P.underlying t = some (.map kt et)) {x : κ} (hx : ok x)
  {p q : Operand} (ho : o.op = .call { callee := .builtin .delete,args := #[p,q],argTypes := #[t,kt] }) (hp : a.eval p = .map (some mb)) (hq : a.eval q = ek x) (n' : Nat)
  (hk : ∀ W',Sp wf T0 w ds L (Rs.set i (T,0, .map (some mb),n',mapXs ek ev (delM m x))) W' → wpO P l K r (a.put o.dst (.tuple #[])) W') : wpO P l K (o :: r) a W := by
 obtain ⟨w',h1,h2,h3⟩ := run_delete_op Kk ht (h.map i hi hok) hx ho hp hq
 exact wpO_val hw h1 (hk _ (h.mapSet i hi h2.raw h3))
omit [DecidableEq κ] in
omit [DecidableEq κ] in
theorem Sp.mapK {S : List Nat} {W' : World} (h : Sp wf T0 w ds L Rs W) (i : Nat) (hi : Rs[i]? = some (T,0, .map (some mb),n,mapXs ek ev m)) (hok : ∀ p ∈ m,ok p.1) (hK : Keep S W W') (hS : mb ∉ S) : MapIs ek ev ok W' mb m := (h.map i hi hok).keep hK hS
end
section
variable {P : Program} {α : Type} {wf : World}
theorem wp_rngM {g : Operand} {ps : Array Tmp} {assign body : Code} {Q : Exit → Act → World → Prop} {a : Act} {w W : World} {T0 : List Nat} {ds : List Deferred} {L : List Cl} {Rs : List Rw} {gf : Nat} {lb : Array Value}
  (hP : Sp wf T0 w ds L Rs W) (hg : a.eval g = .func (.func gf) #[] lb) (eg : ∀ args w,(callFunc gf args).run P w = .ok (.enter gf args) w)
  {encs : α → Array Value} {xs : List α} {np : Nat} {ex : List Nat} (hex : ∀ b ∈ ex,b < W.heap.size ∧ b ∉ stT L Rs) (hit : Iter1 P gf lb encs xs np ex W) (hps : ∀ x,(encs x).size = ps.size)
  (F : List α → List Cl → List Rw → Prop) (Fx : Code → List Cl → List Rw → Prop) (Pa : Array Value → List Nat → α → Act → World → Prop)
  (hPa : ∀ T' x a1 A B,Pa a.tmps T' x a1 A → Keep (privs W.heap.size (2 + np)) A B → Pa a.tmps T' x a1 B) (h0 : F [] L Rs)
  (hassign : ∀ (T' : List Nat) (x : α) (W' : World) (K : Act → World → Prop),(∀ y ∈ T',y < W'.heap.size) → W.heap.size + (2 + np) ≤ W'.heap.size → (∀ a1 W1,Pa a.tmps T' x a1 W1 → Ext W' W1 → K a1 W1) →
   assign.wpIn (RF (W.heap.size + 1)) 0 P (Exit.then K (fun _ _ _ => False)) { tmps := (ps.zip (encs x)).foldl (fun t (p,v) => t.setIfInBounds p v) a.tmps,defers := [] } W')
  (hbody : ∀ (l : Nat) (pre : List α) (x : α) (a1 : Act) (L' : List Cl) (Rs' : List Rw) (W' : World),F pre L' Rs' → Sp wf (stT L' Rs') W' [] L' Rs' W' → Pa a.tmps (stT L' Rs') x a1 W' → (pre ++ [x]) <+: xs → (∃ r,W'.heap[l]? = some (.loop r)) → Keep (stT L Rs) W W' → tIn (stT L Rs) W.heap.size (stT L' Rs') →
   body.wpIn (RF l) 0 P (sPost wf (F (pre ++ [x])) Fx (stT L' Rs') W') a1 W')
  (hdone : ∀ (D : Nat) (L' : List Cl) (Rs' : List Rw) (W' : World),W.heap.size ≤ D → F xs L' Rs' → Keep (stT L Rs) W W' → Sp wf T0 w ({ target := .collected D,args := #[] } :: ds) L' Rs' W' → Q .normal { a with defers := { target := .collected D,args := #[] } :: a.defers } W')
  (hstop : ∀ (D : Nat) (c : Code) (L' : List Cl) (Rs' : List Rw) (W' : World),Fx c L' Rs' → Keep (stT L Rs) W W' → Sp wf T0 w ({ target := .collected D,args := #[] } :: ds) L' Rs' W' → c.wp P Q { a with defers := { target := .collected D,args := #[] } :: a.defers } W') :
  (Code.rangeFunc g ps assign body).wp P Q a W := by
 refine wp_rng hg eg (T := stT L Rs) hex hit hps (fun pre T' W' => ∃ L' Rs',F pre L' Rs' ∧ T' = stT L' Rs' ∧ St wf.heap.size L' Rs' W') (fun c T' W' => ∃ L' Rs',Fx c L' Rs' ∧ T' = stT L' Rs' ∧ St wf.heap.size L' Rs' W') Pa
  (fun pre T' A B S ⟨L',Rs',h1,h2,h3⟩ hk hS => ⟨L',Rs',h1,h2,h3.keep hk (by rw [← h2]; exact hS)⟩) (fun c T' A B S ⟨L',Rs',h1,h2,h3⟩ hk hS => ⟨L',Rs',h1,h2,h3.keep hk (by rw [← h2]; exact hS)⟩)
  (fun pre T' A ⟨L',Rs',_,h2,h3⟩ => by rw [h2]; exact h3.lt) hPa hP.lt ⟨L,Rs,h0,rfl,hP.st⟩ hassign ?_ ?_ ?_
 ·rintro pre x a1 T' W' ⟨L',Rs',h1,rfl,h3⟩ hk hT hp hpx hsz hr
  exact wpIn_mono (hbody _ pre x a1 L' Rs' W' h1 (hP.round hk h3) hp hpx hr hk (fun x hx => (hT x hx).imp id (fun h => by omega))) fun e a2 W2 h => bPost_of_sPost h
 ·rintro T' W' ⟨L',Rs',h1,rfl,h3⟩ hk hT hD
  exact hdone _ L' Rs' W' (Nat.le_refl _) h1 hk (hP.mark h3 hk hT hD)
 ·rintro c T' W' ⟨L',Rs',h1,rfl,h3⟩ hk hT hD
  exact hstop _ c L' Rs' W' h1 hk (hP.mark h3 hk hT hD)
end
theorem Tab.cut {w : World} {b : Nat} (h : Tab w) (hb : 0 < b) (hl : b ≤ w.heap.size) : Tab (cutW w b) := fun j hj => by
 rw [World.cell?_of_block (cut_get hl hb)]
 exact h j hj
theorem Sp.addMap {wf : World} {T0 : List Nat} {w W W' : World} {ds : List Deferred} {L : List Cl} {Rs : List Rw} (h : Sp wf T0 w ds L Rs W) (hx : Ext W W') {b : Nat} (hge : W.heap.size ≤ b) {xs : List Value} (hr : MapRaw W' b xs) (T n : Nat) : Sp wf T0 w ds L (Rs ++ [(T,0, .map (some b),n,xs)]) W' := by
 have h1 := h.ext hx
 have hsz := h.size
 have hs : stT L (Rs ++ [(T,0, .map (some b),n,xs)]) = stT L Rs ++ [b] := by
  unfold stT rwT
  rw [List.flatMap_append, ← List.append_assoc]
  rfl
 refine h.step (hx.keep []) (by simp) ⟨h1.st.cells,fun q hq => ?_, ?_,fun x hx' => ?_⟩ (fun x hx' => ?_)
 ·rcases List.mem_append.1 hq with hq | hq
  ·exact h1.st.rows q hq
  ·rw [List.mem_singleton] at hq
   subst hq
   unfold RowIs
   rw [if_pos rfl]
   exact ⟨b,rfl,by omega,hr⟩
 ·rw [hs,List.nodup_append]
  refine ⟨h.st.nd,by simp,fun x hx1 y hy e => ?_⟩
  rw [List.mem_singleton] at hy
  have := h.lt x hx1
  omega
 ·rw [hs] at hx'
  rcases List.mem_append.1 hx' with h2 | h2
  ·exact h.st.ge x h2
  ·rw [List.mem_singleton] at h2
   omega
 ·rw [hs] at hx'
  rcases List.mem_append.1 hx' with h2 | h2
  ·exact .inl h2
  ·rw [List.mem_singleton] at h2
   exact .inr (by omega)
theorem run_mlen_op {κ τ : Type} {ek : κ → Value} {ev : τ → Value} {ok : κ → Prop} {P : Program} {kt et t : TypeId} {W : World} {mb : Nat} {m : List (κ × τ)} (ht : P.underlying t = some (.map kt et)) (h : MapIs ek ev ok W mb m)
  {ρ : Operand → Value} {o : Oper} {p : Operand} (ho : o.op = .call { callee := .builtin .len,args := #[p],argTypes := #[t] }) (hp : ρ p = .map (some mb)) : (execOp ρ o).run P W = .ok (.value (.int .i64 m.length)) W := by
 have h1 := fun ty => h.len ht ty
 unfold execOp
 simp only [ho]
 simp [go_sem,hp,h1]
theorem turn_snoc (f : Nat → Int → Nat) (l : List Int) (m : List (Int × Nat)) (o : Int) : turnM f (l ++ [o]) m = putM (turnM f l m) o (f (nrM (turnM f l m) o) o) := by
 unfold turnM
 rw [List.foldl_append]
 rfl
theorem turn_ok (f : Nat → Int → Nat) : ∀ (l : List Int) (m : List (Int × Nat)),(∀ p ∈ m,i64ok p.1) → (∀ x ∈ l,i64ok x) → ∀ p ∈ turnM f l m,i64ok p.1
 | [],_,h,_ => h
 | o :: l,m,h,hl => turn_ok f l (putM m o (f (nrM m o) o)) (putM_ok h (hl o (by simp))) (fun x hx => hl x (by simp [hx]))
theorem toL_ok {N : Nat} {x : Int} (h : x ∈ toL N) : i64ok x := okK ⟨(mem_toL'.1 h).1,(mem_toL'.1 h).2.1⟩
def OwL (w : World) (xs : List Int) (e : Ending) (w' : World) : Prop := ∃ A c,e = .returned (.slice A xs.length c) ∧ w'.ownsRow w.heap.size 3 1 (.slice A xs.length c) xs.length (xs.flatMap encI) ∧ Ext w w'
theorem OwL.mk {w w' : World} {xs : List Int} {A : Option Addr} {n c : Nat} (hn : n = xs.length) (h1 : w'.ownsRow w.heap.size 3 1 (.slice A n c) n (xs.flatMap encI)) (h2 : Ext w w') : OwL w xs (.returned (.slice A n c)) w' := ⟨A,c,by rw [hn],by rw [hn] at h1; exact h1,h2⟩
end Go.Proofs.YtoacpebmhbkmbaaGreatDoor
namespace Go.Proofs.YtoacpebmhbkmbaaGreatDoor
open Go Go.RowKit
attribute [local go_sem] qUpon lUpon
def GL (w : World) (o : Option Addr) (V : List (Int × Thing)) (E : List ((Int × Int) × Thing)) : Prop := (∃ g bv be,o = some ⟨g,0,none⟩ ∧ IsG w g bv be V E) ∨ (o = none ∧ V = [] ∧ E = [])
theorem GL.ext {w w' : World} {o : Option Addr} {V : List (Int × Thing)} {E : List ((Int × Int) × Thing)} (h : GL w o V E) (hx : Ext w w') : GL w' o V E := by
 rcases h with ⟨g,bv,be,h1,h2⟩ | h
 ·exact .inl ⟨g,bv,be,h1,h2.ext hx⟩
 ·exact .inr h
theorem GL.of {w : World} {g bv be : Nat} {V : List (Int × Thing)} {E : List ((Int × Int) × Thing)} (h : IsG w g bv be V E) : GL w (some ⟨g,0,none⟩) V E := .inl ⟨g,bv,be,rfl,h⟩
set_option maxRecDepth 100000 in
theorem vertsN (w : World) : Calls Tryz.prog 30 #[.pointer none] w fun e w' => e = .returned (.slice none 0 0) ∧ Ext w w' := by
 go_enter Tryz.func30,Tryz.ntmps30
 go_wp2_with fail
 go_ret
 exact ⟨rfl,Ext.refl _⟩
set_option maxRecDepth 100000 in
theorem edgesN (w : World) : Calls Tryz.prog 80 #[.pointer none] w fun e w' => e = .returned (.slice none 0 0) ∧ Ext w w' := by
 go_enter Tryz.func80,Tryz.ntmps80
 go_wp2_with fail
 go_ret
 exact ⟨rfl,Ext.refl _⟩
theorem nearG (o : Option Addr) (V : List (Int × Thing)) (E : List ((Int × Int) × Thing)) (id : Int) (w : World) (hg : GL w o V E) : Calls Tryz.prog 44 #[.pointer o, .int .i64 id] w fun e w' => e = .returned (.agg (setC (nearS id E))) ∧ Ext w w' := by
 rcases hg with ⟨g,bv,be,rfl,h⟩ | ⟨rfl,rfl,rfl⟩
 ·exact near_rel g bv be V E id w h
 ·exact near_gen _ id [] w (by simp) fun W _ => (edgesN W).mono fun e w' h => ⟨none,0,h.1,fun h => absurd rfl h,h.2⟩
theorem vsetG (o : Option Addr) (V : List (Int × Thing)) (E : List ((Int × Int) × Thing)) (w : World) (hg : GL w o V E) : Calls Tryz.prog 40 #[.pointer o] w fun e w' => e = .returned (.agg (setC (vS V))) ∧ Ext w w' := by
 rcases hg with ⟨g,bv,be,rfl,h⟩ | ⟨rfl,rfl,rfl⟩
 ·exact vset_rel g bv be V E w h
 ·exact vset_gen _ [] w (by simp) fun W _ => (vertsN W).mono fun e w' h => ⟨none,0,h.1,fun h => absurd rfl h,h.2⟩
end Go.Proofs.YtoacpebmhbkmbaaGreatDoor
