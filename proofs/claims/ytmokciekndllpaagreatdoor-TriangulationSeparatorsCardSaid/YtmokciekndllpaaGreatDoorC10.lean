/- Parts of a proof, laid together. Each part says its own conditions. -/
import Derived.Test.YtmokciekndllpaaGreatDoorC9
import Derived.Test.YtmokciekndllpaaGreatDoorC7
import Derived.Test.YtmokciekndllpaaGreatDoorC1
namespace Go.Proofs.YtmokciekndllpaaGreatDoor
open Go Go.RowKit
def refV (op u lab wt : Int) (V : List (Int × Thing)) : List (Int × Thing) := if op = 0 then insF (gtV (u,(lab,wt))) (u,(lab,wt)) V else if op = 2 then V else V.flatMap (fV op u lab wt)
def refE (op u v lab wt : Int) (E : List ((Int × Int) × Thing)) : List ((Int × Int) × Thing) :=
 if op = 0 then E else if op = 2 then insF (gtE ((min u v,max u v),(lab,wt))) ((min u v,max u v),(lab,wt)) E else E.zipIdx.flatMap (fE op u lab wt (posD op u v E))
structure GInv (V : List (Int × Thing)) (E : List ((Int × Int) × Thing)) : Prop where
 sv : V.Pairwise ltV
 se : E.Pairwise ltE
 lo : ∀ e ∈ E,e.1.1 < e.1.2
 ends : ∀ e ∈ E,(∃ t,(e.1.1,t) ∈ V) ∧ ∃ t,(e.1.2,t) ∈ V
 ids : ∀ p ∈ V,idB p.1 = true
 wv : ∀ p ∈ V,heavyB p.2.2 = false
 we : ∀ e ∈ E,heavyB e.2.2 = false
 ne : E.length ≤ 1024
theorem GInv.nil : GInv [] [] := ⟨.nil, .nil,by simp,by simp,by simp,by simp,by simp,by simp⟩
theorem inc_len : ∀ (l : List Int) (a : Int),(∀ x ∈ l,a ≤ x ∧ x < 1024) → l.Pairwise (· < ·) → (l.length : Int) ≤ max 0 (1024 - a)
 | [],_,_,_ => by simp; omega
 | x :: l,a,h,hp => by
  obtain ⟨h1,h2⟩ := List.pairwise_cons.1 hp
  have hx := h x List.mem_cons_self
  have := inc_len l (x + 1) (fun y hy => ⟨by have := h1 y hy; omega,(h y (List.mem_cons_of_mem _ hy)).2⟩) h2
  simp only [List.length_cons]
  omega
theorem GInv.nv {V : List (Int × Thing)} {E : List ((Int × Int) × Thing)} (h : GInv V E) : V.length ≤ 1024 := by
 have h1 := inc_len (V.map (·.1)) 0 (fun x hx => by
  obtain ⟨p,hp,rfl⟩ := List.mem_map.1 hx
  have := h.ids p hp
  unfold idB at this
  simpa using this) (List.pairwise_map.2 (h.sv.imp fun hab => hab))
 simp only [List.length_map] at h1
 omega
theorem sv_nodup {V : List (Int × Thing)} (h : V.Pairwise ltV) : (V.map (·.1)).Nodup := List.pairwise_map.2 (h.imp fun {a b} hab e => by unfold ltV at hab; omega)
theorem se_nodup {E : List ((Int × Int) × Thing)} (h : E.Pairwise ltE) : (E.map (·.1)).Nodup := List.pairwise_map.2 (h.imp fun {a b} hab e => by unfold ltE at hab; rw [e] at hab; omega)
theorem posI_nonneg {α : Type} {p : α → Bool} {xs : List α} : 0 ≤ posI p xs ↔ ∃ x ∈ xs,p x = true := by
 unfold posI
 cases h : xs.findIdx? p with
 | none =>
  rw [List.findIdx?_eq_none_iff] at h
  constructor
  ·intro h1; simp at h1
  ·rintro ⟨x,hx,hp⟩; rw [h x hx] at hp; cases hp
 | some i =>
  obtain ⟨hi,hp,_⟩ := List.findIdx?_eq_some_iff_getElem.1 h
  exact ⟨fun _ => ⟨_,List.getElem_mem hi,hp⟩,fun _ => by simp⟩
theorem lookM_isSome {κ τ : Type} [DecidableEq κ] {m : List (κ × τ)} {x : κ} : (lookM m x).isSome = true ↔ ∃ p ∈ m,p.1 = x := by
 cases h : lookM m x with
 | none => simp only [Option.isSome_none,Bool.false_eq_true,false_iff]; rintro ⟨p,hp,e⟩; exact lookM_none.1 h p hp e
 | some v =>
  simp only [Option.isSome_some,true_iff]
  apply Classical.byContradiction
  intro hn
  have h2 : lookM m x = none := lookM_none.2 fun p hp e => hn ⟨p,hp,e⟩
  rw [h2] at h; cases h
theorem hasV_look {u : Int} {V : List (Int × Thing)} : hasV u V = (lookM V u).isSome := by
 rw [Bool.eq_iff_iff,lookM_isSome]
 unfold hasV
 rw [decide_eq_true_iff,posI_nonneg]
 simp
theorem isE_iff {u v : Int} {q : (Int × Int) × Thing} (h : q.1.1 < q.1.2) : isE u v q = true ↔ q.1 = (min u v,max u v) := by
 obtain ⟨⟨a,b⟩,t⟩ := q
 simp only [isE,Bool.or_eq_true,Bool.and_eq_true,beq_iff_eq,Prod.mk.injEq] at *
 omega
theorem hasE_look {u v : Int} {E : List ((Int × Int) × Thing)} (hlo : ∀ e ∈ E,e.1.1 < e.1.2) : hasE u v E = (lookM E (min u v,max u v)).isSome := by
 rw [Bool.eq_iff_iff,lookM_isSome]
 unfold hasE
 rw [decide_eq_true_iff,posI_nonneg]
 exact ⟨fun ⟨x,hx,hp⟩ => ⟨x,hx,(isE_iff (hlo x hx)).1 hp⟩,fun ⟨x,hx,hp⟩ => ⟨x,hx,(isE_iff (hlo x hx)).2 hp⟩⟩
theorem pos_iff {u v : Int} {E : List ((Int × Int) × Thing)} (hlo : ∀ e ∈ E,e.1.1 < e.1.2) (hn : (E.map (·.1)).Nodup) {x : (Int × Int) × Thing} {i : Nat} (hx : (x,i) ∈ E.zipIdx) :
  (i : Int) = posI (isE u v) E ↔ x.1 = (min u v,max u v) := by
 rw [List.mk_mem_zipIdx_iff_getElem?] at hx
 obtain ⟨hi,hxi⟩ := List.getElem?_eq_some_iff.1 hx
 have hm : x ∈ E := hxi ▸ List.getElem_mem hi
 rw [← isE_iff (hlo x hm)]
 unfold posI
 cases h : E.findIdx? (isE u v) with
 | none =>
  rw [List.findIdx?_eq_none_iff] at h
  simp only [h x hm,Bool.false_eq_true,iff_false]
  omega
 | some j =>
  obtain ⟨hj,hp,_⟩ := List.findIdx?_eq_some_iff_getElem.1 h
  constructor
  ·intro e
   have e : i = j := Int.ofNat.inj e
   subst e
   rw [← hxi]; exact hp
  ·intro hpx
   have h1 := (isE_iff (hlo x hm)).1 hpx
   have h2 := (isE_iff (hlo _ (List.getElem_mem hj))).1 hp
   have h3 : (E.map (·.1))[i]'(by simpa using hi) = (E.map (·.1))[j]'(by simpa using hj) := by
    simp only [List.getElem_map,hxi,h1,h2]
   have hpw := List.pairwise_iff_getElem.1 hn
   rcases Nat.lt_trichotomy i j with h | h | h
   ·exact absurd h3 (hpw i j (by simpa using hi) (by simpa using hj) h)
   ·simp [h]
   ·exact absurd h3.symm (hpw j i (by simpa using hj) (by simpa using hi) h)
theorem has_ends {u v : Int} {V : List (Int × Thing)} {E : List ((Int × Int) × Thing)} (hi : GInv V E) (h : hasE u v E = true) : hasV u V = true ∧ hasV v V = true := by
 rw [hasE_look hi.lo,lookM_isSome] at h
 obtain ⟨p,hp,e⟩ := h
 obtain ⟨⟨t,ht⟩,⟨s,hs⟩⟩ := hi.ends p hp
 rw [e] at ht hs
 rw [hasV_look,hasV_look,lookM_isSome,lookM_isSome]
 simp only at ht hs
 rcases Int.le_total u v with h | h
 ·rw [Int.min_eq_left h] at ht; rw [Int.max_eq_right h] at hs
  exact ⟨⟨_,ht,rfl⟩,⟨_,hs,rfl⟩⟩
 ·rw [Int.min_eq_right h] at ht; rw [Int.max_eq_left h] at hs
  exact ⟨⟨_,hs,rfl⟩,⟨_,ht,rfl⟩⟩
theorem op_cases {op : Int} (h : w1B op = false) : op = 0 ∨ op = 1 ∨ op = 2 ∨ op = 3 ∨ op = 4 ∨ op = 5 ∨ op = 6 ∨ op = 7 := by
 unfold w1B at h
 simp at h
 omega
theorem err_eq (op u v wt : Int) {V SV : List (Int × Thing)} {E SE : List ((Int × Int) × Thing)} (hV : SV.Perm V) (hE : SE.Perm E) (hi : GInv SV SE) : errG op u v wt V E = wrongR op u v wt SV SE := by
 unfold errG
 rw [← lookM_perm (sv_nodup hi.sv) hV, ← lookM_perm (sv_nodup hi.sv) hV, ← lookM_perm (se_nodup hi.se) hE, ← hasV_look, ← hasV_look, ← hasE_look hi.lo, ← hE.length_eq]
 have he := has_ends (u := u) (v := v) hi
 unfold wrongF wrongR
 generalize hasV u SV = iu at *
 generalize hasV v SV = iv at *
 generalize hasE u v SE = ie at *
 generalize SE.length = n at *
 by_cases h1 : w1B op = true
 ·rw [if_pos h1,if_pos h1]
 by_cases h2 : w2B op u v wt = true
 ·rw [if_neg h1,if_neg h1,if_pos h2,if_pos h2]
 by_cases h3 : w3B op u v = true
 ·rw [if_neg h1,if_neg h1,if_neg h2,if_neg h2,if_pos h3,if_pos h3]
 rw [if_neg h1,if_neg h1,if_neg h2,if_neg h2,if_neg h3,if_neg h3]
 have h1' := op_cases (by simpa using h1)
 clear h1 h2 h3
 rcases h1' with rfl | rfl | rfl | rfl | rfl | rfl | rfl | rfl <;> cases iu <;> cases iv <;> cases ie <;> simp [w4B,w5B,w6B,w7B,w8B,pairsB] at he ⊢
section
variable {κ τ : Type}
theorem flat_filter {l : List κ} {f : κ → List κ} {p : κ → Bool} (h : ∀ x ∈ l,f x = if p x = true then [x] else []) : l.flatMap f = l.filter p := by
 induction l with
 | nil => rfl
 | cons x l ih =>
  rw [List.flatMap_cons,h x List.mem_cons_self,ih (fun y hy => h y (List.mem_cons_of_mem _ hy)),List.filter_cons]
  split <;> simp
theorem flat_map {l : List κ} {f : κ → List τ} {g : κ → τ} (h : ∀ x ∈ l,f x = [g x]) : l.flatMap f = l.map g := by
 induction l with
 | nil => rfl
 | cons x l ih => rw [List.flatMap_cons,h x List.mem_cons_self,ih (fun y hy => h y (List.mem_cons_of_mem _ hy))]; rfl
theorem flat_zip {l : List κ} {f : κ × Nat → List τ} {g : κ → List τ} (h : ∀ x i,(x,i) ∈ l.zipIdx → f (x,i) = g x) : l.zipIdx.flatMap f = l.flatMap g := by
 have h1 : l.zipIdx.flatMap f = l.zipIdx.flatMap (fun q => g q.1) := by
  rw [List.flatMap_def,List.flatMap_def]
  congr 1
  exact List.map_congr_left fun q hq => h q.1 q.2 hq
 have h2 : l.zipIdx.flatMap (fun q => g q.1) = (l.zipIdx.map (·.1)).flatMap g := by rw [List.flatMap_map]
 rw [h1,h2,show l.zipIdx.map (·.1) = l from List.zipIdx_map_fst 0 l]
end
section
variable {κ τ : Type} [DecidableEq κ]
theorem putM_perm {m m' : List (κ × τ)} (hn : (m.map (·.1)).Nodup) (hp : m.Perm m') (x : κ) (v : τ) : (putM m x v).Perm (putM m' x v) := by
 unfold putM
 rw [lookM_perm hn hp x]
 split
 ·exact hp.map _
 ·exact hp.append_right _
theorem delM_perm {m m' : List (κ × τ)} (hp : m.Perm m') (x : κ) : (delM m x).Perm (delM m' x) := hp.filter _
theorem putM_new {m : List (κ × τ)} {x : κ} {v : τ} (h : (lookM m x).isSome = false) : putM m x v = m ++ [(x,v)] := by
 unfold putM; rw [h]; rfl
theorem putM_old {m : List (κ × τ)} {x : κ} {v : τ} (h : (lookM m x).isSome = true) : putM m x v = m.map fun p => if p.1 = x then (x,v) else p := by
 unfold putM; rw [if_pos h]
end
theorem doV_perm (op u lab wt : Int) {V SV : List (Int × Thing)} (hV : SV.Perm V) (hn : (SV.map (·.1)).Nodup) : (doV op u lab wt SV).Perm (doV op u lab wt V) := by
 unfold doV
 rw [lookM_perm hn hV u]
 split
 ·exact putM_perm hn hV _ _
 ·split
  ·exact delM_perm hV _
  ·split
   ·exact putM_perm hn hV _ _
   ·split
    ·exact putM_perm hn hV _ _
    ·exact hV
theorem doE_perm (op u v lab wt : Int) {E SE : List ((Int × Int) × Thing)} (hE : SE.Perm E) (hn : (SE.map (·.1)).Nodup) : (doE op u v lab wt SE).Perm (doE op u v lab wt E) := by
 unfold doE
 rw [lookM_perm hn hE]
 split
 ·exact hE.filter _
 ·split
  ·exact putM_perm hn hE _ _
  ·split
   ·exact delM_perm hE _
   ·split
    ·exact putM_perm hn hE _ _
    ·split
     ·exact putM_perm hn hE _ _
     ·exact hE
def insP {α : Type} (gt : α → Bool) (x : α) : List α → List α
 | [] => [x]
 | y :: l => if gt y = true then x :: y :: l else y :: insP gt x l
theorem insS_done {α : Type} (gt : α → Bool) (x : α) : ∀ (l o : List α),l.foldl (insS gt x) (true,o) = (true,o ++ l)
 | [],o => by simp
 | y :: l,o => by
  rw [List.foldl_cons]
  have : insS gt x (true,o) y = (true,o ++ [y]) := by simp [insS]
  rw [this,insS_done gt x l]
  simp
theorem insS_go {α : Type} (gt : α → Bool) (x : α) : ∀ (l o : List α),(if (l.foldl (insS gt x) (false,o)).1 = true then (l.foldl (insS gt x) (false,o)).2 else (l.foldl (insS gt x) (false,o)).2 ++ [x]) = o ++ insP gt x l
 | [],o => by simp [insP]
 | y :: l,o => by
  rw [List.foldl_cons]
  by_cases h : gt y = true
  ·have : insS gt x (false,o) y = (true,o ++ [x] ++ [y]) := by simp [insS,h]
   rw [this,insS_done]
   simp [insP,h]
  ·have : insS gt x (false,o) y = (false,o ++ [y]) := by simp [insS,h]
   rw [this,insS_go gt x l]
   simp [insP,h]
theorem insF_eq {α : Type} (gt : α → Bool) (x : α) (l : List α) : insF gt x l = insP gt x l := by
 have := insS_go gt x l []
 simpa [insF] using this
theorem insP_perm {α : Type} (gt : α → Bool) (x : α) : ∀ l : List α,(insP gt x l).Perm (l ++ [x])
 | [] => List.Perm.refl _
 | y :: l => by
  unfold insP
  split
  ·exact (List.perm_append_comm (l₁ := [x]) (l₂ := y :: l))
  ·exact (insP_perm gt x l).cons y
theorem insP_sorted {α : Type} {gt : α → Bool} {lt : α → α → Prop} (ht : ∀ a b c,lt a b → lt b c → lt a c) {x : α} (h1 : ∀ y,gt y = true → lt x y) : ∀ (l : List α),(∀ y ∈ l,gt y = true ∨ lt y x) → l.Pairwise lt → (insP gt x l).Pairwise lt
 | [],_,_ => by simp [insP]
 | y :: l,hc,hl => by
  obtain ⟨h2,h3⟩ := List.pairwise_cons.1 hl
  unfold insP
  split
  ·rename_i hg
   refine List.pairwise_cons.2 ⟨fun z hz => ?_,hl⟩
   rcases List.mem_cons.1 hz with rfl | hz
   ·exact h1 _ hg
   ·exact ht _ _ _ (h1 _ hg) (h2 z hz)
  ·rename_i hg
   refine List.pairwise_cons.2 ⟨fun z hz => ?_,insP_sorted ht h1 l (fun z hz => hc z (List.mem_cons_of_mem _ hz)) h3⟩
   have hz := (insP_perm gt x l).mem_iff.1 hz
   rcases List.mem_append.1 hz with hz | hz
   ·exact h2 z hz
   ·rw [List.mem_singleton.1 hz]
    exact (hc y List.mem_cons_self).resolve_left hg
theorem ltV_trans (a b c : Int × Thing) : ltV a b → ltV b c → ltV a c := by unfold ltV; omega
theorem ltE_trans (a b c : (Int × Int) × Thing) : ltE a b → ltE b c → ltE a c := by unfold ltE; omega
theorem refV_do {op u lab wt : Int} {V : List (Int × Thing)} (hn : (V.map (·.1)).Nodup) (h : op = 0 ∧ (lookM V u).isSome = false ∨ op = 1 ∨ op = 2 ∨ op = 3 ∨ (op = 4 ∨ op = 5) ∧ (lookM V u).isSome = true ∨ op = 6 ∨ op = 7) : (refV op u lab wt V).Perm (doV op u lab wt V) := by
 have same : ∀ op,op ≠ 1 → op ≠ 4 → op ≠ 5 → V.flatMap (fV op u lab wt) = V := fun op h1 h4 h5 => by
  rw [flat_map (g := id) (fun x _ => by simp [fV,h1,h4,h5])]
  simp
 have val : ∀ x ∈ V,x.1 = u → (lookM V u).getD (0,0) = x.2 := fun x hx e => by
  have : lookM V u = some x.2 := (lookM_some hn).2 (by rw [← e]; exact hx)
  rw [this]; rfl
 rcases h with ⟨rfl,h⟩ | rfl | rfl | rfl | ⟨rfl | rfl,h⟩ | rfl | rfl
 ·simp only [refV,doV,if_true]
  rw [insF_eq,putM_new h]
  exact insP_perm _ _ _
 ·simp only [refV,doV]
  rw [flat_filter (p := fun p => decide (p.1 ≠ u)) (fun x _ => by by_cases hh : x.1 = u <;> simp [fV,hh])]
  exact List.Perm.refl _
 ·simp [refV,doV]
 ·simp [refV,doV,same]
 ·simp only [refV,doV,Int.reduceEq,if_false,if_true]
  rw [putM_old h,flat_map (g := fun p => if p.1 = u then (u,(lab,((lookM V u).getD (0,0)).2)) else p) (fun x hx => by
   by_cases hh : x.1 = u
   ·simp only [fV,Int.reduceEq,false_and,hh,and_self,if_true,if_false,val x hx hh]
   ·simp [fV,hh])]
 ·simp only [refV,doV,Int.reduceEq,if_false,if_true]
  rw [putM_old h,flat_map (g := fun p => if p.1 = u then (u,(((lookM V u).getD (0,0)).1,wt)) else p) (fun x hx => by
   by_cases hh : x.1 = u
   ·simp only [fV,Int.reduceEq,false_and,hh,and_self,if_true,if_false,val x hx hh]
   ·simp [fV,hh])]
 ·simp [refV,doV,same]
 ·simp [refV,doV,same]
theorem refE_do {op u v lab wt : Int} {E : List ((Int × Int) × Thing)} (hlo : ∀ e ∈ E,e.1.1 < e.1.2) (hn : (E.map (·.1)).Nodup)
  (h : op = 0 ∨ op = 1 ∨ op = 2 ∧ (lookM E (min u v,max u v)).isSome = false ∨ op = 3 ∨ op = 4 ∨ op = 5 ∨ (op = 6 ∨ op = 7) ∧ (lookM E (min u v,max u v)).isSome = true) : (refE op u v lab wt E).Perm (doE op u v lab wt E) := by
 have same : ∀ op pos,op ≠ 1 → op ≠ 3 → op ≠ 6 → op ≠ 7 → E.zipIdx.flatMap (fE op u lab wt pos) = E := fun op pos h1 h3 h6 h7 => by
  rw [flat_zip (g := fun x => [x]) (fun x i _ => by simp [fE,h1,h3,h6,h7])]
  simp
 have val : ∀ x ∈ E,x.1 = (min u v,max u v) → (lookM E (min u v,max u v)).getD (0,0) = x.2 := fun x hx e => by
  have : lookM E (min u v,max u v) = some x.2 := (lookM_some hn).2 (by rw [← e]; exact hx)
  rw [this]; rfl
 rcases h with rfl | rfl | ⟨rfl,h⟩ | rfl | rfl | rfl | ⟨rfl | rfl,h⟩
 ·simp [refE,doE]
 ·simp only [refE,doE,Int.reduceEq,if_false,if_true]
  rw [flat_zip (g := fun x => if (!atB u x.1) = true then [x] else []) (fun x i _ => by
   by_cases h1 : x.1.1 = u <;> by_cases h2 : x.1.2 = u <;> simp [fE,atB,h1,h2]),flat_filter (fun x _ => rfl)]
 ·simp only [refE,doE,Int.reduceEq,if_false,if_true]
  rw [insF_eq,putM_new h]
  exact insP_perm _ _ _
 ·simp only [refE,doE,Int.reduceEq,if_false,if_true]
  rw [flat_zip (g := fun x => if (decide (x.1 ≠ (min u v,max u v))) = true then [x] else []) (fun x i hx => by
   have hp := pos_iff (u := u) (v := v) hlo hn hx
   rw [show posD 3 u v E = posI (isE u v) E from by simp [posD,pairsB]]
   by_cases hh : x.1 = (min u v,max u v)
   ·simp [fE,hp.2 hh,hh]
   ·have : ¬ ((i : Int) = posI (isE u v) E) := fun e => hh (hp.1 e)
    simp [fE,hh,this]),flat_filter (fun x _ => rfl)]
  exact List.Perm.refl _
 ·simp [refE,doE,same]
 ·simp [refE,doE,same]
 ·simp only [refE,doE,Int.reduceEq,if_false,if_true]
  rw [putM_old h,flat_zip (g := fun p => [if p.1 = (min u v,max u v) then ((min u v,max u v),(lab,((lookM E (min u v,max u v)).getD (0,0)).2)) else p]) (fun x i hx => by
   have hp := pos_iff (u := u) (v := v) hlo hn hx
   have hm : x ∈ E := List.mem_of_getElem? ((List.mk_mem_zipIdx_iff_getElem?).1 hx)
   rw [show posD 6 u v E = posI (isE u v) E from by simp [posD,pairsB]]
   by_cases hh : x.1 = (min u v,max u v)
   ·simp only [fE,Int.reduceEq,false_and,hp.2 hh,and_self,if_true,if_false,hh,val x hm hh]
   ·have : ¬ ((i : Int) = posI (isE u v) E) := fun e => hh (hp.1 e)
    simp [fE,hh,this]),flat_map (fun x _ => rfl)]
 ·simp only [refE,doE,Int.reduceEq,if_false,if_true]
  rw [putM_old h,flat_zip (g := fun p => [if p.1 = (min u v,max u v) then ((min u v,max u v),(((lookM E (min u v,max u v)).getD (0,0)).1,wt)) else p]) (fun x i hx => by
   have hp := pos_iff (u := u) (v := v) hlo hn hx
   have hm : x ∈ E := List.mem_of_getElem? ((List.mk_mem_zipIdx_iff_getElem?).1 hx)
   rw [show posD 7 u v E = posI (isE u v) E from by simp [posD,pairsB]]
   by_cases hh : x.1 = (min u v,max u v)
   ·simp only [fE,Int.reduceEq,false_and,hp.2 hh,and_self,if_true,if_false,hh,val x hm hh]
   ·have : ¬ ((i : Int) = posI (isE u v) E) := fun e => hh (hp.1 e)
    simp [fE,hh,this]),flat_map (fun x _ => rfl)]
theorem wrongR_0_iff {op u v wt : Int} {V : List (Int × Thing)} {E : List ((Int × Int) × Thing)} (h : wrongR op u v wt V E = 0) :
  (op = 0 ∨ op = 1 ∨ op = 2 ∨ op = 3 ∨ op = 4 ∨ op = 5 ∨ op = 6 ∨ op = 7) ∧ w2B op u v wt = false ∧ w3B op u v = false ∧ (op = 0 → hasV u V = false) ∧ (op ≠ 0 → hasV u V = true) ∧ (op = 2 → hasV v V = true ∧ hasE u v E = false ∧ E.length < 1024) ∧ (op = 3 ∨ op = 6 ∨ op = 7 → hasE u v E = true) := by
 unfold wrongR at h
 by_cases h1 : w1B op = true
 ·rw [if_pos h1] at h; cases h
 rw [if_neg h1] at h
 by_cases h2 : w2B op u v wt = true
 ·rw [if_pos h2] at h; cases h
 rw [if_neg h2] at h
 by_cases h3 : w3B op u v = true
 ·rw [if_pos h3] at h; cases h
 rw [if_neg h3] at h
 have h1' := op_cases (by simpa using h1)
 refine ⟨h1',by simpa using h2,by simpa using h3, ?_⟩
 clear h1 h2 h3
 generalize hasV u V = iu at *
 generalize hasV v V = iv at *
 generalize hasE u v E = ie at *
 generalize E.length = n at *
 rcases h1' with rfl | rfl | rfl | rfl | rfl | rfl | rfl | rfl <;> cases iu <;> cases iv <;> cases ie <;> simp [pairsB] at h ⊢
 exact h
theorem flat_sub {α β : Type} {f : α → List α} {g : α → β} (h : ∀ x,((f x).map g).Sublist [g x]) : ∀ l : List α,((l.flatMap f).map g).Sublist (l.map g)
 | [] => by simp
 | x :: l => by
  rw [List.flatMap_cons,List.map_append,List.map_cons]
  exact (h x).append (flat_sub h l)
theorem sv_map {V : List (Int × Thing)} : V.Pairwise ltV ↔ (V.map (·.1)).Pairwise (· < ·) := by
 rw [List.pairwise_map]; exact Iff.rfl
def ltK (a b : Int × Int) : Prop := a.1 < b.1 ∨ a.1 = b.1 ∧ a.2 < b.2
theorem se_map {E : List ((Int × Int) × Thing)} : E.Pairwise ltE ↔ (E.map (·.1)).Pairwise ltK := by
 rw [List.pairwise_map]; exact Iff.rfl
theorem fV_sub (op u lab wt : Int) (x : Int × Thing) : ((fV op u lab wt x).map (·.1)).Sublist [x.1] := by
 unfold fV
 repeat' split
 all_goals simp
theorem fV_mem {op u lab wt : Int} {x y : Int × Thing} (h : y ∈ fV op u lab wt x) : y.1 = x.1 ∧ (y.2.2 = x.2.2 ∨ op = 5 ∧ y.2.2 = wt) := by
 unfold fV at h
 by_cases h1 : op = 1 ∧ x.1 = u
 ·rw [if_pos h1] at h; simp at h
 rw [if_neg h1] at h
 by_cases h2 : op = 4 ∧ x.1 = u
 ·rw [if_pos h2] at h; simp at h; subst h; exact ⟨rfl, .inl rfl⟩
 rw [if_neg h2] at h
 by_cases h3 : op = 5 ∧ x.1 = u
 ·rw [if_pos h3] at h; simp at h; subst h; exact ⟨rfl, .inr ⟨h3.1,rfl⟩⟩
 rw [if_neg h3] at h; simp at h; subst h; exact ⟨rfl, .inl rfl⟩
theorem fV_has {op u lab wt : Int} {x : Int × Thing} (h : ¬ (op = 1 ∧ x.1 = u)) : ∃ t,(x.1,t) ∈ fV op u lab wt x := by
 unfold fV
 rw [if_neg h]
 by_cases h2 : op = 4 ∧ x.1 = u
 ·rw [if_pos h2]; exact ⟨_,List.mem_singleton.2 rfl⟩
 rw [if_neg h2]
 by_cases h3 : op = 5 ∧ x.1 = u
 ·rw [if_pos h3]; exact ⟨_,List.mem_singleton.2 rfl⟩
 rw [if_neg h3]; exact ⟨_,List.mem_singleton.2 rfl⟩
theorem fE_sub (op u lab wt pos : Int) (x : ((Int × Int) × Thing) × Nat) : ((fE op u lab wt pos x).map (·.1)).Sublist [x.1.1] := by
 unfold fE
 repeat' split
 all_goals simp
theorem fE_mem {op u lab wt pos : Int} {x : ((Int × Int) × Thing) × Nat} {y : (Int × Int) × Thing} (h : y ∈ fE op u lab wt pos x) : y.1 = x.1.1 ∧ (y.2.2 = x.1.2.2 ∨ op = 7 ∧ y.2.2 = wt) ∧ ¬ (op = 1 ∧ (y.1.1 = u ∨ y.1.2 = u)) := by
 unfold fE at h
 by_cases h1 : op = 1 ∧ (x.1.1.1 = u ∨ x.1.1.2 = u)
 ·rw [if_pos h1] at h; simp at h
 rw [if_neg h1] at h
 by_cases h2 : op = 3 ∧ (x.2 : Int) = pos
 ·rw [if_pos h2] at h; simp at h
 rw [if_neg h2] at h
 by_cases h3 : op = 6 ∧ (x.2 : Int) = pos
 ·rw [if_pos h3] at h; simp at h; subst h; exact ⟨rfl, .inl rfl,h1⟩
 rw [if_neg h3] at h
 by_cases h4 : op = 7 ∧ (x.2 : Int) = pos
 ·rw [if_pos h4] at h; simp at h; subst h; exact ⟨rfl, .inr ⟨h4.1,rfl⟩,h1⟩
 rw [if_neg h4] at h; simp at h; subst h; exact ⟨rfl, .inl rfl,h1⟩
theorem flatE_sub (op u lab wt pos : Int) (l : List ((Int × Int) × Thing)) : ((l.zipIdx.flatMap (fE op u lab wt pos)).map (·.1)).Sublist (l.map (·.1)) := by
 have h : ∀ (l : List (((Int × Int) × Thing) × Nat)),((l.flatMap (fE op u lab wt pos)).map (·.1)).Sublist (l.map (·.1.1)) := by
  intro l
  induction l with
  | nil => simp
  | cons x l ih =>
   rw [List.flatMap_cons,List.map_append,List.map_cons]
   exact (fE_sub op u lab wt pos x).append ih
 have := h l.zipIdx
 rwa [show l.zipIdx.map (·.1.1) = l.map (·.1) from by
  rw [show (fun x : ((Int × Int) × Thing) × Nat => x.1.1) = (·.1) ∘ (·.1) from rfl, ← List.map_map,List.zipIdx_map_fst]] at this
theorem w2B_wt {op u v wt : Int} (h : w2B op u v wt = false) (ho : weighsB op = true) : heavyB wt = false := by
 unfold w2B at h; simp [ho] at h; exact h.2
theorem w2B_u {op u v wt : Int} (h : w2B op u v wt = false) : idB u = true := by
 unfold w2B at h; simp at h; exact h.1.1
theorem mem_insF {α : Type} {gt : α → Bool} {x y : α} {l : List α} : y ∈ insF gt x l ↔ y ∈ l ∨ y = x := by
 rw [insF_eq,(insP_perm gt x l).mem_iff]; simp
theorem GInv.step {op u v lab wt : Int} {V : List (Int × Thing)} {E : List ((Int × Int) × Thing)} (hi : GInv V E) (h0 : wrongR op u v wt V E = 0) : GInv (refV op u lab wt V) (refE op u v lab wt E) := by
 obtain ⟨hop,h2,h3,k0,k1,k2,k3⟩ := wrongR_0_iff h0
 by_cases ho0 : op = 0
 ·subst ho0
  have hno := k0 rfl
  have hnew : ∀ y ∈ V,y.1 ≠ u := fun y hy e => by
   rw [hasV_look] at hno
   have := lookM_isSome.2 ⟨y,hy,e⟩
   rw [hno] at this; cases this
  have eV : refV 0 u lab wt V = insF (gtV (u,(lab,wt))) (u,(lab,wt)) V := rfl
  have eE : refE 0 u v lab wt E = E := rfl
  rw [eV,eE]
  refine ⟨?_,hi.se,hi.lo,fun e he => ?_,fun p hp => ?_,fun p hp => ?_,hi.we,hi.ne⟩
  ·rw [insF_eq]
   exact insP_sorted ltV_trans (fun y hy => by unfold gtV at hy; unfold ltV; simpa using hy) V (fun y hy => by
    have := hnew y hy
    unfold gtV ltV
    simp only [decide_eq_true_eq]
    omega) hi.sv
  ·obtain ⟨⟨t,ht⟩,⟨s,hs⟩⟩ := hi.ends e he
   exact ⟨⟨t,mem_insF.2 (.inl ht)⟩,⟨s,mem_insF.2 (.inl hs)⟩⟩
  ·rcases mem_insF.1 hp with hp | rfl
   ·exact hi.ids p hp
   ·exact w2B_u h2
  ·rcases mem_insF.1 hp with hp | rfl
   ·exact hi.wv p hp
   ·exact w2B_wt h2 rfl
 by_cases ho2 : op = 2
 ·subst ho2
  obtain ⟨kv,ke,kl⟩ := k2 rfl
  have ku := k1 (by decide)
  have eV : refV 2 u lab wt V = V := rfl
  have eE : refE 2 u v lab wt E = insF (gtE ((min u v,max u v),(lab,wt))) ((min u v,max u v),(lab,wt)) E := rfl
  rw [eV,eE]
  have hne : u ≠ v := by
   intro e
   subst e
   simp [w3B,pairsB] at h3
  have hnew : ∀ y ∈ E,y.1 ≠ (min u v,max u v) := fun y hy e => by
   rw [hasE_look hi.lo] at ke
   have := lookM_isSome.2 ⟨y,hy,e⟩
   rw [ke] at this; cases this
  refine ⟨hi.sv, ?_,fun e he => ?_,fun e he => ?_,hi.ids,hi.wv,fun e he => ?_,by rw [insF_eq,(insP_perm _ _ _).length_eq]; simp; omega⟩
  ·rw [insF_eq]
   refine insP_sorted ltE_trans (fun y hy => ?_) E (fun y hy => ?_) hi.se
   ·unfold gtE at hy
    simp only [Bool.or_eq_true,decide_eq_true_eq,Bool.and_eq_true,beq_iff_eq] at hy
    unfold ltE
    rcases hy with h | ⟨h,h'⟩
    ·exact .inl h
    ·exact .inr ⟨h.symm,h'⟩
   ·have := hnew y hy
    obtain ⟨⟨a,b⟩,t⟩ := y
    unfold gtE ltE
    simp only [Bool.or_eq_true,decide_eq_true_eq,Bool.and_eq_true,beq_iff_eq,Prod.mk.injEq,ne_eq,not_and] at this ⊢
    omega
  ·rcases mem_insF.1 he with he | rfl
   ·exact hi.lo e he
   ·simp only; omega
  ·rcases mem_insF.1 he with he | rfl
   ·exact hi.ends e he
   ·rw [hasV_look,lookM_isSome] at ku kv
    obtain ⟨⟨a,s⟩,hp,rfl⟩ := ku
    obtain ⟨⟨b,t⟩,hq,rfl⟩ := kv
    simp only at *
    rcases Int.le_total a b with h | h
    ·rw [Int.min_eq_left h,Int.max_eq_right h]; exact ⟨⟨_,hp⟩,⟨_,hq⟩⟩
    ·rw [Int.min_eq_right h,Int.max_eq_left h]; exact ⟨⟨_,hq⟩,⟨_,hp⟩⟩
  ·rcases mem_insF.1 he with he | rfl
   ·exact hi.we e he
   ·exact w2B_wt h2 rfl
 have eV : refV op u lab wt V = V.flatMap (fV op u lab wt) := by simp [refV,ho0,ho2]
 have eE : refE op u v lab wt E = E.zipIdx.flatMap (fE op u lab wt (posD op u v E)) := by simp [refE,ho0,ho2]
 rw [eV,eE]
 have hmE : ∀ e ∈ E.zipIdx.flatMap (fE op u lab wt (posD op u v E)), ∃ x ∈ E,e.1 = x.1 ∧ (e.2.2 = x.2.2 ∨ op = 7 ∧ e.2.2 = wt) ∧ ¬ (op = 1 ∧ (e.1.1 = u ∨ e.1.2 = u)) := fun e he => by
  obtain ⟨⟨x,i⟩,hx,hm⟩ := List.mem_flatMap.1 he
  exact ⟨x,List.mem_of_getElem? ((List.mk_mem_zipIdx_iff_getElem?).1 hx),fE_mem hm⟩
 refine ⟨sv_map.2 ((sv_map.1 hi.sv).sublist (flat_sub (fV_sub op u lab wt) V)),se_map.2 ((se_map.1 hi.se).sublist (flatE_sub op u lab wt _ E)),fun e he => ?_,fun e he => ?_,fun p hp => ?_,fun p hp => ?_,fun e he => ?_, ?_⟩
 ·obtain ⟨x,hx,h,_⟩ := hmE e he
  rw [h]; exact hi.lo x hx
 ·obtain ⟨x,hx,h,_,hnot⟩ := hmE e he
  obtain ⟨⟨t,ht⟩,⟨s,hs⟩⟩ := hi.ends x hx
  rw [← h] at ht hs
  obtain ⟨t',ht'⟩ := fV_has (lab := lab) (wt := wt) (x := (e.1.1,t)) (fun hh => hnot ⟨hh.1, .inl hh.2⟩)
  obtain ⟨s',hs'⟩ := fV_has (lab := lab) (wt := wt) (x := (e.1.2,s)) (fun hh => hnot ⟨hh.1, .inr hh.2⟩)
  exact ⟨⟨t',List.mem_flatMap.2 ⟨_,ht,ht'⟩⟩,⟨s',List.mem_flatMap.2 ⟨_,hs,hs'⟩⟩⟩
 ·obtain ⟨x,hx,hm⟩ := List.mem_flatMap.1 hp
  rw [(fV_mem hm).1]; exact hi.ids x hx
 ·obtain ⟨x,hx,hm⟩ := List.mem_flatMap.1 hp
  rcases (fV_mem hm).2 with h | ⟨h,h'⟩
  ·rw [h]; exact hi.wv x hx
  ·rw [h']; subst h; exact w2B_wt h2 rfl
 ·obtain ⟨x,hx,_,h | ⟨h,h'⟩,_⟩ := hmE e he
  ·rw [h]; exact hi.we x hx
  ·rw [h']; subst h; exact w2B_wt h2 rfl
 ·have := (flatE_sub op u lab wt (posD op u v E) E).length_le
  simp only [List.length_map] at this
  have := hi.ne
  omega
theorem step_perm {op u v lab wt : Int} {V SV : List (Int × Thing)} {E SE : List ((Int × Int) × Thing)} (hV : SV.Perm V) (hE : SE.Perm E) (hi : GInv SV SE) (h0 : wrongR op u v wt SV SE = 0) :
  (refV op u lab wt SV).Perm (doV op u lab wt V) ∧ (refE op u v lab wt SE).Perm (doE op u v lab wt E) := by
 obtain ⟨hop,h2,h3,k0,k1,k2,k3⟩ := wrongR_0_iff h0
 have nV := sv_nodup hi.sv
 have nE := se_nodup hi.se
 rw [hasV_look] at k0 k1
 rw [hasE_look hi.lo] at k2 k3
 constructor
 ·refine (refV_do nV ?_).trans (doV_perm _ _ _ _ hV nV)
  rcases hop with rfl | rfl | rfl | rfl | rfl | rfl | rfl | rfl <;> simp at k0 k1 ⊢
  ·exact k0
  ·exact k1
  ·exact k1
 ·refine (refE_do hi.lo nE ?_).trans (doE_perm _ _ _ _ _ hE nE)
  rcases hop with rfl | rfl | rfl | rfl | rfl | rfl | rfl | rfl <;> simp at k2 k3 ⊢
  ·exact k2.2.1
  ·exact k3
  ·exact k3
def nxV (op u v lab wt : Int) (V : List (Int × Thing)) (E : List ((Int × Int) × Thing)) : List (Int × Thing) := if wrongR op u v wt V E = 0 then refV op u lab wt V else V
def nxE (op u v lab wt : Int) (V : List (Int × Thing)) (E : List ((Int × Int) × Thing)) : List ((Int × Int) × Thing) := if wrongR op u v wt V E = 0 then refE op u v lab wt E else E
theorem GInv.next {V : List (Int × Thing)} {E : List ((Int × Int) × Thing)} (op u v lab wt : Int) (hi : GInv V E) : GInv (nxV op u v lab wt V E) (nxE op u v lab wt V E) := by
 unfold nxV nxE
 by_cases h : wrongR op u v wt V E = 0
 ·rw [if_pos h,if_pos h]; exact hi.step h
 ·rw [if_neg h,if_neg h]; exact hi
end Go.Proofs.YtmokciekndllpaaGreatDoor
namespace Go.Proofs.YtmokciekndllpaaGreatDoor
def wdN (N i : Nat) : Nat := (N >>> (64 * i)) % 18446744073709551616
def wd (N i : Nat) : Int := (wdN N i : Int)
theorem wdN_bit (N i k : Nat) : (wdN N i).testBit k = (decide (k < 64) && N.testBit (64 * i + k)) := by
 unfold wdN
 rw [show (18446744073709551616 : Nat) = 2 ^ 64 from rfl,Nat.testBit_mod_two_pow,Nat.testBit_shiftRight]
theorem wdN_lt (N i : Nat) : wdN N i < 18446744073709551616 := Nat.mod_lt _ (by decide)
theorem wdN_one (n i : Nat) : wdN (2 ^ n) i = if i = n / 64 then 2 ^ (n % 64) else 0 := by
 apply Nat.eq_of_testBit_eq
 intro k
 rw [wdN_bit,Nat.testBit_two_pow,Bool.eq_iff_iff]
 by_cases h : i = n / 64
 ·subst h
  rw [if_pos rfl,Nat.testBit_two_pow]
  simp only [Bool.and_eq_true,decide_eq_true_eq]
  omega
 ·rw [if_neg h,Nat.zero_testBit]
  simp only [Bool.and_eq_true,decide_eq_true_eq,Bool.false_eq_true,iff_false]
  omega
theorem wdN_or (N M i : Nat) : wdN (N ||| M) i = wdN N i ||| wdN M i := by
 apply Nat.eq_of_testBit_eq
 intro k
 rw [wdN_bit,Nat.testBit_or,Nat.testBit_or,wdN_bit,wdN_bit]
 cases decide (k < 64) <;> simp
theorem wdN_with (N n i : Nat) : wdN (N ||| 2 ^ n) i = if i = n / 64 then wdN N i ||| 2 ^ (n % 64) else wdN N i := by
 rw [wdN_or,wdN_one]
 split <;> simp
theorem and_one (a k : Nat) : a &&& 2 ^ k = if a.testBit k then 2 ^ k else 0 := by
 apply Nat.eq_of_testBit_eq
 intro j
 rw [Nat.testBit_and,Nat.testBit_two_pow]
 by_cases h : k = j
 ·subst h
  cases hb : a.testBit k <;> simp
 ·have : decide (k = j) = false := by simp [h]
  rw [this,Bool.and_false]
  split
  ·rw [Nat.testBit_two_pow,this]
  ·simp
theorem wdN_has (N n : Nat) : wdN N (n / 64) &&& 2 ^ (n % 64) = if N.testBit n then 2 ^ (n % 64) else 0 := by
 rw [and_one,wdN_bit]
 have h : n % 64 < 64 := by omega
 rw [show 64 * (n / 64) + n % 64 = n by omega]
 simp [h]
end Go.Proofs.YtmokciekndllpaaGreatDoor
namespace Go.Proofs.YtmokciekndllpaaGreatDoor
open Go Go.RowKit
section
variable {P : Program} {ops : Array Oper} {R : World → World → Prop} {C C2 : World → Prop} {safe : Nat → Bool} {Q : Act → World → Prop}
theorem wpX_sub (h : ∀ w,C2 w → C w) : ∀ (n : Nat) (listed : Array Bool) (a : Act) (w : World),wpX P ops R C2 safe Q n listed a w → wpX P ops R C safe Q n listed a w
 | 0,_,_,_,h0 => h0
 | n + 1,_,_,_,h0 => ⟨h0.1,fun i hi => xStep_mono (fun a' _ hk => ⟨fun hs => h _ (hk.1 hs),fun w'' hr => wpX_sub h n _ a' w'' (hk.2 w'' hr)⟩) (h0.2 i hi)⟩
def closedB (ops : Array Oper) (listed : Array Bool) : Bool :=
 (List.range ops.size).all fun j => match ops[j]? with
  | some oj => !listed.getD j false || oj.after.all fun e => !Region.binds .any e || listed.getD e.on false
  | none => true
theorem closed_of {listed : Array Bool} (h : closedB ops listed = true) : Closed ops listed := by
 intro j oj hj hl e he hb
 have h1 := List.all_eq_true.1 h j (List.mem_range.2 (Array.getElem?_eq_some_iff.1 hj).1)
 simp only [hj,hl,Bool.not_true,Bool.false_or] at h1
 have h2 := Array.all_eq_true'.1 h1 e he
 simpa [hb] using h2
def mqB (ops : Array Oper) (qs ts : List Nat) (anc : Nat → List Nat) (listed : Array Bool) : Bool :=
 ancB ops anc && Region.noSelect ops && ts.all (fun t => decide (t < ops.size)) && closedB ops listed && qlLook ops (fun j => !ts.contains j) anc qs listed
theorem lx_ql {l : List Oper} {a : Act} {w : World} (C2 : World → Prop) (qs ts : List Nat) (n m : Nat) (listed listed2 : Array Bool)
  (hB : mqB l.toArray qs ts (ancTab l.toArray) listed = true) (hn : n + qs.length = m) (hlst : qlListed l.toArray qs listed = listed2) (hsub : ∀ w,C2 w → C w)
  (hR : ∀ w,R w w) (hRt : ∀ a b c,R a b → R b c → R a c) (hCR : ∀ w w',C2 w → R w w' → C2 w') (hC : C2 w)
  (h : wpQL P l.toArray R C2 (fun a' => ∀ w',C2 w' → wpX P l.toArray R C2 (fun j => !ts.contains j) Q n listed2 a' w') qs a) : wpX P l.toArray R C (fun j => !ts.contains j) Q m listed a w := by
 subst hlst hn
 simp only [mqB,Bool.and_eq_true] at hB
 obtain ⟨⟨⟨⟨h1,h2⟩,h3⟩,h5⟩,h4⟩ := hB
 refine wpX_sub hsub _ _ _ _ (wpX_ql (ancOk_of h1) (fun j hj => ?_) h2 hR hRt hCR n qs listed a w (closed_of h5) h4 hC h)
 simp only [Bool.not_eq_true',List.contains_eq_mem,decide_eq_false_iff_not]
 intro hin
 have := List.all_eq_true.1 h3 j hin
 simp at this
 simp at hj
 omega
theorem wpX_re {safe2 : Nat → Bool} : ∀ (n : Nat) (listed : Array Bool) (a : Act) (w : World),(∀ i,safe i = true → listed.getD i true = true) → wpX P ops R C2 safe2 Q n listed a w → wpX P ops R C safe Q n listed a w
 | 0,_,_,_,_,h0 => h0
 | n + 1,listed,_,_,hs,h0 => ⟨h0.1,fun i hi => xStep_mono (fun a' _ hk => ⟨fun hsi => absurd ((hs i hsi).symm.trans (mem_ready.1 hi).1) (by simp),fun w'' hr => wpX_re n _ a' w'' (fun j hj => by
    by_cases hij : i = j
    ·subst hij
     rcases Nat.lt_or_ge i listed.size with h | h
     ·simp [h]
     ·simp [h]
    ·rw [getD_set_ne true hij]; exact hs j hj) (hk.2 w'' hr)⟩) (h0.2 i hi)⟩
theorem lx_re {l : List Oper} {a : Act} {w : World} (C2 : World → Prop) (qs : List Nat) (n m : Nat) (listed listed2 : Array Bool) (hre : (listed.size == l.length && (List.range l.length).all fun i => !safe i || listed.getD i true) = true)
  (hB : mqB l.toArray qs [] (ancTab l.toArray) listed = true) (hn : n + qs.length = m) (hlst : qlListed l.toArray qs listed = listed2)
  (hR : ∀ w,R w w) (hRt : ∀ a b c,R a b → R b c → R a c) (hCR : ∀ w w',C2 w → R w w' → C2 w') (hC : C2 w)
  (h : wpQL P l.toArray R C2 (fun a' => ∀ w',C2 w' → wpX P l.toArray R C2 (fun j => !([] : List Nat).contains j) Q n listed2 a' w') qs a) : wpX P l.toArray R C safe Q m listed a w := by
 refine wpX_re (C2 := C2) (safe2 := fun j => !([] : List Nat).contains j) _ _ _ _ (fun i hi => ?_) (lx_ql C2 qs [] n m listed listed2 hB hn hlst (fun _ h => h) hR hRt hCR hC h)
 simp only [Bool.and_eq_true,beq_iff_eq] at hre
 rcases Nat.lt_or_ge i l.length with hlt | hge
 ·have := List.all_eq_true.1 hre.2 i (List.mem_range.2 hlt)
  simpa [hi] using this
 ·have : listed.size ≤ i := by omega
  simp [this]
end
end Go.Proofs.YtmokciekndllpaaGreatDoor
