/- Parts of a proof, laid together. Each part says its own conditions. -/
import Derived.Test.YtoacpebmhbkmbaaGreatDoorC1
namespace Go.Proofs.YtoacpebmhbkmbaaGreatDoor
def Dense (near : Int → Int → Bool) (k : Int) (S : List Int) : Prop := ∀ x ∈ S,k ≤ (degP near S x : Int)
def corS (near : Int → Int → Bool) (k : Int) : Nat → List Int → List Int
 | 0,L => L
 | n + 1,L =>
  match L.find? (fun x => decide ((degP near L x : Int) < k)) with
  | none => L
  | some x => corS near k n (L.erase x)
structure IsCore (near : Int → Int → Bool) (k : Int) (L C : List Int) : Prop where
 nodup : C.Nodup
 sub : ∀ x ∈ C,x ∈ L
 dense : Dense near k C
 top : ∀ S : List Int,S.Nodup → (∀ x ∈ S,x ∈ L) → Dense near k S → ∀ x ∈ S,x ∈ C
section
variable {near : Int → Int → Bool} {k : Int}
theorem dense_erase {L S : List Int} (hL : L.Nodup) (hS : S.Nodup) (hs : ∀ x ∈ S,x ∈ L) (hd : Dense near k S) {x : Int} (hx : (degP near L x : Int) < k) : ∀ y ∈ S,y ∈ L.erase x := by
 intro y hy
 rw [hL.mem_erase_iff]
 refine ⟨fun e => ?_,hs y hy⟩
 subst e
 have h1 := hd y hy
 have h2 := degP_mono (near := near) hS hs y
 omega
theorem corS_core : ∀ (n : Nat) (L0 L : List Int),L.length ≤ n → L.Nodup → (∀ x ∈ L,x ∈ L0) → (∀ S : List Int,S.Nodup → (∀ x ∈ S,x ∈ L0) → Dense near k S → ∀ x ∈ S,x ∈ L) → IsCore near k L0 (corS near k n L)
 | 0,L0,L,hl,hn,hs,ht => by
  have : L = [] := List.eq_nil_of_length_eq_zero (by omega)
  subst this
  exact ⟨hn,hs,fun x hx => (by cases hx),ht⟩
 | n + 1,L0,L,hl,hn,hs,ht => by
  unfold corS
  split
  ·rename_i h
   rw [List.find?_eq_none] at h
   refine ⟨hn,hs,fun x hx => ?_,ht⟩
   have := h x hx
   simpa using this
  ·rename_i x h
   have hx := List.mem_of_find?_eq_some h
   have hd := List.find?_some h
   have hd : (degP near L x : Int) < k := by simpa using hd
   refine corS_core n L0 _ (by rw [List.length_erase_of_mem hx]; have := List.length_pos_of_mem hx; omega) (hn.erase _) (fun y hy => hs y (List.mem_of_mem_erase hy)) fun S h1 h2 h3 => ?_
   exact dense_erase hn h1 (ht S h1 h2 h3) h3 hd
theorem IsCore.same {L C D : List Int} (hC : IsCore near k L C) (hD : IsCore near k L D) (x : Int) : x ∈ C ↔ x ∈ D :=
 ⟨hD.top C hC.nodup hC.sub hC.dense x,hC.top D hD.nodup hD.sub hD.dense x⟩
def dgnP (near : Int → Int → Bool) (n : Nat) (L : List Int) : Int := (degS near n L).foldl (fun m p => max m (p.2 : Int)) (-1)
theorem foldl_max_le {α : Type} (f : α → Int) : ∀ (l : List α) (m : Int),m ≤ l.foldl (fun m p => max m (f p)) m ∧ ∀ p ∈ l,f p ≤ l.foldl (fun m p => max m (f p)) m
 | [],m => by simp
 | a :: l,m => by
  obtain ⟨h1,h2⟩ := foldl_max_le f l (max m (f a))
  rw [List.foldl_cons]
  refine ⟨by omega,fun p hp => ?_⟩
  rcases List.mem_cons.1 hp with rfl | hp
  ·omega
  ·exact h2 p hp
theorem foldl_max_mem {α : Type} (f : α → Int) : ∀ (l : List α) (m : Int),l.foldl (fun m p => max m (f p)) m = m ∨ ∃ p ∈ l,l.foldl (fun m p => max m (f p)) m = f p
 | [],m => .inl rfl
 | a :: l,m => by
  rw [List.foldl_cons]
  rcases foldl_max_mem f l (max m (f a)) with h | ⟨p,hp,h⟩
  ·rcases Int.le_total m (f a) with h1 | h1
   ·exact .inr ⟨a,by simp,by rw [h]; omega⟩
   ·exact .inl (by rw [h]; omega)
  ·exact .inr ⟨p,by simp [hp],h⟩
theorem degS_up : ∀ (n : Nat) (L S : List Int),L.length ≤ n → L.Nodup → S.Nodup → (∀ x ∈ S,x ∈ L) → S ≠ [] → ∃ p ∈ degS near n L,p.1 ∈ S ∧ degP near S p.1 ≤ p.2
 | 0,L,S,hl,_,_,hs,hne => by
  obtain ⟨x,hx⟩ := List.exists_mem_of_ne_nil S hne
  have : L = [] := List.eq_nil_of_length_eq_zero (by omega)
  subst this
  cases hs x hx
 | n + 1,[],S,_,_,_,hs,hne => by
  obtain ⟨x,hx⟩ := List.exists_mem_of_ne_nil S hne
  cases hs x hx
 | n + 1,a :: l,S,hl,hn,hS,hs,hne => by
  unfold degS
  simp only
  have hx := leastP_mem (degP near (a :: l)) (L := a :: l) (by simp)
  generalize leastP (degP near (a :: l)) (a :: l) = x at hx ⊢
  by_cases hxS : x ∈ S
  ·exact ⟨_,List.mem_cons_self,hxS,degP_mono hS hs x⟩
  ·obtain ⟨p,h1,h2⟩ := degS_up n ((a :: l).erase x) S (by rw [List.length_erase_of_mem hx]; simp at hl ⊢; omega) (hn.erase _) hS (fun y hy => by
    rw [hn.mem_erase_iff]
    exact ⟨fun e => hxS (e ▸ hy),hs y hy⟩) hne
   exact ⟨p,List.mem_cons_of_mem _ h1,h2⟩
theorem degS_down : ∀ (n : Nat) (L : List Int),L.Nodup → ∀ p ∈ degS near n L, ∃ S : List Int,S.Nodup ∧ (∀ x ∈ S,x ∈ L) ∧ S ≠ [] ∧ Dense near p.2 S
 | 0,_,_,p,hp => by cases hp
 | _ + 1,[],_,p,hp => by cases hp
 | n + 1,a :: l,hn,p,hp => by
  unfold degS at hp
  rcases List.mem_cons.1 hp with rfl | hp
  ·exact ⟨a :: l,hn,fun x hx => hx,by simp,fun x hx => by have := leastP_le (degP near (a :: l)) hx; simp only; omega⟩
  ·obtain ⟨S,h1,h2,h3⟩ := degS_down n _ (hn.erase _) p hp
   exact ⟨S,h1,fun x hx => List.mem_of_mem_erase (h2 x hx),h3⟩
theorem dgn_up {n : Nat} {L S : List Int} (hl : L.length ≤ n) (hn : L.Nodup) (hS : S.Nodup) (hs : ∀ x ∈ S,x ∈ L) (hne : S ≠ []) : ∃ v ∈ S,(degP near S v : Int) ≤ dgnP near n L := by
 obtain ⟨p,h1,h2,h3⟩ := degS_up (near := near) n L S hl hn hS hs hne
 have h4 := (foldl_max_le (fun p : Int × Nat => (p.2 : Int)) (degS near n L) (-1)).2 p h1
 exact ⟨p.1,h2,by unfold dgnP; omega⟩
theorem dgn_down {n : Nat} {L : List Int} (hl : L.length ≤ n) (hn : L.Nodup) (hne : L ≠ []) : ∃ S : List Int,S.Nodup ∧ (∀ x ∈ S,x ∈ L) ∧ S ≠ [] ∧ Dense near (dgnP near n L) S := by
 rcases foldl_max_mem (fun p : Int × Nat => (p.2 : Int)) (degS near n L) (-1) with h | ⟨p,hp,h⟩
 ·obtain ⟨v,_,h2⟩ := dgn_up (near := near) hl hn hn (fun x hx => hx) hne
  have : dgnP near n L = -1 := h
  omega
 ·obtain ⟨S,h1,h2,h3,h4⟩ := degS_down n L hn p hp
  refine ⟨S,h1,h2,h3, ?_⟩
  have : dgnP near n L = p.2 := h
  rw [this]
  exact h4
theorem dgn_mono {n m : Nat} {L M : List Int} (hl : L.length ≤ n) (hm : M.length ≤ m) (hn : L.Nodup) (hnm : M.Nodup) (hs : ∀ x ∈ M,x ∈ L) (hne : M ≠ []) : dgnP near m M ≤ dgnP near n L := by
 obtain ⟨S,h1,h2,h3,h4⟩ := dgn_down (near := near) hm hnm hne
 obtain ⟨v,h5,h6⟩ := dgn_up (near := near) hl hn h1 (fun x hx => hs x (h2 x hx)) h3
 have := h4 v h5
 omega
theorem core_ne {n : Nat} {L C : List Int} (hl : L.length ≤ n) (hn : L.Nodup) (hne : L ≠ []) (hC : IsCore near (dgnP near n L) L C) : C ≠ [] := by
 obtain ⟨S,h1,h2,h3,h4⟩ := dgn_down (near := near) hl hn hne
 obtain ⟨x,hx⟩ := List.exists_mem_of_ne_nil S h3
 exact List.ne_nil_of_mem (hC.top S h1 h2 h4 x hx)
theorem core_nil {n : Nat} {L C : List Int} (hl : L.length ≤ n) (hn : L.Nodup) (hC : IsCore near (dgnP near n L + 1) L C) : C = [] := by
 by_cases hne : C = []
 ·exact hne
 ·obtain ⟨v,h1,h2⟩ := dgn_up (near := near) hl hn hC.nodup hC.sub hne
  have := hC.dense v h1
  omega
def cliS (near : Int → Int → Bool) : Nat → List Int → List Int
 | 0,_ => []
 | _ + 1,[] => []
 | n + 1,o :: r => o :: cliS near n (r.filter (near o))
theorem cliS_mem : ∀ (n : Nat) (may : List Int), ∀ x ∈ cliS near n may,x ∈ may
 | 0,_,x,h => by cases h
 | _ + 1,[],x,h => by cases h
 | n + 1,o :: r,x,h => by
  unfold cliS at h
  rcases List.mem_cons.1 h with rfl | h
  ·simp
  ·exact List.mem_cons_of_mem _ (List.mem_filter.1 (cliS_mem n _ x h)).1
theorem cliS_pair : ∀ (n : Nat) (may : List Int),(cliS near n may).Pairwise fun x y => near x y = true
 | 0,_ => .nil
 | _ + 1,[] => .nil
 | n + 1,o :: r => by
  unfold cliS
  exact List.Pairwise.cons (fun y hy => (List.mem_filter.1 (cliS_mem n _ y hy)).2) (cliS_pair n _)
theorem cliS_max : ∀ (n : Nat) (may : List Int),may.length ≤ n → ∀ v ∈ may,v ∈ cliS near n may ∨ ∃ c ∈ cliS near n may,near c v = false
 | 0,may,hl,v,hv => by
  have : may = [] := List.eq_nil_of_length_eq_zero (by omega)
  subst this
  cases hv
 | _ + 1,[],_,v,hv => by cases hv
 | n + 1,o :: r,hl,v,hv => by
  unfold cliS
  rcases List.mem_cons.1 hv with rfl | hv
  ·exact .inl (by simp)
  ·by_cases h : near o v = true
   ·rcases cliS_max n (r.filter (near o)) (Nat.le_trans (List.length_filter_le _ _) (by simpa using hl)) v (List.mem_filter.2 ⟨hv,h⟩) with h1 | ⟨c,h1,h2⟩
    ·exact .inl (List.mem_cons_of_mem _ h1)
    ·exact .inr ⟨c,List.mem_cons_of_mem _ h1,h2⟩
   ·exact .inr ⟨o,by simp,by simpa using h⟩
end
def eliB (near : Int → Int → Bool) (x u v : Int) : Bool := near u v || (decide (u ≠ v) && near x u && near x v)
def ordS (key : (Int → Int → Bool) → List Int → Int → Nat) : Nat → (Int → Int → Bool) → List Int → List Int
 | 0,_,_ => []
 | _ + 1,_,[] => []
 | n + 1,near,a :: l =>
  let x := leastP (key near (a :: l)) (a :: l)
  x :: ordS key n (eliB near x) ((a :: l).erase x)
def ordD (key : (Int → Int → Bool) → List Int → Int → Nat) : Nat → (Int → Int → Bool) → List Int → List Nat
 | 0,_,_ => []
 | _ + 1,_,[] => []
 | n + 1,near,a :: l =>
  let x := leastP (key near (a :: l)) (a :: l)
  degP near (a :: l) x :: ordD key n (eliB near x) ((a :: l).erase x)
theorem Rch.last {A : Int → Int → Prop} {S : Int → Prop} {v x : Int} (h : Rch A S v x) : ∃ s,A s x ∧ (s = v ∨ (S s ∧ Rch A S v s)) := by
 induction h with
 | edge h => exact ⟨_,h, .inl rfl⟩
 | step h hs _ ih =>
  obtain ⟨s,h1,h2⟩ := ih
  rcases h2 with rfl | ⟨h2,h3⟩
  ·exact ⟨_,h1, .inr ⟨hs, .edge h⟩⟩
  ·exact ⟨s,h1, .inr ⟨h2, .step h hs h3⟩⟩
theorem Rch.first {A : Int → Int → Prop} {S : Int → Prop} {x u : Int} (h : Rch A S x u) : ∃ t,A x t ∧ (t = u ∨ (S t ∧ Rch A S t u)) := by
 cases h with
 | edge h => exact ⟨_,h, .inl rfl⟩
 | step h hs t => exact ⟨_,h, .inr ⟨hs,t⟩⟩
theorem Wd.cons {A : Int → Int → Prop} {o : List Int} {w : Nat} (h : Wd A o w) (hn : o.Nodup) {x : Int} (hs : ∀ u v,A u v → A v u) (hc : ∀ u ∈ o, ∀ v ∈ o,u ≠ v → A x u → A x v → A u v) (hd : ∀ l : List Int,l.Nodup → (∀ u ∈ l,u ∈ o ∧ A x u) → l.length ≤ w) : Wd A (x :: o) w := by
 intro pre v post he l hl hu
 cases pre with
 | nil =>
  simp only [List.nil_append,List.cons.injEq] at he
  obtain ⟨rfl,rfl⟩ := he
  refine hd l hl fun u hul => ⟨(hu u hul).1, ?_⟩
  have h1 := (hu u hul).2
  cases h1 with
  | edge h => exact h
  | step _ h _ => cases h
 | cons y pre =>
  simp only [List.cons_append,List.cons.injEq] at he
  obtain ⟨rfl,rfl⟩ := he
  refine h pre v post rfl l hl fun u hul => ⟨(hu u hul).1, ?_⟩
  have hup := (hu u hul).1
  have hvu : v ≠ u := fun e => (List.nodup_cons.1 (List.nodup_append.1 hn).2.1).1 (e ▸ hup)
  have hm : ∀ s,s ∈ pre → s ∈ pre ++ v :: post := fun s h => List.mem_append_left _ h
  have hmv : v ∈ pre ++ v :: post := by simp
  have hmu : u ∈ pre ++ v :: post := by simp [hup]
  have h1 : Rch A (fun z => z ∈ pre ∨ z = x) v u := (hu u hul).2.lift (fun _ _ h => .edge h) fun z hz => by
   rcases List.mem_cons.1 hz with e | hz
   ·exact .inr e
   ·exact .inl hz
  rcases h1.split with h1 | ⟨h1,h2⟩
  ·exact h1
  ·obtain ⟨s,h3,h4⟩ := h1.last
   obtain ⟨t,h5,h6⟩ := h2.first
   have hso : s ∈ pre ++ v :: post := by
    rcases h4 with rfl | ⟨h4,_⟩
    ·exact hmv
    ·exact hm s h4
   have hto : t ∈ pre ++ v :: post := by
    rcases h6 with rfl | ⟨h6,_⟩
    ·exact hmu
    ·exact hm t h6
   by_cases hst : s = t
   ·subst hst
    rcases h4 with rfl | ⟨h4,h7⟩
    ·rcases h6 with h6 | ⟨_,h6⟩
     ·exact absurd h6 hvu
     ·exact h6
    ·rcases h6 with rfl | ⟨_,h6⟩
     ·exact h7
     ·exact h7.trans h4 h6
   ·have hA := hc s hso t hto hst (hs _ _ h3) h5
    have h8 : Rch A (fun z => z ∈ pre) s u := by
     rcases h6 with rfl | ⟨h6,h9⟩
     ·exact .edge hA
     ·exact .step hA h6 h9
    rcases h4 with rfl | ⟨h4,h7⟩
    ·exact h8
    ·exact h7.trans h4 h8
theorem Wd.elim {A : Int → Int → Prop} {o : List Int} {w : Nat} (hw : w ≤ 2) (h : Wd A o w) (hn : o.Nodup) (hs : ∀ u v,A u v → A v u) (hr : ∀ u, ¬ A u u) {x : Int} (hx : x ∈ o) (hd : ∀ l : List Int,l.Nodup → (∀ u ∈ l,u ∈ o ∧ A x u) → l.length ≤ w) :
  ∃ o',o'.Nodup ∧ (∀ u,u ∈ o' ↔ u ∈ o ∧ u ≠ x) ∧ Wd (fun u v => A u v ∨ (u ≠ v ∧ A x u ∧ A x v)) o' w := by
 by_cases hy : ∃ y ∈ o,A x y
 ·obtain ⟨y,hyo,hy⟩ := hy
  obtain ⟨o',h1,h2,h3⟩ := h.merge hn hs hr hx hyo hy
  refine ⟨o',h1,h2,h3.sub fun u v hu hv huv => ?_⟩
  rcases huv with huv | ⟨hne,hu2,hv2⟩
  ·exact .inl huv
  ·by_cases e1 : u = y
   ·exact .inr (.inl ⟨e1,hv2,fun e2 => hne (by rw [e1,e2])⟩)
   ·by_cases e2 : v = y
    ·exact .inr (.inr ⟨e2,hu2,e1⟩)
    ·exfalso
     have h4 := hd [u,v,y] (by simp; exact ⟨⟨hne,e1⟩,e2⟩) (by
      intro z hz
      simp only [List.mem_cons,List.not_mem_nil,or_false] at hz
      rcases hz with rfl | rfl | rfl
      ·exact ⟨((h2 _).1 hu).1,hu2⟩
      ·exact ⟨((h2 _).1 hv).1,hv2⟩
      ·exact ⟨hyo,hy⟩)
     simp at h4
     omega
 ·obtain ⟨o',h1,h2,h3⟩ := h.less hn hx
  refine ⟨o',h1,h2,h3.sub fun u v hu hv huv => ?_⟩
  rcases huv with huv | ⟨_,hu2,_⟩
  ·exact huv
  ·exact absurd ⟨u,((h2 u).1 hu).1,hu2⟩ hy
section
variable {near : Int → Int → Bool}
theorem eliB_iff {x u v : Int} : eliB near x u v = true ↔ near u v = true ∨ (u ≠ v ∧ near x u = true ∧ near x v = true) := by
 unfold eliB
 simp [and_assoc]
theorem ordD_low : ∀ (n : Nat) (near : Int → Int → Bool) (L o : List Int) (w : Nat),w ≤ 2 → (∀ u,near u u = false) → (∀ u v,near u v = true → near v u = true) → Wd (fun a b => near a b = true) o w → L.Nodup → o.Nodup → (∀ x,x ∈ L ↔ x ∈ o) → ∀ d ∈ ordD degP n near L,d ≤ w
 | 0,_,_,_,_,_,_,_,_,_,_,_,d,hd => by cases hd
 | _ + 1,_,[],_,_,_,_,_,_,_,_,_,d,hd => by cases hd
 | n + 1,near,a :: l,o,w,hw,hr,hs,h,hn,hno,hso,d,hd => by
  have hlow := low_deg hr h (by simp) hn (fun x hx => (hso x).1 hx)
  have hx := leastP_mem (degP near (a :: l)) (L := a :: l) (by simp)
  unfold ordD at hd
  simp only at hd
  generalize leastP (degP near (a :: l)) (a :: l) = x at hd hlow hx
  rcases List.mem_cons.1 hd with rfl | hd
  ·exact hlow
  ·obtain ⟨o',h1,h2,h3⟩ := h.elim hw hno hs (fun u hu => by rw [hr] at hu; cases hu) ((hso x).1 hx) (fun l' hl' hu => Nat.le_trans (len_sub l' _ hl' fun u hul => List.mem_filter.2 ⟨(hso u).2 (hu u hul).1,(hu u hul).2⟩) hlow)
   refine ordD_low n (eliB near x) _ o' w hw ?_ ?_ (h3.sub fun u v _ _ huv => eliB_iff.1 huv) (hn.erase _) h1 (fun u => by rw [hn.mem_erase_iff,h2,hso u]; exact and_comm) d hd
   ·intro u
    unfold eliB
    simp [hr]
   ·intro u v huv
    rw [eliB_iff] at huv ⊢
    rcases huv with h4 | ⟨h4,h5,h6⟩
    ·exact .inl (hs _ _ h4)
    ·exact .inr ⟨h4.symm,h6,h5⟩
end
end Go.Proofs.YtoacpebmhbkmbaaGreatDoor
