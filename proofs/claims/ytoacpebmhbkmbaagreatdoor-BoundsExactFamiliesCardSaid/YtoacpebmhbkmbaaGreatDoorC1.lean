/- Parts of a proof, laid together. Each part says its own conditions. -/
import Derived.Below
namespace Go.Proofs.YtoacpebmhbkmbaaGreatDoor
inductive Rch (A : Int → Int → Prop) (S : Int → Prop) : Int → Int → Prop
 | edge {u v : Int} (h : A u v) : Rch A S u v
 | step {u s v : Int} (h : A u s) (hs : S s) (t : Rch A S s v) : Rch A S u v
section
variable {A B : Int → Int → Prop} {S T : Int → Prop}
theorem Rch.trans {u s v : Int} (h : Rch A S u s) (hs : S s) (t : Rch A S s v) : Rch A S u v := by
 induction h with
 | edge h => exact .step h hs t
 | step h hs' _ ih => exact .step h hs' (ih hs t)
theorem Rch.lift (hA : ∀ u v,A u v → Rch B T u v) (hS : ∀ x,S x → T x) {u v : Int} (h : Rch A S u v) : Rch B T u v := by
 induction h with
 | edge h => exact hA _ _ h
 | step h hs _ ih => exact (hA _ _ h).trans (hS _ hs) ih
theorem Rch.monoOn {M : Int → Prop} (hA : ∀ u v,M u → M v → A u v → B u v) (hM : ∀ x,S x → M x) (hS : ∀ x,S x → T x) {u v : Int} (h : Rch A S u v) (hu : M u) (hv : M v) : Rch B T u v := by
 induction h with
 | edge h => exact .edge (hA _ _ hu hv h)
 | step h hs _ ih => exact .step (hA _ _ hu (hM _ hs) h) (hS _ hs) (ih (hM _ hs) hv)
theorem Rch.split {c u v : Int} (h : Rch A (fun x => S x ∨ x = c) u v) : Rch A S u v ∨ (Rch A S u c ∧ Rch A S c v) := by
 induction h with
 | edge h => exact .inl (.edge h)
 | step h hs _ ih =>
  rcases hs with hs | rfl
  ·rcases ih with ih | ⟨h1,h2⟩
   ·exact .inl (.step h hs ih)
   ·exact .inr ⟨.step h hs h1,h2⟩
  ·rcases ih with ih | ⟨_,h2⟩
   ·exact .inr ⟨.edge h,ih⟩
   ·exact .inr ⟨.edge h,h2⟩
end
def Wd (A : Int → Int → Prop) (o : List Int) (w : Nat) : Prop :=
 ∀ pre v post,o = pre ++ v :: post → ∀ l : List Int,l.Nodup → (∀ u ∈ l,u ∈ post ∧ Rch A (fun x => x ∈ pre) v u) → l.length ≤ w
theorem first_in (S : Int → Prop) [DecidablePred S] : ∀ (o : List Int),(∃ x ∈ o,S x) → ∃ pre v post,o = pre ++ v :: post ∧ S v ∧ ∀ x ∈ pre, ¬ S x
 | [],h => by obtain ⟨x,hx,_⟩ := h; cases hx
 | a :: r,h => by
  by_cases ha : S a
  ·exact ⟨[],a,r,rfl,ha,fun x hx => by cases hx⟩
  ·obtain ⟨x,hx,hs⟩ := h
   rcases List.mem_cons.1 hx with rfl | hx
   ·exact absurd hs ha
   ·obtain ⟨pre,v,post,rfl,h1,h2⟩ := first_in S r ⟨x,hx,hs⟩
    refine ⟨a :: pre,v,post,rfl,h1,fun y hy => ?_⟩
    rcases List.mem_cons.1 hy with rfl | hy
    ·exact ha
    ·exact h2 y hy
section
variable {A B : Int → Int → Prop} {o : List Int} {w : Nat}
theorem Wd.low (h : Wd A o w) (S : List Int) (hS : S ≠ []) (hso : ∀ x ∈ S,x ∈ o) : ∃ v ∈ S, ∀ l : List Int,l.Nodup → (∀ u ∈ l,u ∈ S ∧ u ≠ v ∧ A v u) → l.length ≤ w := by
 obtain ⟨x,hx⟩ := List.exists_mem_of_ne_nil S hS
 obtain ⟨pre,v,post,he,hv,hp⟩ := first_in (fun x => x ∈ S) o ⟨x,hso x hx,hx⟩
 refine ⟨v,hv,fun l hl hu => h pre v post he l hl fun u hul => ?_⟩
 obtain ⟨h1,h2,h3⟩ := hu u hul
 refine ⟨?_, .edge h3⟩
 have h4 := hso u h1
 rw [he] at h4
 rcases List.mem_append.1 h4 with h4 | h4
 ·exact absurd h1 (hp u h4)
 ·rcases List.mem_cons.1 h4 with h4 | h4
  ·exact absurd h4 h2
  ·exact h4
theorem Wd.sub (h : Wd A o w) (hA : ∀ u v,u ∈ o → v ∈ o → B u v → A u v) : Wd B o w := by
 intro pre v post he l hl hu
 refine h pre v post he l hl fun u hul => ⟨(hu u hul).1,(hu u hul).2.monoOn (M := fun x => x ∈ o) hA ?_ (fun x hx => hx) ?_ ?_⟩
 ·intro x hx; rw [he]; exact List.mem_append_left _ hx
 ·rw [he]; simp
 ·rw [he]; have := (hu u hul).1; simp [this]
theorem Wd.del {p q : List Int} {a : Int} (h : Wd A (p ++ a :: q) w) : Wd A (p ++ q) w := by
 intro pre v post he l hl hu
 rcases List.append_eq_append_iff.1 he with ⟨c,h1,h2⟩ | ⟨c,h1,h2⟩
 ·-- v lies in q
  refine h (p ++ a :: c) v post (by rw [h2]; simp) l hl fun u hul => ⟨(hu u hul).1,(hu u hul).2.lift (fun _ _ h => .edge h) fun x hx => ?_⟩
  rw [h1] at hx
  rcases List.mem_append.1 hx with hx | hx
  ·exact List.mem_append_left _ hx
  ·exact List.mem_append_right _ (List.mem_cons_of_mem _ hx)
 ·cases c with
  | nil =>
   simp only [List.nil_append] at h2
   rw [List.append_nil] at h1
   subst h1
   refine h (p ++ [a]) v post (by rw [← h2]; simp) l hl fun u hul => ⟨(hu u hul).1,(hu u hul).2.lift (fun _ _ h => .edge h) fun x hx => List.mem_append_left _ hx⟩
  | cons b c =>
   simp only [List.cons_append,List.cons.injEq] at h2
   obtain ⟨rfl,rfl⟩ := h2
   refine h pre v (c ++ a :: q) (by rw [h1]; simp) l hl fun u hul => ⟨?_,(hu u hul).2⟩
   have := (hu u hul).1
   rcases List.mem_append.1 this with hx | hx
   ·exact List.mem_append_left _ hx
   ·exact List.mem_append_right _ (List.mem_cons_of_mem _ hx)
def tko (A : Int → Int → Prop) (a b u v : Int) : Prop := A u v ∨ (u = b ∧ A a v) ∨ (v = b ∧ A a u)
theorem tko_path {T : Int → Prop} {a b v u : Int} (hs : ∀ u v,A u v → A v u) (hT : ¬ T b) (h : Rch (tko A a b) T v u) (hv : v ≠ b) : (u ≠ b → Rch A T v u) ∧ (u = b → Rch A T v b ∨ Rch A T v a) := by
 induction h with
 | edge h =>
  rcases h with h | ⟨e,_⟩ | ⟨e,h⟩
  ·exact ⟨fun _ => .edge h,fun e => by subst e; exact .inl (.edge h)⟩
  ·exact absurd e hv
  ·exact ⟨fun hn => absurd e hn,fun _ => .inr (.edge (hs _ _ h))⟩
 | step h hs' _ ih =>
  rename_i u0 s0 v0 _
  have hsb : s0 ≠ b := fun e => hT (e ▸ hs')
  have hA : A u0 s0 := by
   rcases h with h | ⟨e,_⟩ | ⟨e,_⟩
   ·exact h
   ·exact absurd e hv
   ·exact absurd e hsb
  obtain ⟨h1,h2⟩ := ih hsb
  refine ⟨fun hn => .step hA hs' (h1 hn),fun e => ?_⟩
  rcases h2 e with h | h
  ·exact .inl (.step hA hs' h)
  ·exact .inr (.step hA hs' h)
theorem Wd.take {p q : List Int} {a b : Int} (h : Wd A (p ++ a :: q) w) (hn : (p ++ a :: q).Nodup) (hs : ∀ u v,A u v → A v u) (hb : b ∈ q) (hab : A a b) : Wd (tko A a b) (p ++ q) w := by
 intro pre v post he l hl hu
 -- v lies in q
 have late : ∀ c,pre = p ++ c → q = c ++ v :: post → l.length ≤ w := by
  intro c h1 h2
  refine h (p ++ a :: c) v post (by rw [h2]; simp) l hl fun u hul => ⟨(hu u hul).1,(hu u hul).2.lift (fun s t hst => ?_) fun x hx => ?_⟩
  ·have hm : a ∈ p ++ a :: c := by simp
   rcases hst with hst | ⟨rfl,hst⟩ | ⟨rfl,hst⟩
   ·exact .edge hst
   ·exact .step (hs _ _ hab) hm (.edge hst)
   ·exact .step (hs _ _ hst) hm (.edge hab)
  ·rw [h1] at hx
   rcases List.mem_append.1 hx with hx | hx
   ·exact List.mem_append_left _ hx
   ·exact List.mem_append_right _ (List.mem_cons_of_mem _ hx)
 rcases List.append_eq_append_iff.1 he with ⟨c,h1,h2⟩ | ⟨c,h1,h2⟩
 ·exact late c h1 h2
 ·cases c with
  | nil => exact late [] (by rw [h1]; simp) (by simpa using h2.symm)
  | cons b' c =>
   simp only [List.cons_append,List.cons.injEq] at h2
   obtain ⟨rfl,rfl⟩ := h2
   subst h1
   rw [List.append_assoc] at hn h
   simp only [List.cons_append] at hn h
   have hn1 := List.nodup_append.1 hn
   have hn2 := List.nodup_cons.1 hn1.2.1
   have hn3 := List.nodup_append.1 hn2.2
   have hn4 := List.nodup_cons.1 hn3.2.1
   have hbv : v ≠ b := fun e => hn2.1 (e ▸ List.mem_append_right _ (List.mem_cons_of_mem _ hb))
   have hbp : ¬ b ∈ pre := fun e => hn1.2.2 b e b (List.mem_cons_of_mem _ (List.mem_append_right _ (List.mem_cons_of_mem _ hb))) rfl
   have hal : ∀ u ∈ l,u ≠ a := by
    intro u hul e
    subst e
    rcases List.mem_append.1 (hu u hul).1 with hx | hx
    ·exact hn3.2.2 u hx u (by simp) rfl
    ·exact hn4.1 hx
   have hpost : ∀ u ∈ c ++ q,u ∈ c ++ a :: q := by
    intro u hx
    rcases List.mem_append.1 hx with hx | hx
    ·exact List.mem_append_left _ hx
    ·exact List.mem_append_right _ (List.mem_cons_of_mem _ hx)
   by_cases hr : Rch A (fun x => x ∈ pre) v b
   ·refine h pre v (c ++ a :: q) (by simp) l hl fun u hul => ⟨hpost u (hu u hul).1, ?_⟩
    by_cases hub : u = b
    ·rw [hub]; exact hr
    ·exact (tko_path hs hbp (hu u hul).2 hbv).1 hub
   ·have h5 := h pre v (c ++ a :: q) (by simp) (l.map fun u => if u = b then a else u) ?_ ?_
    ·rwa [List.length_map] at h5
    ·rw [List.nodup_iff_pairwise_ne,List.pairwise_map]
     refine List.Pairwise.imp_of_mem ?_ hl
     intro x y hx hy hxy e
     have hxa := hal x hx
     have hya := hal y hy
     split at e <;> split at e <;> omega
    ·intro u hul
     obtain ⟨u,hu',rfl⟩ := List.mem_map.1 hul
     split
     ·rename_i e
      refine ⟨by simp, ?_⟩
      rcases (tko_path hs hbp (hu u hu').2 hbv).2 e with h6 | h6
      ·exact absurd h6 hr
      ·exact h6
     ·rename_i e
      exact ⟨hpost u (hu u hu').1,(tko_path hs hbp (hu u hu').2 hbv).1 e⟩
theorem Rch.map {f : Int → Int} {S T : Int → Prop} (hS : ∀ x,T x → S (f x)) {u v : Int} (h : Rch (fun u v => A (f u) (f v)) T u v) : Rch A S (f u) (f v) := by
 induction h with
 | edge h => exact .edge h
 | step h hs _ ih => exact .step h (hS _ hs) ih
theorem Wd.ren (h : Wd A o w) {f : Int → Int} (hf : ∀ x,f (f x) = x) : Wd (fun u v => A (f u) (f v)) (o.map f) w := by
 intro pre v post he l hl hu
 have hm : ∀ m : List Int,(m.map f).map f = m := fun m => by rw [List.map_map]; exact List.map_id'' (fun x => hf x) m
 have he2 : o = pre.map f ++ f v :: post.map f := by
  have := congrArg (List.map f) he
  rw [hm] at this
  simpa using this
 have h1 := h _ _ _ he2 (l.map f) ?_ ?_
 ·rwa [List.length_map] at h1
 ·rw [List.nodup_iff_pairwise_ne,List.pairwise_map]
  exact List.Pairwise.imp (fun hxy e => hxy (by have := congrArg f e; rwa [hf,hf] at this)) hl
 ·intro u hul
  obtain ⟨u,hu',rfl⟩ := List.mem_map.1 hul
  exact ⟨List.mem_map_of_mem (hu u hu').1,(hu u hu').2.map fun x hx => List.mem_map_of_mem hx⟩
end
def swp (x y z : Int) : Int := if z = x then y else if z = y then x else z
theorem swp_swp {x y : Int} (hne : x ≠ y) (z : Int) : swp x y (swp x y z) = z := by
 unfold swp
 split
 ·rename_i e
  rw [if_neg (Ne.symm hne),if_pos rfl,e]
 ·split
  ·rename_i e
   rw [if_pos rfl,e]
  ·rfl
def mrg (A : Int → Int → Prop) (x y u v : Int) : Prop := A u v ∨ (u = y ∧ A x v ∧ v ≠ y) ∨ (v = y ∧ A x u ∧ u ≠ y)
section
variable {A : Int → Int → Prop} {o : List Int} {w : Nat}
theorem mem_two {p q : List Int} {a : Int} (hn : (p ++ a :: q).Nodup) (u : Int) : u ∈ p ++ q ↔ u ∈ p ++ a :: q ∧ u ≠ a := by
 have h1 := List.nodup_append.1 hn
 have h2 := List.nodup_cons.1 h1.2.1
 constructor
 ·intro h
  rcases List.mem_append.1 h with h | h
  ·exact ⟨List.mem_append_left _ h,h1.2.2 u h a (by simp)⟩
  ·exact ⟨List.mem_append_right _ (List.mem_cons_of_mem _ h),fun e => h2.1 (e ▸ h)⟩
 ·rintro ⟨h,hne⟩
  rcases List.mem_append.1 h with h | h
  ·exact List.mem_append_left _ h
  ·rcases List.mem_cons.1 h with h | h
   ·exact absurd h hne
   ·exact List.mem_append_right _ h
theorem nodup_two {p q : List Int} {a : Int} (hn : (p ++ a :: q).Nodup) : (p ++ q).Nodup := by
 have h1 := List.nodup_append.1 hn
 have h2 := List.nodup_cons.1 h1.2.1
 exact List.nodup_append.2 ⟨h1.1,h2.2,fun x hx y hy => h1.2.2 x hx y (List.mem_cons_of_mem _ hy)⟩
theorem Wd.less (h : Wd A o w) (hn : o.Nodup) {x : Int} (hx : x ∈ o) : ∃ o',o'.Nodup ∧ (∀ u,u ∈ o' ↔ u ∈ o ∧ u ≠ x) ∧ Wd A o' w := by
 obtain ⟨p,q,rfl⟩ := List.append_of_mem hx
 exact ⟨p ++ q,nodup_two hn,mem_two hn,h.del⟩
theorem Wd.merge (h : Wd A o w) (hn : o.Nodup) (hs : ∀ u v,A u v → A v u) (hr : ∀ u, ¬ A u u) {x y : Int} (hx : x ∈ o) (hy : y ∈ o) (hxy : A x y) : ∃ o',o'.Nodup ∧ (∀ u,u ∈ o' ↔ u ∈ o ∧ u ≠ x) ∧ Wd (mrg A x y) o' w := by
 have hne : x ≠ y := fun e => hr x (by rw [← e] at hxy; exact hxy)
 obtain ⟨p,q,rfl⟩ := List.append_of_mem hx
 rcases List.mem_append.1 hy with hyp | hyq
 ·-- y comes first
  obtain ⟨p1,p2,rfl⟩ := List.append_of_mem hyp
  rw [List.append_assoc] at h hn
  simp only [List.cons_append] at h hn
  have h1 := h.take hn hs (b := x) (by simp) (hs _ _ hxy)
  have hf := swp_swp hne
  have h2 := h1.ren hf
  have hmem : ∀ u,u ∈ (p1 ++ (p2 ++ x :: q)).map (swp x y) ↔ u ∈ p1 ++ y :: (p2 ++ x :: q) ∧ u ≠ x := by
   intro u
   rw [List.mem_map]
   constructor
   ·rintro ⟨z,hz,rfl⟩
    obtain ⟨hz1,hz2⟩ := (mem_two hn z).1 hz
    unfold swp
    split
    ·exact ⟨by simp,Ne.symm hne⟩
    ·rename_i e
     exact ⟨hz1,e⟩
   ·rintro ⟨hu,hux⟩
    by_cases huy : u = y
    ·exact ⟨x,by simp,by unfold swp; rw [if_pos rfl,huy]⟩
    ·exact ⟨u,(mem_two hn u).2 ⟨hu,huy⟩,by unfold swp; rw [if_neg hux,if_neg huy]⟩
  refine ⟨_, ?_, ?_,h2.sub ?_⟩
  ·rw [List.nodup_iff_pairwise_ne,List.pairwise_map]
   exact List.Pairwise.imp (fun hxy e => hxy (by have := congrArg (swp x y) e; rwa [hf,hf] at this)) (nodup_two hn)
  ·intro u
   rw [hmem u,List.append_assoc]
   simp only [List.cons_append]
  ·intro u v hu hv huv
   have hux := ((hmem u).1 hu).2
   have hvx := ((hmem v).1 hv).2
   simp only [swp,if_neg hux,if_neg hvx]
   rcases huv with huv | ⟨rfl,huv,hvy⟩ | ⟨rfl,huv,huy⟩
   ·by_cases huy : u = y
    ·subst huy
     by_cases hvy : v = u
     ·subst hvy; exact absurd huv (hr _)
     ·rw [if_pos rfl,if_neg hvy]
      exact .inr (.inl ⟨rfl,huv⟩)
    ·rw [if_neg huy]
     by_cases hvy : v = y
     ·subst hvy
      rw [if_pos rfl]
      exact .inr (.inr ⟨rfl,hs _ _ huv⟩)
     ·rw [if_neg hvy]
      exact .inl huv
   ·rw [if_pos rfl,if_neg hvy]
    exact .inl huv
   ·rw [if_pos rfl,if_neg huy]
    exact .inl (hs _ _ huv)
 ·have hyq : y ∈ q := by
   rcases List.mem_cons.1 hyq with e | h
   ·exact absurd e.symm hne
   ·exact h
  refine ⟨p ++ q,nodup_two hn,mem_two hn,(h.take hn hs hyq hxy).sub ?_⟩
  intro u v _ _ huv
  rcases huv with huv | ⟨e,huv,_⟩ | ⟨e,huv,_⟩
  ·exact .inl huv
  ·exact .inr (.inl ⟨e,huv⟩)
  ·exact .inr (.inr ⟨e,huv⟩)
end
end Go.Proofs.YtoacpebmhbkmbaaGreatDoor
namespace Go.Proofs.YtoacpebmhbkmbaaGreatDoor
def pickP (key : Int → Nat) (a : Int) (l : List Int) : Int := l.foldl (fun m x => if key x < key m then x else m) a
def leastP (key : Int → Nat) : List Int → Int
 | [] => 0
 | a :: l => pickP key a l
theorem pickP_spec (key : Int → Nat) : ∀ (l : List Int) (a : Int),pickP key a l ∈ a :: l ∧ ∀ x ∈ a :: l,key (pickP key a l) ≤ key x
 | [],a => by simp [pickP]
 | b :: l,a => by
  have hstep : pickP key a (b :: l) = pickP key (if key b < key a then b else a) l := rfl
  rw [hstep]
  obtain ⟨h1,h2⟩ := pickP_spec key l (if key b < key a then b else a)
  refine ⟨?_,fun x hx => ?_⟩
  ·rcases List.mem_cons.1 h1 with h | h
   ·rw [h]
    split <;> simp
   ·exact List.mem_cons_of_mem _ (List.mem_cons_of_mem _ h)
  ·have h3 := h2 _ (List.mem_cons_self)
   rcases List.mem_cons.1 hx with rfl | hx
   ·split at h3 <;> rename_i e
    ·rw [if_pos e]; omega
    ·rw [if_neg e]; exact h3
   ·rcases List.mem_cons.1 hx with rfl | hx
    ·split at h3 <;> rename_i e
     ·rw [if_pos e]; exact h3
     ·rw [if_neg e]; omega
    ·exact h2 x (List.mem_cons_of_mem _ hx)
theorem leastP_mem (key : Int → Nat) {L : List Int} (h : L ≠ []) : leastP key L ∈ L := by
 cases L with
 | nil => exact absurd rfl h
 | cons a l => exact (pickP_spec key l a).1
theorem leastP_le (key : Int → Nat) {L : List Int} {x : Int} (hx : x ∈ L) : key (leastP key L) ≤ key x := by
 cases L with
 | nil => cases hx
 | cons a l => exact (pickP_spec key l a).2 x hx
theorem pickP_congr {k1 k2 : Int → Nat} : ∀ (l : List Int) (a : Int),(∀ x ∈ a :: l,k1 x = k2 x) → pickP k1 a l = pickP k2 a l
 | [],_,_ => rfl
 | b :: l,a,h => by
  have hstep : ∀ key : Int → Nat,pickP key a (b :: l) = pickP key (if key b < key a then b else a) l := fun _ => rfl
  rw [hstep,hstep,h a (by simp),h b (by simp)]
  refine pickP_congr l _ fun x hx => ?_
  rcases List.mem_cons.1 hx with e | hx
  ·rw [e]
   split
   ·exact h b (by simp)
   ·exact h a (by simp)
  ·exact h x (by simp [hx])
theorem leastP_congr {k1 k2 : Int → Nat} {L : List Int} (h : ∀ x ∈ L,k1 x = k2 x) : leastP k1 L = leastP k2 L := by
 cases L with
 | nil => rfl
 | cons a l => exact pickP_congr l a h
theorem len_sub : ∀ (l m : List Int),l.Nodup → (∀ x ∈ l,x ∈ m) → l.length ≤ m.length
 | [],_,_,_ => Nat.zero_le _
 | a :: r,m,hn,hs => by
  have ha : a ∈ m := hs a (by simp)
  obtain ⟨hna,hnr⟩ := List.nodup_cons.1 hn
  have h1 := len_sub r (m.erase a) hnr (fun x hx => (List.mem_erase_of_ne (fun e => hna (by rw [← e]; exact hx))).2 (hs x (by simp [hx])))
  rw [List.length_erase_of_mem ha] at h1
  have h2 := List.length_pos_of_mem ha
  simp only [List.length_cons]
  omega
def degP (near : Int → Int → Bool) (L : List Int) (x : Int) : Nat := (L.filter (near x)).length
theorem degP_congr {n1 n2 : Int → Int → Bool} {L : List Int} {x : Int} (h : ∀ v ∈ L,n1 x v = n2 x v) : degP n1 L x = degP n2 L x := by
 unfold degP
 rw [List.filter_congr h]
theorem degP_mono {near : Int → Int → Bool} {S L : List Int} (hS : S.Nodup) (h : ∀ x ∈ S,x ∈ L) (x : Int) : degP near S x ≤ degP near L x := by
 unfold degP
 refine len_sub _ _ (hS.filter _) fun y hy => ?_
 rw [List.mem_filter] at hy ⊢
 exact ⟨h y hy.1,hy.2⟩
def degS (near : Int → Int → Bool) : Nat → List Int → List (Int × Nat)
 | 0,_ => []
 | _ + 1,[] => []
 | n + 1,a :: l =>
  let x := leastP (degP near (a :: l)) (a :: l)
  (x,degP near (a :: l) x) :: degS near n ((a :: l).erase x)
def mrgB (near : Int → Int → Bool) (x y u v : Int) : Bool := near u v || (decide (u = y) && near x v && decide (v ≠ y)) || (decide (v = y) && near x u && decide (u ≠ y))
def conS : Nat → (Int → Int → Bool) → List Int → List ((Int × Int) × Nat)
 | 0,_,_ => []
 | _ + 1,_,[] => []
 | n + 1,near,a :: l =>
  let L := a :: l
  let x := leastP (degP near L) L
  let N := L.filter (near x)
  if N = [] then ((x, -1),0) :: conS n near (L.erase x)
  else ((x,leastP (degP near L) N),N.length) :: conS n (mrgB near x (leastP (degP near L) N)) (L.erase x)
section
variable {near : Int → Int → Bool}
theorem mrgB_iff {x y u v : Int} : mrgB near x y u v = true ↔ mrg (fun a b => near a b = true) x y u v := by
 unfold mrgB mrg
 simp [and_assoc,or_assoc]
theorem low_deg {L o : List Int} {w : Nat} (hr : ∀ u,near u u = false) (h : Wd (fun a b => near a b = true) o w) (hL : L ≠ []) (hn : L.Nodup) (hso : ∀ x ∈ L,x ∈ o) : degP near L (leastP (degP near L) L) ≤ w := by
 obtain ⟨v,hv,h1⟩ := h.low L hL hso
 refine Nat.le_trans (leastP_le (degP near L) hv) (h1 _ (hn.filter _) fun u hu => ?_)
 rw [List.mem_filter] at hu
 exact ⟨hu.1,fun e => (by rw [e,hr] at hu; cases hu.2),hu.2⟩
theorem degS_low (hr : ∀ u,near u u = false) {o : List Int} {w : Nat} (h : Wd (fun a b => near a b = true) o w) : ∀ (n : Nat) (L : List Int),L.Nodup → (∀ x ∈ L,x ∈ o) → ∀ p ∈ degS near n L,p.2 ≤ w
 | 0,_,_,_,p,hp => by cases hp
 | _ + 1,[],_,_,p,hp => by cases hp
 | n + 1,a :: l,hn,hso,p,hp => by
  unfold degS at hp
  rcases List.mem_cons.1 hp with rfl | hp
  ·exact low_deg hr h (by simp) hn hso
  ·exact degS_low hr h n _ (hn.erase _) (fun x hx => hso x (List.mem_of_mem_erase hx)) p hp
theorem conS_low : ∀ (n : Nat) (near : Int → Int → Bool) (L o : List Int) (w : Nat),(∀ u,near u u = false) → (∀ u v,near u v = true → near v u = true) → Wd (fun a b => near a b = true) o w → L.Nodup → o.Nodup → (∀ x,x ∈ L ↔ x ∈ o) → ∀ p ∈ conS n near L,p.2 ≤ w
 | 0,_,_,_,_,_,_,_,_,_,_,p,hp => by cases hp
 | _ + 1,_,[],_,_,_,_,_,_,_,_,p,hp => by cases hp
 | n + 1,near,a :: l,o,w,hr,hs,h,hn,hno,hso,p,hp => by
  have hlow := low_deg hr h (by simp) hn (fun x hx => (hso x).1 hx)
  have hx := leastP_mem (degP near (a :: l)) (L := a :: l) (by simp)
  unfold conS at hp
  simp only at hp
  generalize leastP (degP near (a :: l)) (a :: l) = x at hp hlow hx
  have hmem : ∀ u,u ∈ (a :: l).erase x ↔ u ∈ o ∧ u ≠ x := fun u => by
   rw [hn.mem_erase_iff,hso u]
   exact and_comm
  by_cases hN : (a :: l).filter (near x) = []
  ·rw [if_pos hN] at hp
   rcases List.mem_cons.1 hp with rfl | hp
   ·exact Nat.zero_le _
   ·obtain ⟨o',h1,h2,h3⟩ := h.less hno ((hso x).1 hx)
    exact conS_low n near _ o' w hr hs h3 (hn.erase _) h1 (fun u => by rw [hmem,h2]) p hp
  ·rw [if_neg hN] at hp
   have hy := leastP_mem (degP near (a :: l)) hN
   generalize leastP (degP near (a :: l)) ((a :: l).filter (near x)) = y at hp hy
   rw [List.mem_filter] at hy
   rcases List.mem_cons.1 hp with rfl | hp
   ·exact hlow
   ·obtain ⟨o',h1,h2,h3⟩ := h.merge hno hs (fun u hu => by rw [hr] at hu; cases hu) ((hso x).1 hx) ((hso y).1 hy.1) hy.2
    refine conS_low n (mrgB near x y) _ o' w ?_ ?_ (h3.sub fun u v _ _ huv => mrgB_iff.1 huv) (hn.erase _) h1 (fun u => by rw [hmem,h2]) p hp
    ·intro u
     unfold mrgB
     rw [hr]
     by_cases e : u = y <;> simp [e]
    ·intro u v huv
     rw [mrgB_iff] at huv ⊢
     rcases huv with h4 | h4 | h4
     ·exact .inl (hs _ _ h4)
     ·exact .inr (.inr h4)
     ·exact .inr (.inl h4)
theorem clique_low {C o : List Int} {w : Nat} (h : Wd (fun a b => near a b = true) o w) (hC : C.Nodup) (hso : ∀ x ∈ C,x ∈ o) (hcl : ∀ x ∈ C, ∀ y ∈ C,x ≠ y → near x y = true) : C.length ≤ w + 1 := by
 by_cases hne : C = []
 ·subst hne; simp
 ·obtain ⟨v,hv,h1⟩ := h.low C hne hso
  have h2 := h1 (C.erase v) (hC.erase _) fun u hu => by
   rw [hC.mem_erase_iff] at hu
   exact ⟨hu.2,hu.1,hcl v hv u hu.2 (Ne.symm hu.1)⟩
  rw [List.length_erase_of_mem hv] at h2
  omega
end
end Go.Proofs.YtoacpebmhbkmbaaGreatDoor
