/- Parts of a proof, laid together. Each part says its own conditions. -/
import Derived.Test.YtmokciekndllpaaGreatDoorC17
namespace Go.Proofs.YtmokciekndllpaaGreatDoor
open Go Go.RowKit Go.Shelf
abbrev Cl := Nat × TypeId × Array Value
abbrev Rw := TypeId × Nat × Value × Nat × List Value
def mapB : Value → Option Nat
 | .map b => b
 | _ => none
def rwB (r : Rw) : Option Nat := if r.2.1 = 0 then mapB r.2.2.1 else r.2.2.1.ownBlock
def rwT (Rs : List Rw) : List Nat := Rs.flatMap fun r => (rwB r).toList
def MapRaw (W : World) (mb : Nat) (xs : List Value) : Prop := ∃ es clock,W.heap[mb]? = some (.map es clock) ∧ MapKept.Stamped es clock ∧ es.toList.flatMap (fun e => [e.key,e.val]) = xs
def RowIs (b : Nat) (W : World) (r : Rw) : Prop := if r.2.1 = 0 then ∃ mb,r.2.2.1 = .map (some mb) ∧ b ≤ mb ∧ MapRaw W mb r.2.2.2.2 else W.ownsRow b r.1 r.2.1 r.2.2.1 r.2.2.2.1 r.2.2.2.2
theorem RowIs.slice {b T k n : Nat} {v : Value} {xs : List Value} {W : World} (hk : k ≠ 0) : RowIs b W (T,k,v,n,xs) ↔ W.ownsRow b T k v n xs := by unfold RowIs; rw [if_neg hk]
theorem rwB_slice {T k n : Nat} {v : Value} {xs : List Value} (hk : k ≠ 0) : rwB (T,k,v,n,xs) = v.ownBlock := by unfold rwB; rw [if_neg hk]
theorem RowIs.base {b : Nat} {W : World} {r : Rw} (h : RowIs b W r) {g : Nat} (hg : rwB r = some g) : b ≤ g ∧ g < W.heap.size ∧ ∀ l,W.heap[g]? ≠ some (.loop l) := by
 unfold RowIs at h
 unfold rwB at hg
 split at h
 ·rename_i hk
  rw [if_pos hk] at hg
  obtain ⟨mb,e,h1,es,clock,h2,_⟩ := h
  rw [e] at hg
  unfold mapB at hg
  cases hg
  exact ⟨h1,(Array.getElem?_eq_some_iff.1 h2).1,fun l hl => by rw [h2] at hl; cases hl⟩
 ·rename_i hk
  rw [if_neg hk] at hg
  obtain ⟨h1,h2,c,h3⟩ := own_base h hg
  exact ⟨h1,h2,fun l hl => by rw [h3] at hl; cases hl⟩
theorem RowIs.keep {b : Nat} {W W' : World} {r : Rw} {S : List Nat} (h : RowIs b W r) (hk : Keep S W W') (hS : ∀ g ∈ S,rwB r ≠ some g) : RowIs b W' r := by
 unfold RowIs at h ⊢
 unfold rwB at hS
 split
 ·rename_i hz
  rw [if_pos hz] at h hS
  obtain ⟨mb,e,h1,es,clock,h2,h3⟩ := h
  refine ⟨mb,e,h1,es,clock,(hk.block mb (Array.getElem?_eq_some_iff.1 h2).1 fun hm => hS mb hm ?_).trans h2,h3⟩
  rw [e]
  rfl
 ·rename_i hz
  rw [if_neg hz] at h hS
  exact own_keep h hk hS
theorem RowIs.le {b b' : Nat} {W : World} {r : Rw} (h : RowIs b W r) (hb : b' ≤ b) : RowIs b' W r := by
 unfold RowIs at h ⊢
 split
 ·rename_i hz
  rw [if_pos hz] at h
  obtain ⟨mb,e,h1,h2⟩ := h
  exact ⟨mb,e,by omega,h2⟩
 ·rename_i hz
  rw [if_neg hz] at h
  exact own_base_le h hb
def stT (L : List Cl) (Rs : List Rw) : List Nat := L.map (·.1) ++ rwT Rs
structure St (b : Nat) (L : List Cl) (Rs : List Rw) (W : World) : Prop where
 cells : ∀ e ∈ L,Blk W e.1 e.2.1 e.2.2
 rows : ∀ r ∈ Rs,RowIs b W r
 nd : (stT L Rs).Nodup
 ge : ∀ x ∈ stT L Rs,b ≤ x
section
variable {b : Nat} {L : List Cl} {Rs : List Rw} {W W' : World}
theorem mem_rwT {x : Nat} : x ∈ rwT Rs ↔ ∃ r ∈ Rs,rwB r = some x := by
 unfold rwT
 simp [List.mem_flatMap]
theorem St.lt (h : St b L Rs W) : ∀ x ∈ stT L Rs,x < W.heap.size := by
 intro x hx
 rcases List.mem_append.1 hx with hx | hx
 ·obtain ⟨e,he,rfl⟩ := List.mem_map.1 hx
  exact (h.cells e he).lt
 ·obtain ⟨r,hr,he⟩ := mem_rwT.1 hx
  exact ((h.rows r hr).base he).2.1
theorem St.keep {S : List Nat} (h : St b L Rs W) (hk : Keep S W W') (hS : ∀ x ∈ S,x ∉ stT L Rs) : St b L Rs W' :=
 ⟨fun e he => (h.cells e he).keep hk (fun hm => hS _ hm (List.mem_append.2 (.inl (List.mem_map.2 ⟨e,he,rfl⟩)))),
  fun r hr => (h.rows r hr).keep hk (fun g hg e => hS g hg (List.mem_append.2 (.inr (mem_rwT.2 ⟨r,hr,e⟩)))),h.nd,h.ge⟩
theorem St.ext (h : St b L Rs W) (hx : Ext W W') : St b L Rs W' := h.keep (hx.keep []) (by simp)
theorem St.get (h : St b L Rs W) (i : Nat) {a : Nat} {t : TypeId} {cs : Array Value} (hi : L[i]? = some (a,t,cs)) : Blk W a t cs := h.cells _ (List.mem_of_getElem? hi)
theorem St.row (h : St b L Rs W) (i : Nat) {T k : Nat} {v : Value} {n : Nat} {xs : List Value} (hi : Rs[i]? = some (T,k,v,n,xs)) (hk : k ≠ 0 := by decide) : W.ownsRow b T k v n xs := (RowIs.slice hk).1 (h.rows _ (List.mem_of_getElem? hi))
theorem St.cell (h : St b L Rs W) (i j : Nat) {a : Nat} {t : TypeId} {cs : Array Value} {v : Value} (hi : L[i]? = some (a,t,cs)) (hv : cs[j]? = some v) : ∀ W',Ext W W' → W'.cell? ⟨a,j,none⟩ = some v := (h.get i hi).cells j hv
theorem set_self {α : Type} {l : List α} {i : Nat} {a : α} (h : l[i]? = some a) : l.set i a = l := by
 refine List.ext_getElem? fun j => ?_
 rw [List.getElem?_set]
 split
 ·rename_i hij
  subst hij
  obtain ⟨h1,h2⟩ := List.getElem?_eq_some_iff.1 h
  rw [if_pos h1,h]
 ·rfl
theorem flatMap_sub {α β : Type} (f : α → List β) {l m : List α} (h : l.Sublist m) : (l.flatMap f).Sublist (m.flatMap f) := by
 induction h with
 | slnil => exact .slnil
 | cons a _ ih => rw [List.flatMap_cons]; exact ih.trans (List.sublist_append_right _ _)
 | cons_cons a _ ih => rw [List.flatMap_cons,List.flatMap_cons]; exact (List.Sublist.refl _).append ih
theorem stT_set {i a : Nat} {t t' : TypeId} {cs cs' : Array Value} (hi : L[i]? = some (a,t,cs)) : stT (L.set i (a,t',cs')) Rs = stT L Rs := by
 unfold stT
 congr 1
 rw [List.map_set]
 exact set_self (by rw [List.getElem?_map,hi]; rfl)
theorem St.mem (_h : St b L Rs W) (i : Nat) {a : Nat} {t : TypeId} {cs : Array Value} (hi : L[i]? = some (a,t,cs)) : a ∈ stT L Rs := List.mem_append.2 (.inl (List.mem_map.2 ⟨_,List.mem_of_getElem? hi,rfl⟩))
theorem key_uniq (h : (L.map (·.1)).Nodup) {i j a : Nat} {e f : TypeId × Array Value} (hi : L[i]? = some (a,e)) (hj : L[j]? = some (a,f)) : i = j := by
 have h1 : (L.map (·.1))[i]? = some a := by rw [List.getElem?_map,hi]; rfl
 have h2 : (L.map (·.1))[j]? = some a := by rw [List.getElem?_map,hj]; rfl
 obtain ⟨l1,e1⟩ := List.getElem?_eq_some_iff.1 h1
 obtain ⟨l2,e2⟩ := List.getElem?_eq_some_iff.1 h2
 exact (List.getElem_inj h).1 (e1.trans e2.symm)
theorem St.set (h : St b L Rs W) (i : Nat) {a : Nat} {t : TypeId} {cs cs' : Array Value} (hi : L[i]? = some (a,t,cs)) : St b (L.set i (a,t,cs')) Rs (W.setRow a cs') := by
 have hn := h.nd
 unfold stT at hn
 rw [List.nodup_append] at hn
 refine ⟨fun e he => ?_,fun r hr => (h.rows r hr).keep (Keep.setRow W a cs') (fun g hg e => ?_),by rw [stT_set hi]; exact h.nd,by rw [stT_set hi]; exact h.ge⟩
 ·obtain ⟨j,hj⟩ := List.getElem?_of_mem he
  by_cases hij : i = j
  ·subst hij
   have hlt := (List.getElem?_eq_some_iff.1 hi).1
   rw [List.getElem?_set_self hlt] at hj
   cases hj
   exact (h.get i hi).row cs'
  ·rw [List.getElem?_set_ne hij] at hj
   obtain ⟨a',t',c'⟩ := e
   have hm := h.get j hj
   refine hm.keep (Keep.setRow W a cs') fun hm => ?_
   rw [List.mem_singleton] at hm
   subst hm
   exact hij (key_uniq hn.1 hi hj)
 ·rw [List.mem_singleton] at hg
  subst hg
  exact hn.2.2 _ (List.mem_map.2 ⟨_,List.mem_of_getElem? hi,rfl⟩) _ (mem_rwT.2 ⟨r,hr,e⟩) rfl
theorem St.alloc (h : St b L Rs W) (hb : b ≤ W.heap.size) (t : TypeId) (cs : Array Value) : St b (L ++ [(W.heap.size,t,cs)]) Rs (W.alloc (.cells cs t)) := by
 have hx := ext_self1 W (.cells cs t)
 have h1 := h.ext hx
 have hp : (stT (L ++ [(W.heap.size,t,cs)]) Rs).Perm (W.heap.size :: stT L Rs) := by
  unfold stT
  rw [List.map_append,List.append_assoc]
  exact List.perm_middle
 refine ⟨fun e he => ?_,h1.rows,hp.nodup_iff.2 (List.nodup_cons.2 ⟨fun hm => ?_,h.nd⟩),fun x hx => ?_⟩
 ·rcases List.mem_append.1 he with he | he
  ·exact h1.cells e he
  ·rw [List.mem_singleton] at he
   subst he
   exact Blk.new W t cs
 ·have := h.lt _ hm
  omega
 ·rcases List.mem_cons.1 (hp.mem_iff.1 hx) with rfl | hx
  ·exact hb
  ·exact h.ge x hx
theorem stT_alloc (t : TypeId) (cs : Array Value) (a : Nat) : ∀ x ∈ stT (L ++ [(a,t,cs)]) Rs,x ∈ stT L Rs ∨ x = a := by
 intro x hx
 unfold stT at hx ⊢
 simp only [List.map_append,List.map_cons,List.map_nil,List.mem_append,List.mem_singleton] at hx ⊢
 rcases hx with (h | h) | h
 ·exact .inl (.inl h)
 ·exact .inr h
 ·exact .inl (.inr h)
theorem St.sub {L' : List Cl} {Rs' : List Rw} (h : St b L Rs W) (hL : L'.Sublist L) (hR : Rs'.Sublist Rs) : St b L' Rs' W := by
 have hs : (stT L' Rs').Sublist (stT L Rs) := by
  unfold stT rwT
  exact (hL.map _).append (flatMap_sub _ hR)
 exact ⟨fun e he => h.cells e (hL.subset he),fun r hr => h.rows r (hR.subset hr),hs.nodup h.nd,fun x hx => h.ge x (hs.subset hx)⟩
theorem stT_sub {L' : List Cl} {Rs' : List Rw} (hL : L'.Sublist L) (hR : Rs'.Sublist Rs) : ∀ x ∈ stT L' Rs',x ∈ stT L Rs := by
 have hs : (stT L' Rs').Sublist (stT L Rs) := by
  unfold stT rwT
  exact (hL.map _).append (flatMap_sub _ hR)
 exact fun x hx => hs.subset hx
theorem St.nil (h : St b L Rs W) (T k : Nat) (hk : k ≠ 0 := by decide) : St b L (Rs ++ [(T,k, .slice none 0 0,0,[])]) W := by
 have hs : stT L (Rs ++ [(T,k, .slice none 0 0,0,[])]) = stT L Rs := by
  unfold stT rwT
  rw [List.flatMap_append]
  simp [rwB_slice hk,Value.ownBlock]
 refine ⟨h.cells,fun r hr => ?_,by rw [hs]; exact h.nd,by rw [hs]; exact h.ge⟩
 rcases List.mem_append.1 hr with hr | hr
 ·exact h.rows r hr
 ·rw [List.mem_singleton] at hr
  subst hr
  exact (RowIs.slice hk).2 (World.ownsRow_nil _ _ _ _)
theorem stT_nil (T k : Nat) (hk : k ≠ 0) : stT L (Rs ++ [(T,k, .slice none 0 0,0,[])]) = stT L Rs := by
 unfold stT rwT
 rw [List.flatMap_append]
 simp [rwB_slice hk,Value.ownBlock]
theorem St.push (h : St b L Rs W) (i : Nat) {T k n n' : Nat} {v v' : Value} {xs xs' : List Value} (hk0 : k ≠ 0) (hi : Rs[i]? = some (T,k,v,n,xs)) {W1 w6 : World} (hx : Ext W W1) (hown : w6.ownsRow b T k v' n' xs') (hg : W1.grownBy w6 v.ownBlock) (hat : v'.ownBlock = v.ownBlock ∨ v'.ownBlock = some W1.heap.size) :
  St b L (Rs.set i (T,k,v',n',xs')) w6 ∧ Keep v.ownBlock.toList W w6 ∧ tIn (stT L Rs) W.heap.size (stT L (Rs.set i (T,k,v',n',xs'))) := by
 have hlt := (List.getElem?_eq_some_iff.1 hi).1
 have hei := (List.getElem?_eq_some_iff.1 hi).2
 obtain ⟨A,B,e1,e2,e3⟩ := List.exists_of_set (l := Rs) (a' := ((T,k,v',n',xs') : Rw)) hlt
 rw [hei] at e1
 rw [e3]
 have hk : Keep v.ownBlock.toList W w6 := (hx.keep _).trans (Keep.of_grown hg)
 have hsz := Below.size hx
 have hnd := h.nd
 have hT : ∀ (r : Rw),(stT L (A ++ r :: B)).Perm ((rwB r).toList ++ (L.map (·.1) ++ (rwT A ++ rwT B))) := by
  intro r
  unfold stT rwT
  rw [List.flatMap_append,List.flatMap_cons]
  refine List.Perm.trans ?_ (List.perm_append_comm_assoc _ _ _)
  refine List.Perm.append_left _ ?_
  exact List.perm_append_comm_assoc _ _ _
 have hp := hT (T,k,v,n,xs)
 rw [rwB_slice hk0] at hp
 rw [← e1] at hp
 have hn1 := hp.nodup_iff.1 hnd
 rw [List.nodup_append] at hn1
 obtain ⟨_,hn2,hn3⟩ := hn1
 have hoth : ∀ x ∈ L.map (·.1) ++ (rwT A ++ rwT B),x ∉ v.ownBlock.toList := fun x hx hm => hn3 _ hm _ hx rfl
 have hlo : ∀ x ∈ L.map (·.1) ++ (rwT A ++ rwT B),x < W.heap.size := fun x hx => h.lt x (hp.mem_iff.2 (List.mem_append.2 (.inr hx)))
 have hgo : ∀ x ∈ L.map (·.1) ++ (rwT A ++ rwT B),b ≤ x := fun x hx => h.ge x (hp.mem_iff.2 (List.mem_append.2 (.inr hx)))
 have hp' := hT (T,k,v',n',xs')
 rw [rwB_slice hk0] at hp'
 refine ⟨⟨fun e he => ?_,fun r hr => ?_,hp'.nodup_iff.2 ?_,fun x hx' => ?_⟩,hk,fun x hx' => ?_⟩
 ·exact (h.cells e he).keep hk (hoth _ (List.mem_append.2 (.inl (List.mem_map.2 ⟨e,he,rfl⟩))))
 ·rcases List.mem_append.1 hr with hr | hr
  ·exact (h.rows r (by rw [e1]; simp [hr])).keep hk (fun g hg e => hoth g (List.mem_append.2 (.inr (List.mem_append.2 (.inl (mem_rwT.2 ⟨r,hr,e⟩))))) hg)
  ·rcases List.mem_cons.1 hr with rfl | hr
   ·exact (RowIs.slice hk0).2 hown
   ·exact (h.rows r (by rw [e1]; simp [hr])).keep hk (fun g hg e => hoth g (List.mem_append.2 (.inr (List.mem_append.2 (.inr (mem_rwT.2 ⟨r,hr,e⟩))))) hg)
 ·rw [List.nodup_append]
  refine ⟨?_,hn2,fun x hx1 y hy e => ?_⟩
  ·cases v'.ownBlock <;> simp
  ·subst e
   simp only [Option.mem_toList] at hx1
   rcases hat with e | e
   ·rw [e] at hx1
    exact hoth x hy (by simpa using hx1)
   ·rw [e] at hx1
    simp at hx1
    have := hlo x hy
    omega
 ·rcases List.mem_append.1 (hp'.mem_iff.1 hx') with h1 | h1
  ·exact (own_base hown (by simpa using h1)).1
  ·exact hgo x h1
 ·rcases List.mem_append.1 (hp'.mem_iff.1 hx') with h1 | h1
  ·simp only [Option.mem_toList] at h1
   rcases hat with e | e
   ·rw [e] at h1
    exact .inl (hp.mem_iff.2 (List.mem_append.2 (.inl (by simpa using h1))))
   ·rw [e] at h1
    simp at h1
    right; omega
  ·exact .inl (hp.mem_iff.2 (List.mem_append.2 (.inr h1)))
end
structure Sp (wf : World) (T0 : List Nat) (w : World) (ds : List Deferred) (L : List Cl) (Rs : List Rw) (W : World) : Prop where
 st : St wf.heap.size L Rs W
 extf : Ext wf W
 keep : Keep T0 w W
 tin : tIn T0 w.heap.size (stT L Rs)
 marks : Marks wf.heap.size ds W
 nd : ∀ D ∈ stT L Rs, ∀ d ∈ ds,d.target ≠ .collected D
section
variable {wf : World} {T0 : List Nat} {w W W' : World} {ds : List Deferred} {L L' : List Cl} {Rs Rs' : List Rw}
theorem Sp.new (w : World) : Sp w [] w [] [] [] w :=
 ⟨⟨by simp,by simp,by simp [stT,rwT],by simp [stT,rwT]⟩,Ext.refl _,Keep.refl _ _,by intro x hx; simp [stT,rwT] at hx, .nil _,by simp⟩
theorem Sp.size (h : Sp wf T0 w ds L Rs W) : wf.heap.size ≤ W.heap.size := Below.size h.extf
theorem Sp.after (h : Sp wf T0 w ds L Rs W) (k : Keep (stT L Rs) W W') : Ext wf W' := h.extf.of_new k h.st.ge
theorem Sp.round (h : Sp wf T0 w ds L Rs W) (k : Keep (stT L Rs) W W') (h' : St wf.heap.size L' Rs' W') : Sp wf (stT L' Rs') W' [] L' Rs' W' := ⟨h',h.after k,Keep.refl _ _, .refl _ _, .nil _,by simp⟩
theorem Sp.step (h : Sp wf T0 w ds L Rs W) {S : List Nat} (k : Keep S W W') (hS : ∀ x ∈ S,x ∈ stT L Rs ∨ W.heap.size ≤ x) (h' : St wf.heap.size L' Rs' W') (ht : tIn (stT L Rs) W.heap.size (stT L' Rs')) : Sp wf T0 w ds L' Rs' W' := by
 have hsz := h.keep.size
 refine ⟨h',h.extf.of_new k (fun x hx => ?_),h.keep.of_new k (fun x hx => ?_),h.tin.trans ht hsz,h.marks.keep k (fun D hD d hd e => ?_),fun D hD d hd e => ?_⟩
 ·rcases hS x hx with h1 | h1
  ·exact h.st.ge x h1
  ·have := h.size
   omega
 ·rcases hS x hx with h1 | h1
  ·exact h.tin x h1
  ·exact .inr (by omega)
 ·rcases hS D hD with h1 | h1
  ·exact h.nd D h1 d hd e
  ·obtain ⟨D',e1,_,h3⟩ := h.marks.lt d hd
   rw [e1] at e
   injection e with e
   have := (Array.getElem?_eq_some_iff.1 h3).1
   omega
 ·rcases ht D hD with h1 | h1
  ·exact h.nd D h1 d hd e
  ·obtain ⟨D',e1,_,h3⟩ := h.marks.lt d hd
   rw [e1] at e
   injection e with e
   have := (Array.getElem?_eq_some_iff.1 h3).1
   omega
theorem Sp.ext (h : Sp wf T0 w ds L Rs W) (hx : Ext W W') : Sp wf T0 w ds L Rs W' := h.step (hx.keep []) (by simp) (h.st.ext hx) (.refl _ _)
theorem Sp.set (h : Sp wf T0 w ds L Rs W) (i : Nat) {a : Nat} {t : TypeId} {cs cs' : Array Value} (hi : L[i]? = some (a,t,cs)) : Sp wf T0 w ds (L.set i (a,t,cs')) Rs (W.setRow a cs') :=
 h.step (Keep.setRow W a cs') (fun x hx => by rw [List.mem_singleton] at hx; subst hx; exact .inl (h.st.mem i hi)) (h.st.set i hi) (by rw [stT_set hi]; exact .refl _ _)
theorem Sp.alloc (h : Sp wf T0 w ds L Rs W) (t : TypeId) (cs : Array Value) : Sp wf T0 w ds (L ++ [(W.heap.size,t,cs)]) Rs (W.alloc (.cells cs t)) :=
 h.step ((ext_self1 W (.cells cs t)).keep []) (by simp) (h.st.alloc h.size t cs) (fun x hx => by
  rcases stT_alloc t cs _ x hx with h1 | h1
  ·exact .inl h1
  ·exact .inr (by omega))
theorem Sp.sub (h : Sp wf T0 w ds L Rs W) (hL : L'.Sublist L) (hR : Rs'.Sublist Rs) : Sp wf T0 w ds L' Rs' W :=
 h.step (Keep.refl [] W) (by simp) (h.st.sub hL hR) (fun x hx => .inl (stT_sub hL hR x hx))
theorem Sp.nil (h : Sp wf T0 w ds L Rs W) (T k : Nat) (hk : k ≠ 0 := by decide) : Sp wf T0 w ds L (Rs ++ [(T,k, .slice none 0 0,0,[])]) W :=
 h.step (Keep.refl [] W) (by simp) (h.st.nil T k hk) (by rw [stT_nil T k hk]; exact .refl _ _)
theorem Sp.push (h : Sp wf T0 w ds L Rs W) (i : Nat) {T k n n' : Nat} {v v' : Value} {xs xs' : List Value} (hk0 : k ≠ 0) (hi : Rs[i]? = some (T,k,v,n,xs)) {W1 w6 : World} (hx : Ext W W1) (hown : w6.ownsRow wf.heap.size T k v' n' xs') (hg : W1.grownBy w6 v.ownBlock) (hat : v'.ownBlock = v.ownBlock ∨ v'.ownBlock = some W1.heap.size) :
  Sp wf T0 w ds L (Rs.set i (T,k,v',n',xs')) w6 := by
 obtain ⟨h1,h2,h3⟩ := h.st.push i hk0 hi hx hown hg hat
 exact h.step h2 (fun x hx => .inl (List.mem_append.2 (.inr (mem_rwT.2 ⟨_,List.mem_of_getElem? hi,by rw [rwB_slice hk0]; simpa using hx⟩)))) h1 h3
theorem Sp.get (h : Sp wf T0 w ds L Rs W) (i : Nat) {a : Nat} {t : TypeId} {cs : Array Value} (hi : L[i]? = some (a,t,cs)) : Blk W a t cs := h.st.get i hi
theorem Sp.row (h : Sp wf T0 w ds L Rs W) (i : Nat) {T k : Nat} {v : Value} {n : Nat} {xs : List Value} (hi : Rs[i]? = some (T,k,v,n,xs)) (hk : k ≠ 0 := by decide) : W.ownsRow wf.heap.size T k v n xs := h.st.row i hi hk
theorem Sp.cell (h : Sp wf T0 w ds L Rs W) (i j : Nat) {a : Nat} {t : TypeId} {cs : Array Value} {v : Value} (hi : L[i]? = some (a,t,cs)) (hv : cs[j]? = some v) : ∀ W',Ext W W' → W'.cell? ⟨a,j,none⟩ = some v := h.st.cell i j hi hv
theorem Sp.lt (h : Sp wf T0 w ds L Rs W) : ∀ x ∈ stT L Rs,x < W.heap.size := h.st.lt
theorem Sp.ne (h : Sp wf T0 w ds L Rs W) (i j : Nat) (hij : i ≠ j) {a c : Nat} {t u : TypeId} {cs ds' : Array Value} (hi : L[i]? = some (a,t,cs)) (hj : L[j]? = some (c,u,ds')) : a ≠ c := fun e => by
 subst e
 have hn := h.st.nd
 unfold stT at hn
 rw [List.nodup_append] at hn
 exact hij (key_uniq hn.1 hi hj)
theorem Sp.ne_row (h : Sp wf T0 w ds L Rs W) (i j : Nat) {a : Nat} {t : TypeId} {cs : Array Value} (hi : L[i]? = some (a,t,cs)) {T k n : Nat} {v : Value} {xs : List Value} (hj : Rs[j]? = some (T,k,v,n,xs)) (hk : k ≠ 0 := by decide) : a ∉ v.ownBlock.toList := fun hm => by
 have hn := h.st.nd
 unfold stT at hn
 rw [List.nodup_append] at hn
 exact hn.2.2 _ (List.mem_map.2 ⟨_,List.mem_of_getElem? hi,rfl⟩) _ (mem_rwT.2 ⟨_,List.mem_of_getElem? hj,by rw [rwB_slice hk]; simpa using hm⟩) rfl
theorem Sp.mark {n : Nat} (h : Sp wf T0 w ds L Rs W) (h' : St wf.heap.size L' Rs' W') (k : Keep (stT L Rs) W W') (ht : tIn (stT L Rs) (W.heap.size + (2 + n)) (stT L' Rs')) (hD : W'.heap[W.heap.size]? = some (.deferred (some []))) : Sp wf T0 w ({ target := .collected W.heap.size,args := #[] } :: ds) L' Rs' W' := by
 have h1 := h.step k (fun x hx => .inl hx) h' (fun x hx => (ht x hx).imp id (fun h => by omega))
 refine ⟨h1.st,h1.extf,h1.keep,h1.tin, .cons h.size hD (fun d hd e => ?_) h1.marks,fun D hD d hd e => ?_⟩
 ·obtain ⟨D',e1,_,h3⟩ := h.marks.lt d hd
  rw [e1] at e
  injection e with e
  have := (Array.getElem?_eq_some_iff.1 h3).1
  omega
 ·rcases List.mem_cons.1 hd with rfl | hd
  ·injection e with e
   rcases ht D hD with h2 | h2
   ·have := h.lt D h2; omega
   ·omega
  ·exact h1.nd D hD d hd e
theorem Sp.leaves0 {P : Program} {fn : Func} {tmps : Array Value} {R : Ending → World → Prop} {W : World} (h : LeavesIn Fence.wide 0 P fn tmps R [] .returning W) : LeavesInM Fence.wide 0 P fn tmps R [] .returning W := h
theorem Sp.leaves {P : Program} {fn : Func} {tmps : Array Value} {R : Ending → World → Prop} (h : Sp w [] w ds L Rs W) (hR : ∀ w',Ext w w' → St w.heap.size L Rs w' → LeavesIn Fence.wide 0 P fn tmps R [] .returning w') : LeavesInM Fence.wide 0 P fn tmps R ds .returning W := by
 refine leaves_marks (B := w.heap.size) ds W h.marks ?_
 rintro w' ⟨S,hS,hkS⟩
 have hS' : ∀ x ∈ S,x ∉ stT L Rs := fun x hx hm => by
  obtain ⟨d,hd,e⟩ := hS x hx
  exact h.nd x hm d hd e
 refine hR w' ?_ (h.st.keep hkS hS')
 refine h.extf.of_new hkS fun x hx => ?_
 obtain ⟨d,hd,e⟩ := hS x hx
 obtain ⟨D,e1,h2,_⟩ := h.marks.lt d hd
 rw [e1] at e
 injection e with e
 omega
end
section
variable {P : Program}
theorem wpX_qlK {Q : Act → World → Prop} {l : List Oper} {a : Act} {w : World} (S : List Nat) (qs ts : List Nat) (n : Nat) (hB : qlB l.toArray qs ts (ancTab l.toArray) = true)
  (h : wpQL P l.toArray Ext (Keep S w) (fun a' => ∀ w',Ext w w' → wpX P l.toArray Ext (Keep S w) (fun j => !ts.contains j) Q n (qlListed l.toArray qs (Array.replicate l.length false)) a' w') qs a) :
  wpX P l.toArray Ext (Keep S w) (fun j => !ts.contains j) Q (n + qs.length) (Array.replicate l.length false) a w.drew := by
 simp only [qlB,Bool.and_eq_true] at hB
 obtain ⟨⟨⟨h1,h2⟩,h3⟩,h4⟩ := hB
 have hsz : l.toArray.size = l.length := by simp
 rw [hsz] at h4
 exact wpX_qlx (P := P) (R := Ext) (C := Keep S w) (ancOk_of h1) (fun j hj => by
  simp only [Bool.not_eq_true',List.contains_eq_mem,decide_eq_false_iff_not]
  intro hin
  have := List.all_eq_true.1 h3 j hin
  simp at this
  omega) h2 Ext.refl (fun _ _ _ => Ext.trans) (fun _ _ h e => h.trans (e.keep _)) n qs _ a w.drew
  (fun j oj _ hl => by
   exfalso
   rcases Nat.lt_or_ge j l.length with hj | hj
   ·simp [hj] at hl
   ·simp [hj] at hl) h4 ((Ext.refl w).drew.keep S) (wpQL_mono (fun a' hk w'' e => hk w'' ((Ext.refl w).drew.trans e)) qs _ h)
theorem wp_regionK {id : Nat} {Q : Exit → Act → World → Prop} {a : Act} {w : World} {l : List Oper} (S : List Nat) (qs ts : List Nat) (n : Nat) (listed : Array Bool)
  (hm : P.follows .mixedOrders = true) (hB : qlB l.toArray qs ts (ancTab l.toArray) = true) (hn : n + qs.length = l.length) (hlst : qlListed l.toArray qs (Array.replicate l.length false) = listed)
  (h : wpQL P l.toArray Ext (Keep S w) (fun a' => ∀ w',Ext w w' → wpX P l.toArray Ext (Keep S w) (fun j => !ts.contains j) (fun a w => Q .normal a w) n listed a' w') qs a) : (Code.region id l.toArray true).wp P Q a w := by
 subst hlst
 refine wp_region_any hm ?_
 have := wpX_qlK (P := P) (Q := fun a w => Q .normal a w) S qs ts n hB h
 rw [hn] at this
 have hsz : l.toArray.size = l.length := by simp
 rw [hsz]
 exact wpAny_of_wpX (R := Ext) Ext.refl (fun _ _ h => h) _ _ _ _ this
theorem wpI_regionK {id l0 m : Nat} {Q : Exit → Act → World → Prop} {a : Act} {w : World} {l : List Oper} (S : List Nat) (qs ts : List Nat) (n : Nat) (listed : Array Bool)
  (hm : P.follows .mixedOrders = true) (hnd : noDefer l.toArray = true) (hB : qlB l.toArray qs ts (ancTab l.toArray) = true) (hn : n + qs.length = l.length) (hlst : qlListed l.toArray qs (Array.replicate l.length false) = listed)
  (h : wpQL P l.toArray Ext (Keep S w) (fun a' => ∀ w',Ext w w' → wpX P l.toArray Ext (Keep S w) (fun j => !ts.contains j) (fun a w => Q .normal a w) n listed a' w') qs a) : (Code.region id l.toArray true).wpIn (RF l0) m P Q a w := by
 subst hlst
 refine wpIn_region_any hm ?_
 have := wpX_qlK (P := P) (Q := fun a w => Q .normal a w) S qs ts n hB h
 rw [hn] at this
 have hsz : l.toArray.size = l.length := by simp
 rw [hsz]
 exact wpAnyIn_of_wpX (R := Ext) hnd Ext.refl (fun _ _ h => h) _ _ _ _ this
theorem qUpon_ofX {W : World} {v : Value} {r : Result Next} (h : r = .ok (.value v) W) : qUpon P Ext W v r := by rw [h]; exact ⟨rfl,Ext.refl W⟩
end
section
variable {P : Program} {C : World → Prop} {safe : Nat → Bool} {Q : Act → World → Prop} {l : List Oper} {n i : Nat} {o : Oper} {listed : Array Bool} {a : Act} {W w' : World} {v : Value}
theorem lx_valX (hr : Region.ready .any l.toArray listed = [i]) (ho : pick l i = some o) (hw : Region.wanted o (yielded l.toArray a.tmps) = true) (listed' : Array Bool) (hl : listed.setIfInBounds i true = listed')
  (h : (execOp a.eval o).run P W = .ok (.value v) w') (hC : safe i = true → C w') (hk : ∀ w'',Ext w' w'' → wpX P l.toArray Ext C safe Q n listed' (a.put o.dst v) w'') : wpX P l.toArray Ext C safe Q (n + 1) listed a W := by
 refine lx_one hr ho hw listed' hl ?_
 rw [h]
 exact ⟨hC,hk⟩
theorem lx_skipX (hr : Region.ready .any l.toArray listed = [i]) (ho : pick l i = some o) (hw : Region.wanted o (yielded l.toArray a.tmps) = true) (listed' : Array Bool) (hl : listed.setIfInBounds i true = listed')
  (h : (execOp a.eval o).run P W = .ok .skip w') (hC : safe i = true → C w') (hk : ∀ w'',Ext w' w'' → wpX P l.toArray Ext C safe Q n listed' (a.put o.dst undef) w'') : wpX P l.toArray Ext C safe Q (n + 1) listed a W := by
 refine lx_one hr ho hw listed' hl ?_
 rw [h]
 exact ⟨hC,hk⟩
end
section
variable {α : Type} {enc : α → List Value} {T ST : TypeId} {kk byt : Nat} {C : World → Prop} {safe : Nat → Bool} {Q : Act → World → Prop} {l : List Oper} {n i : Nat} {o : Oper} {s x : Operand} {listed : Array Bool} {a : Act} {W : World}
end
theorem load_V {P : Program} {ρ : Operand → Value} {o : Oper} {T : TypeId} {x : Operand} {w : World} {b off : Nat} {v : Value} (ho : o.op = .load T x) (hx : ρ x = .pointer (some ⟨b,off,none⟩)) (ha : (isAgg T).run P w = .ok false w) (hc : w.cell? ⟨b,off,none⟩ = some v) : (execOp ρ o).run P w = .ok (.value v) w := by
 unfold execOp
 simp only [ho,hx]
 simp [Instr.loadAt,Instr.sureAddr,loadVar,Sem.run_bind,ha,go_sem,hc]
section
variable {P : Program} {wf : World} {T0 : List Nat} {w W : World} {ds : List Deferred} {L : List Cl} {Rs : List Rw} {l : List Oper} {K : Act → World → Prop} {r : List Oper} {o : Oper} {a : Act}
theorem Sp.allocO (h : Sp wf T0 w ds L Rs W) (t : TypeId) (cs : Array Value) (hw : Region.wanted o (yielded l.toArray a.tmps) = true) (hrun : (execOp a.eval o).run P W = .ok (.value (.pointer (some ⟨W.heap.size,0,none⟩))) (W.alloc (.cells cs t)))
  (hk : ∀ b W',Sp wf T0 w ds (L ++ [(b,t,cs)]) Rs W' → wpO P l K r (a.put o.dst (.pointer (some ⟨b,0,none⟩))) W') : wpO P l K (o :: r) a W := wpO_val hw hrun (hk _ _ (h.alloc t cs))
theorem Sp.setO (h : Sp wf T0 w ds L Rs W) (i : Nat) {c : Nat} {t : TypeId} {cs : Array Value} (cs' : Array Value) (hi : L[i]? = some (c,t,cs)) (hw : Region.wanted o (yielded l.toArray a.tmps) = true) (hrun : Blk W c t cs → (execOp a.eval o).run P W = .ok .skip (W.setRow c cs'))
  (hk : ∀ W',Sp wf T0 w ds (L.set i (c,t,cs')) Rs W' → wpO P l K r (a.put o.dst undef) W') : wpO P l K (o :: r) a W := wpO_skip hw (hrun (h.get i hi)) (hk _ (h.set i hi))
variable {C : World → Prop} {safe : Nat → Bool} {Q : Act → World → Prop} {n j : Nat} {listed : Array Bool} {S : List Nat} {w1 : World}
theorem Sp.allocX (h : Sp wf T0 w ds L Rs W) (hK : Keep S w1 W) (t : TypeId) (cs : Array Value) (hr : Region.ready .any l.toArray listed = [j]) (ho : pick l j = some o) (hw : Region.wanted o (yielded l.toArray a.tmps) = true) (listed' : Array Bool) (hl : listed.setIfInBounds j true = listed') (hrun : (execOp a.eval o).run P W = .ok (.value (.pointer (some ⟨W.heap.size,0,none⟩))) (W.alloc (.cells cs t)))
  (hk : ∀ b W',Sp wf T0 w ds (L ++ [(b,t,cs)]) Rs W' → Keep S w1 W' → wpX P l.toArray Ext (Keep S w1) safe Q n listed' (a.put o.dst (.pointer (some ⟨b,0,none⟩))) W') : wpX P l.toArray Ext (Keep S w1) safe Q (n + 1) listed a W :=
 lx_valX hr ho hw listed' hl hrun (fun _ => hK.trans ((ext_self1 W _).keep S)) (fun _ hx => hk _ _ ((h.alloc t cs).ext hx) ((hK.trans ((ext_self1 W _).keep S)).trans (hx.keep S)))
theorem Sp.setX (h : Sp wf T0 w ds L Rs W) (i : Nat) {c : Nat} {t : TypeId} {cs : Array Value} (cs' : Array Value) (hi : L[i]? = some (c,t,cs)) (hr : Region.ready .any l.toArray listed = [j]) (ho : pick l j = some o) (hw : Region.wanted o (yielded l.toArray a.tmps) = true) (listed' : Array Bool) (hl : listed.setIfInBounds j true = listed') (hs : safe j = false) (hrun : Blk W c t cs → (execOp a.eval o).run P W = .ok .skip (W.setRow c cs'))
  (hk : ∀ W',Sp wf T0 w ds (L.set i (c,t,cs')) Rs W' → wpX P l.toArray Ext C safe Q n listed' (a.put o.dst undef) W') : wpX P l.toArray Ext C safe Q (n + 1) listed a W :=
 lx_skipX hr ho hw listed' hl (hrun (h.get i hi)) (fun h => by rw [hs] at h; cases h) (fun _ hx => hk _ ((h.set i hi).ext hx))
theorem Sp.wholeK (h : Sp wf T0 w ds L Rs W) (i : Nat) {c : Nat} {t : TypeId} {cs : Array Value} (hi : L[i]? = some (c,t,cs)) {W' : World} (hK : Keep S W W') (hS : c ∉ S) : ∀ (j : Nat) v,cs[j]? = some v → W'.cell? ⟨c,0 + j,none⟩ = some v := ((h.get i hi).keep hK hS).whole
theorem Sp.cellK (h : Sp wf T0 w ds L Rs W) (i j : Nat) {c : Nat} {t : TypeId} {cs : Array Value} {v : Value} (hi : L[i]? = some (c,t,cs)) (hv : cs[j]? = some v) (hS : c ∉ S) : ∀ W',Keep S W W' → W'.cell? ⟨c,j,none⟩ = some v := (h.get i hi).cellsK hS j hv
end
section
variable {α : Type} {enc : α → List Value} {T ST : TypeId} {kk byt : Nat} {l : List Oper} {s x : Operand} {o : Oper} {a : Act} {W w wf : World} {T0 : List Nat} {ds : List Deferred} {L : List Cl} {Rs : List Rw}
theorem Sp.ap1O {K : Act → World → Prop} {r : List Oper} (h : Sp wf T0 w ds L Rs W) (i : Nat) {v : Value} {m : Nat} {xs : List α} (hi : Rs[i]? = some (T,kk,v,m,xs.flatMap enc)) (hw : Region.wanted o (yielded l.toArray a.tmps) = true) (hi0 : (Tryz.prog.info? T).map (fun i => (i.zero.map (·.cells.size),i.size,i.bytes)) = some (some kk,kk,byt)) (hu : Tryz.prog.underlying ST = some (.slice T)) (hone : ∀ x, ∀ v ∈ enc x,v.oneCell' = true) (hlen : ∀ x,(enc x).length = kk) (hk : 0 < kk) (hby : byt ≤ 1000)
  (ho : o.op = .call { callee := .builtin .append,args := #[s,x],argTypes := #[ST,ST] }) (e : α) {g : Nat} {t : TypeId} (hs : a.eval s = v) (hx : a.eval x = .slice (some ⟨g,0,none⟩) 1 1) (hg : Blk W g t (enc e).toArray) (hl : m ≤ 10000000)
  (hk2 : ∀ A' c' W',Sp wf T0 w ds L (Rs.set i (T,kk, .slice A' (m + 1) c',m + 1,(xs ++ [e]).flatMap enc)) W' → wpO Tryz.prog l K r (a.put o.dst (.slice A' (m + 1) c')) W') : wpO Tryz.prog l K (o :: r) a W :=
 wpO_ap1 hw hi0 hu hone hlen hk hby ho e hs hx hg (h.row i hi (by omega)) hl h.size fun A' c' w' h1 h2 h3 => hk2 A' c' w' (h.push i (by omega) hi (Ext.refl W) h1 h2 h3)
end
theorem run_alloc_set {ρ : Operand → Value} {o : Oper} {w : World} (ho : o.op = .alloc 25) : (execOp ρ o).run Tryz.prog w = .ok (.value (.pointer (some ⟨w.heap.size,0,none⟩))) (w.alloc (.cells (setC 0) 25)) := by
 unfold execOp
 simp only [ho]
 simp [go_sem]
 rfl
theorem run_box {P : Program} {ρ : Operand → Value} {o : Oper} {T : TypeId} {x : Operand} {w : World} {v : Value} (ho : o.op = .box T x) (hx : ρ x = v) : (execOp ρ o).run P w = .ok (.value (.pointer (some ⟨w.heap.size,0,none⟩))) (w.alloc (.cells v.cells T)) := by
 unfold execOp
 simp only [ho,hx]
 simp [go_sem]
theorem Sp.build1O {P : Program} {wf : World} {T0 : List Nat} {w W : World} {ds : List Deferred} {L : List Cl} {Rs : List Rw} {l : List Oper} {K : Act → World → Prop} {r : List Oper} {o : Oper} {a : Act} (h : Sp wf T0 w ds L Rs W) (t : TypeId) (cs : Array Value) (hw : Region.wanted o (yielded l.toArray a.tmps) = true) (hrun : (execOp a.eval o).run P W = .ok (.value (.slice (some ⟨W.heap.size,0,none⟩) 1 1)) (W.alloc (.cells cs t)))
  (hk : ∀ b W',Sp wf T0 w ds (L ++ [(b,t,cs)]) Rs W' → wpO P l K r (a.put o.dst (.slice (some ⟨b,0,none⟩) 1 1)) W') : wpO P l K (o :: r) a W := wpO_val hw hrun (hk _ _ (h.alloc t cs))
theorem slat_one {w : World} {b : Nat} {t : TypeId} {x : Int} (h : Blk w b t #[.int .i64 x]) : SlAt encI 1 w (some ⟨b,0,none⟩) [x] := fun _ => ⟨b,0,rfl,h.lt,fun i y hy j u hu => by
 match i,hy with
 | 0,hy =>
  simp at hy
  subst hy
  rw [show 0 + 0 * 1 + j = j by omega,h.cell j]
  simpa [encI] using hu⟩
theorem run_extract {P : Program} {ρ : Operand → Value} {o : Oper} {x : Operand} {w : World} {i : Nat} {vs : Array Value} {v : Value} (ho : o.op = .extract x i) (hx : ρ x = .tuple vs) (hv : vs[i]? = some v) : (execOp ρ o).run P w = .ok (.value v) w := by
 unfold execOp
 simp only [ho,hx]
 simp [go_sem,hv]
theorem run_move {P : Program} {ρ : Operand → Value} {o : Oper} {x : Operand} {w : World} {v : Value} (ho : o.op = .move x) (hx : ρ x = v) : (execOp ρ o).run P w = .ok (.value v) w := by
 unfold execOp
 simp only [ho,hx]
 simp [go_sem]
theorem Sp.addRow {wf : World} {T0 : List Nat} {w W W' : World} {ds : List Deferred} {L : List Cl} {Rs : List Rw} (h : Sp wf T0 w ds L Rs W) (hx : Ext W W') {T k n : Nat} {v : Value} {xs : List Value} (hown : W'.ownsRow W.heap.size T k v n xs) (hk : k ≠ 0 := by decide) : Sp wf T0 w ds L (Rs ++ [(T,k,v,n,xs)]) W' := by
 have h1 := h.ext hx
 have hsz := h.size
 have hT : ∀ x,x ∈ stT L (Rs ++ [(T,k,v,n,xs)]) ↔ x ∈ stT L Rs ∨ v.ownBlock = some x := fun x => by
  unfold stT rwT
  rw [List.flatMap_append]
  simp [rwB_slice hk,or_assoc]
 refine h.step (hx.keep []) (by simp) ⟨h1.st.cells,fun r hr => ?_, ?_,fun x hx' => ?_⟩ (fun x hx' => ?_)
 ·rcases List.mem_append.1 hr with hr | hr
  ·exact h1.st.rows r hr
  ·rw [List.mem_singleton] at hr
   subst hr
   exact (RowIs.slice hk).2 (own_base_le hown hsz)
 ·have hn := h1.st.nd
  have he : stT L (Rs ++ [(T,k,v,n,xs)]) = stT L Rs ++ v.ownBlock.toList := by
   unfold stT rwT
   rw [List.flatMap_append,List.append_assoc]
   simp [rwB_slice hk]
  rw [he,List.nodup_append]
  refine ⟨hn, ?_,fun x hx1 y hy e => ?_⟩
  ·cases v.ownBlock <;> simp
  ·subst e
   have h2 := h.lt x hx1
   have h3 := (own_base hown (by simpa using hy)).1
   omega
 ·rcases (hT x).1 hx' with h2 | h2
  ·exact h1.st.ge x h2
  ·have := (own_base hown h2).1
   omega
 ·rcases (hT x).1 hx' with h2 | h2
  ·exact .inl h2
  ·exact .inr (own_base hown h2).1
end Go.Proofs.YtmokciekndllpaaGreatDoor
