/- Parts of a proof, laid together. Each part says its own conditions. -/
import Derived.Test.YtbpeemhfjgcnaaaGreatC8
namespace Go.Proofs.YtbpeemhfjgcnaaaGreat
open Go Go.RowKit
theorem Blk.set {w : World} {b : Nat} {t : TypeId} {cs : Array Value} (h : Blk w b t cs) (i : Nat) (v : Value) : Blk (w.setCell ⟨b,i,none⟩ v) b t (cs.setIfInBounds i v) := by
 unfold Blk at *
 simp [World.setCell,Array.getElem?_modify,h]
theorem Keep.setCell (w : World) (b i : Nat) (v : Value) : Keep [b] w (w.setCell ⟨b,i,none⟩ v) :=
 ⟨rfl,rfl,rfl,by simp [World.setCell],fun k _ hn => Below.heap_setCell _ _ _ _ (by simpa using hn)⟩
theorem fld_step {wI wr w2 w4 : World} {b T k n n' i : Nat} {S : TypeId} {cs : Array Value} {v v' : Value} {xs xs' : List Value} (hk : Keep [b] wI wr) (hbI : b < wI.heap.size) (hb : Blk wr b S cs) (hown : wr.ownsRow wI.heap.size T k v n xs) (hx2 : Ext wr w2)
  (hown4 : w4.ownsRow wI.heap.size T k v' n' xs') (hg : w2.grownBy w4 v.ownBlock) (hi : i < cs.size) :
  ∃ W5,w4.setCell ⟨b,i,none⟩ v' = W5 ∧ w4.cell? ⟨b,i,none⟩ = some cs[i] ∧ w4.frozen? ⟨b,i,none⟩ = false ∧ Keep [b] wI W5 ∧ Blk W5 b S (cs.setIfInBounds i v') ∧ W5.ownsRow wI.heap.size T k v' n' xs' ∧
   (∀ j t c,Blk w2 j t c → j ≠ b → v.ownBlock ≠ some j → Blk W5 j t c) ∧ w2.heap.size ≤ W5.heap.size := by
 have hob : ∀ j,j < wI.heap.size → some j ≠ v.ownBlock := fun j hj e => by
  have := (own_base hown e.symm).1
  omega
 have hbr := hb.lt
 have hb4 : Blk w4 b S cs := hb.of_block ((hg.block b (by have := hx2.size; omega) (hob b hbI)).trans (hx2.block b hbr))
 have hs4 := hg.size
 refine ⟨_,rfl,by rw [hb4.cell]; simp [hi],hb4.frozen i, ?_,hb4.set i v', ?_,fun j t c hj hjb hjo => ?_,by simpa [World.setCell] using hs4⟩
 ·have h1 : Keep [b] wI w4 := by
   refine hk.of_new (S' := v.ownBlock.toList) ⟨hg.os.trans hx2.os,hg.tape.trans hx2.tape,hg.output.trans hx2.output,Nat.le_trans hx2.size hs4,fun j hj hjo => ?_⟩ ?_
   ·exact (hg.block j (by have := hx2.size; omega) (by
     intro e
     rw [← e] at hjo
     simp at hjo)).trans (hx2.block j hj)
   ·intro x hx
    have hx' : v.ownBlock = some x := by simpa using hx
    exact .inr (own_base hown hx').1
  exact h1.trans (Keep.setCell w4 b i v')
 ·exact own_keep hown4 (Keep.setCell w4 b i v') (fun g hg' e => by
   have hgb : g = b := by simpa using hg'
   subst hgb
   have := (own_base hown4 e).1
   omega)
 ·have hj4 : Blk w4 j t c := hj.of_block (hg.block j hj.lt (fun e => hjo e.symm))
  exact hj4.keep (Keep.setCell w4 b i v') (by simpa using hjb)
theorem flat_at {α : Type} {enc : α → List Value} {k : Nat} (hk : ∀ x,(enc x).length = k) {xs : List α} (i : Nat) (x : α) (j : Nat) (u : Value) (hx : xs[i]? = some x) (hu : (enc x)[j]? = some u) : (xs.flatMap enc)[i * k + j]? = some u := by
 have hj : j < k := by rw [← hk x]; exact (List.getElem?_eq_some_iff.1 hu).1
 induction xs generalizing i with
 | nil => simp at hx
 | cons y r ih =>
  rw [List.flatMap_cons]
  cases i with
  | zero =>
   simp only [Nat.zero_mul,Nat.zero_add]
   rw [List.getElem?_append_left (by rw [hk]; exact hj)]
   simp only [List.getElem?_cons_zero,Option.some.injEq] at hx
   rw [hx]
   exact hu
  | succ i =>
   rw [List.getElem?_append_right (by rw [hk,Nat.succ_mul]; omega),hk]
   rw [show (i + 1) * k + j - k = i * k + j by rw [Nat.succ_mul]; omega]
   exact ih i (by simpa using hx)
theorem own_slice {w : World} {base T k n : Nat} {v : Value} {xs : List Value} (h : w.ownsRow base T k v n xs) : ∃ A c,v = .slice A n c := by
 rcases h.2 with ⟨rfl,rfl⟩ | ⟨g,cap,cur,rfl,_⟩
 ·exact ⟨_,_,rfl⟩
 ·exact ⟨_,_,rfl⟩
theorem fin_row {w W : World} {b4 B T k n : Nat} {v : Value} {xs : List Value} (hx : Ext w W) (h4 : w.heap.size ≤ b4) (hown : W.ownsRow B T k v n xs) (hB : b4 < B) (p q : Value) :
  Ext w ((W.setCell ⟨b4,0,none⟩ p).setCell ⟨b4,1,none⟩ q) ∧ ((W.setCell ⟨b4,0,none⟩ p).setCell ⟨b4,1,none⟩ q).ownsRow B T k v n xs :=
 ⟨Below.setCell (Below.setCell hx h4 p) h4 q,ownsRow_setCell_below (ownsRow_setCell_below hown hB p) hB q⟩
theorem SlAt.of_own {α : Type} {enc : α → List Value} {w : World} {base T k : Nat} {v : Value} {xs : List α} (h : w.ownsRow base T k v xs.length (xs.flatMap enc)) (hk : ∀ x,(enc x).length = k) : ∃ A c,v = .slice A xs.length c ∧ SlAt enc k w A xs := by
 rcases h.2 with ⟨rfl,h0⟩ | ⟨g,cap,cur,rfl,hb,hg,hn,hcap,hcur,htake⟩
 ·have : xs = [] := List.eq_nil_of_length_eq_zero h0
  subst this
  exact ⟨none,0,rfl,SlAt.nil⟩
 ·refine ⟨_,_,rfl,fun _ => ⟨g,0,rfl,(Array.getElem?_eq_some_iff.1 hg).1,fun i x hx j u hu => ?_⟩⟩
  have hi : i < xs.length := (List.getElem?_eq_some_iff.1 hx).1
  have hj : j < k := by rw [← hk x]; exact (List.getElem?_eq_some_iff.1 hu).1
  have hlt : i * k + j < xs.length * k := by
   have := Nat.mul_le_mul_right k (Nat.succ_le_of_lt hi)
   rw [Nat.succ_mul] at this
   omega
  have h2 : (cur.toList.take (xs.length * k))[i * k + j]? = (xs.flatMap enc)[i * k + j]? := by rw [htake]
  rw [List.getElem?_take_of_lt hlt,Array.getElem?_toList] at h2
  have h3 := flat_at hk i x j u hx hu
  simp only [World.cell?,hg,Nat.zero_add,Option.isSome_none,Bool.false_eq_true,if_false]
  rw [h2,h3]
theorem inforV : (Tryz.prog.info? 73).map (fun i => (i.zero.map (·.cells.size),i.size,i.bytes)) = some (some 3,3,24) := by kernel_rfl
theorem wp_rV {ops : Array Oper} {rest : List Oper} {o : Oper} {a : Act} {Q : Exit → Act → World → Prop} (w : World) (hgd : o.guard = none) (s x : Operand)
  (ho : o.op = .call { callee := .builtin .append,args := #[s,x],argTypes := #[25,25] }) (base : Nat) (v : Value) (n : Nat) (xs : List (Int × Thing)) (e : (Int × Thing)) (hn : xs.length = n) (g : Nat) (W : World) (hW : W = w.alloc (.cells (encV e).toArray 73)) (hsg : w.heap.size = g) (hs : a.eval s = v) (hx : a.eval x = .slice (some ⟨g,0,none⟩) 1 1)
  (hown : w.ownsRow base 73 3 v n (xs.flatMap encV)) (hl : n ≤ 100000) (hb : base ≤ w.heap.size)
  (h : ∀ A' c' w',w'.ownsRow base 73 3 (.slice A' (n + 1) c') (n + 1) ((xs ++ [e]).flatMap encV) → (w.alloc (.cells (encV e).toArray 73)).grownBy w' v.ownBlock → wpList Tryz.prog ops Q rest (a.put o.dst (.slice A' (n + 1) c')) w') :
  wpList Tryz.prog ops Q (o :: rest) a W := by
 subst hW
 subst hn
 subst hsg
 have hi0 := inforV
 obtain ⟨i0,hi,hi1⟩ := Option.map_eq_some_iff.1 hi0
 simp only [Prod.mk.injEq] at hi1
 obtain ⟨hz1,hz2,hz3⟩ := hi1
 obtain ⟨z0,hz,hz4⟩ := Option.map_eq_some_iff.1 hz1
 have hown' := own_ext hown ((Ext.refl w).alloc (.cells (encV e).toArray 73))
 refine wpList_append_own_at _ hgd s x _ ho base 73 i0 z0 3 24 Tryz.underlying25 hi hz hz2 hz3 hz4 (by decide) v xs.length _ hs hown' ⟨w.heap.size,0,none⟩ 1 1 (encV e) hx rfl ?_ (one_encV e) (by unfold maxLen; omega) (by omega) (by simp; omega) ?_
 ·intro j u hj
  have := (Blk.new w 73 (encV e).toArray).cell j
  rw [show (⟨w.heap.size,0,none⟩ : Addr).add j = ⟨w.heap.size,j,none⟩ by simp [Addr.add]; omega,this]
  simpa using hj
 ·intro v' w' h1 h2 _ _
  obtain ⟨A',c',rfl⟩ := own_slice h1
  exact h A' c' w' (by simpa using h1) h2
theorem run_rV (w : World) (base : Nat) (v : Value) (xs : List (Int × Thing)) (e : (Int × Thing)) (hown : w.ownsRow base 73 3 v xs.length (xs.flatMap encV)) (hl : xs.length ≤ 100000) (hb : base ≤ w.heap.size) (ty : TypeId) :
  ∃ v' w',(Builtin.append_ #[25,25] ty #[v, .slice (some ⟨w.heap.size,0,none⟩) 1 1]).run Tryz.prog (w.alloc (.cells (encV e).toArray 73)) = .ok v' w' ∧
   w'.ownsRow base 73 3 v' (xs ++ [e]).length ((xs ++ [e]).flatMap encV) ∧ (w.alloc (.cells (encV e).toArray 73)).grownBy w' v.ownBlock := by
 have hi0 := inforV
 obtain ⟨i0,hi,hi1⟩ := Option.map_eq_some_iff.1 hi0
 simp only [Prod.mk.injEq] at hi1
 obtain ⟨hz1,hz2,hz3⟩ := hi1
 obtain ⟨z0,hz,hz4⟩ := Option.map_eq_some_iff.1 hz1
 have hown' := own_ext hown ((Ext.refl w).alloc (.cells (encV e).toArray 73))
 obtain ⟨v',w',h0,h1,h2,_,_⟩ := run_append_own_at (P := Tryz.prog) _ base 25 ty 73 i0 z0 3 24 Tryz.underlying25 hi hz hz2 hz3 hz4 (by decide) v xs.length _ hown' ⟨w.heap.size,0,none⟩ 1 1 (encV e) rfl (fun j u hj => by
  have := (Blk.new w 73 (encV e).toArray).cell j
  rw [show (⟨w.heap.size,0,none⟩ : Addr).add j = ⟨w.heap.size,j,none⟩ by simp [Addr.add]; omega,this]
  simpa using hj) (one_encV e) (by unfold maxLen; omega) (by omega) (by simp; omega)
 exact ⟨v',w',h0,by simpa using h1,h2⟩
theorem inforE : (Tryz.prog.info? 100).map (fun i => (i.zero.map (·.cells.size),i.size,i.bytes)) = some (some 4,4,32) := by kernel_rfl
theorem wp_rE {ops : Array Oper} {rest : List Oper} {o : Oper} {a : Act} {Q : Exit → Act → World → Prop} (w : World) (hgd : o.guard = none) (s x : Operand)
  (ho : o.op = .call { callee := .builtin .append,args := #[s,x],argTypes := #[26,26] }) (base : Nat) (v : Value) (n : Nat) (xs : List ((Int × Int) × Thing)) (e : ((Int × Int) × Thing)) (hn : xs.length = n) (g : Nat) (W : World) (hW : W = w.alloc (.cells (encE e).toArray 100)) (hsg : w.heap.size = g) (hs : a.eval s = v) (hx : a.eval x = .slice (some ⟨g,0,none⟩) 1 1)
  (hown : w.ownsRow base 100 4 v n (xs.flatMap encE)) (hl : n ≤ 100000) (hb : base ≤ w.heap.size)
  (h : ∀ A' c' w',w'.ownsRow base 100 4 (.slice A' (n + 1) c') (n + 1) ((xs ++ [e]).flatMap encE) → (w.alloc (.cells (encE e).toArray 100)).grownBy w' v.ownBlock → wpList Tryz.prog ops Q rest (a.put o.dst (.slice A' (n + 1) c')) w') :
  wpList Tryz.prog ops Q (o :: rest) a W := by
 subst hW
 subst hn
 subst hsg
 have hi0 := inforE
 obtain ⟨i0,hi,hi1⟩ := Option.map_eq_some_iff.1 hi0
 simp only [Prod.mk.injEq] at hi1
 obtain ⟨hz1,hz2,hz3⟩ := hi1
 obtain ⟨z0,hz,hz4⟩ := Option.map_eq_some_iff.1 hz1
 have hown' := own_ext hown ((Ext.refl w).alloc (.cells (encE e).toArray 100))
 refine wpList_append_own_at _ hgd s x _ ho base 100 i0 z0 4 32 Tryz.underlying26 hi hz hz2 hz3 hz4 (by decide) v xs.length _ hs hown' ⟨w.heap.size,0,none⟩ 1 1 (encE e) hx rfl ?_ (one_encE e) (by unfold maxLen; omega) (by omega) (by simp; omega) ?_
 ·intro j u hj
  have := (Blk.new w 100 (encE e).toArray).cell j
  rw [show (⟨w.heap.size,0,none⟩ : Addr).add j = ⟨w.heap.size,j,none⟩ by simp [Addr.add]; omega,this]
  simpa using hj
 ·intro v' w' h1 h2 _ _
  obtain ⟨A',c',rfl⟩ := own_slice h1
  exact h A' c' w' (by simpa using h1) h2
theorem run_rE (w : World) (base : Nat) (v : Value) (xs : List ((Int × Int) × Thing)) (e : ((Int × Int) × Thing)) (hown : w.ownsRow base 100 4 v xs.length (xs.flatMap encE)) (hl : xs.length ≤ 100000) (hb : base ≤ w.heap.size) (ty : TypeId) :
  ∃ v' w',(Builtin.append_ #[26,26] ty #[v, .slice (some ⟨w.heap.size,0,none⟩) 1 1]).run Tryz.prog (w.alloc (.cells (encE e).toArray 100)) = .ok v' w' ∧
   w'.ownsRow base 100 4 v' (xs ++ [e]).length ((xs ++ [e]).flatMap encE) ∧ (w.alloc (.cells (encE e).toArray 100)).grownBy w' v.ownBlock := by
 have hi0 := inforE
 obtain ⟨i0,hi,hi1⟩ := Option.map_eq_some_iff.1 hi0
 simp only [Prod.mk.injEq] at hi1
 obtain ⟨hz1,hz2,hz3⟩ := hi1
 obtain ⟨z0,hz,hz4⟩ := Option.map_eq_some_iff.1 hz1
 have hown' := own_ext hown ((Ext.refl w).alloc (.cells (encE e).toArray 100))
 obtain ⟨v',w',h0,h1,h2,_,_⟩ := run_append_own_at (P := Tryz.prog) _ base 26 ty 100 i0 z0 4 32 Tryz.underlying26 hi hz hz2 hz3 hz4 (by decide) v xs.length _ hown' ⟨w.heap.size,0,none⟩ 1 1 (encE e) rfl (fun j u hj => by
  have := (Blk.new w 100 (encE e).toArray).cell j
  rw [show (⟨w.heap.size,0,none⟩ : Addr).add j = ⟨w.heap.size,j,none⟩ by simp [Addr.add]; omega,this]
  simpa using hj) (one_encE e) (by unfold maxLen; omega) (by omega) (by simp; omega)
 exact ⟨v',w',h0,by simpa using h1,h2⟩
theorem ret_cell1 {P : Program} {fn : Func} {t T : Nat} {tmps : Array Value} {p : Addr} {W : World} {v : Value} (h : fn.results = #[.cell t T]) (hp : tmps.getD t undef = .pointer (some p)) (hl : (loadVar T p).run P W = .ok v W) :
  (results fn tmps).run P W = .ok v W := by
 simp only [Array.getD_eq_getD_getElem?] at hp
 simp [results,h,hp,asAddr,hl]
theorem ret_cell2 {P : Program} {fn : Func} {t T u : Nat} {tmps : Array Value} {p : Addr} {W : World} {v : Value} (h : fn.results = #[.cell t T, .tmp u]) (hp : tmps.getD t undef = .pointer (some p)) (hl : (loadVar T p).run P W = .ok v W) :
  (results fn tmps).run P W = .ok (.tuple #[v,tmps.getD u undef]) W := by
 simp only [Array.getD_eq_getD_getElem?] at hp
 simp [results,h,hp,asAddr,hl]
theorem load_G (W : World) (b : Nat) (p q : Value) (h0 : W.cell? ⟨b,0,none⟩ = some p) (h1 : W.cell? ⟨b,1,none⟩ = some q) : (loadVar 28 ⟨b,0,none⟩).run Tryz.prog W = .ok (.agg #[p,q]) W := by
 simp [loadVar,h0,h1,go_sem]
theorem load_G2 (W : World) (b : Nat) (p q u v : Value) (h0 : W.cell? ⟨b,0,none⟩ = some u) (h1 : W.cell? ⟨b,1,none⟩ = some v) : (loadVar 28 ⟨b,0,none⟩).run Tryz.prog ((W.setCell ⟨b,0,none⟩ p).setCell ⟨b,1,none⟩ q) = .ok (.agg #[p,q]) ((W.setCell ⟨b,0,none⟩ p).setCell ⟨b,1,none⟩ q) := by
 refine load_G _ b p q ?_ ?_
 ·rw [World.cell?_setCell_other _ _ _ _ (by simp)]
  exact World.cell?_setCell_same _ _ _ h0
 ·have h2 : (W.setCell ⟨b,0,none⟩ p).cell? ⟨b,1,none⟩ = some v := by
   rw [World.cell?_setCell_other _ _ _ _ (by simp)]
   exact h1
  exact World.cell?_setCell_same _ _ _ h2
end Go.Proofs.YtbpeemhfjgcnaaaGreat
namespace Go.Proofs.YtbpeemhfjgcnaaaGreat
open Go Go.RowKit
def insS {α : Type} (gt : α → Bool) (x : α) (s : Bool × List α) (y : α) : Bool × List α := if (!s.1 && gt y) = true then (true,s.2 ++ [x] ++ [y]) else (s.1,s.2 ++ [y])
def insF {α : Type} (gt : α → Bool) (x : α) (l : List α) : List α := if (l.foldl (insS gt x) (false,[])).1 = true then (l.foldl (insS gt x) (false,[])).2 else (l.foldl (insS gt x) (false,[])).2 ++ [x]
theorem ins_take {α : Type} {gt : α → Bool} {x : α} {l : List α} {k : Nat} (hk : k < l.length) {d : Bool} {o : List α} (h : (l.take k).foldl (insS gt x) (false,[]) = (d,o)) :
  (l.take (k + 1)).foldl (insS gt x) (false,[]) = insS gt x (d,o) l[k] := by
 rw [List.take_succ_eq_append_getElem hk,List.foldl_append,h]
 rfl
theorem ins_step {α : Type} {gt : α → Bool} {x : α} (s : Bool × List α) (y : α) : ((insS gt x s y).2.length = s.2.length + 1 ∧ (insS gt x s y).1 = s.1) ∨ (s.1 = false ∧ (insS gt x s y).1 = true ∧ (insS gt x s y).2.length = s.2.length + 2) := by
 unfold insS
 rcases s with ⟨d,o⟩
 cases d <;> cases hg : gt y <;> simp
theorem ins_stay {α : Type} {gt : α → Bool} {x : α} : ∀ (l : List α) (s : Bool × List α),s.1 = true → (l.foldl (insS gt x) s).1 = true
 | [],_,h => h
 | y :: r,s,h => by
  refine ins_stay r _ ?_
  unfold insS
  simp [h]
theorem ins_len {α : Type} {gt : α → Bool} {x : α} : ∀ (l : List α) (s : Bool × List α),(l.foldl (insS gt x) s).2.length ≤ s.2.length + l.length + 1 ∧ ((l.foldl (insS gt x) s).1 = false → (l.foldl (insS gt x) s).2.length = s.2.length + l.length) ∧ (s.1 = true → (l.foldl (insS gt x) s).2.length ≤ s.2.length + l.length)
 | [],s => by simp
 | y :: r,s => by
  have ih := ins_len (gt := gt) (x := x) r (insS gt x s y)
  simp only [List.foldl_cons,List.length_cons]
  have hs := ins_step (gt := gt) (x := x) s y
  rcases hs with ⟨h1,h2⟩ | ⟨h1,h2,h3⟩
  ·rw [h1] at ih
   rw [h2] at ih
   exact ⟨by omega,fun h => by have := ih.2.1 h; omega,fun h => by have := ih.2.2 h; omega⟩
  ·rw [h3] at ih
   rw [h2] at ih
   refine ⟨by have := ih.2.2 rfl; omega,fun h => ?_,fun h => by rw [h1] at h; cases h⟩
   exact absurd h (by rw [ins_stay r _ h2]; simp)
theorem ins_take_len {α : Type} {gt : α → Bool} {x : α} {l : List α} {k : Nat} {d : Bool} {o : List α} (h : (l.take k).foldl (insS gt x) (false,[]) = (d,o)) (hk : k ≤ l.length) : o.length ≤ l.length + 1 := by
 have := (ins_len (gt := gt) (x := x) (l.take k) (false,[])).1
 rw [h] at this
 simp at this
 omega
def gtV (x y : Int × Thing) : Bool := decide (x.1 < y.1)
def gtE (x y : (Int × Int) × Thing) : Bool := decide (x.1.1 < y.1.1) || y.1.1 == x.1.1 && decide (x.1.2 < y.1.2)
theorem blk4 (w : World) (X Y Z U : Array Value) (S T R Q : TypeId) : Blk ((((w.alloc (.cells X S)).alloc (.cells Y T)).alloc (.cells Z R)).alloc (.cells U Q)) w.heap.size S X ∧ Blk ((((w.alloc (.cells X S)).alloc (.cells Y T)).alloc (.cells Z R)).alloc (.cells U Q)) (w.heap.size + 1) T Y ∧
  Blk ((((w.alloc (.cells X S)).alloc (.cells Y T)).alloc (.cells Z R)).alloc (.cells U Q)) (w.heap.size + 1 + 1) R Z ∧ Blk ((((w.alloc (.cells X S)).alloc (.cells Y T)).alloc (.cells Z R)).alloc (.cells U Q)) (w.heap.size + 1 + 1 + 1) Q U := by
 have h1 := Blk.new w S X
 have h2 := Blk.new (w.alloc (.cells X S)) T Y
 have h3 := Blk.new ((w.alloc (.cells X S)).alloc (.cells Y T)) R Z
 have h4 := Blk.new (((w.alloc (.cells X S)).alloc (.cells Y T)).alloc (.cells Z R)) Q U
 simp only [World.size_alloc] at h2 h3 h4
 exact ⟨h1.ext (ext_self3 _ _ _ _),h2.ext (ext_self2 _ _ _),h3.ext (ext_self1 _ _),h4⟩
set_option maxRecDepth 100000 in
set_option maxHeartbeats 4000000 in
theorem joined_any (A B : Option Addr) (V : List (Int × Thing)) (E : List ((Int × Int) × Thing)) (cV cE : Nat) (u v lab wt : Int) (w : World) (hE : SlAt encE 4 w B E) (hl : E.length ≤ 4096) :
  Calls Tryz.prog 59 #[.agg #[.slice A V.length cV, .slice B E.length cE], .agg #[.int .i64 u, .int .i64 v, .int .u8 lab, .int .i64 wt]] w fun e w' =>
   ∃ B' cE',e = .returned (.agg #[.slice A V.length cV, .slice B' (insF (gtE ((u,v),(lab,wt))) ((u,v),(lab,wt)) E).length cE']) ∧ SlAt encE 4 w' B' (insF (gtE ((u,v),(lab,wt))) ((u,v),(lab,wt)) E) ∧ Ext w w' := by
 generalize hgt : gtE ((u,v),(lab,wt)) = gt
 have hgt' : ∀ y,gt y = gtE ((u,v),(lab,wt)) y := fun y => by rw [hgt]
 have hgt'' := hide hgt'
 clear hgt hgt'
 go_enter Tryz.func59,Tryz.ntmps59
 go_wp2
 refine wp_abs (fun W => Ext w W ∧ W.heap.size = w.heap.size + 1 + 1 + 1 + 1 ∧ Blk W w.heap.size 28 #[.slice A V.length cV, .slice B E.length cE] ∧ Blk W (w.heap.size + 1) 100 #[.int .i64 u, .int .i64 v, .int .u8 lab, .int .i64 wt] ∧
  Blk W (w.heap.size + 1 + 1) 28 #[.slice none 0 0, .slice none 0 0] ∧ Blk W (w.heap.size + 1 + 1 + 1) 28 #[.slice A V.length cV, .slice none 0 0]) ?_ ?_
 ·exact ⟨ext_self4 _ _ _ _ _,by simp,blk4 w _ _ _ _ _ _ _ _⟩
 rintro wI ⟨hxI,hsI,hb2,hb3,hb4,hb5⟩
 generalize hn : w.heap.size = n at *
 have hE' := hide hE
 clear hE
 go_loopw [6,7] (fun d i wr => ∃ (k : Nat) (dn : Bool) (o : List ((Int × Int) × Thing)) (vs : Value),k ≤ E.length ∧ i = .int .i64 k ∧ d = .bool dn ∧ (E.take k).foldl (insS gt ((u,v),(lab,wt))) (false,[]) = (dn,o) ∧
  Keep [n + 1 + 1 + 1] wI wr ∧ Blk wr (n + 1 + 1 + 1) 28 #[.slice A V.length cV,vs] ∧ wr.ownsRow wI.heap.size 100 4 vs o.length (o.flatMap encE)) (fun _ i _ => E.length - (intOf i).toNat)
 case atStart => exact ⟨0,false,[],_,Nat.zero_le _,rfl,rfl,rfl,Keep.refl _ _,hb5,World.ownsRow_nil _ _ _ _⟩
 case round =>
  obtain ⟨k,dn,o,vs,hk,rfl,rfl,hfold,hkeep,hbk,hown⟩ := hrel
  have hkeep' := hide hkeep
  have hbk' := hide hbk
  have hown' := hide hown
  have hol := ins_take_len hfold hk
  have hsz' := hide (show wI.heap.size ≤ wr.heap.size from hkeep.size)
  have hnI' := hide (show n + 1 + 1 + 1 < wI.heap.size by omega)
  have hxr : Ext w wr := hxI.of_new hkeep (by simp <;> omega)
  have hown0 := hide (show ∀ j,j < wI.heap.size → vs.ownBlock ≠ some j from fun j hj e => by have := (own_base hown e).1; omega)
  have hown1 := hide (show vs.ownBlock ≠ some wr.heap.size from fun e => by have := (own_base hown e).2.1; omega)
  have d0 := (hb2.keep hkeep (by simp <;> omega)).cells 1 (v := .slice B E.length cE) rfl
  have hq3 := hb3.keep hkeep (by simp <;> omega)
  have e0 := hq3.cells 0 (v := .int .i64 u) rfl
  have e1 := hq3.cells 1 (v := .int .i64 v) rfl
  have e2 := hq3.cells 2 (v := .int .u8 lab) rfl
  have e3 := hq3.cells 3 (v := .int .i64 wt) rfl
  have r0 := hbk.cells 0 (v := .slice A V.length cV) rfl
  have r1 := hbk.cells 1 (v := vs) rfl
  have hhb4 := hide hb4
  have hhI := hide hxI
  have hsI' := hide hsI
  clear hkeep hbk hown hb2 hb3 hb4 hb5 hq3 hxI hsI
  have hol' := hide (show o.length ≤ 5000 by omega)
  clear hol
  by_cases hlt : k < E.length
  ·obtain ⟨b,off,rfl,c1,c2,c3,c4⟩ := atE ((unhide hE').ext hxr) hlt
   have st := ins_take hlt hfold
   generalize hy : E[k] = y at c1 c2 c3 c4 st
   obtain ⟨⟨a,b'⟩,⟨l,t⟩⟩ := y
   clear hy hfold
   have st' := hide st
   clear st
   simp only at c1 c2 c3 c4
   cases dn
   ·rcases Int.lt_trichotomy u a with hc | hc | hc
    ·have hc' := hide hc
     go_wp2_with (first
      | (at_builtin; refine wp_rE (wr.alloc (.cells #[.int .i64 a, .int .i64 b', .int .u8 l, .int .i64 t] 100)) rfl _ _ rfl wI.heap.size vs o.length o ((u,v),(lab,wt)) rfl (wr.heap.size + 1) _ (by rfl) (by simp) (by rfl) (by rfl) (own_ext (unhide hown') (ext_self1 _ _)) (Nat.le_trans (unhide hol') (by omega)) (Nat.le_trans (unhide hsz') (Below.size (ext_self1 _ _))) ?_; intro A1 k1 w4 ho4 hg4; obtain ⟨W5,hW5,f1,f2,hk5,hb5,ho5,hbb5,hs5⟩ := fld_step (i := 1) (unhide hkeep') (unhide hnI') (unhide hbk') (unhide hown') (ext_self2 wr _ _) ho4 hg4 (by simp); have hq8 : Blk W5 wr.heap.size 100 #[.int .i64 a, .int .i64 b', .int .u8 l, .int .i64 t] := hbb5 _ _ _ ((Blk.new wr _ _).ext (ext_self1 _ _)) (by have := unhide hnI'; have := unhide hsz'; omega) (unhide hown1); have x0 := hq8.cells 0 (v := .int .i64 a) rfl; have x1 := hq8.cells 1 (v := .int .i64 b') rfl; have x2 := hq8.cells 2 (v := .int .u8 l) rfl; have x3 := hq8.cells 3 (v := .int .i64 t) rfl; have r1' := hb5.cells 1 (v := .slice A1 (o.length + 1) k1) rfl; have hk5' := hide hk5; have hb5' := hide hb5; have ho5' := hide ho5; have hsz5' := hide hk5.size; clear hk5 hb5 ho5 hbb5 hs5 hq8 ho4 hg4)
      | (at_builtin; refine wp_rE W5 rfl _ _ rfl wI.heap.size (.slice A1 (o.length + 1) k1) (o.length + 1) (o ++ [((u,v),(lab,wt))]) ((a,b'),(l,t)) (by simp) W5.heap.size _ (by rfl) rfl (by rfl) (by rfl) (unhide ho5') (Nat.le_trans (Nat.add_le_add_right (unhide hol') 1) (by decide)) (unhide hsz5') ?_; intro A2 k2 w6 ho6 hg6; obtain ⟨W7,hW7,g1,g2,hk7,hb7,ho7,_,_⟩ := fld_step (i := 1) (unhide hk5') (unhide hnI') (unhide hb5') (unhide ho5') (ext_self1 _ _) ho6 hg6 (by simp); have hk7' := hide hk7; have hb7' := hide hb7; have ho7' := hide ho7; clear hk7 hb7 ho7 ho6 hg6))
     go_roundw
     case rel =>
      exact ⟨k + 1,true,o ++ [((u,v),(lab,wt))] ++ [((a,b'),(l,t))], .slice A2 (o.length + 1 + 1) k2,by omega,by go_num,rfl,by rw [unhide st']; unfold insS; rw [unhide hgt'']; simp [gtE,unhide hc'],unhide hk7',unhide hb7',by have := unhide ho7'; simpa using this⟩
     case measure => simp [intOf]; omega
    ·subst hc
     by_cases hv : v < b'
     ·have hv' := hide hv
      go_wp2_with (first
       | (at_builtin; refine wp_rE (wr.alloc (.cells #[.int .i64 u, .int .i64 b', .int .u8 l, .int .i64 t] 100)) rfl _ _ rfl wI.heap.size vs o.length o ((u,v),(lab,wt)) rfl (wr.heap.size + 1) _ (by rfl) (by simp) (by rfl) (by rfl) (own_ext (unhide hown') (ext_self1 _ _)) (Nat.le_trans (unhide hol') (by omega)) (Nat.le_trans (unhide hsz') (Below.size (ext_self1 _ _))) ?_; intro A1 k1 w4 ho4 hg4; obtain ⟨W5,hW5,f1,f2,hk5,hb5,ho5,hbb5,hs5⟩ := fld_step (i := 1) (unhide hkeep') (unhide hnI') (unhide hbk') (unhide hown') (ext_self2 wr _ _) ho4 hg4 (by simp); have hq8 : Blk W5 wr.heap.size 100 #[.int .i64 u, .int .i64 b', .int .u8 l, .int .i64 t] := hbb5 _ _ _ ((Blk.new wr _ _).ext (ext_self1 _ _)) (by have := unhide hnI'; have := unhide hsz'; omega) (unhide hown1); have x0 := hq8.cells 0 (v := .int .i64 u) rfl; have x1 := hq8.cells 1 (v := .int .i64 b') rfl; have x2 := hq8.cells 2 (v := .int .u8 l) rfl; have x3 := hq8.cells 3 (v := .int .i64 t) rfl; have r1' := hb5.cells 1 (v := .slice A1 (o.length + 1) k1) rfl; have hk5' := hide hk5; have hb5' := hide hb5; have ho5' := hide ho5; have hsz5' := hide hk5.size; clear hk5 hb5 ho5 hbb5 hs5 hq8 ho4 hg4)
       | (at_builtin; refine wp_rE W5 rfl _ _ rfl wI.heap.size (.slice A1 (o.length + 1) k1) (o.length + 1) (o ++ [((u,v),(lab,wt))]) ((u,b'),(l,t)) (by simp) W5.heap.size _ (by rfl) rfl (by rfl) (by rfl) (unhide ho5') (Nat.le_trans (Nat.add_le_add_right (unhide hol') 1) (by decide)) (unhide hsz5') ?_; intro A2 k2 w6 ho6 hg6; obtain ⟨W7,hW7,g1,g2,hk7,hb7,ho7,_,_⟩ := fld_step (i := 1) (unhide hk5') (unhide hnI') (unhide hb5') (unhide ho5') (ext_self1 _ _) ho6 hg6 (by simp); have hk7' := hide hk7; have hb7' := hide hb7; have ho7' := hide ho7; clear hk7 hb7 ho7 ho6 hg6))
      go_roundw
      case rel =>
       exact ⟨k + 1,true,o ++ [((u,v),(lab,wt))] ++ [((u,b'),(l,t))], .slice A2 (o.length + 1 + 1) k2,by omega,by go_num,rfl,by rw [unhide st']; unfold insS; rw [unhide hgt'']; simp [gtE,unhide hv'],unhide hk7',unhide hb7',by have := unhide ho7'; simpa using this⟩
      case measure => simp [intOf]; omega
     ·have hv' := hide hv
      go_wp2_with (first
       | (at_builtin; refine wp_rE (wr.alloc (.cells #[.int .i64 u, .int .i64 b', .int .u8 l, .int .i64 t] 100)) rfl _ _ rfl wI.heap.size vs o.length o ((u,b'),(l,t)) rfl (wr.heap.size + 1) _ (by rfl) (by simp) (by rfl) (by rfl) (own_ext (unhide hown') (ext_self1 _ _)) (Nat.le_trans (unhide hol') (by omega)) (Nat.le_trans (unhide hsz') (Below.size (ext_self1 _ _))) ?_; intro A1 k1 w4 ho4 hg4; obtain ⟨W5,hW5,f1,f2,hk5,hb5,ho5,hbb5,hs5⟩ := fld_step (i := 1) (unhide hkeep') (unhide hnI') (unhide hbk') (unhide hown') (ext_self2 wr _ _) ho4 hg4 (by simp); have hk5' := hide hk5; have hb5' := hide hb5; have ho5' := hide ho5; clear hk5 hb5 ho5 hbb5 hs5 ho4 hg4))
      go_roundw
      case rel =>
       exact ⟨k + 1,false,o ++ [((u,b'),(l,t))], .slice A1 (o.length + 1) k1,by omega,by go_num,rfl,by rw [unhide st']; unfold insS; rw [unhide hgt'']; simp [gtE,unhide hv'],unhide hk5',unhide hb5',by have := unhide ho5'; simpa using this⟩
      case measure => simp [intOf]; omega
    ·have hc' := hide (show ¬ u < a ∧ a ≠ u by omega)
     go_wp2_with (first
      | (at_builtin; refine wp_rE (wr.alloc (.cells #[.int .i64 a, .int .i64 b', .int .u8 l, .int .i64 t] 100)) rfl _ _ rfl wI.heap.size vs o.length o ((a,b'),(l,t)) rfl (wr.heap.size + 1) _ (by rfl) (by simp) (by rfl) (by rfl) (own_ext (unhide hown') (ext_self1 _ _)) (Nat.le_trans (unhide hol') (by omega)) (Nat.le_trans (unhide hsz') (Below.size (ext_self1 _ _))) ?_; intro A1 k1 w4 ho4 hg4; obtain ⟨W5,hW5,f1,f2,hk5,hb5,ho5,hbb5,hs5⟩ := fld_step (i := 1) (unhide hkeep') (unhide hnI') (unhide hbk') (unhide hown') (ext_self2 wr _ _) ho4 hg4 (by simp); have hk5' := hide hk5; have hb5' := hide hb5; have ho5' := hide ho5; clear hk5 hb5 ho5 hbb5 hs5 ho4 hg4))
     go_roundw
     case rel =>
      exact ⟨k + 1,false,o ++ [((a,b'),(l,t))], .slice A1 (o.length + 1) k1,by omega,by go_num,rfl,by rw [unhide st']; unfold insS; rw [unhide hgt'']; simp [gtE,(unhide hc').1,(unhide hc').2],unhide hk5',unhide hb5',by have := unhide ho5'; simpa using this⟩
     case measure => simp [intOf]; omega
   ·go_wp2_with (first
     | (at_builtin; refine wp_rE (wr.alloc (.cells #[.int .i64 a, .int .i64 b', .int .u8 l, .int .i64 t] 100)) rfl _ _ rfl wI.heap.size vs o.length o ((a,b'),(l,t)) rfl (wr.heap.size + 1) _ (by rfl) (by simp) (by rfl) (by rfl) (own_ext (unhide hown') (ext_self1 _ _)) (Nat.le_trans (unhide hol') (by omega)) (Nat.le_trans (unhide hsz') (Below.size (ext_self1 _ _))) ?_; intro A1 k1 w4 ho4 hg4; obtain ⟨W5,hW5,f1,f2,hk5,hb5,ho5,hbb5,hs5⟩ := fld_step (i := 1) (unhide hkeep') (unhide hnI') (unhide hbk') (unhide hown') (ext_self2 wr _ _) ho4 hg4 (by simp); have hk5' := hide hk5; have hb5' := hide hb5; have ho5' := hide ho5; clear hk5 hb5 ho5 hbb5 hs5 ho4 hg4))
    go_roundw
    case rel =>
     exact ⟨k + 1,true,o ++ [((a,b'),(l,t))], .slice A1 (o.length + 1) k1,by omega,by go_num,rfl,by rw [unhide st']; unfold insS; simp,unhide hk5',unhide hb5',by have := unhide ho5'; simpa using this⟩
    case measure => simp [intOf]; omega
  ·have hkE : k = E.length := by omega
   rw [hkE,List.take_length] at hfold
   have hres : insF gt ((u,v),(lab,wt)) E = if dn = true then o else o ++ [((u,v),(lab,wt))] := by
    unfold insF
    rw [hfold]
   have hres' := hide hres
   clear hres hfold
   obtain ⟨As,ks,rfl⟩ := own_slice (unhide hown')
   cases dn
   ·go_wp2_with (at_builtin; refine wp_rE wr rfl _ _ rfl wI.heap.size (.slice As o.length ks) o.length o ((u,v),(lab,wt)) rfl wr.heap.size _ (by rfl) rfl (by rfl) (by rfl) (unhide hown') (Nat.le_trans (unhide hol') (by omega)) (unhide hsz') ?_; intro A1 k1 w4 ho4 hg4; obtain ⟨W5,hW5,f1,f2,hk5,hb5,ho5,hbb5,hs5⟩ := fld_step (i := 1) (unhide hkeep') (unhide hnI') (unhide hbk') (unhide hown') (ext_self1 wr _) ho4 hg4 (by simp); have r0' := hb5.cell 0; have r1' := hb5.cell 1; have hq4 := (unhide hhb4).keep hk5 (by simp); have s0 := hq4.cell 0; have s1 := hq4.cell 1; have s2 := hq4.frozen 0; have s3 := hq4.frozen 1; simp at r0' r1' s0 s1; have hk5' := hide hk5; have hb5' := hide hb5; have ho5' := hide ho5; clear hk5 hb5 ho5 hbb5 hs5 ho4 hg4 hq4)
    refine bodyPost_ret (ret_cell1 rfl rfl (load_G2 W5 (n + 1 + 1) _ _ _ _ s0 s1)) rfl ?_
    have hx5 : Ext w W5 := (unhide hhI).of_new (unhide hk5') (by simp <;> omega)
    obtain ⟨q1,q2⟩ := fin_row hx5 (b4 := n + 1 + 1) (by omega) (unhide ho5') (by have := unhide hsI'; omega) (.slice A V.length cV) (.slice A1 (o.length + 1) k1)
    have hres2 := unhide hres'
    simp only [Bool.false_eq_true,if_false] at hres2
    rw [hres2]
    obtain ⟨A2,c2,he,hs⟩ := SlAt.of_own (enc := encE) (xs := o ++ [((u,v),(lab,wt))]) (by simpa using q2) (fun _ => rfl)
    simp only [Value.slice.injEq] at he
    obtain ⟨rfl,_,rfl⟩ := he
    first | exact ⟨A1,k1,by simp,hs,q1⟩ | exact ⟨A1,⟨k1,by simp⟩,hs,q1⟩
   ·have r0' := (unhide hbk').cell 0
    have r1' := (unhide hbk').cell 1
    have hq4 := (unhide hhb4).keep (unhide hkeep') (by simp)
    have s0 := hq4.cell 0
    have s1 := hq4.cell 1
    have s2 := hq4.frozen 0
    have s3 := hq4.frozen 1
    simp at r0' r1' s0 s1
    go_wp2
    refine bodyPost_ret (ret_cell1 rfl rfl (load_G2 wr (n + 1 + 1) _ _ _ _ s0 s1)) rfl ?_
    obtain ⟨q1,q2⟩ := fin_row hxr (b4 := n + 1 + 1) (by omega) (unhide hown') (by have := unhide hsI'; omega) (.slice A V.length cV) (.slice As o.length ks)
    have hres2 := unhide hres'
    simp only [if_true] at hres2
    rw [hres2]
    obtain ⟨A2,c2,he,hs⟩ := SlAt.of_own (enc := encE) (xs := o) q2 (fun _ => rfl)
    simp only [Value.slice.injEq] at he
    obtain ⟨rfl,_,rfl⟩ := he
    first | exact ⟨As,ks,rfl,hs,q1⟩ | exact ⟨As,⟨ks,rfl⟩,hs,q1⟩
end Go.Proofs.YtbpeemhfjgcnaaaGreat
