/- Parts of a proof, laid together. Each part says its own conditions. -/
import Derived.Test.YtmfkkkhddigkfaaGreatDoorR8
namespace Go.Proofs.YtmfkkkhddigkfaaGreatDoor
open Go Go.RowKit
theorem Blk.set {w : World} {b : Nat} {t : TypeId} {cs : Array Value} (h : Blk w b t cs) (i : Nat) (v : Value) : Blk (w.setCell ⟨b,i,none⟩ v) b t (cs.setIfInBounds i v) := by
 unfold Blk at *
 simp [World.setCell,Array.getElem?_modify,h]
theorem Keep.setCell (w : World) (b i : Nat) (v : Value) : Keep [b] w (w.setCell ⟨b,i,none⟩ v) :=
 ⟨rfl,rfl,rfl,by simp [World.setCell],fun k _ hn => Below.heap_setCell _ _ _ _ (by simpa using hn)⟩
theorem fld_step {wI wr w2 w4 : World} {b T k n n' i : Nat} {S : TypeId} {cs : Array Value} {v v' : Value} {xs xs' : List Value} (hk : Keep [b] wI wr) (hbI : b < wI.heap.size) (hb : Blk wr b S cs) (hown : wr.ownsRow wI.heap.size T k v n xs) (hx2 : Ext wr w2)
  (hown4 : w4.ownsRow wI.heap.size T k v' n' xs') (hg : w2.grownBy w4 v.ownBlock) (hi : i < cs.size) :
  ∃ W5,w4.setCell ⟨b,i,none⟩ v' = W5 ∧ w4.cell? ⟨b,i,none⟩ = some cs[i] ∧ w4.frozen? ⟨b,i,none⟩ = false ∧ Keep [b] wI W5 ∧ Blk W5 b S (cs.setIfInBounds i v') ∧ W5.ownsRow wI.heap.size T k v' n' xs' ∧
   (∀ j t c,Blk w2 j t c → j ≠ b → v.ownBlock ≠ some j → Blk W5 j t c) ∧ w2.heap.size ≤ W5.heap.size := by
 have hob : ∀ j,j < wI.heap.size → some j ≠ v.ownBlock := fun j hj e => by
  have := (own_base hown e.symm).1
  omega
 have hbr := hb.lt
 have hb4 : Blk w4 b S cs := hb.of_block ((hg.block b (by have := hx2.size; omega) (hob b hbI)).trans (hx2.block b hbr))
 have hs4 := hg.size
 refine ⟨_,rfl,by rw [hb4.cell]; simp [hi],hb4.frozen i, ?_,hb4.set i v', ?_,fun j t c hj hjb hjo => ?_,by simpa [World.setCell] using hs4⟩
 ·have h1 : Keep [b] wI w4 := by
   refine hk.of_new (S' := v.ownBlock.toList) ⟨hg.os.trans hx2.os,hg.tape.trans hx2.tape,hg.output.trans hx2.output,Nat.le_trans hx2.size hs4,fun j hj hjo => ?_⟩ ?_
   ·exact (hg.block j (by have := hx2.size; omega) (by
     intro e
     rw [← e] at hjo
     simp at hjo)).trans (hx2.block j hj)
   ·intro x hx
    have hx' : v.ownBlock = some x := by simpa using hx
    exact .inr (own_base hown hx').1
  exact h1.trans (Keep.setCell w4 b i v')
 ·exact own_keep hown4 (Keep.setCell w4 b i v') (fun g hg' e => by
   have hgb : g = b := by simpa using hg'
   subst hgb
   have := (own_base hown4 e).1
   omega)
 ·have hj4 : Blk w4 j t c := hj.of_block (hg.block j hj.lt (fun e => hjo e.symm))
  exact hj4.keep (Keep.setCell w4 b i v') (by simpa using hjb)
theorem flat_at {α : Type} {enc : α → List Value} {k : Nat} (hk : ∀ x,(enc x).length = k) {xs : List α} (i : Nat) (x : α) (j : Nat) (u : Value) (hx : xs[i]? = some x) (hu : (enc x)[j]? = some u) : (xs.flatMap enc)[i * k + j]? = some u := by
 have hj : j < k := by rw [← hk x]; exact (List.getElem?_eq_some_iff.1 hu).1
 induction xs generalizing i with
 | nil => simp at hx
 | cons y r ih =>
  rw [List.flatMap_cons]
  cases i with
  | zero =>
   simp only [Nat.zero_mul,Nat.zero_add]
   rw [List.getElem?_append_left (by rw [hk]; exact hj)]
   simp only [List.getElem?_cons_zero,Option.some.injEq] at hx
   rw [hx]
   exact hu
  | succ i =>
   rw [List.getElem?_append_right (by rw [hk,Nat.succ_mul]; omega),hk]
   rw [show (i + 1) * k + j - k = i * k + j by rw [Nat.succ_mul]; omega]
   exact ih i (by simpa using hx)
theorem own_slice {w : World} {base T k n : Nat} {v : Value} {xs : List Value} (h : w.ownsRow base T k v n xs) : ∃ A c,v = .slice A n c := by
 rcases h.2 with ⟨rfl,rfl⟩ | ⟨g,cap,cur,rfl,_⟩
 ·exact ⟨_,_,rfl⟩
 ·exact ⟨_,_,rfl⟩
theorem fin_row {w W : World} {b4 B T k n : Nat} {v : Value} {xs : List Value} (hx : Ext w W) (h4 : w.heap.size ≤ b4) (hown : W.ownsRow B T k v n xs) (hB : b4 < B) (p q : Value) :
  Ext w ((W.setCell ⟨b4,0,none⟩ p).setCell ⟨b4,1,none⟩ q) ∧ ((W.setCell ⟨b4,0,none⟩ p).setCell ⟨b4,1,none⟩ q).ownsRow B T k v n xs :=
 ⟨Below.setCell (Below.setCell hx h4 p) h4 q,ownsRow_setCell_below (ownsRow_setCell_below hown hB p) hB q⟩
theorem SlAt.of_own {α : Type} {enc : α → List Value} {w : World} {base T k : Nat} {v : Value} {xs : List α} (h : w.ownsRow base T k v xs.length (xs.flatMap enc)) (hk : ∀ x,(enc x).length = k) : ∃ A c,v = .slice A xs.length c ∧ SlAt enc k w A xs := by
 rcases h.2 with ⟨rfl,h0⟩ | ⟨g,cap,cur,rfl,hb,hg,hn,hcap,hcur,htake⟩
 ·have : xs = [] := List.eq_nil_of_length_eq_zero h0
  subst this
  exact ⟨none,0,rfl,SlAt.nil⟩
 ·refine ⟨_,_,rfl,fun _ => ⟨g,0,rfl,(Array.getElem?_eq_some_iff.1 hg).1,fun i x hx j u hu => ?_⟩⟩
  have hi : i < xs.length := (List.getElem?_eq_some_iff.1 hx).1
  have hj : j < k := by rw [← hk x]; exact (List.getElem?_eq_some_iff.1 hu).1
  have hlt : i * k + j < xs.length * k := by
   have := Nat.mul_le_mul_right k (Nat.succ_le_of_lt hi)
   rw [Nat.succ_mul] at this
   omega
  have h2 : (cur.toList.take (xs.length * k))[i * k + j]? = (xs.flatMap enc)[i * k + j]? := by rw [htake]
  rw [List.getElem?_take_of_lt hlt,Array.getElem?_toList] at h2
  have h3 := flat_at hk i x j u hx hu
  simp only [World.cell?,hg,Nat.zero_add,Option.isSome_none,Bool.false_eq_true,if_false]
  rw [h2,h3]
theorem inforV : (Tryz.prog.info? 54).map (fun i => (i.zero.map (·.cells.size),i.size,i.bytes)) = some (some 3,3,24) := by kernel_rfl
theorem wp_rV {ops : Array Oper} {rest : List Oper} {o : Oper} {a : Act} {Q : Exit → Act → World → Prop} (w : World) (hgd : o.guard = none) (s x : Operand)
  (ho : o.op = .call { callee := .builtin .append,args := #[s,x],argTypes := #[25,25] }) (base : Nat) (v : Value) (n : Nat) (xs : List (Int × Thing)) (e : (Int × Thing)) (hn : xs.length = n) (g : Nat) (W : World) (hW : W = w.alloc (.cells (encV e).toArray 54)) (hsg : w.heap.size = g) (hs : a.eval s = v) (hx : a.eval x = .slice (some ⟨g,0,none⟩) 1 1)
  (hown : w.ownsRow base 54 3 v n (xs.flatMap encV)) (hl : n ≤ 100000) (hb : base ≤ w.heap.size)
  (h : ∀ A' c' w',w'.ownsRow base 54 3 (.slice A' (n + 1) c') (n + 1) ((xs ++ [e]).flatMap encV) → (w.alloc (.cells (encV e).toArray 54)).grownBy w' v.ownBlock → wpList Tryz.prog ops Q rest (a.put o.dst (.slice A' (n + 1) c')) w') :
  wpList Tryz.prog ops Q (o :: rest) a W := by
 subst hW
 subst hn
 subst hsg
 have hi0 := inforV
 obtain ⟨i0,hi,hi1⟩ := Option.map_eq_some_iff.1 hi0
 simp only [Prod.mk.injEq] at hi1
 obtain ⟨hz1,hz2,hz3⟩ := hi1
 obtain ⟨z0,hz,hz4⟩ := Option.map_eq_some_iff.1 hz1
 have hown' := own_ext hown ((Ext.refl w).alloc (.cells (encV e).toArray 54))
 refine wpList_append_own_at _ hgd s x _ ho base 54 i0 z0 3 24 Tryz.underlying25 hi hz hz2 hz3 hz4 (by decide) v xs.length _ hs hown' ⟨w.heap.size,0,none⟩ 1 1 (encV e) hx rfl ?_ (one_encV e) (by unfold maxLen; omega) (by omega) (by simp; omega) ?_
 ·intro j u hj
  have := (Blk.new w 54 (encV e).toArray).cell j
  rw [show (⟨w.heap.size,0,none⟩ : Addr).add j = ⟨w.heap.size,j,none⟩ by simp [Addr.add]; omega,this]
  simpa using hj
 ·intro v' w' h1 h2 _ _
  obtain ⟨A',c',rfl⟩ := own_slice h1
  exact h A' c' w' (by simpa using h1) h2
theorem run_rV (w : World) (base : Nat) (v : Value) (xs : List (Int × Thing)) (e : (Int × Thing)) (hown : w.ownsRow base 54 3 v xs.length (xs.flatMap encV)) (hl : xs.length ≤ 100000) (hb : base ≤ w.heap.size) (ty : TypeId) :
  ∃ v' w',(Builtin.append_ #[25,25] ty #[v, .slice (some ⟨w.heap.size,0,none⟩) 1 1]).run Tryz.prog (w.alloc (.cells (encV e).toArray 54)) = .ok v' w' ∧
   w'.ownsRow base 54 3 v' (xs ++ [e]).length ((xs ++ [e]).flatMap encV) ∧ (w.alloc (.cells (encV e).toArray 54)).grownBy w' v.ownBlock := by
 have hi0 := inforV
 obtain ⟨i0,hi,hi1⟩ := Option.map_eq_some_iff.1 hi0
 simp only [Prod.mk.injEq] at hi1
 obtain ⟨hz1,hz2,hz3⟩ := hi1
 obtain ⟨z0,hz,hz4⟩ := Option.map_eq_some_iff.1 hz1
 have hown' := own_ext hown ((Ext.refl w).alloc (.cells (encV e).toArray 54))
 obtain ⟨v',w',h0,h1,h2,_,_⟩ := run_append_own_at (P := Tryz.prog) _ base 25 ty 54 i0 z0 3 24 Tryz.underlying25 hi hz hz2 hz3 hz4 (by decide) v xs.length _ hown' ⟨w.heap.size,0,none⟩ 1 1 (encV e) rfl (fun j u hj => by
  have := (Blk.new w 54 (encV e).toArray).cell j
  rw [show (⟨w.heap.size,0,none⟩ : Addr).add j = ⟨w.heap.size,j,none⟩ by simp [Addr.add]; omega,this]
  simpa using hj) (one_encV e) (by unfold maxLen; omega) (by omega) (by simp; omega)
 exact ⟨v',w',h0,by simpa using h1,h2⟩
theorem inforE : (Tryz.prog.info? 45).map (fun i => (i.zero.map (·.cells.size),i.size,i.bytes)) = some (some 4,4,32) := by kernel_rfl
theorem wp_rE {ops : Array Oper} {rest : List Oper} {o : Oper} {a : Act} {Q : Exit → Act → World → Prop} (w : World) (hgd : o.guard = none) (s x : Operand)
  (ho : o.op = .call { callee := .builtin .append,args := #[s,x],argTypes := #[26,26] }) (base : Nat) (v : Value) (n : Nat) (xs : List ((Int × Int) × Thing)) (e : ((Int × Int) × Thing)) (hn : xs.length = n) (g : Nat) (W : World) (hW : W = w.alloc (.cells (encE e).toArray 45)) (hsg : w.heap.size = g) (hs : a.eval s = v) (hx : a.eval x = .slice (some ⟨g,0,none⟩) 1 1)
  (hown : w.ownsRow base 45 4 v n (xs.flatMap encE)) (hl : n ≤ 100000) (hb : base ≤ w.heap.size)
  (h : ∀ A' c' w',w'.ownsRow base 45 4 (.slice A' (n + 1) c') (n + 1) ((xs ++ [e]).flatMap encE) → (w.alloc (.cells (encE e).toArray 45)).grownBy w' v.ownBlock → wpList Tryz.prog ops Q rest (a.put o.dst (.slice A' (n + 1) c')) w') :
  wpList Tryz.prog ops Q (o :: rest) a W := by
 subst hW
 subst hn
 subst hsg
 have hi0 := inforE
 obtain ⟨i0,hi,hi1⟩ := Option.map_eq_some_iff.1 hi0
 simp only [Prod.mk.injEq] at hi1
 obtain ⟨hz1,hz2,hz3⟩ := hi1
 obtain ⟨z0,hz,hz4⟩ := Option.map_eq_some_iff.1 hz1
 have hown' := own_ext hown ((Ext.refl w).alloc (.cells (encE e).toArray 45))
 refine wpList_append_own_at _ hgd s x _ ho base 45 i0 z0 4 32 Tryz.underlying26 hi hz hz2 hz3 hz4 (by decide) v xs.length _ hs hown' ⟨w.heap.size,0,none⟩ 1 1 (encE e) hx rfl ?_ (one_encE e) (by unfold maxLen; omega) (by omega) (by simp; omega) ?_
 ·intro j u hj
  have := (Blk.new w 45 (encE e).toArray).cell j
  rw [show (⟨w.heap.size,0,none⟩ : Addr).add j = ⟨w.heap.size,j,none⟩ by simp [Addr.add]; omega,this]
  simpa using hj
 ·intro v' w' h1 h2 _ _
  obtain ⟨A',c',rfl⟩ := own_slice h1
  exact h A' c' w' (by simpa using h1) h2
theorem run_rE (w : World) (base : Nat) (v : Value) (xs : List ((Int × Int) × Thing)) (e : ((Int × Int) × Thing)) (hown : w.ownsRow base 45 4 v xs.length (xs.flatMap encE)) (hl : xs.length ≤ 100000) (hb : base ≤ w.heap.size) (ty : TypeId) :
  ∃ v' w',(Builtin.append_ #[26,26] ty #[v, .slice (some ⟨w.heap.size,0,none⟩) 1 1]).run Tryz.prog (w.alloc (.cells (encE e).toArray 45)) = .ok v' w' ∧
   w'.ownsRow base 45 4 v' (xs ++ [e]).length ((xs ++ [e]).flatMap encE) ∧ (w.alloc (.cells (encE e).toArray 45)).grownBy w' v.ownBlock := by
 have hi0 := inforE
 obtain ⟨i0,hi,hi1⟩ := Option.map_eq_some_iff.1 hi0
 simp only [Prod.mk.injEq] at hi1
 obtain ⟨hz1,hz2,hz3⟩ := hi1
 obtain ⟨z0,hz,hz4⟩ := Option.map_eq_some_iff.1 hz1
 have hown' := own_ext hown ((Ext.refl w).alloc (.cells (encE e).toArray 45))
 obtain ⟨v',w',h0,h1,h2,_,_⟩ := run_append_own_at (P := Tryz.prog) _ base 26 ty 45 i0 z0 4 32 Tryz.underlying26 hi hz hz2 hz3 hz4 (by decide) v xs.length _ hown' ⟨w.heap.size,0,none⟩ 1 1 (encE e) rfl (fun j u hj => by
  have := (Blk.new w 45 (encE e).toArray).cell j
  rw [show (⟨w.heap.size,0,none⟩ : Addr).add j = ⟨w.heap.size,j,none⟩ by simp [Addr.add]; omega,this]
  simpa using hj) (one_encE e) (by unfold maxLen; omega) (by omega) (by simp; omega)
 exact ⟨v',w',h0,by simpa using h1,h2⟩
theorem ret_cell1 {P : Program} {fn : Func} {t T : Nat} {tmps : Array Value} {p : Addr} {W : World} {v : Value} (h : fn.results = #[.cell t T]) (hp : tmps.getD t undef = .pointer (some p)) (hl : (loadVar T p).run P W = .ok v W) :
  (results fn tmps).run P W = .ok v W := by
 simp only [Array.getD_eq_getD_getElem?] at hp
 simp [results,h,hp,asAddr,hl]
theorem ret_cell2 {P : Program} {fn : Func} {t T u : Nat} {tmps : Array Value} {p : Addr} {W : World} {v : Value} (h : fn.results = #[.cell t T, .tmp u]) (hp : tmps.getD t undef = .pointer (some p)) (hl : (loadVar T p).run P W = .ok v W) :
  (results fn tmps).run P W = .ok (.tuple #[v,tmps.getD u undef]) W := by
 simp only [Array.getD_eq_getD_getElem?] at hp
 simp [results,h,hp,asAddr,hl]
theorem load_G (W : World) (b : Nat) (p q : Value) (h0 : W.cell? ⟨b,0,none⟩ = some p) (h1 : W.cell? ⟨b,1,none⟩ = some q) : (loadVar 28 ⟨b,0,none⟩).run Tryz.prog W = .ok (.agg #[p,q]) W := by
 simp [loadVar,h0,h1,go_sem]
theorem load_G2 (W : World) (b : Nat) (p q u v : Value) (h0 : W.cell? ⟨b,0,none⟩ = some u) (h1 : W.cell? ⟨b,1,none⟩ = some v) : (loadVar 28 ⟨b,0,none⟩).run Tryz.prog ((W.setCell ⟨b,0,none⟩ p).setCell ⟨b,1,none⟩ q) = .ok (.agg #[p,q]) ((W.setCell ⟨b,0,none⟩ p).setCell ⟨b,1,none⟩ q) := by
 refine load_G _ b p q ?_ ?_
 ·rw [World.cell?_setCell_other _ _ _ _ (by simp)]
  exact World.cell?_setCell_same _ _ _ h0
 ·have h2 : (W.setCell ⟨b,0,none⟩ p).cell? ⟨b,1,none⟩ = some v := by
   rw [World.cell?_setCell_other _ _ _ _ (by simp)]
   exact h1
  exact World.cell?_setCell_same _ _ _ h2
end Go.Proofs.YtmfkkkhddigkfaaGreatDoor
