/- Parts of a proof, laid together. Each part says its own conditions. -/
import Derived.Test.YtmokciekndllpaaGreatDoorC7
namespace Go.Proofs.YtmokciekndllpaaGreatDoor
open Go Go.RowKit
def insS {α : Type} (gt : α → Bool) (x : α) (s : Bool × List α) (y : α) : Bool × List α := if (!s.1 && gt y) = true then (true,s.2 ++ [x] ++ [y]) else (s.1,s.2 ++ [y])
def insF {α : Type} (gt : α → Bool) (x : α) (l : List α) : List α := if (l.foldl (insS gt x) (false,[])).1 = true then (l.foldl (insS gt x) (false,[])).2 else (l.foldl (insS gt x) (false,[])).2 ++ [x]
theorem ins_take {α : Type} {gt : α → Bool} {x : α} {l : List α} {k : Nat} (hk : k < l.length) {d : Bool} {o : List α} (h : (l.take k).foldl (insS gt x) (false,[]) = (d,o)) :
  (l.take (k + 1)).foldl (insS gt x) (false,[]) = insS gt x (d,o) l[k] := by
 rw [List.take_succ_eq_append_getElem hk,List.foldl_append,h]
 rfl
theorem ins_step {α : Type} {gt : α → Bool} {x : α} (s : Bool × List α) (y : α) : ((insS gt x s y).2.length = s.2.length + 1 ∧ (insS gt x s y).1 = s.1) ∨ (s.1 = false ∧ (insS gt x s y).1 = true ∧ (insS gt x s y).2.length = s.2.length + 2) := by
 unfold insS
 rcases s with ⟨d,o⟩
 cases d <;> cases hg : gt y <;> simp
theorem ins_stay {α : Type} {gt : α → Bool} {x : α} : ∀ (l : List α) (s : Bool × List α),s.1 = true → (l.foldl (insS gt x) s).1 = true
 | [],_,h => h
 | y :: r,s,h => by
  refine ins_stay r _ ?_
  unfold insS
  simp [h]
theorem ins_len {α : Type} {gt : α → Bool} {x : α} : ∀ (l : List α) (s : Bool × List α),(l.foldl (insS gt x) s).2.length ≤ s.2.length + l.length + 1 ∧ ((l.foldl (insS gt x) s).1 = false → (l.foldl (insS gt x) s).2.length = s.2.length + l.length) ∧ (s.1 = true → (l.foldl (insS gt x) s).2.length ≤ s.2.length + l.length)
 | [],s => by simp
 | y :: r,s => by
  have ih := ins_len (gt := gt) (x := x) r (insS gt x s y)
  simp only [List.foldl_cons,List.length_cons]
  have hs := ins_step (gt := gt) (x := x) s y
  rcases hs with ⟨h1,h2⟩ | ⟨h1,h2,h3⟩
  ·rw [h1] at ih
   rw [h2] at ih
   exact ⟨by omega,fun h => by have := ih.2.1 h; omega,fun h => by have := ih.2.2 h; omega⟩
  ·rw [h3] at ih
   rw [h2] at ih
   refine ⟨by have := ih.2.2 rfl; omega,fun h => ?_,fun h => by rw [h1] at h; cases h⟩
   exact absurd h (by rw [ins_stay r _ h2]; simp)
theorem ins_take_len {α : Type} {gt : α → Bool} {x : α} {l : List α} {k : Nat} {d : Bool} {o : List α} (h : (l.take k).foldl (insS gt x) (false,[]) = (d,o)) (hk : k ≤ l.length) : o.length ≤ l.length + 1 := by
 have := (ins_len (gt := gt) (x := x) (l.take k) (false,[])).1
 rw [h] at this
 simp at this
 omega
def gtV (x y : Int × Thing) : Bool := decide (x.1 < y.1)
def gtE (x y : (Int × Int) × Thing) : Bool := decide (x.1.1 < y.1.1) || y.1.1 == x.1.1 && decide (x.1.2 < y.1.2)
theorem blk4 (w : World) (X Y Z U : Array Value) (S T R Q : TypeId) : Blk ((((w.alloc (.cells X S)).alloc (.cells Y T)).alloc (.cells Z R)).alloc (.cells U Q)) w.heap.size S X ∧ Blk ((((w.alloc (.cells X S)).alloc (.cells Y T)).alloc (.cells Z R)).alloc (.cells U Q)) (w.heap.size + 1) T Y ∧
  Blk ((((w.alloc (.cells X S)).alloc (.cells Y T)).alloc (.cells Z R)).alloc (.cells U Q)) (w.heap.size + 1 + 1) R Z ∧ Blk ((((w.alloc (.cells X S)).alloc (.cells Y T)).alloc (.cells Z R)).alloc (.cells U Q)) (w.heap.size + 1 + 1 + 1) Q U := by
 have h1 := Blk.new w S X
 have h2 := Blk.new (w.alloc (.cells X S)) T Y
 have h3 := Blk.new ((w.alloc (.cells X S)).alloc (.cells Y T)) R Z
 have h4 := Blk.new (((w.alloc (.cells X S)).alloc (.cells Y T)).alloc (.cells Z R)) Q U
 simp only [World.size_alloc] at h2 h3 h4
 exact ⟨h1.ext (ext_self3 _ _ _ _),h2.ext (ext_self2 _ _ _),h3.ext (ext_self1 _ _),h4⟩
set_option maxRecDepth 100000 in
set_option maxHeartbeats 4000000 in
theorem joined_any (A B : Option Addr) (V : List (Int × Thing)) (E : List ((Int × Int) × Thing)) (cV cE : Nat) (u v lab wt : Int) (w : World) (hE : SlAt encE 4 w B E) (hl : E.length ≤ 4096) :
  Calls Tryz.prog 157 #[.agg #[.slice A V.length cV, .slice B E.length cE], .agg #[.int .i64 u, .int .i64 v, .int .u8 lab, .int .i64 wt]] w fun e w' =>
   ∃ B' cE',e = .returned (.agg #[.slice A V.length cV, .slice B' (insF (gtE ((u,v),(lab,wt))) ((u,v),(lab,wt)) E).length cE']) ∧ SlAt encE 4 w' B' (insF (gtE ((u,v),(lab,wt))) ((u,v),(lab,wt)) E) ∧ Ext w w' := by
 generalize hgt : gtE ((u,v),(lab,wt)) = gt
 have hgt' : ∀ y,gt y = gtE ((u,v),(lab,wt)) y := fun y => by rw [hgt]
 have hgt'' := hide hgt'
 clear hgt hgt'
 go_enter Tryz.func157,Tryz.ntmps157
 go_wp2
 refine wp_abs (fun W => Ext w W ∧ W.heap.size = w.heap.size + 1 + 1 + 1 + 1 ∧ Blk W w.heap.size 30 #[.slice A V.length cV, .slice B E.length cE] ∧ Blk W (w.heap.size + 1) 142 #[.int .i64 u, .int .i64 v, .int .u8 lab, .int .i64 wt] ∧
  Blk W (w.heap.size + 1 + 1) 30 #[.slice none 0 0, .slice none 0 0] ∧ Blk W (w.heap.size + 1 + 1 + 1) 30 #[.slice A V.length cV, .slice none 0 0]) ?_ ?_
 ·exact ⟨ext_self4 _ _ _ _ _,by simp,blk4 w _ _ _ _ _ _ _ _⟩
 rintro wI ⟨hxI,hsI,hb2,hb3,hb4,hb5⟩
 generalize hn : w.heap.size = n at *
 have hE' := hide hE
 clear hE
 go_loopw [6,7] (fun d i wr => ∃ (k : Nat) (dn : Bool) (o : List ((Int × Int) × Thing)) (vs : Value),k ≤ E.length ∧ i = .int .i64 k ∧ d = .bool dn ∧ (E.take k).foldl (insS gt ((u,v),(lab,wt))) (false,[]) = (dn,o) ∧
  Keep [n + 1 + 1 + 1] wI wr ∧ Blk wr (n + 1 + 1 + 1) 30 #[.slice A V.length cV,vs] ∧ wr.ownsRow wI.heap.size 142 4 vs o.length (o.flatMap encE)) (fun _ i _ => E.length - (intOf i).toNat)
 case atStart => exact ⟨0,false,[],_,Nat.zero_le _,rfl,rfl,rfl,Keep.refl _ _,hb5,World.ownsRow_nil _ _ _ _⟩
 case round =>
  obtain ⟨k,dn,o,vs,hk,rfl,rfl,hfold,hkeep,hbk,hown⟩ := hrel
  have hkeep' := hide hkeep
  have hbk' := hide hbk
  have hown' := hide hown
  have hol := ins_take_len hfold hk
  have hsz' := hide (show wI.heap.size ≤ wr.heap.size from hkeep.size)
  have hnI' := hide (show n + 1 + 1 + 1 < wI.heap.size by omega)
  have hxr : Ext w wr := hxI.of_new hkeep (by simp <;> omega)
  have hown0 := hide (show ∀ j,j < wI.heap.size → vs.ownBlock ≠ some j from fun j hj e => by have := (own_base hown e).1; omega)
  have hown1 := hide (show vs.ownBlock ≠ some wr.heap.size from fun e => by have := (own_base hown e).2.1; omega)
  have d0 := (hb2.keep hkeep (by simp <;> omega)).cells 1 (v := .slice B E.length cE) rfl
  have hq3 := hb3.keep hkeep (by simp <;> omega)
  have e0 := hq3.cells 0 (v := .int .i64 u) rfl
  have e1 := hq3.cells 1 (v := .int .i64 v) rfl
  have e2 := hq3.cells 2 (v := .int .u8 lab) rfl
  have e3 := hq3.cells 3 (v := .int .i64 wt) rfl
  have r0 := hbk.cells 0 (v := .slice A V.length cV) rfl
  have r1 := hbk.cells 1 (v := vs) rfl
  have hhb4 := hide hb4
  have hhI := hide hxI
  have hsI' := hide hsI
  clear hkeep hbk hown hb2 hb3 hb4 hb5 hq3 hxI hsI
  have hol' := hide (show o.length ≤ 5000 by omega)
  clear hol
  by_cases hlt : k < E.length
  ·obtain ⟨b,off,rfl,c1,c2,c3,c4⟩ := atE ((unhide hE').ext hxr) hlt
   have st := ins_take hlt hfold
   generalize hy : E[k] = y at c1 c2 c3 c4 st
   obtain ⟨⟨a,b'⟩,⟨l,t⟩⟩ := y
   clear hy hfold
   have st' := hide st
   clear st
   simp only at c1 c2 c3 c4
   cases dn
   ·rcases Int.lt_trichotomy u a with hc | hc | hc
    ·have hc' := hide hc
     go_wp2_with (first
      | (at_builtin; refine wp_rE (wr.alloc (.cells #[.int .i64 a, .int .i64 b', .int .u8 l, .int .i64 t] 142)) rfl _ _ rfl wI.heap.size vs o.length o ((u,v),(lab,wt)) rfl (wr.heap.size + 1) _ (by rfl) (by simp) (by rfl) (by rfl) (own_ext (unhide hown') (ext_self1 _ _)) (Nat.le_trans (unhide hol') (by omega)) (Nat.le_trans (unhide hsz') (Below.size (ext_self1 _ _))) ?_; intro A1 k1 w4 ho4 hg4; obtain ⟨W5,hW5,f1,f2,hk5,hb5,ho5,hbb5,hs5⟩ := fld_step (i := 1) (unhide hkeep') (unhide hnI') (unhide hbk') (unhide hown') (ext_self2 wr _ _) ho4 hg4 (by simp); have hq8 : Blk W5 wr.heap.size 142 #[.int .i64 a, .int .i64 b', .int .u8 l, .int .i64 t] := hbb5 _ _ _ ((Blk.new wr _ _).ext (ext_self1 _ _)) (by have := unhide hnI'; have := unhide hsz'; omega) (unhide hown1); have x0 := hq8.cells 0 (v := .int .i64 a) rfl; have x1 := hq8.cells 1 (v := .int .i64 b') rfl; have x2 := hq8.cells 2 (v := .int .u8 l) rfl; have x3 := hq8.cells 3 (v := .int .i64 t) rfl; have r1' := hb5.cells 1 (v := .slice A1 (o.length + 1) k1) rfl; have hk5' := hide hk5; have hb5' := hide hb5; have ho5' := hide ho5; have hsz5' := hide hk5.size; clear hk5 hb5 ho5 hbb5 hs5 hq8 ho4 hg4)
      | (at_builtin; refine wp_rE W5 rfl _ _ rfl wI.heap.size (.slice A1 (o.length + 1) k1) (o.length + 1) (o ++ [((u,v),(lab,wt))]) ((a,b'),(l,t)) (by simp) W5.heap.size _ (by rfl) rfl (by rfl) (by rfl) (unhide ho5') (Nat.le_trans (Nat.add_le_add_right (unhide hol') 1) (by decide)) (unhide hsz5') ?_; intro A2 k2 w6 ho6 hg6; obtain ⟨W7,hW7,g1,g2,hk7,hb7,ho7,_,_⟩ := fld_step (i := 1) (unhide hk5') (unhide hnI') (unhide hb5') (unhide ho5') (ext_self1 _ _) ho6 hg6 (by simp); have hk7' := hide hk7; have hb7' := hide hb7; have ho7' := hide ho7; clear hk7 hb7 ho7 ho6 hg6))
     go_roundw
     case rel =>
      exact ⟨k + 1,true,o ++ [((u,v),(lab,wt))] ++ [((a,b'),(l,t))], .slice A2 (o.length + 1 + 1) k2,by omega,by go_num,rfl,by rw [unhide st']; unfold insS; rw [unhide hgt'']; simp [gtE,unhide hc'],unhide hk7',unhide hb7',by have := unhide ho7'; simpa using this⟩
     case measure => simp [intOf]; omega
    ·subst hc
     by_cases hv : v < b'
     ·have hv' := hide hv
      go_wp2_with (first
       | (at_builtin; refine wp_rE (wr.alloc (.cells #[.int .i64 u, .int .i64 b', .int .u8 l, .int .i64 t] 142)) rfl _ _ rfl wI.heap.size vs o.length o ((u,v),(lab,wt)) rfl (wr.heap.size + 1) _ (by rfl) (by simp) (by rfl) (by rfl) (own_ext (unhide hown') (ext_self1 _ _)) (Nat.le_trans (unhide hol') (by omega)) (Nat.le_trans (unhide hsz') (Below.size (ext_self1 _ _))) ?_; intro A1 k1 w4 ho4 hg4; obtain ⟨W5,hW5,f1,f2,hk5,hb5,ho5,hbb5,hs5⟩ := fld_step (i := 1) (unhide hkeep') (unhide hnI') (unhide hbk') (unhide hown') (ext_self2 wr _ _) ho4 hg4 (by simp); have hq8 : Blk W5 wr.heap.size 142 #[.int .i64 u, .int .i64 b', .int .u8 l, .int .i64 t] := hbb5 _ _ _ ((Blk.new wr _ _).ext (ext_self1 _ _)) (by have := unhide hnI'; have := unhide hsz'; omega) (unhide hown1); have x0 := hq8.cells 0 (v := .int .i64 u) rfl; have x1 := hq8.cells 1 (v := .int .i64 b') rfl; have x2 := hq8.cells 2 (v := .int .u8 l) rfl; have x3 := hq8.cells 3 (v := .int .i64 t) rfl; have r1' := hb5.cells 1 (v := .slice A1 (o.length + 1) k1) rfl; have hk5' := hide hk5; have hb5' := hide hb5; have ho5' := hide ho5; have hsz5' := hide hk5.size; clear hk5 hb5 ho5 hbb5 hs5 hq8 ho4 hg4)
       | (at_builtin; refine wp_rE W5 rfl _ _ rfl wI.heap.size (.slice A1 (o.length + 1) k1) (o.length + 1) (o ++ [((u,v),(lab,wt))]) ((u,b'),(l,t)) (by simp) W5.heap.size _ (by rfl) rfl (by rfl) (by rfl) (unhide ho5') (Nat.le_trans (Nat.add_le_add_right (unhide hol') 1) (by decide)) (unhide hsz5') ?_; intro A2 k2 w6 ho6 hg6; obtain ⟨W7,hW7,g1,g2,hk7,hb7,ho7,_,_⟩ := fld_step (i := 1) (unhide hk5') (unhide hnI') (unhide hb5') (unhide ho5') (ext_self1 _ _) ho6 hg6 (by simp); have hk7' := hide hk7; have hb7' := hide hb7; have ho7' := hide ho7; clear hk7 hb7 ho7 ho6 hg6))
      go_roundw
      case rel =>
       exact ⟨k + 1,true,o ++ [((u,v),(lab,wt))] ++ [((u,b'),(l,t))], .slice A2 (o.length + 1 + 1) k2,by omega,by go_num,rfl,by rw [unhide st']; unfold insS; rw [unhide hgt'']; simp [gtE,unhide hv'],unhide hk7',unhide hb7',by have := unhide ho7'; simpa using this⟩
      case measure => simp [intOf]; omega
     ·have hv' := hide hv
      go_wp2_with (first
       | (at_builtin; refine wp_rE (wr.alloc (.cells #[.int .i64 u, .int .i64 b', .int .u8 l, .int .i64 t] 142)) rfl _ _ rfl wI.heap.size vs o.length o ((u,b'),(l,t)) rfl (wr.heap.size + 1) _ (by rfl) (by simp) (by rfl) (by rfl) (own_ext (unhide hown') (ext_self1 _ _)) (Nat.le_trans (unhide hol') (by omega)) (Nat.le_trans (unhide hsz') (Below.size (ext_self1 _ _))) ?_; intro A1 k1 w4 ho4 hg4; obtain ⟨W5,hW5,f1,f2,hk5,hb5,ho5,hbb5,hs5⟩ := fld_step (i := 1) (unhide hkeep') (unhide hnI') (unhide hbk') (unhide hown') (ext_self2 wr _ _) ho4 hg4 (by simp); have hk5' := hide hk5; have hb5' := hide hb5; have ho5' := hide ho5; clear hk5 hb5 ho5 hbb5 hs5 ho4 hg4))
      go_roundw
      case rel =>
       exact ⟨k + 1,false,o ++ [((u,b'),(l,t))], .slice A1 (o.length + 1) k1,by omega,by go_num,rfl,by rw [unhide st']; unfold insS; rw [unhide hgt'']; simp [gtE,unhide hv'],unhide hk5',unhide hb5',by have := unhide ho5'; simpa using this⟩
      case measure => simp [intOf]; omega
    ·have hc' := hide (show ¬ u < a ∧ a ≠ u by omega)
     go_wp2_with (first
      | (at_builtin; refine wp_rE (wr.alloc (.cells #[.int .i64 a, .int .i64 b', .int .u8 l, .int .i64 t] 142)) rfl _ _ rfl wI.heap.size vs o.length o ((a,b'),(l,t)) rfl (wr.heap.size + 1) _ (by rfl) (by simp) (by rfl) (by rfl) (own_ext (unhide hown') (ext_self1 _ _)) (Nat.le_trans (unhide hol') (by omega)) (Nat.le_trans (unhide hsz') (Below.size (ext_self1 _ _))) ?_; intro A1 k1 w4 ho4 hg4; obtain ⟨W5,hW5,f1,f2,hk5,hb5,ho5,hbb5,hs5⟩ := fld_step (i := 1) (unhide hkeep') (unhide hnI') (unhide hbk') (unhide hown') (ext_self2 wr _ _) ho4 hg4 (by simp); have hk5' := hide hk5; have hb5' := hide hb5; have ho5' := hide ho5; clear hk5 hb5 ho5 hbb5 hs5 ho4 hg4))
     go_roundw
     case rel =>
      exact ⟨k + 1,false,o ++ [((a,b'),(l,t))], .slice A1 (o.length + 1) k1,by omega,by go_num,rfl,by rw [unhide st']; unfold insS; rw [unhide hgt'']; simp [gtE,(unhide hc').1,(unhide hc').2],unhide hk5',unhide hb5',by have := unhide ho5'; simpa using this⟩
     case measure => simp [intOf]; omega
   ·go_wp2_with (first
     | (at_builtin; refine wp_rE (wr.alloc (.cells #[.int .i64 a, .int .i64 b', .int .u8 l, .int .i64 t] 142)) rfl _ _ rfl wI.heap.size vs o.length o ((a,b'),(l,t)) rfl (wr.heap.size + 1) _ (by rfl) (by simp) (by rfl) (by rfl) (own_ext (unhide hown') (ext_self1 _ _)) (Nat.le_trans (unhide hol') (by omega)) (Nat.le_trans (unhide hsz') (Below.size (ext_self1 _ _))) ?_; intro A1 k1 w4 ho4 hg4; obtain ⟨W5,hW5,f1,f2,hk5,hb5,ho5,hbb5,hs5⟩ := fld_step (i := 1) (unhide hkeep') (unhide hnI') (unhide hbk') (unhide hown') (ext_self2 wr _ _) ho4 hg4 (by simp); have hk5' := hide hk5; have hb5' := hide hb5; have ho5' := hide ho5; clear hk5 hb5 ho5 hbb5 hs5 ho4 hg4))
    go_roundw
    case rel =>
     exact ⟨k + 1,true,o ++ [((a,b'),(l,t))], .slice A1 (o.length + 1) k1,by omega,by go_num,rfl,by rw [unhide st']; unfold insS; simp,unhide hk5',unhide hb5',by have := unhide ho5'; simpa using this⟩
    case measure => simp [intOf]; omega
  ·have hkE : k = E.length := by omega
   rw [hkE,List.take_length] at hfold
   have hres : insF gt ((u,v),(lab,wt)) E = if dn = true then o else o ++ [((u,v),(lab,wt))] := by
    unfold insF
    rw [hfold]
   have hres' := hide hres
   clear hres hfold
   obtain ⟨As,ks,rfl⟩ := own_slice (unhide hown')
   cases dn
   ·go_wp2_with (at_builtin; refine wp_rE wr rfl _ _ rfl wI.heap.size (.slice As o.length ks) o.length o ((u,v),(lab,wt)) rfl wr.heap.size _ (by rfl) rfl (by rfl) (by rfl) (unhide hown') (Nat.le_trans (unhide hol') (by omega)) (unhide hsz') ?_; intro A1 k1 w4 ho4 hg4; obtain ⟨W5,hW5,f1,f2,hk5,hb5,ho5,hbb5,hs5⟩ := fld_step (i := 1) (unhide hkeep') (unhide hnI') (unhide hbk') (unhide hown') (ext_self1 wr _) ho4 hg4 (by simp); have r0' := hb5.cell 0; have r1' := hb5.cell 1; have hq4 := (unhide hhb4).keep hk5 (by simp); have s0 := hq4.cell 0; have s1 := hq4.cell 1; have s2 := hq4.frozen 0; have s3 := hq4.frozen 1; simp at r0' r1' s0 s1; have hk5' := hide hk5; have hb5' := hide hb5; have ho5' := hide ho5; clear hk5 hb5 ho5 hbb5 hs5 ho4 hg4 hq4)
    refine bodyPost_ret (ret_cell1 rfl rfl (load_G2 W5 (n + 1 + 1) _ _ _ _ s0 s1)) rfl ?_
    have hx5 : Ext w W5 := (unhide hhI).of_new (unhide hk5') (by simp <;> omega)
    obtain ⟨q1,q2⟩ := fin_row hx5 (b4 := n + 1 + 1) (by omega) (unhide ho5') (by have := unhide hsI'; omega) (.slice A V.length cV) (.slice A1 (o.length + 1) k1)
    have hres2 := unhide hres'
    simp only [Bool.false_eq_true,if_false] at hres2
    rw [hres2]
    obtain ⟨A2,c2,he,hs⟩ := SlAt.of_own (enc := encE) (xs := o ++ [((u,v),(lab,wt))]) (by simpa using q2) (fun _ => rfl)
    simp only [Value.slice.injEq] at he
    obtain ⟨rfl,_,rfl⟩ := he
    first | exact ⟨A1,k1,by simp,hs,q1⟩ | exact ⟨A1,⟨k1,by simp⟩,hs,q1⟩
   ·have r0' := (unhide hbk').cell 0
    have r1' := (unhide hbk').cell 1
    have hq4 := (unhide hhb4).keep (unhide hkeep') (by simp)
    have s0 := hq4.cell 0
    have s1 := hq4.cell 1
    have s2 := hq4.frozen 0
    have s3 := hq4.frozen 1
    simp at r0' r1' s0 s1
    go_wp2
    refine bodyPost_ret (ret_cell1 rfl rfl (load_G2 wr (n + 1 + 1) _ _ _ _ s0 s1)) rfl ?_
    obtain ⟨q1,q2⟩ := fin_row hxr (b4 := n + 1 + 1) (by omega) (unhide hown') (by have := unhide hsI'; omega) (.slice A V.length cV) (.slice As o.length ks)
    have hres2 := unhide hres'
    simp only [if_true] at hres2
    rw [hres2]
    obtain ⟨A2,c2,he,hs⟩ := SlAt.of_own (enc := encE) (xs := o) q2 (fun _ => rfl)
    simp only [Value.slice.injEq] at he
    obtain ⟨rfl,_,rfl⟩ := he
    first | exact ⟨As,ks,rfl,hs,q1⟩ | exact ⟨As,⟨ks,rfl⟩,hs,q1⟩
end Go.Proofs.YtmokciekndllpaaGreatDoor
