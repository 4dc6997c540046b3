/- Parts of a proof, laid together. Each part says its own conditions. -/
import Derived.Test.YtmfkkkhddigkfaaGreatDoorR11
namespace Go.Proofs.YtmfkkkhddigkfaaGreatDoor
open Go Go.RowKit
set_option maxRecDepth 100000 in
set_option maxHeartbeats 4000000 in
theorem do_7 (A B : Option Addr) (V : List (Int × Thing)) (E : List ((Int × Int) × Thing)) (cV cE : Nat) (u v lab wt : Int) (w : World) (hV : SlAt encV 3 w A V) (hE : SlAt encE 4 w B E) (hl : V.length ≤ 4096) (hle : E.length ≤ 4096) (h0 : wrongR 7 u v wt V E = 0) :
  Calls Tryz.prog 76 #[.agg #[.slice A V.length cV, .slice B E.length cE], .agg #[.int .i64 7, .int .i64 u, .int .i64 v, .int .u8 lab, .int .i64 wt]] w fun e w' => ∃ A' cV' B' cE',e = .returned (.tuple #[.agg #[.slice A' (V.flatMap (fV 7 u lab wt)).length cV', .slice B' (E.zipIdx.flatMap (fE 7 u lab wt (posD 7 u v E))).length cE'], .int .i64 0]) ∧
   SlAt encV 3 w' A' (V.flatMap (fV 7 u lab wt)) ∧ SlAt encE 4 w' B' (E.zipIdx.flatMap (fE 7 u lab wt (posD 7 u v E))) ∧ Ext w w' := by
 generalize hpos : posD 7 u v E = pos
 have hpos' := hide hpos
 clear hpos
 have hV' := hide hV
 have hE' := hide hE
 have h0' := hide h0
 clear hV hE h0
 obtain ⟨hb2,hb3,hb4⟩ := blk3 w #[.slice A V.length cV, .slice B E.length cE] #[.int .i64 7, .int .i64 u, .int .i64 v, .int .u8 lab, .int .i64 wt] #[.slice none 0 0, .slice none 0 0] 28 124 28
 have d0 := hb2.cells 0 (v := .slice A V.length cV) rfl
 have d1 := hb2.cells 1 (v := .slice B E.length cE) rfl
 have hq3 := EditAt.of' hb3
 obtain ⟨e0,e1,e2,e3,e4⟩ := hq3
 have hb2' := hide hb2
 have hb3' := hide hb3
 have hb4' := hide hb4
 clear hb2 hb3 hb4
 go_enter Tryz.func76,Tryz.ntmps76
 go_wp2_with (go_at_call 95; refine (wrongR_7 A B V E cV cE u v lab wt _ ((unhide hV').ext (ext_self3 _ _ _ _)) ((unhide hE').ext (ext_self3 _ _ _ _)) hl hle).mono ?_; rw [unhide h0']; rintro e w2 ⟨rfl,hx2⟩; have hx2' := hide hx2)
 refine wp_abs (fun W => Ext w W ∧ w.heap.size + 1 + 1 < w2.heap.size ∧ W.heap.size = w2.heap.size + 1 ∧ Blk W w.heap.size 28 #[.slice A V.length cV, .slice B E.length cE] ∧ Blk W (w.heap.size + 1) 124 #[.int .i64 7, .int .i64 u, .int .i64 v, .int .u8 lab, .int .i64 wt] ∧
  Blk W (w.heap.size + 1 + 1) 28 #[.slice none 0 0, .slice none 0 0] ∧ Blk W w2.heap.size 28 #[.slice none 0 0, .slice none 0 0]) ?_ ?_
 ·have hq : Ext w2 (w2.alloc (.cells #[.slice none 0 0, .slice none 0 0] 28)) := ext_self1 _ _
  have hq2 := (unhide hx2').trans hq
  exact ⟨(ext_self3 _ _ _ _).trans hq2,by have := (unhide hx2').size; simp at this; omega,by simp,(unhide hb2').ext hq2,(unhide hb3').ext hq2,(unhide hb4').ext hq2,Blk.new _ _ _⟩
 clear d0 d1 e0 e1 e2 e3 e4 hx2 hx2' hb2' hb3' hb4'
 rintro wI ⟨hxI,hn2,hsI,hb2,hb3,hb4,hb7⟩
 generalize hn : w.heap.size = n at *
 generalize hm : w2.heap.size = b7 at *
 go_loopw [8] (fun i wr => ∃ (k : Nat) (o : List (Int × Thing)) (vs : Value),k ≤ V.length ∧ i = .int .i64 k ∧ (V.take k).flatMap (fV 7 u lab wt) = o ∧
  Keep [b7] wI wr ∧ Blk wr b7 28 #[vs, .slice none 0 0] ∧ wr.ownsRow wI.heap.size 54 3 vs o.length (o.flatMap encV)) (fun i _ => V.length - (intOf i).toNat)
 case atStart => exact ⟨0,[],_,Nat.zero_le _,rfl,rfl,Keep.refl _ _,hb7,World.ownsRow_nil _ _ _ _⟩
 case round =>
  obtain ⟨k,o,vs,hk,rfl,hfold,hkeep,hbk,hown⟩ := hrel
  have hkeep' := hide hkeep
  have hbk' := hide hbk
  have hown' := hide hown
  have hol' := hide (show o.length ≤ 5000 by rw [← hfold]; have := flat_le (fV_len 7 u lab wt) (V.take k); rw [List.length_take] at this; omega)
  have hsz' := hide (show wI.heap.size ≤ wr.heap.size from hkeep.size)
  have hnI' := hide (show b7 < wI.heap.size by omega)
  have hxr : Ext w wr := hxI.of_new hkeep (by simp <;> omega)
  have hq2 := hb2.keep hkeep (by simp <;> omega)
  have hq3 := hb3.keep hkeep (by simp <;> omega)
  have hq4' := hide (hb4.keep hkeep (by simp <;> omega))
  have d0 := hq2.cells 0 (v := .slice A V.length cV) rfl
  have d1 := hq2.cells 1 (v := .slice B E.length cE) rfl
  have hq2' := hide hq2
  have hq3' := hide hq3
  obtain ⟨e0,e1,e2,e3,e4⟩ := EditAt.of' hq3
  have r0 := hbk.cells 0 (v := vs) rfl
  have hhI := hide hxI
  have hsI' := hide hsI
  clear hkeep hbk hown hb2 hb3 hb4 hb7 hq2 hq3 hxI hsI
  by_cases hlt : k < V.length
  ·obtain ⟨b,off,rfl,c1,c2,c3⟩ := atV ((unhide hV').ext hxr) hlt
   have st := flat_take hlt hfold
   generalize hy : V[k] = y at c1 c2 c3 st
   obtain ⟨a,⟨l,t⟩⟩ := y
   clear hy hfold
   have st' := hide st
   clear st
   simp only at c1 c2 c3
   by_cases hc : a = u
   ·subst hc
    go_wp2_with (at_builtin; refine wp_rV (wr.alloc (.cells #[.int .i64 a, .int .u8 l, .int .i64 t] 54)) rfl _ _ rfl wI.heap.size vs o.length o (a,(l,t)) rfl (wr.heap.size + 1) _ (by rfl) (by simp) (by rfl) (by rfl) (own_ext (unhide hown') (ext_self1 _ _)) (Nat.le_trans (unhide hol') (by omega)) (Nat.le_trans (unhide hsz') (Below.size (ext_self1 _ _))) ?_; intro A1 k1 w4 ho4 hg4; obtain ⟨W5,hW5,f1,f2,hk5,hb5,ho5,_,_⟩ := fld_step (i := 0) (unhide hkeep') (unhide hnI') (unhide hbk') (unhide hown') (ext_self2 wr _ _) ho4 hg4 (by simp); have hk5' := hide hk5; have hb5' := hide hb5; have ho5' := hide ho5; clear hk5 hb5 ho5 ho4 hg4)
    go_roundw
    case rel => exact ⟨k + 1,o ++ [(a,(l,t))], .slice A1 (o.length + 1) k1,by omega,by go_num,by rw [unhide st']; simp [fV],unhide hk5',unhide hb5',by have := unhide ho5'; simpa using this⟩
    case measure => simp [intOf]; omega
   ·have hc' := hide hc
    go_wp2_with (at_builtin; refine wp_rV (wr.alloc (.cells #[.int .i64 a, .int .u8 l, .int .i64 t] 54)) rfl _ _ rfl wI.heap.size vs o.length o (a,(l,t)) rfl (wr.heap.size + 1) _ (by rfl) (by simp) (by rfl) (by rfl) (own_ext (unhide hown') (ext_self1 _ _)) (Nat.le_trans (unhide hol') (by omega)) (Nat.le_trans (unhide hsz') (Below.size (ext_self1 _ _))) ?_; intro A1 k1 w4 ho4 hg4; obtain ⟨W5,hW5,f1,f2,hk5,hb5,ho5,_,_⟩ := fld_step (i := 0) (unhide hkeep') (unhide hnI') (unhide hbk') (unhide hown') (ext_self2 wr _ _) ho4 hg4 (by simp); have hk5' := hide hk5; have hb5' := hide hb5; have ho5' := hide ho5; clear hk5 hb5 ho5 ho4 hg4)
    go_roundw
    case rel => exact ⟨k + 1,o ++ [(a,(l,t))], .slice A1 (o.length + 1) k1,by omega,by go_num,by rw [unhide st']; simp [fV,unhide hc'],unhide hk5',unhide hb5',by have := unhide ho5'; simpa using this⟩
    case measure => simp [intOf]; omega
  ·have hkE : k = V.length := by omega
   rw [hkE,List.take_length] at hfold
   have hfoldV := hide hfold
   clear hfold
   obtain ⟨As,ks,rfl⟩ := own_slice (unhide hown')
   rename List (Int × Thing) => oV
   rename World => wV
   go_wp2_with (first
    | (go_at_call 98; refine (pair_any _ _ _ _ _ _).mono ?_; rw [show pairsB 7 = true by decide]; rintro e w5 ⟨rfl,hx5⟩; have hx5' := hide hx5)
    | (go_at_call 33; refine (redge_any A B E V.length cV cE u v _ ((unhide hE').ext (hxr.trans hx5)) hle).mono ?_; rintro e w6 ⟨rfl,hx6⟩; have hx6' := hide hx6))
   have hxJ : Ext wV w6 := (unhide hx5').trans (unhide hx6')
   have hpp : posI (isE u v) E = pos := by have := unhide hpos'; simpa [posD,pairsB] using this
   rw [hpp]
   clear hpp hx5 hx6 hx5' hx6'
   have hxwJ' := hide (hxr.trans hxJ)
   have hbJ' := hide ((unhide hbk').ext hxJ)
   have hoJ' := hide (own_ext (unhide hown') hxJ)
   have hq2J' := hide ((unhide hq2').ext hxJ)
   have hq3J' := hide ((unhide hq3').ext hxJ)
   have hq4J' := hide ((unhide hq4').ext hxJ)
   have hbz' := hide (show wI.heap.size ≤ w6.heap.size by have := unhide hsz'; have := hxJ.size; omega)
   have hnJ' := hide (show b7 < w6.heap.size by have := unhide hbz'; have := unhide hnI'; omega)
   have hwIs := unhide hsI'
   clear d0 d1 e0 e1 e2 e3 e4 r0 hxr hxJ hkeep' hbk' hown' hq2' hq3' hq4' hol' hsz'
   go_loopw [11] (fun i wr => ∃ (k : Nat) (o : List ((Int × Int) × Thing)) (vs : Value),k ≤ E.length ∧ i = .int .i64 k ∧ (E.zipIdx.take k).flatMap (fE 7 u lab wt pos) = o ∧
    Keep [b7] w6 wr ∧ Blk wr b7 28 #[.slice As oV.length ks,vs] ∧ wr.ownsRow w6.heap.size 45 4 vs o.length (o.flatMap encE)) (fun i _ => E.length - (intOf i).toNat)
   case atStart => exact ⟨0,[],_,Nat.zero_le _,rfl,rfl,Keep.refl _ _,unhide hbJ',World.ownsRow_nil _ _ _ _⟩
   case round =>
    obtain ⟨k,o,vs,hk,rfl,hfold,hkeep,hbk,hown⟩ := hrel
    have hkeep' := hide hkeep
    have hbk' := hide hbk
    have hown' := hide hown
    have hol' := hide (show o.length ≤ 5000 by rw [← hfold]; have := flat_le (fE_len 7 u lab wt pos) (E.zipIdx.take k); rw [List.length_take,List.length_zipIdx] at this; omega)
    have hsz' := hide (show w6.heap.size ≤ wr.heap.size from hkeep.size)
    have hxr : Ext w wr := (unhide hxwJ').of_new hkeep (by simp <;> omega)
    have hq2 := (unhide hq2J').keep hkeep (by simp <;> omega)
    have hq3 := (unhide hq3J').keep hkeep (by simp <;> omega)
    have hq4' := hide ((unhide hq4J').keep hkeep (by simp <;> omega))
    have d1 := hq2.cells 1 (v := .slice B E.length cE) rfl
    obtain ⟨e0,e1,e2,e3,e4⟩ := EditAt.of' hq3
    have r0 := hbk.cells 0 (v := .slice As oV.length ks) rfl
    have r1 := hbk.cells 1 (v := vs) rfl
    clear hkeep hbk hown hq2 hq3
    by_cases hlt : k < E.length
    ·obtain ⟨b,off,rfl,c1,c2,c3,c4⟩ := atE ((unhide hE').ext hxr) hlt
     have st := flat_take (l := E.zipIdx) (by simpa using hlt) hfold
     rw [List.getElem_zipIdx,Nat.zero_add] at st
     generalize hy : E[k] = y at c1 c2 c3 c4 st
     obtain ⟨⟨a,b0⟩,⟨l,t⟩⟩ := y
     clear hy hfold
     have st' := hide st
     clear st
     simp only at c1 c2 c3 c4
     by_cases hp : (k : Int) = pos
     ·subst hp
      go_wp2_with (at_builtin; refine wp_rE (wr.alloc (.cells #[.int .i64 a, .int .i64 b0, .int .u8 l, .int .i64 wt] 45)) rfl _ _ rfl w6.heap.size vs o.length o ((a,b0),(l,wt)) rfl (wr.heap.size + 1) _ (by rfl) (by simp) (by rfl) (by rfl) (own_ext (unhide hown') (ext_self1 _ _)) (Nat.le_trans (unhide hol') (by omega)) (Nat.le_trans (unhide hsz') (Below.size (ext_self1 _ _))) ?_; intro A1 k1 w4 ho4 hg4; obtain ⟨W5,hW5,f1,f2,hk5,hb5,ho5,_,_⟩ := fld_step (i := 1) (unhide hkeep') (unhide hnJ') (unhide hbk') (unhide hown') (ext_self2 wr _ _) ho4 hg4 (by simp); have hk5' := hide hk5; have hb5' := hide hb5; have ho5' := hide ho5; clear hk5 hb5 ho5 ho4 hg4)
      go_roundw
      case rel => exact ⟨k + 1,o ++ [((a,b0),(l,wt))], .slice A1 (o.length + 1) k1,by omega,by go_num,by rw [unhide st']; simp [fE],unhide hk5',unhide hb5',by have := unhide ho5'; simpa using this⟩
      case measure => simp [intOf]; omega
     ·have hc' := hide hp
      go_wp2_with (at_builtin; refine wp_rE (wr.alloc (.cells #[.int .i64 a, .int .i64 b0, .int .u8 l, .int .i64 t] 45)) rfl _ _ rfl w6.heap.size vs o.length o ((a,b0),(l,t)) rfl (wr.heap.size + 1) _ (by rfl) (by simp) (by rfl) (by rfl) (own_ext (unhide hown') (ext_self1 _ _)) (Nat.le_trans (unhide hol') (by omega)) (Nat.le_trans (unhide hsz') (Below.size (ext_self1 _ _))) ?_; intro A1 k1 w4 ho4 hg4; obtain ⟨W5,hW5,f1,f2,hk5,hb5,ho5,_,_⟩ := fld_step (i := 1) (unhide hkeep') (unhide hnJ') (unhide hbk') (unhide hown') (ext_self2 wr _ _) ho4 hg4 (by simp); have hk5' := hide hk5; have hb5' := hide hb5; have ho5' := hide ho5; clear hk5 hb5 ho5 ho4 hg4)
      go_roundw
      case rel => exact ⟨k + 1,o ++ [((a,b0),(l,t))], .slice A1 (o.length + 1) k1,by omega,by go_num,by rw [unhide st']; simp [fE,unhide hc'],unhide hk5',unhide hb5',by have := unhide ho5'; simpa using this⟩
      case measure => simp [intOf]; omega
    ·have hkE : k = E.length := by omega
     rw [hkE,List.take_of_length_le (by simp)] at hfold
     obtain ⟨A2,k2,rfl⟩ := own_slice (unhide hown')
     have s0 := (unhide hq4').cell 0
     have s1 := (unhide hq4').cell 1
     have s2 := (unhide hq4').frozen 0
     have s3 := (unhide hq4').frozen 1
     simp at s0 s1
     have hfold' := hide hfold
     clear hfold
     go_wp2
     refine bodyPost_ret (ret_cell2 rfl rfl (load_G2 wr (n + 1 + 1) _ _ _ _ s0 s1)) rfl ?_
     have hbz := unhide hbz'
     have hoV := own_keep (unhide hoJ') (unhide hkeep') (fun g hg e => by
      have h1 : g = b7 := by simpa using hg
      subst h1
      have := (own_base (unhide hoJ') e).1
      omega)
     obtain ⟨q1,q2⟩ := fin_row hxr (b4 := n + 1 + 1) (by omega) hoV (by omega) (.slice As oV.length ks) (.slice A2 o.length k2)
     obtain ⟨q3,q4⟩ := fin_row hxr (b4 := n + 1 + 1) (by omega) (unhide hown') (by omega) (.slice As oV.length ks) (.slice A2 o.length k2)
     obtain ⟨A5,c5,he5,hs5⟩ := SlAt.of_own (enc := encV) (xs := oV) q2 (fun _ => rfl)
     obtain ⟨A6,c6,he6,hs6⟩ := SlAt.of_own (enc := encE) (xs := o) q4 (fun _ => rfl)
     simp only [Value.slice.injEq] at he5 he6
     obtain ⟨rfl,_,rfl⟩ := he5
     obtain ⟨rfl,_,rfl⟩ := he6
     rw [unhide hfoldV,unhide hfold']
     exact ⟨As,ks,A2,k2,rfl,hs5,hs6,q1⟩
end Go.Proofs.YtmfkkkhddigkfaaGreatDoor
namespace Go.Proofs.YtmfkkkhddigkfaaGreatDoor
open Go Go.RowKit
theorem SlAt.off {α : Type} {enc : α → List Value} {k : Nat} {w w' : World} {A : Option Addr} {xs : List α} {b4 : Nat} {T : TypeId} {cs : Array Value} (h : SlAt enc k w A xs) (hb : Blk w b4 T cs) (hcs : ∀ (i : Nat) (u : Value),cs[i]? = some u → ∀ x : α,(enc x)[0]? ≠ some u) (hen : ∀ x : α, ∃ u : Value,(enc x)[0]? = some u)
  (hs : w.heap.size ≤ w'.heap.size) (ho : ∀ j,j ≠ b4 → j < w.heap.size → w'.heap[j]? = w.heap[j]?) : SlAt enc k w' A xs := fun hne => by
 obtain ⟨b,off,hA,hlt,hc⟩ := h hne
 have hbb : b ≠ b4 := by
  rintro rfl
  obtain ⟨x,r,rfl⟩ := List.exists_cons_of_ne_nil hne
  obtain ⟨u,hu⟩ := hen x
  have h1 := hc 0 x rfl 0 u hu
  rw [hb.cell] at h1
  exact hcs _ _ h1 x hu
 refine ⟨b,off,hA,by omega,fun i x hx j u hu => ?_⟩
 rw [World.cell?_of_block (ho b hbb hlt)]
 exact hc i x hx j u hu
set_option maxRecDepth 100000 in
set_option maxHeartbeats 4000000 in
theorem do_0 (A B : Option Addr) (V : List (Int × Thing)) (E : List ((Int × Int) × Thing)) (cV cE : Nat) (u v lab wt : Int) (w : World) (hV : SlAt encV 3 w A V) (hE : SlAt encE 4 w B E) (hl : V.length ≤ 4096) (_hle : E.length ≤ 4096) (h0 : wrongR 0 u v wt V E = 0) :
  Calls Tryz.prog 76 #[.agg #[.slice A V.length cV, .slice B E.length cE], .agg #[.int .i64 0, .int .i64 u, .int .i64 v, .int .u8 lab, .int .i64 wt]] w fun e w' => ∃ A' cV',e = .returned (.tuple #[.agg #[.slice A' (insF (gtV (u,(lab,wt))) (u,(lab,wt)) V).length cV', .slice B E.length cE], .int .i64 0]) ∧ SlAt encV 3 w' A' (insF (gtV (u,(lab,wt))) (u,(lab,wt)) V) ∧ Ext w w' := by
 have hV' := hide hV
 have hE' := hide hE
 have h0' := hide h0
 clear hV hE h0
 obtain ⟨hb2,hb3,hb4⟩ := blk3 w #[.slice A V.length cV, .slice B E.length cE] #[.int .i64 0, .int .i64 u, .int .i64 v, .int .u8 lab, .int .i64 wt] #[.slice none 0 0, .slice none 0 0] 28 124 28
 have d0 := hb2.cells 0 (v := .slice A V.length cV) rfl
 have d1 := hb2.cells 1 (v := .slice B E.length cE) rfl
 have hq3 := EditAt.of' hb3
 obtain ⟨e0,e1,e2,e3,e4⟩ := hq3
 have hb4' := hide hb4
 clear hb2 hb3 hb4
 generalize hS : insF (gtV (u,(lab,wt))) (u,(lab,wt)) V = S
 have hS' := hide hS
 go_enter Tryz.func76,Tryz.ntmps76
 go_wp2_with (first
  | (go_at_call 95; refine (wrongR_0 A B V E cV cE u v lab wt _ ((unhide hV').ext (ext_self3 _ _ _ _)) ((unhide hE').ext (ext_self3 _ _ _ _)) hl).mono ?_; rw [unhide h0']; rintro e w2 ⟨rfl,hx2⟩; have hz : Ext (((w.alloc (.cells #[.slice A V.length cV, .slice B E.length cE] 28)).alloc (.cells #[.int .i64 0, .int .i64 u, .int .i64 v, .int .u8 lab, .int .i64 wt] 124)).alloc (.cells #[.slice none 0 0, .slice none 0 0] 28)) w2 := hx2)
  | (go_at_call 96; refine (plus_any A B V E cV cE u lab wt _ ((unhide hV').ext ((ext_self3 _ _ _ _).trans hx2)) hl).mono ?_; rw [unhide hS']; rintro e w5 ⟨A5,c5,rfl,hs5,hx5⟩; have hs5' := hide hs5; have hx5' := hide hx5; have hq := ((unhide hb4').ext hx2).ext hx5; have hq' := hide hq; have s0 := hq.cell 0; have s1 := hq.cell 1; have s2 := hq.frozen 0; have s3 := hq.frozen 1; simp at s0 s1; clear hq hs5 hx5))
 refine bodyPost_ret (ret_cell2 rfl rfl (load_G2 w5 (w.heap.size + 1 + 1) _ _ _ _ s0 s1)) rfl ?_
 have hxw := ((ext_self3 _ _ _ _).trans hx2).trans (unhide hx5')
 refine ⟨A5,c5,rfl,(unhide hs5').off (unhide hq') (by intro i u hi x; match i,hi with | 0,hi => simp at hi; subst hi; simp [encV] | 1,hi => simp at hi; subst hi; simp [encV]) (fun x => ⟨_,rfl⟩) ?_ ?_, ?_⟩
 ·simp [World.setCell]
 ·intro j hj _
  rw [Below.heap_setCell _ _ _ _ (by simpa using hj),Below.heap_setCell _ _ _ _ (by simpa using hj)]
 ·exact Below.setCell (Below.setCell hxw (by simp; omega) _) (by simp; omega) _
set_option maxRecDepth 100000 in
set_option maxHeartbeats 4000000 in
theorem do_2 (A B : Option Addr) (V : List (Int × Thing)) (E : List ((Int × Int) × Thing)) (cV cE : Nat) (u v lab wt : Int) (w : World) (hV : SlAt encV 3 w A V) (hE : SlAt encE 4 w B E) (hl : V.length ≤ 4096) (hle : E.length ≤ 4096) (h0 : wrongR 2 u v wt V E = 0) :
  Calls Tryz.prog 76 #[.agg #[.slice A V.length cV, .slice B E.length cE], .agg #[.int .i64 2, .int .i64 u, .int .i64 v, .int .u8 lab, .int .i64 wt]] w fun e w' => ∃ B' cE',e = .returned (.tuple #[.agg #[.slice A V.length cV, .slice B' (insF (gtE ((min u v,max u v),(lab,wt))) ((min u v,max u v),(lab,wt)) E).length cE'], .int .i64 0]) ∧ SlAt encE 4 w' B' (insF (gtE ((min u v,max u v),(lab,wt))) ((min u v,max u v),(lab,wt)) E) ∧ Ext w w' := by
 have hV' := hide hV
 have hE' := hide hE
 have h0' := hide h0
 clear hV hE h0
 obtain ⟨hb2,hb3,hb4⟩ := blk3 w #[.slice A V.length cV, .slice B E.length cE] #[.int .i64 2, .int .i64 u, .int .i64 v, .int .u8 lab, .int .i64 wt] #[.slice none 0 0, .slice none 0 0] 28 124 28
 have d0 := hb2.cells 0 (v := .slice A V.length cV) rfl
 have d1 := hb2.cells 1 (v := .slice B E.length cE) rfl
 have hq3 := EditAt.of' hb3
 obtain ⟨e0,e1,e2,e3,e4⟩ := hq3
 have hb4' := hide hb4
 clear hb2 hb3 hb4
 generalize hS : insF (gtE ((min u v,max u v),(lab,wt))) ((min u v,max u v),(lab,wt)) E = S
 have hS' := hide hS
 go_enter Tryz.func76,Tryz.ntmps76
 go_wp2_with (first
  | (go_at_call 95; refine (wrongR_2 A B V E cV cE u v lab wt _ ((unhide hV').ext (ext_self3 _ _ _ _)) ((unhide hE').ext (ext_self3 _ _ _ _)) hl hle).mono ?_; rw [unhide h0']; rintro e w2 ⟨rfl,hx2⟩; have hz : Ext (((w.alloc (.cells #[.slice A V.length cV, .slice B E.length cE] 28)).alloc (.cells #[.int .i64 2, .int .i64 u, .int .i64 v, .int .u8 lab, .int .i64 wt] 124)).alloc (.cells #[.slice none 0 0, .slice none 0 0] 28)) w2 := hx2)
  | (go_at_call 97; refine (joined_any A B V E cV cE (min u v) (max u v) lab wt _ ((unhide hE').ext ((ext_self3 _ _ _ _).trans hx2)) hle).mono ?_; rw [unhide hS']; rintro e w5 ⟨A5,c5,rfl,hs5,hx5⟩; have hs5' := hide hs5; have hx5' := hide hx5; have hq := ((unhide hb4').ext hx2).ext hx5; have hq' := hide hq; have s0 := hq.cell 0; have s1 := hq.cell 1; have s2 := hq.frozen 0; have s3 := hq.frozen 1; simp at s0 s1; clear hq hs5 hx5))
 refine bodyPost_ret (ret_cell2 rfl rfl (load_G2 w5 (w.heap.size + 1 + 1) _ _ _ _ s0 s1)) rfl ?_
 have hxw := ((ext_self3 _ _ _ _).trans hx2).trans (unhide hx5')
 refine ⟨A5,c5,rfl,(unhide hs5').off (unhide hq') (by intro i u hi x; match i,hi with | 0,hi => simp at hi; subst hi; simp [encE] | 1,hi => simp at hi; subst hi; simp [encE]) (fun x => ⟨_,rfl⟩) ?_ ?_, ?_⟩
 ·simp [World.setCell]
 ·intro j hj _
  rw [Below.heap_setCell _ _ _ _ (by simpa using hj),Below.heap_setCell _ _ _ _ (by simpa using hj)]
 ·exact Below.setCell (Below.setCell hxw (by simp; omega) _) (by simp; omega) _
end Go.Proofs.YtmfkkkhddigkfaaGreatDoor
namespace Go.Proofs.YtmfkkkhddigkfaaGreatDoor
open Go Go.RowKit
attribute [local go_sem] qUpon lUpon
set_option maxRecDepth 100000 in
set_option maxHeartbeats 4000000 in
theorem same_len (A B A' B' : Option Addr) (V V' : List (Int × Thing)) (E E' : List ((Int × Int) × Thing)) (n m cV cE cV' cE' : Nat) (w : World) (hV : SlAt encV 3 w A V) (hE : SlAt encE 4 w B E) (hV' : SlAt encV 3 w A' V') (hE' : SlAt encE 4 w B' E') (hn : V.length = n) (hn' : V'.length = n) (hm : E.length = m) (hm' : E'.length = m) (hl : n ≤ 4096) (hle : m ≤ 4096) :
  Calls Tryz.prog 44 #[.agg #[.slice A n cV, .slice B m cE], .agg #[.slice A' n cV', .slice B' m cE']] w fun e w' => e = .returned (.bool (decide (V = V') && decide (E = E'))) ∧ Ext w w' := by
 have hV1 := hide hV
 have hE1 := hide hE
 have hV2 := hide hV'
 have hE2 := hide hE'
 clear hV hE hV' hE'
 have hb2 := (Blk.new w 28 #[.slice A n cV, .slice B m cE]).ext (ext_self1 _ (.cells #[.slice A' n cV', .slice B' m cE'] 28))
 have hb3 := Blk.new (w.alloc (.cells #[.slice A n cV, .slice B m cE] 28)) 28 #[.slice A' n cV', .slice B' m cE']
 simp only [World.size_alloc] at hb3
 generalize hres : (decide (V = V') && decide (E = E')) = res
 have hres' := hide hres
 clear hres
 go_enter Tryz.func44,Tryz.ntmps44
 go_wp2
 refine wp_abs (fun W => Ext w W ∧ Blk W w.heap.size 28 #[.slice A n cV, .slice B m cE] ∧ Blk W (w.heap.size + 1) 28 #[.slice A' n cV', .slice B' m cE']) ⟨ext_self2 _ _ _,hb2,hb3⟩ ?_
 clear hb2 hb3
 rintro w1 ⟨hx1,hb2,hb3⟩
 go_loopw [5] (fun i wr => ∃ k : Nat,k ≤ n ∧ i = .int .i64 k ∧ V.take k = V'.take k ∧ Ext w1 wr) (fun i _ => n - (intOf i).toNat)
 case atStart => exact ⟨0,Nat.zero_le _,rfl,by simp,Ext.refl _⟩
 case round =>
  obtain ⟨k,hk,rfl,hfold,hxr⟩ := hrel
  have d0 := (hb2.ext hxr).cells 0 (v := .slice A n cV) rfl
  have d1 := (hb3.ext hxr).cells 0 (v := .slice A' n cV') rfl
  have hfold' := hide hfold
  clear hfold
  by_cases hlt : k < n
  ·obtain ⟨b,off,rfl,c0,c1,c2⟩ := atV ((unhide hV1).ext (hx1.trans hxr)) (i := k) (by omega)
   obtain ⟨b',off',rfl,g0,g1,g2⟩ := atV ((unhide hV2).ext (hx1.trans hxr)) (i := k) (by omega)
   have t1 := List.take_succ_eq_append_getElem (l := V) (i := k) (by omega)
   have t2 := List.take_succ_eq_append_getElem (l := V') (i := k) (by omega)
   generalize hy : V[k] = y at c0 c1 c2 t1
   generalize hy' : V'[k] = y' at g0 g1 g2 t2
   have hyy := hide (show V[k]? = some y by rw [← hy]; exact List.getElem?_eq_getElem _)
   have hyy' := hide (show V'[k]? = some y' by rw [← hy']; exact List.getElem?_eq_getElem _)
   have t1' := hide t1
   have t2' := hide t2
   clear hy hy' t1 t2
   obtain ⟨a,⟨l,t⟩⟩ := y
   obtain ⟨a',⟨l',t'⟩⟩ := y'
   simp only at c0 c1 c2 g0 g1 g2
   go_wp2
   obtain ⟨q,hq⟩ : ∃ q : Bool,q = !decide ((a,(l,t)) = (a',(l',t'))) := ⟨_,rfl⟩
   have hq' := hide hq
   clear hq
   refine wp_region_still (P := Tryz.prog) [0,1,2,3,4,5,6,7,8,9,10] [] 0 #[true,true,true,true,true,true,true,true,true,true,true] (by kernel_rfl) (by kernel_rfl) rfl (by rfl) ?_
   iterate 10
    refine ql_want (v := ?_) rfl (by rfl) (fun W hW => ?_) ?_
    rotate_left
    ·go_simp
     first | done | rfl | (fail)
    go_frame
   refine ql_want (v := .bool q) rfl (by rfl) (fun W hW => ?_) ?_
   ·go_simp
    rw [unhide hq']
    by_cases h1 : a = a' <;> by_cases h2 : l = l' <;> by_cases h3 : t = t' <;> simp [h1,h2,h3]
   go_frame
   refine wpQL_nil (fun w2 hx2 => ?_)
   refine wpX_done (by kernel_rfl) ?_
   clear d0 d1 c0 c1 c2 g0 g1 g2
   cases hqq : q
   ·have he : (a,(l,t)) = (a',(l',t')) := by
     have hz := unhide hq'
     rw [hqq] at hz
     by_cases he : (a,(l,t)) = (a',(l',t'))
     ·exact he
     ·rw [decide_eq_false he] at hz
      cases hz
    subst hqq
    go_wp2
    go_roundw
    case rel => exact ⟨k + 1,by omega,by go_num,by rw [unhide t1',unhide t2',unhide hfold',he],hxr.trans hx2⟩
    case measure => simp [intOf]; omega
   ·have he : (a,(l,t)) ≠ (a',(l',t')) := by
     intro he
     have hz := unhide hq'
     rw [hqq,decide_eq_true he] at hz
     cases hz
    subst hqq
    go_wp2
    go_ret
    refine ⟨ret_bool ?_,hx1.trans (hxr.trans hx2)⟩
    rw [← unhide hres']
    have hne : V ≠ V' := by
     intro e
     have h1 := unhide hyy
     have h2 := unhide hyy'
     rw [e,h2] at h1
     exact he (Option.some.inj h1).symm
    simp [hne]
  ·have hkE : k = n := by omega
   have h5 := unhide hfold'
   rw [hkE,List.take_of_length_le (by omega),List.take_of_length_le (by omega)] at h5
   have hVV' := hide h5
   clear h5 hfold'
   go_wp2
   go_loopw [6] (fun i wr => ∃ k : Nat,k ≤ m ∧ i = .int .i64 k ∧ E.take k = E'.take k ∧ Ext w1 wr) (fun i _ => m - (intOf i).toNat)
   case atStart => exact ⟨0,Nat.zero_le _,rfl,by simp,hxr⟩
   case round =>
    obtain ⟨k,hk,rfl,hfold,hxr⟩ := hrel
    have d0 := (hb2.ext hxr).cells 1 (v := .slice B m cE) rfl
    have d1 := (hb3.ext hxr).cells 1 (v := .slice B' m cE') rfl
    have hfold' := hide hfold
    clear hfold
    by_cases hlt : k < m
    ·obtain ⟨b,off,rfl,c0,c1,c2,c3⟩ := atE ((unhide hE1).ext (hx1.trans hxr)) (i := k) (by omega)
     obtain ⟨b',off',rfl,g0,g1,g2,g3⟩ := atE ((unhide hE2).ext (hx1.trans hxr)) (i := k) (by omega)
     have t1 := List.take_succ_eq_append_getElem (l := E) (i := k) (by omega)
     have t2 := List.take_succ_eq_append_getElem (l := E') (i := k) (by omega)
     generalize hy : E[k] = y at c0 c1 c2 c3 t1
     generalize hy' : E'[k] = y' at g0 g1 g2 g3 t2
     have hyy := hide (show E[k]? = some y by rw [← hy]; exact List.getElem?_eq_getElem _)
     have hyy' := hide (show E'[k]? = some y' by rw [← hy']; exact List.getElem?_eq_getElem _)
     have t1' := hide t1
     have t2' := hide t2
     clear hy hy' t1 t2
     obtain ⟨⟨a,b0⟩,⟨l,t⟩⟩ := y
     obtain ⟨⟨a',b0'⟩,⟨l',t'⟩⟩ := y'
     simp only at c0 c1 c2 c3 g0 g1 g2 g3
     go_wp2
     obtain ⟨q,hq⟩ : ∃ q : Bool,q = !decide (((a,b0),(l,t)) = ((a',b0'),(l',t'))) := ⟨_,rfl⟩
     have hq' := hide hq
     clear hq
     refine wp_region_still (P := Tryz.prog) [0,1,2,3,4,5,6,7,8,9,10] [] 0 #[true,true,true,true,true,true,true,true,true,true,true] (by kernel_rfl) (by kernel_rfl) rfl (by rfl) ?_
     iterate 10
      refine ql_want (v := ?_) rfl (by rfl) (fun W hW => ?_) ?_
      rotate_left
      ·go_simp
       first | done | rfl | (fail)
      go_frame
     refine ql_want (v := .bool q) rfl (by rfl) (fun W hW => ?_) ?_
     ·go_simp
      rw [unhide hq']
      by_cases h1 : a = a' <;> by_cases h4 : b0 = b0' <;> by_cases h2 : l = l' <;> by_cases h3 : t = t' <;> simp [h1,h2,h3,h4]
     go_frame
     refine wpQL_nil (fun w2 hx2 => ?_)
     refine wpX_done (by kernel_rfl) ?_
     clear d0 d1 c0 c1 c2 c3 g0 g1 g2 g3
     cases hqq : q
     ·have he : ((a,b0),(l,t)) = ((a',b0'),(l',t')) := by
       have hz := unhide hq'
       rw [hqq] at hz
       by_cases he : ((a,b0),(l,t)) = ((a',b0'),(l',t'))
       ·exact he
       ·rw [decide_eq_false he] at hz
        cases hz
      subst hqq
      go_wp2
      go_roundw
      case rel => exact ⟨k + 1,by omega,by go_num,by rw [unhide t1',unhide t2',unhide hfold',he],hxr.trans hx2⟩
      case measure => simp [intOf]; omega
     ·have he : ((a,b0),(l,t)) ≠ ((a',b0'),(l',t')) := by
       intro he
       have hz := unhide hq'
       rw [hqq,decide_eq_true he] at hz
       cases hz
      subst hqq
      go_wp2
      go_ret
      refine ⟨ret_bool ?_,hx1.trans (hxr.trans hx2)⟩
      rw [← unhide hres']
      have hne : E ≠ E' := by
       intro e
       have h1 := unhide hyy
       have h2 := unhide hyy'
       rw [e,h2] at h1
       exact he (Option.some.inj h1).symm
      simp [hne]
    ·have hkE : k = m := by omega
     have h5 := unhide hfold'
     rw [hkE,List.take_of_length_le (by omega),List.take_of_length_le (by omega)] at h5
     have h5' := hide h5
     clear h5
     go_wp2
     go_ret
     refine ⟨ret_bool ?_,hx1.trans hxr⟩
     rw [← unhide hres',unhide h5',unhide hVV']
     simp
theorem same_any (A B A' B' : Option Addr) (V V' : List (Int × Thing)) (E E' : List ((Int × Int) × Thing)) (cV cE cV' cE' : Nat) (w : World) (hV : SlAt encV 3 w A V) (hE : SlAt encE 4 w B E) (hV' : SlAt encV 3 w A' V') (hE' : SlAt encE 4 w B' E') (hl : V.length ≤ 4096) (hle : E.length ≤ 4096) :
  Calls Tryz.prog 44 #[.agg #[.slice A V.length cV, .slice B E.length cE], .agg #[.slice A' V'.length cV', .slice B' E'.length cE']] w fun e w' => e = .returned (.bool (decide (V = V') && decide (E = E'))) ∧ Ext w w' := by
 by_cases h1 : V.length = V'.length
 ·by_cases h2 : E.length = E'.length
  ·rw [← h1, ← h2]
   exact same_len A B A' B' V V' E E' V.length E.length cV cE cV' cE' w hV hE hV' hE' rfl h1.symm rfl h2.symm hl hle
  ·have h3 : decide (E = E') = false := by
    rw [decide_eq_false_iff_not]
    rintro rfl
    exact h2 rfl
   rw [h3,Bool.and_false]
   clear hV hE hV' hE'
   go_enter Tryz.func44,Tryz.ntmps44
   go_wp2
   all_goals first
    | (go_ret; exact ⟨rfl,ext_self2 _ _ _⟩)
    | (exfalso; simp_all; done)
 ·have h3 : decide (V = V') = false := by
   rw [decide_eq_false_iff_not]
   rintro rfl
   exact h1 rfl
  rw [h3,Bool.false_and]
  clear hV hE hV' hE'
  go_enter Tryz.func44,Tryz.ntmps44
  go_wp2
  all_goals first
   | (go_ret; exact ⟨rfl,ext_self2 _ _ _⟩)
   | (exfalso; simp_all; done)
end Go.Proofs.YtmfkkkhddigkfaaGreatDoor
