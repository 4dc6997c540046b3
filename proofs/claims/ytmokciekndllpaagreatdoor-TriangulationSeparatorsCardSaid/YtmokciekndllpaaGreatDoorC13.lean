/- Parts of a proof, laid together. Each part says its own conditions. -/
import Derived.Test.YtmokciekndllpaaGreatDoorC9
import Derived.Test.YtmokciekndllpaaGreatDoorC10
import Derived.Test.YtmokciekndllpaaGreatDoorC11
import Derived.Test.YtmokciekndllpaaGreatDoorC12
import Derived.Test.YtmokciekndllpaaGreatDoorC5
import Derived.Test.YtmokciekndllpaaGreatDoorRows
import Derived.Deep.Slices
import Derived.Deep.Fields
import Derived.ChangeSame
import Derived.OpenShut
namespace Go.Proofs.YtmokciekndllpaaGreatDoor
open Go Go.RowKit
set_option maxRecDepth 100000 in
set_option maxHeartbeats 4000000 in
theorem do_7 (A B : Option Addr) (V : List (Int × Thing)) (E : List ((Int × Int) × Thing)) (cV cE : Nat) (u v lab wt : Int) (w : World) (hV : SlAt encV 3 w A V) (hE : SlAt encE 4 w B E) (hl : V.length ≤ 4096) (hle : E.length ≤ 4096) (h0 : wrongR 7 u v wt V E = 0) :
  Calls Tryz.prog 108 #[.agg #[.slice A V.length cV, .slice B E.length cE], .agg #[.int .i64 7, .int .i64 u, .int .i64 v, .int .u8 lab, .int .i64 wt]] w fun e w' => ∃ A' cV' B' cE',e = .returned (.tuple #[.agg #[.slice A' (V.flatMap (fV 7 u lab wt)).length cV', .slice B' (E.zipIdx.flatMap (fE 7 u lab wt (posD 7 u v E))).length cE'], .int .i64 0]) ∧
   SlAt encV 3 w' A' (V.flatMap (fV 7 u lab wt)) ∧ SlAt encE 4 w' B' (E.zipIdx.flatMap (fE 7 u lab wt (posD 7 u v E))) ∧ Ext w w' := by
 generalize hpos : posD 7 u v E = pos
 have hpos' := hide hpos
 clear hpos
 have hV' := hide hV
 have hE' := hide hE
 have h0' := hide h0
 clear hV hE h0
 obtain ⟨hb2,hb3,hb4⟩ := blk3 w #[.slice A V.length cV, .slice B E.length cE] #[.int .i64 7, .int .i64 u, .int .i64 v, .int .u8 lab, .int .i64 wt] #[.slice none 0 0, .slice none 0 0] 30 160 30
 have d0 := hb2.cells 0 (v := .slice A V.length cV) rfl
 have d1 := hb2.cells 1 (v := .slice B E.length cE) rfl
 have hq3 := EditAt.of' hb3
 obtain ⟨e0,e1,e2,e3,e4⟩ := hq3
 have hb2' := hide hb2
 have hb3' := hide hb3
 have hb4' := hide hb4
 clear hb2 hb3 hb4
 go_enter Tryz.func108,Tryz.ntmps108
 go_wp2_with (go_at_call 155; refine (wrongR_7 A B V E cV cE u v lab wt _ ((unhide hV').ext (ext_self3 _ _ _ _)) ((unhide hE').ext (ext_self3 _ _ _ _)) hl hle).mono ?_; rw [unhide h0']; rintro e w2 ⟨rfl,hx2⟩; have hx2' := hide hx2)
 refine wp_abs (fun W => Ext w W ∧ w.heap.size + 1 + 1 < w2.heap.size ∧ W.heap.size = w2.heap.size + 1 ∧ Blk W w.heap.size 30 #[.slice A V.length cV, .slice B E.length cE] ∧ Blk W (w.heap.size + 1) 160 #[.int .i64 7, .int .i64 u, .int .i64 v, .int .u8 lab, .int .i64 wt] ∧
  Blk W (w.heap.size + 1 + 1) 30 #[.slice none 0 0, .slice none 0 0] ∧ Blk W w2.heap.size 30 #[.slice none 0 0, .slice none 0 0]) ?_ ?_
 ·have hq : Ext w2 (w2.alloc (.cells #[.slice none 0 0, .slice none 0 0] 30)) := ext_self1 _ _
  have hq2 := (unhide hx2').trans hq
  exact ⟨(ext_self3 _ _ _ _).trans hq2,by have := (unhide hx2').size; simp at this; omega,by simp,(unhide hb2').ext hq2,(unhide hb3').ext hq2,(unhide hb4').ext hq2,Blk.new _ _ _⟩
 clear d0 d1 e0 e1 e2 e3 e4 hx2 hx2' hb2' hb3' hb4'
 rintro wI ⟨hxI,hn2,hsI,hb2,hb3,hb4,hb7⟩
 generalize hn : w.heap.size = n at *
 generalize hm : w2.heap.size = b7 at *
 go_loopw [8] (fun i wr => ∃ (k : Nat) (o : List (Int × Thing)) (vs : Value),k ≤ V.length ∧ i = .int .i64 k ∧ (V.take k).flatMap (fV 7 u lab wt) = o ∧
  Keep [b7] wI wr ∧ Blk wr b7 30 #[vs, .slice none 0 0] ∧ wr.ownsRow wI.heap.size 141 3 vs o.length (o.flatMap encV)) (fun i _ => V.length - (intOf i).toNat)
 case atStart => exact ⟨0,[],_,Nat.zero_le _,rfl,rfl,Keep.refl _ _,hb7,World.ownsRow_nil _ _ _ _⟩
 case round =>
  obtain ⟨k,o,vs,hk,rfl,hfold,hkeep,hbk,hown⟩ := hrel
  have hkeep' := hide hkeep
  have hbk' := hide hbk
  have hown' := hide hown
  have hol' := hide (show o.length ≤ 5000 by rw [← hfold]; have := flat_le (fV_len 7 u lab wt) (V.take k); rw [List.length_take] at this; omega)
  have hsz' := hide (show wI.heap.size ≤ wr.heap.size from hkeep.size)
  have hnI' := hide (show b7 < wI.heap.size by omega)
  have hxr : Ext w wr := hxI.of_new hkeep (by simp <;> omega)
  have hq2 := hb2.keep hkeep (by simp <;> omega)
  have hq3 := hb3.keep hkeep (by simp <;> omega)
  have hq4' := hide (hb4.keep hkeep (by simp <;> omega))
  have d0 := hq2.cells 0 (v := .slice A V.length cV) rfl
  have d1 := hq2.cells 1 (v := .slice B E.length cE) rfl
  have hq2' := hide hq2
  have hq3' := hide hq3
  obtain ⟨e0,e1,e2,e3,e4⟩ := EditAt.of' hq3
  have r0 := hbk.cells 0 (v := vs) rfl
  have hhI := hide hxI
  have hsI' := hide hsI
  clear hkeep hbk hown hb2 hb3 hb4 hb7 hq2 hq3 hxI hsI
  by_cases hlt : k < V.length
  ·obtain ⟨b,off,rfl,c1,c2,c3⟩ := atV ((unhide hV').ext hxr) hlt
   have st := flat_take hlt hfold
   generalize hy : V[k] = y at c1 c2 c3 st
   obtain ⟨a,⟨l,t⟩⟩ := y
   clear hy hfold
   have st' := hide st
   clear st
   simp only at c1 c2 c3
   by_cases hc : a = u
   ·subst hc
    go_wp2_with (at_builtin; refine wp_rV (wr.alloc (.cells #[.int .i64 a, .int .u8 l, .int .i64 t] 141)) rfl _ _ rfl wI.heap.size vs o.length o (a,(l,t)) rfl (wr.heap.size + 1) _ (by rfl) (by simp) (by rfl) (by rfl) (own_ext (unhide hown') (ext_self1 _ _)) (Nat.le_trans (unhide hol') (by omega)) (Nat.le_trans (unhide hsz') (Below.size (ext_self1 _ _))) ?_; intro A1 k1 w4 ho4 hg4; obtain ⟨W5,hW5,f1,f2,hk5,hb5,ho5,_,_⟩ := fld_step (i := 0) (unhide hkeep') (unhide hnI') (unhide hbk') (unhide hown') (ext_self2 wr _ _) ho4 hg4 (by simp); have hk5' := hide hk5; have hb5' := hide hb5; have ho5' := hide ho5; clear hk5 hb5 ho5 ho4 hg4)
    go_roundw
    case rel => exact ⟨k + 1,o ++ [(a,(l,t))], .slice A1 (o.length + 1) k1,by omega,by go_num,by rw [unhide st']; simp [fV],unhide hk5',unhide hb5',by have := unhide ho5'; simpa using this⟩
    case measure => simp [intOf]; omega
   ·have hc' := hide hc
    go_wp2_with (at_builtin; refine wp_rV (wr.alloc (.cells #[.int .i64 a, .int .u8 l, .int .i64 t] 141)) rfl _ _ rfl wI.heap.size vs o.length o (a,(l,t)) rfl (wr.heap.size + 1) _ (by rfl) (by simp) (by rfl) (by rfl) (own_ext (unhide hown') (ext_self1 _ _)) (Nat.le_trans (unhide hol') (by omega)) (Nat.le_trans (unhide hsz') (Below.size (ext_self1 _ _))) ?_; intro A1 k1 w4 ho4 hg4; obtain ⟨W5,hW5,f1,f2,hk5,hb5,ho5,_,_⟩ := fld_step (i := 0) (unhide hkeep') (unhide hnI') (unhide hbk') (unhide hown') (ext_self2 wr _ _) ho4 hg4 (by simp); have hk5' := hide hk5; have hb5' := hide hb5; have ho5' := hide ho5; clear hk5 hb5 ho5 ho4 hg4)
    go_roundw
    case rel => exact ⟨k + 1,o ++ [(a,(l,t))], .slice A1 (o.length + 1) k1,by omega,by go_num,by rw [unhide st']; simp [fV,unhide hc'],unhide hk5',unhide hb5',by have := unhide ho5'; simpa using this⟩
    case measure => simp [intOf]; omega
  ·have hkE : k = V.length := by omega
   rw [hkE,List.take_length] at hfold
   have hfoldV := hide hfold
   clear hfold
   obtain ⟨As,ks,rfl⟩ := own_slice (unhide hown')
   rename List (Int × Thing) => oV
   rename World => wV
   go_wp2_with (first
    | (go_at_call 158; refine (pair_any _ _ _ _ _ _).mono ?_; rw [show pairsB 7 = true by decide]; rintro e w5 ⟨rfl,hx5⟩; have hx5' := hide hx5)
    | (go_at_call 119; refine (redge_any A B E V.length cV cE u v _ ((unhide hE').ext (hxr.trans hx5)) hle).mono ?_; rintro e w6 ⟨rfl,hx6⟩; have hx6' := hide hx6))
   have hxJ : Ext wV w6 := (unhide hx5').trans (unhide hx6')
   have hpp : posI (isE u v) E = pos := by have := unhide hpos'; simpa [posD,pairsB] using this
   rw [hpp]
   clear hpp hx5 hx6 hx5' hx6'
   have hxwJ' := hide (hxr.trans hxJ)
   have hbJ' := hide ((unhide hbk').ext hxJ)
   have hoJ' := hide (own_ext (unhide hown') hxJ)
   have hq2J' := hide ((unhide hq2').ext hxJ)
   have hq3J' := hide ((unhide hq3').ext hxJ)
   have hq4J' := hide ((unhide hq4').ext hxJ)
   have hbz' := hide (show wI.heap.size ≤ w6.heap.size by have := unhide hsz'; have := hxJ.size; omega)
   have hnJ' := hide (show b7 < w6.heap.size by have := unhide hbz'; have := unhide hnI'; omega)
   have hwIs := unhide hsI'
   clear d0 d1 e0 e1 e2 e3 e4 r0 hxr hxJ hkeep' hbk' hown' hq2' hq3' hq4' hol' hsz'
   go_loopw [11] (fun i wr => ∃ (k : Nat) (o : List ((Int × Int) × Thing)) (vs : Value),k ≤ E.length ∧ i = .int .i64 k ∧ (E.zipIdx.take k).flatMap (fE 7 u lab wt pos) = o ∧
    Keep [b7] w6 wr ∧ Blk wr b7 30 #[.slice As oV.length ks,vs] ∧ wr.ownsRow w6.heap.size 142 4 vs o.length (o.flatMap encE)) (fun i _ => E.length - (intOf i).toNat)
   case atStart => exact ⟨0,[],_,Nat.zero_le _,rfl,rfl,Keep.refl _ _,unhide hbJ',World.ownsRow_nil _ _ _ _⟩
   case round =>
    obtain ⟨k,o,vs,hk,rfl,hfold,hkeep,hbk,hown⟩ := hrel
    have hkeep' := hide hkeep
    have hbk' := hide hbk
    have hown' := hide hown
    have hol' := hide (show o.length ≤ 5000 by rw [← hfold]; have := flat_le (fE_len 7 u lab wt pos) (E.zipIdx.take k); rw [List.length_take,List.length_zipIdx] at this; omega)
    have hsz' := hide (show w6.heap.size ≤ wr.heap.size from hkeep.size)
    have hxr : Ext w wr := (unhide hxwJ').of_new hkeep (by simp <;> omega)
    have hq2 := (unhide hq2J').keep hkeep (by simp <;> omega)
    have hq3 := (unhide hq3J').keep hkeep (by simp <;> omega)
    have hq4' := hide ((unhide hq4J').keep hkeep (by simp <;> omega))
    have d1 := hq2.cells 1 (v := .slice B E.length cE) rfl
    obtain ⟨e0,e1,e2,e3,e4⟩ := EditAt.of' hq3
    have r0 := hbk.cells 0 (v := .slice As oV.length ks) rfl
    have r1 := hbk.cells 1 (v := vs) rfl
    clear hkeep hbk hown hq2 hq3
    by_cases hlt : k < E.length
    ·obtain ⟨b,off,rfl,c1,c2,c3,c4⟩ := atE ((unhide hE').ext hxr) hlt
     have st := flat_take (l := E.zipIdx) (by simpa using hlt) hfold
     rw [List.getElem_zipIdx,Nat.zero_add] at st
     generalize hy : E[k] = y at c1 c2 c3 c4 st
     obtain ⟨⟨a,b0⟩,⟨l,t⟩⟩ := y
     clear hy hfold
     have st' := hide st
     clear st
     simp only at c1 c2 c3 c4
     by_cases hp : (k : Int) = pos
     ·subst hp
      go_wp2_with (at_builtin; refine wp_rE (wr.alloc (.cells #[.int .i64 a, .int .i64 b0, .int .u8 l, .int .i64 wt] 142)) rfl _ _ rfl w6.heap.size vs o.length o ((a,b0),(l,wt)) rfl (wr.heap.size + 1) _ (by rfl) (by simp) (by rfl) (by rfl) (own_ext (unhide hown') (ext_self1 _ _)) (Nat.le_trans (unhide hol') (by omega)) (Nat.le_trans (unhide hsz') (Below.size (ext_self1 _ _))) ?_; intro A1 k1 w4 ho4 hg4; obtain ⟨W5,hW5,f1,f2,hk5,hb5,ho5,_,_⟩ := fld_step (i := 1) (unhide hkeep') (unhide hnJ') (unhide hbk') (unhide hown') (ext_self2 wr _ _) ho4 hg4 (by simp); have hk5' := hide hk5; have hb5' := hide hb5; have ho5' := hide ho5; clear hk5 hb5 ho5 ho4 hg4)
      go_roundw
      case rel => exact ⟨k + 1,o ++ [((a,b0),(l,wt))], .slice A1 (o.length + 1) k1,by omega,by go_num,by rw [unhide st']; simp [fE],unhide hk5',unhide hb5',by have := unhide ho5'; simpa using this⟩
      case measure => simp [intOf]; omega
     ·have hc' := hide hp
      go_wp2_with (at_builtin; refine wp_rE (wr.alloc (.cells #[.int .i64 a, .int .i64 b0, .int .u8 l, .int .i64 t] 142)) rfl _ _ rfl w6.heap.size vs o.length o ((a,b0),(l,t)) rfl (wr.heap.size + 1) _ (by rfl) (by simp) (by rfl) (by rfl) (own_ext (unhide hown') (ext_self1 _ _)) (Nat.le_trans (unhide hol') (by omega)) (Nat.le_trans (unhide hsz') (Below.size (ext_self1 _ _))) ?_; intro A1 k1 w4 ho4 hg4; obtain ⟨W5,hW5,f1,f2,hk5,hb5,ho5,_,_⟩ := fld_step (i := 1) (unhide hkeep') (unhide hnJ') (unhide hbk') (unhide hown') (ext_self2 wr _ _) ho4 hg4 (by simp); have hk5' := hide hk5; have hb5' := hide hb5; have ho5' := hide ho5; clear hk5 hb5 ho5 ho4 hg4)
      go_roundw
      case rel => exact ⟨k + 1,o ++ [((a,b0),(l,t))], .slice A1 (o.length + 1) k1,by omega,by go_num,by rw [unhide st']; simp [fE,unhide hc'],unhide hk5',unhide hb5',by have := unhide ho5'; simpa using this⟩
      case measure => simp [intOf]; omega
    ·have hkE : k = E.length := by omega
     rw [hkE,List.take_of_length_le (by simp)] at hfold
     obtain ⟨A2,k2,rfl⟩ := own_slice (unhide hown')
     have s0 := (unhide hq4').cell 0
     have s1 := (unhide hq4').cell 1
     have s2 := (unhide hq4').frozen 0
     have s3 := (unhide hq4').frozen 1
     simp at s0 s1
     have hfold' := hide hfold
     clear hfold
     go_wp2
     refine bodyPost_ret (ret_cell2 rfl rfl (load_G2 wr (n + 1 + 1) _ _ _ _ s0 s1)) rfl ?_
     have hbz := unhide hbz'
     have hoV := own_keep (unhide hoJ') (unhide hkeep') (fun g hg e => by
      have h1 : g = b7 := by simpa using hg
      subst h1
      have := (own_base (unhide hoJ') e).1
      omega)
     obtain ⟨q1,q2⟩ := fin_row hxr (b4 := n + 1 + 1) (by omega) hoV (by omega) (.slice As oV.length ks) (.slice A2 o.length k2)
     obtain ⟨q3,q4⟩ := fin_row hxr (b4 := n + 1 + 1) (by omega) (unhide hown') (by omega) (.slice As oV.length ks) (.slice A2 o.length k2)
     obtain ⟨A5,c5,he5,hs5⟩ := SlAt.of_own (enc := encV) (xs := oV) q2 (fun _ => rfl)
     obtain ⟨A6,c6,he6,hs6⟩ := SlAt.of_own (enc := encE) (xs := o) q4 (fun _ => rfl)
     simp only [Value.slice.injEq] at he5 he6
     obtain ⟨rfl,_,rfl⟩ := he5
     obtain ⟨rfl,_,rfl⟩ := he6
     rw [unhide hfoldV,unhide hfold']
     exact ⟨As,ks,A2,k2,rfl,hs5,hs6,q1⟩
end Go.Proofs.YtmokciekndllpaaGreatDoor
namespace Go.Proofs.YtmokciekndllpaaGreatDoor
open Go Go.RowKit
theorem SlAt.off {α : Type} {enc : α → List Value} {k : Nat} {w w' : World} {A : Option Addr} {xs : List α} {b4 : Nat} {T : TypeId} {cs : Array Value} (h : SlAt enc k w A xs) (hb : Blk w b4 T cs) (hcs : ∀ (i : Nat) (u : Value),cs[i]? = some u → ∀ x : α,(enc x)[0]? ≠ some u) (hen : ∀ x : α, ∃ u : Value,(enc x)[0]? = some u)
  (hs : w.heap.size ≤ w'.heap.size) (ho : ∀ j,j ≠ b4 → j < w.heap.size → w'.heap[j]? = w.heap[j]?) : SlAt enc k w' A xs := fun hne => by
 obtain ⟨b,off,hA,hlt,hc⟩ := h hne
 have hbb : b ≠ b4 := by
  rintro rfl
  obtain ⟨x,r,rfl⟩ := List.exists_cons_of_ne_nil hne
  obtain ⟨u,hu⟩ := hen x
  have h1 := hc 0 x rfl 0 u hu
  rw [hb.cell] at h1
  exact hcs _ _ h1 x hu
 refine ⟨b,off,hA,by omega,fun i x hx j u hu => ?_⟩
 rw [World.cell?_of_block (ho b hbb hlt)]
 exact hc i x hx j u hu
set_option maxRecDepth 100000 in
set_option maxHeartbeats 4000000 in
theorem do_0 (A B : Option Addr) (V : List (Int × Thing)) (E : List ((Int × Int) × Thing)) (cV cE : Nat) (u v lab wt : Int) (w : World) (hV : SlAt encV 3 w A V) (hE : SlAt encE 4 w B E) (hl : V.length ≤ 4096) (_hle : E.length ≤ 4096) (h0 : wrongR 0 u v wt V E = 0) :
  Calls Tryz.prog 108 #[.agg #[.slice A V.length cV, .slice B E.length cE], .agg #[.int .i64 0, .int .i64 u, .int .i64 v, .int .u8 lab, .int .i64 wt]] w fun e w' => ∃ A' cV',e = .returned (.tuple #[.agg #[.slice A' (insF (gtV (u,(lab,wt))) (u,(lab,wt)) V).length cV', .slice B E.length cE], .int .i64 0]) ∧ SlAt encV 3 w' A' (insF (gtV (u,(lab,wt))) (u,(lab,wt)) V) ∧ Ext w w' := by
 have hV' := hide hV
 have hE' := hide hE
 have h0' := hide h0
 clear hV hE h0
 obtain ⟨hb2,hb3,hb4⟩ := blk3 w #[.slice A V.length cV, .slice B E.length cE] #[.int .i64 0, .int .i64 u, .int .i64 v, .int .u8 lab, .int .i64 wt] #[.slice none 0 0, .slice none 0 0] 30 160 30
 have d0 := hb2.cells 0 (v := .slice A V.length cV) rfl
 have d1 := hb2.cells 1 (v := .slice B E.length cE) rfl
 have hq3 := EditAt.of' hb3
 obtain ⟨e0,e1,e2,e3,e4⟩ := hq3
 have hb4' := hide hb4
 clear hb2 hb3 hb4
 generalize hS : insF (gtV (u,(lab,wt))) (u,(lab,wt)) V = S
 have hS' := hide hS
 go_enter Tryz.func108,Tryz.ntmps108
 go_wp2_with (first
  | (go_at_call 155; refine (wrongR_0 A B V E cV cE u v lab wt _ ((unhide hV').ext (ext_self3 _ _ _ _)) ((unhide hE').ext (ext_self3 _ _ _ _)) hl).mono ?_; rw [unhide h0']; rintro e w2 ⟨rfl,hx2⟩; have hz : Ext (((w.alloc (.cells #[.slice A V.length cV, .slice B E.length cE] 30)).alloc (.cells #[.int .i64 0, .int .i64 u, .int .i64 v, .int .u8 lab, .int .i64 wt] 160)).alloc (.cells #[.slice none 0 0, .slice none 0 0] 30)) w2 := hx2)
  | (go_at_call 156; refine (plus_any A B V E cV cE u lab wt _ ((unhide hV').ext ((ext_self3 _ _ _ _).trans hx2)) hl).mono ?_; rw [unhide hS']; rintro e w5 ⟨A5,c5,rfl,hs5,hx5⟩; have hs5' := hide hs5; have hx5' := hide hx5; have hq := ((unhide hb4').ext hx2).ext hx5; have hq' := hide hq; have s0 := hq.cell 0; have s1 := hq.cell 1; have s2 := hq.frozen 0; have s3 := hq.frozen 1; simp at s0 s1; clear hq hs5 hx5))
 refine bodyPost_ret (ret_cell2 rfl rfl (load_G2 w5 (w.heap.size + 1 + 1) _ _ _ _ s0 s1)) rfl ?_
 have hxw := ((ext_self3 _ _ _ _).trans hx2).trans (unhide hx5')
 refine ⟨A5,c5,rfl,(unhide hs5').off (unhide hq') (by intro i u hi x; match i,hi with | 0,hi => simp at hi; subst hi; simp [encV] | 1,hi => simp at hi; subst hi; simp [encV]) (fun x => ⟨_,rfl⟩) ?_ ?_, ?_⟩
 ·simp [World.setCell]
 ·intro j hj _
  rw [Below.heap_setCell _ _ _ _ (by simpa using hj),Below.heap_setCell _ _ _ _ (by simpa using hj)]
 ·exact Below.setCell (Below.setCell hxw (by simp; omega) _) (by simp; omega) _
set_option maxRecDepth 100000 in
set_option maxHeartbeats 4000000 in
theorem do_2 (A B : Option Addr) (V : List (Int × Thing)) (E : List ((Int × Int) × Thing)) (cV cE : Nat) (u v lab wt : Int) (w : World) (hV : SlAt encV 3 w A V) (hE : SlAt encE 4 w B E) (hl : V.length ≤ 4096) (hle : E.length ≤ 4096) (h0 : wrongR 2 u v wt V E = 0) :
  Calls Tryz.prog 108 #[.agg #[.slice A V.length cV, .slice B E.length cE], .agg #[.int .i64 2, .int .i64 u, .int .i64 v, .int .u8 lab, .int .i64 wt]] w fun e w' => ∃ B' cE',e = .returned (.tuple #[.agg #[.slice A V.length cV, .slice B' (insF (gtE ((min u v,max u v),(lab,wt))) ((min u v,max u v),(lab,wt)) E).length cE'], .int .i64 0]) ∧ SlAt encE 4 w' B' (insF (gtE ((min u v,max u v),(lab,wt))) ((min u v,max u v),(lab,wt)) E) ∧ Ext w w' := by
 have hV' := hide hV
 have hE' := hide hE
 have h0' := hide h0
 clear hV hE h0
 obtain ⟨hb2,hb3,hb4⟩ := blk3 w #[.slice A V.length cV, .slice B E.length cE] #[.int .i64 2, .int .i64 u, .int .i64 v, .int .u8 lab, .int .i64 wt] #[.slice none 0 0, .slice none 0 0] 30 160 30
 have d0 := hb2.cells 0 (v := .slice A V.length cV) rfl
 have d1 := hb2.cells 1 (v := .slice B E.length cE) rfl
 have hq3 := EditAt.of' hb3
 obtain ⟨e0,e1,e2,e3,e4⟩ := hq3
 have hb4' := hide hb4
 clear hb2 hb3 hb4
 generalize hS : insF (gtE ((min u v,max u v),(lab,wt))) ((min u v,max u v),(lab,wt)) E = S
 have hS' := hide hS
 go_enter Tryz.func108,Tryz.ntmps108
 go_wp2_with (first
  | (go_at_call 155; refine (wrongR_2 A B V E cV cE u v lab wt _ ((unhide hV').ext (ext_self3 _ _ _ _)) ((unhide hE').ext (ext_self3 _ _ _ _)) hl hle).mono ?_; rw [unhide h0']; rintro e w2 ⟨rfl,hx2⟩; have hz : Ext (((w.alloc (.cells #[.slice A V.length cV, .slice B E.length cE] 30)).alloc (.cells #[.int .i64 2, .int .i64 u, .int .i64 v, .int .u8 lab, .int .i64 wt] 160)).alloc (.cells #[.slice none 0 0, .slice none 0 0] 30)) w2 := hx2)
  | (go_at_call 157; refine (joined_any A B V E cV cE (min u v) (max u v) lab wt _ ((unhide hE').ext ((ext_self3 _ _ _ _).trans hx2)) hle).mono ?_; rw [unhide hS']; rintro e w5 ⟨A5,c5,rfl,hs5,hx5⟩; have hs5' := hide hs5; have hx5' := hide hx5; have hq := ((unhide hb4').ext hx2).ext hx5; have hq' := hide hq; have s0 := hq.cell 0; have s1 := hq.cell 1; have s2 := hq.frozen 0; have s3 := hq.frozen 1; simp at s0 s1; clear hq hs5 hx5))
 refine bodyPost_ret (ret_cell2 rfl rfl (load_G2 w5 (w.heap.size + 1 + 1) _ _ _ _ s0 s1)) rfl ?_
 have hxw := ((ext_self3 _ _ _ _).trans hx2).trans (unhide hx5')
 refine ⟨A5,c5,rfl,(unhide hs5').off (unhide hq') (by intro i u hi x; match i,hi with | 0,hi => simp at hi; subst hi; simp [encE] | 1,hi => simp at hi; subst hi; simp [encE]) (fun x => ⟨_,rfl⟩) ?_ ?_, ?_⟩
 ·simp [World.setCell]
 ·intro j hj _
  rw [Below.heap_setCell _ _ _ _ (by simpa using hj),Below.heap_setCell _ _ _ _ (by simpa using hj)]
 ·exact Below.setCell (Below.setCell hxw (by simp; omega) _) (by simp; omega) _
end Go.Proofs.YtmokciekndllpaaGreatDoor
namespace Go.Proofs.YtmokciekndllpaaGreatDoor
open Go Go.RowKit
attribute [local go_sem] qUpon lUpon
theorem own_at {α : Type} {enc : α → List Value} {w : World} {base T k n c : Nat} {A : Option Addr} {xs : List α} (h : w.ownsRow base T k (.slice A n c) xs.length (xs.flatMap enc)) (hk : ∀ x,(enc x).length = k) : SlAt enc k w A xs := by
 obtain ⟨A',c',he,hs⟩ := SlAt.of_own h hk
 simp only [Value.slice.injEq] at he
 rw [he.1]
 exact hs
end Go.Proofs.YtmokciekndllpaaGreatDoor
namespace Go.Proofs.YtmokciekndllpaaGreatDoor
open Go Go.RowKit
def IsG (w : World) (g bv be : Nat) (V : List (Int × Thing)) (E : List ((Int × Int) × Thing)) : Prop := ∃ V' E',GraphAt w g bv be V' E' ∧ V.Perm V' ∧ E.Perm E' ∧ GInv V E
theorem IsG.ext {w w' : World} {g bv be : Nat} {V : List (Int × Thing)} {E : List ((Int × Int) × Thing)} (h : IsG w g bv be V E) (k : Ext w w') : IsG w' g bv be V E := by
 obtain ⟨V',E',h1,h2⟩ := h
 exact ⟨V',E',h1.ext k,h2⟩
theorem IsG.inv {w : World} {g bv be : Nat} {V : List (Int × Thing)} {E : List ((Int × Int) × Thing)} (h : IsG w g bv be V E) : GInv V E := by
 obtain ⟨V',E',_,_,_,h⟩ := h
 exact h
theorem IsG.lt {w : World} {g bv be : Nat} {V : List (Int × Thing)} {E : List ((Int × Int) × Thing)} (h : IsG w g bv be V E) : g < w.heap.size ∧ bv < w.heap.size ∧ be < w.heap.size := by
 obtain ⟨V',E',h,_⟩ := h
 exact ⟨h.blk.lt,h.vs.lt,h.es.lt⟩
theorem IsG.keep {S : List Nat} {w w' : World} {g bv be : Nat} {V : List (Int × Thing)} {E : List ((Int × Int) × Thing)} (h : IsG w g bv be V E) (k : Keep S w w') (hg : g ∉ S) (hv : bv ∉ S) (he : be ∉ S) : IsG w' g bv be V E := by
 obtain ⟨V',E',h1,h2⟩ := h
 exact ⟨V',E',⟨h1.blk.keep k hg,h1.vs.keep k hv,h1.es.keep k he,h1.ne⟩,h2⟩
theorem encV0 (x : Int × Thing) : ∃ u : Value,(encV x)[0]? = some u := ⟨_,rfl⟩
theorem encE0 (x : (Int × Int) × Thing) : ∃ u : Value,(encE x)[0]? = some u := ⟨_,rfl⟩
theorem rwrong_any (A B : Option Addr) (V : List (Int × Thing)) (E : List ((Int × Int) × Thing)) (cV cE : Nat) (op u v lab wt : Int) (w : World) (hV : SlAt encV 3 w A V) (hE : SlAt encE 4 w B E) (hl : V.length ≤ 4096) (hle : E.length ≤ 4096) :
  Calls Tryz.prog 155 #[.agg #[.slice A V.length cV, .slice B E.length cE], .agg #[.int .i64 op, .int .i64 u, .int .i64 v, .int .u8 lab, .int .i64 wt]] w fun e w' => e = .returned (.int .i64 (wrongR op u v wt V E)) ∧ Ext w w' := by
 cases h1 : w1B op with
 | true => exact wrongR_bad A B V E cV cE op u v lab wt w h1
 | false =>
  rcases op_cases h1 with rfl | rfl | rfl | rfl | rfl | rfl | rfl | rfl
  ·exact wrongR_0 A B V E cV cE u v lab wt w hV hE hl
  ·exact wrongR_1 A B V E cV cE u v lab wt w hV hE hl
  ·exact wrongR_2 A B V E cV cE u v lab wt w hV hE hl hle
  ·exact wrongR_3 A B V E cV cE u v lab wt w hV hE hl hle
  ·exact wrongR_4 A B V E cV cE u v lab wt w hV hE hl
  ·exact wrongR_5 A B V E cV cE u v lab wt w hV hE hl
  ·exact wrongR_6 A B V E cV cE u v lab wt w hV hE hl hle
  ·exact wrongR_7 A B V E cV cE u v lab wt w hV hE hl hle
theorem do_any (A B : Option Addr) (V : List (Int × Thing)) (E : List ((Int × Int) × Thing)) (cV cE : Nat) (op u v lab wt : Int) (w : World) (hV : SlAt encV 3 w A V) (hE : SlAt encE 4 w B E) (hl : V.length ≤ 4096) (hle : E.length ≤ 4096) :
  Calls Tryz.prog 108 #[.agg #[.slice A V.length cV, .slice B E.length cE], .agg #[.int .i64 op, .int .i64 u, .int .i64 v, .int .u8 lab, .int .i64 wt]] w fun e w' => ∃ A' cV' B' cE',e = .returned (.tuple #[.agg #[.slice A' (nxV op u v lab wt V E).length cV', .slice B' (nxE op u v lab wt V E).length cE'], .int .i64 (wrongR op u v wt V E)]) ∧
   SlAt encV 3 w' A' (nxV op u v lab wt V E) ∧ SlAt encE 4 w' B' (nxE op u v lab wt V E) ∧ Ext w w' := by
 by_cases h0 : wrongR op u v wt V E = 0
 ·have eV : nxV op u v lab wt V E = refV op u lab wt V := if_pos h0
  have eE : nxE op u v lab wt V E = refE op u v lab wt E := if_pos h0
  rw [eV,eE]
  rcases (wrongR_0_iff h0).1 with rfl | rfl | rfl | rfl | rfl | rfl | rfl | rfl
  ·refine (do_0 A B V E cV cE u v lab wt w hV hE hl hle h0).mono fun e w' ⟨A',c',he,h1,hx⟩ => ⟨A',c',B,cE, ?_,h1,hE.ext hx,hx⟩
   rw [h0]; exact he
  ·rw [h0]; exact do_1 A B V E cV cE u v lab wt w hV hE hl hle h0
  ·refine (do_2 A B V E cV cE u v lab wt w hV hE hl hle h0).mono fun e w' ⟨B',c',he,h1,hx⟩ => ⟨A,cV,B',c', ?_,hV.ext hx,h1,hx⟩
   rw [h0]; exact he
  ·rw [h0]; exact do_3 A B V E cV cE u v lab wt w hV hE hl hle h0
  ·rw [h0]; exact do_4 A B V E cV cE u v lab wt w hV hE hl hle h0
  ·rw [h0]; exact do_5 A B V E cV cE u v lab wt w hV hE hl hle h0
  ·rw [h0]; exact do_6 A B V E cV cE u v lab wt w hV hE hl hle h0
  ·rw [h0]; exact do_7 A B V E cV cE u v lab wt w hV hE hl hle h0
 ·have eV : nxV op u v lab wt V E = V := if_neg h0
  have eE : nxE op u v lab wt V E = E := if_neg h0
  rw [eV,eE]
  exact (do_err A B V E cV cE op u v lab wt _ w h0 fun W hW => rwrong_any A B V E cV cE op u v lab wt W (hV.ext hW) (hE.ext hW) hl hle).mono fun e w' ⟨he,hx⟩ => ⟨A,cV,B,cE,he,hV.ext hx,hE.ext hx,hx⟩
theorem apply_any (g bv be : Nat) (V : List (Int × Thing)) (E : List ((Int × Int) × Thing)) (op u v lab wt : Int) (w : World) (hg : IsG w g bv be V E) (hu : i64ok u) (hv : i64ok v) :
  Calls Tryz.prog 31 #[.pointer (some ⟨g,0,none⟩), .agg #[.int .i64 op, .int .i64 u, .int .i64 v, .int .u8 lab, .int .i64 wt]] w fun e w' => e = .returned (.int .i64 (wrongR op u v wt V E)) ∧ IsG w' g bv be (nxV op u v lab wt V E) (nxE op u v lab wt V E) ∧ Keep [bv,be] w w' := by
 obtain ⟨V',E',h1,hV,hE,hi⟩ := hg
 have he := err_eq op u v wt hV hE hi
 by_cases h0 : wrongR op u v wt V E = 0
 ·obtain ⟨p1,p2⟩ := step_perm (lab := lab) hV hE hi h0
  refine (apply_yes g bv be V' E' op u v lab wt w h1 hu hv (he.trans h0)).mono fun e w' ⟨hr,hG,hk⟩ => ⟨by rw [h0]; exact hr,⟨_,_,hG, ?_, ?_,hi.next op u v lab wt⟩,hk⟩
  ·unfold nxV; rw [if_pos h0]; exact p1
  ·unfold nxE; rw [if_pos h0]; exact p2
 ·refine (apply_no g bv be V' E' op u v lab wt w h1 hu hv (by rw [he]; exact h0)).mono fun e w' ⟨hr,hx⟩ => ⟨by rw [← he]; exact hr,⟨V',E',h1.ext hx, ?_, ?_,hi.next op u v lab wt⟩,hx.keep _⟩
  ·unfold nxV; rw [if_neg h0]; exact hV
  ·unfold nxE; rw [if_neg h0]; exact hE
theorem IsG.nV {w : World} {g bv be : Nat} {V : List (Int × Thing)} {E : List ((Int × Int) × Thing)} (h : IsG w g bv be V E) : V.length ≤ 4096 := Nat.le_trans h.inv.nv (by omega)
theorem IsG.nE {w : World} {g bv be : Nat} {V : List (Int × Thing)} {E : List ((Int × Int) × Thing)} (h : IsG w g bv be V E) : E.length ≤ 4096 := Nat.le_trans h.inv.ne (by omega)
theorem new_rel (w : World) : Calls Tryz.prog 46 #[] w fun e w' => ∃ g bv be,e = .returned (.pointer (some ⟨g,0,none⟩)) ∧ IsG w' g bv be [] [] ∧ Ext w w' ∧ w.heap.size ≤ g ∧ w.heap.size ≤ bv ∧ w.heap.size ≤ be :=
 (new_any w).mono fun _ _ ⟨g,bv,be,he,hG,h⟩ => ⟨g,bv,be,he,⟨[],[],hG,List.Perm.refl _,List.Perm.refl _,GInv.nil⟩,h⟩
end Go.Proofs.YtmokciekndllpaaGreatDoor
namespace Go.Proofs.YtmokciekndllpaaGreatDoor
open Go Go.RowKit Go.ChangeShapes Go.WideShapes Go.Deep
section
variable {H : Type} {enc : TypeId × Value → H} {P : Program} {w : World} {base : Nat} {spare : Nat → Bool} {held : Bool}
end
abbrev Ed := Int × Int × Int × Int × Int
def encD (d : Ed) : List Value := [.int .i64 d.1, .int .i64 d.2.1, .int .i64 d.2.2.1, .int .u8 d.2.2.2.1, .int .i64 d.2.2.2.2]
def okV (d : Int × Thing) : Prop := i64ok d.1 ∧ i64ok d.2.2
def okEd (d : (Int × Int) × Thing) : Prop := i64ok d.1.1 ∧ i64ok d.1.2 ∧ i64ok d.2.2
section
variable {H : Type} {enc : TypeId × Value → H} {w : World} {base : Nat} {spare : Nat → Bool} {held : Bool} {fuel : Nat} {x : DataW H × List MemPlace} {a : Option Addr} {len cap : Nat}
end
end Go.Proofs.YtmokciekndllpaaGreatDoor
namespace Go.Proofs.YtmokciekndllpaaGreatDoor
open Go Go.RowKit
theorem atD {w : World} {A : Option Addr} {L : List Ed} (h : SlAt encD 5 w A L) {i : Nat} (hi : i < L.length) :
  ∃ b off,A = some ⟨b,off,none⟩ ∧ (∀ W,Ext w W → W.cell? ⟨b,off + i * 5,none⟩ = some (.int .i64 L[i].1)) ∧ (∀ W,Ext w W → W.cell? ⟨b,off + i * 5 + 1,none⟩ = some (.int .i64 L[i].2.1)) ∧
   (∀ W,Ext w W → W.cell? ⟨b,off + i * 5 + 2,none⟩ = some (.int .i64 L[i].2.2.1)) ∧ (∀ W,Ext w W → W.cell? ⟨b,off + i * 5 + 3,none⟩ = some (.int .u8 L[i].2.2.2.1)) ∧ (∀ W,Ext w W → W.cell? ⟨b,off + i * 5 + 4,none⟩ = some (.int .i64 L[i].2.2.2.2)) := by
 obtain ⟨b,off,hA,hc⟩ := h.at_ hi
 exact ⟨b,off,hA,hc 0 _ rfl,hc 1 _ rfl,hc 2 _ rfl,hc 3 _ rfl,hc 4 _ rfl⟩
theorem blkG_off (p q : Value) (hp : ∃ A n c,p = .slice A n c) (hq : ∃ A n c,q = .slice A n c) : ∀ (i : Nat) (u : Value),(#[p,q] : Array Value)[i]? = some u → ∃ A n c,u = .slice A n c := by
 intro i u h
 match i,h with
 | 0,h => simp at h; subst h; exact hp
 | 1,h => simp at h; subst h; exact hq
theorem encV_ns (x : Int × Thing) (A : Option Addr) (n c : Nat) : (encV x)[0]? ≠ some (.slice A n c) := by simp [encV]
theorem encE_ns (x : (Int × Int) × Thing) (A : Option Addr) (n c : Nat) : (encE x)[0]? ≠ some (.slice A n c) := by simp [encE]
theorem Blk.set2 {w : World} {b : Nat} {T : TypeId} {p q p' q' : Value} (h : Blk w b T #[p,q]) : Blk ((w.setCell ⟨b,0,none⟩ p').setCell ⟨b,1,none⟩ q') b T #[p',q'] := by
 have := (h.set 0 p').set 1 q'
 simpa using this
theorem Keep.set2 (w : World) (b : Nat) (p q : Value) : Keep [b] w ((w.setCell ⟨b,0,none⟩ p).setCell ⟨b,1,none⟩ q) := (Keep.setCell w b 0 p).trans (Keep.setCell _ b 1 q)
theorem SlAt.keep_G {α : Type} {enc : α → List Value} {k : Nat} {w w' : World} {A : Option Addr} {xs : List α} {b : Nat} {T : TypeId} {p q : Value} (h : SlAt enc k w A xs) (hb : Blk w b T #[p,q]) (hp : ∃ A n c,p = .slice A n c) (hq : ∃ A n c,q = .slice A n c)
  (hns : ∀ (x : α) A n c,(enc x)[0]? ≠ some (.slice A n c)) (hen : ∀ x : α, ∃ u : Value,(enc x)[0]? = some u) (hk : Keep [b] w w') : SlAt enc k w' A xs :=
 h.off hb (fun i u hu x => by obtain ⟨A',n',c',rfl⟩ := blkG_off p q hp hq i u hu; exact hns x _ _ _) hen hk.size (fun j hj hlt => hk.block j hlt (by simpa using hj))
def GCls (b : Nat) (w W : World) : Prop := Keep [b] w W ∧ ∃ A n c B m d,Blk W b 30 #[.slice A n c, .slice B m d]
theorem GCls.refl {b : Nat} {w : World} {A B : Option Addr} {n c m d : Nat} (h : Blk w b 30 #[.slice A n c, .slice B m d]) : GCls b w w := ⟨Keep.refl _ _,_,_,_,_,_,_,h⟩
theorem GCls.ext {b : Nat} {w W W' : World} (h : GCls b w W) (k : Ext W W') : GCls b w W' := ⟨h.1.trans (k.keep _),by
 obtain ⟨A,n,c,B,m,d,h⟩ := h.2
 exact ⟨A,n,c,B,m,d,h.ext k⟩⟩
theorem GCls.set {b : Nat} {w W : World} (h : GCls b w W) (A B : Option Addr) (n c m d : Nat) : GCls b w ((W.setCell ⟨b,0,none⟩ (.slice A n c)).setCell ⟨b,1,none⟩ (.slice B m d)) := ⟨h.1.trans (Keep.set2 _ _ _ _),by
 obtain ⟨_,_,_,_,_,_,h⟩ := h.2
 exact ⟨_,_,_,_,_,_,h.set2⟩⟩
theorem SlAt.cls {α : Type} {enc : α → List Value} {k : Nat} {w W : World} {A : Option Addr} {xs : List α} {b : Nat} (h : SlAt enc k w A xs) (hc : GCls b w W) (hb : ∃ A n c B m d,Blk w b 30 #[.slice A n c, .slice B m d])
  (hns : ∀ (x : α) A n c,(enc x)[0]? ≠ some (.slice A n c)) (hen : ∀ x : α, ∃ u : Value,(enc x)[0]? = some u) : SlAt enc k W A xs := by
 obtain ⟨A',n,c,B,m,d,hb⟩ := hb
 exact h.keep_G hb ⟨_,_,_,rfl⟩ ⟨_,_,_,rfl⟩ hns hen hc.1
end Go.Proofs.YtmokciekndllpaaGreatDoor
