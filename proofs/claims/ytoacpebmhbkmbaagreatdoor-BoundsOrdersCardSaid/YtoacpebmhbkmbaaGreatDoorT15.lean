/- Parts of a proof, laid together. Each part says its own conditions. -/
import Derived.Test.YtoacpebmhbkmbaaGreatDoorT10
import Derived.Test.YtoacpebmhbkmbaaGreatDoorT11
import Derived.Test.YtoacpebmhbkmbaaGreatDoorT12
import Derived.Test.YtoacpebmhbkmbaaGreatDoorT13
import Derived.Test.YtoacpebmhbkmbaaGreatDoorT14
import Derived.Test.YtoacpebmhbkmbaaGreatDoorT6
import Derived.Test.YtoacpebmhbkmbaaGreatDoorRows
import Derived.Deep.Slices
import Derived.Deep.Fields
import Derived.ChangeSame
import Derived.OpenShut
namespace Go.Proofs.YtoacpebmhbkmbaaGreatDoor
open Go Go.RowKit
theorem SlAt.off {α : Type} {enc : α → List Value} {k : Nat} {w w' : World} {A : Option Addr} {xs : List α} {b4 : Nat} {T : TypeId} {cs : Array Value} (h : SlAt enc k w A xs) (hb : Blk w b4 T cs) (hcs : ∀ (i : Nat) (u : Value),cs[i]? = some u → ∀ x : α,(enc x)[0]? ≠ some u) (hen : ∀ x : α, ∃ u : Value,(enc x)[0]? = some u)
  (hs : w.heap.size ≤ w'.heap.size) (ho : ∀ j,j ≠ b4 → j < w.heap.size → w'.heap[j]? = w.heap[j]?) : SlAt enc k w' A xs := fun hne => by
 obtain ⟨b,off,hA,hlt,hc⟩ := h hne
 have hbb : b ≠ b4 := by
  rintro rfl
  obtain ⟨x,r,rfl⟩ := List.exists_cons_of_ne_nil hne
  obtain ⟨u,hu⟩ := hen x
  have h1 := hc 0 x rfl 0 u hu
  rw [hb.cell] at h1
  exact hcs _ _ h1 x hu
 refine ⟨b,off,hA,by omega,fun i x hx j u hu => ?_⟩
 rw [World.cell?_of_block (ho b hbb hlt)]
 exact hc i x hx j u hu
set_option maxRecDepth 100000 in
set_option maxHeartbeats 4000000 in
theorem do_0 (A B : Option Addr) (V : List (Int × Thing)) (E : List ((Int × Int) × Thing)) (cV cE : Nat) (u v lab wt : Int) (w : World) (hV : SlAt encV 3 w A V) (hE : SlAt encE 4 w B E) (hl : V.length ≤ 4096) (_hle : E.length ≤ 4096) (h0 : wrongR 0 u v wt V E = 0) :
  Calls Tryz.prog 107 #[.agg #[.slice A V.length cV, .slice B E.length cE], .agg #[.int .i64 0, .int .i64 u, .int .i64 v, .int .u8 lab, .int .i64 wt]] w fun e w' => ∃ A' cV',e = .returned (.tuple #[.agg #[.slice A' (insF (gtV (u,(lab,wt))) (u,(lab,wt)) V).length cV', .slice B E.length cE], .int .i64 0]) ∧ SlAt encV 3 w' A' (insF (gtV (u,(lab,wt))) (u,(lab,wt)) V) ∧ Ext w w' := by
 have hV' := hide hV
 have hE' := hide hE
 have h0' := hide h0
 clear hV hE h0
 obtain ⟨hb2,hb3,hb4⟩ := blk3 w #[.slice A V.length cV, .slice B E.length cE] #[.int .i64 0, .int .i64 u, .int .i64 v, .int .u8 lab, .int .i64 wt] #[.slice none 0 0, .slice none 0 0] 41 149 41
 have d0 := hb2.cells 0 (v := .slice A V.length cV) rfl
 have d1 := hb2.cells 1 (v := .slice B E.length cE) rfl
 have hq3 := EditAt.of' hb3
 obtain ⟨e0,e1,e2,e3,e4⟩ := hq3
 have hb4' := hide hb4
 clear hb2 hb3 hb4
 generalize hS : insF (gtV (u,(lab,wt))) (u,(lab,wt)) V = S
 have hS' := hide hS
 go_enter Tryz.func107,Tryz.ntmps107
 go_wp2_with (first
  | (go_at_call 134; refine (wrongR_0 A B V E cV cE u v lab wt _ ((unhide hV').ext (ext_self3 _ _ _ _)) ((unhide hE').ext (ext_self3 _ _ _ _)) hl).mono ?_; rw [unhide h0']; rintro e w2 ⟨rfl,hx2⟩; have hz : Ext (((w.alloc (.cells #[.slice A V.length cV, .slice B E.length cE] 41)).alloc (.cells #[.int .i64 0, .int .i64 u, .int .i64 v, .int .u8 lab, .int .i64 wt] 149)).alloc (.cells #[.slice none 0 0, .slice none 0 0] 41)) w2 := hx2)
  | (go_at_call 135; refine (plus_any A B V E cV cE u lab wt _ ((unhide hV').ext ((ext_self3 _ _ _ _).trans hx2)) hl).mono ?_; rw [unhide hS']; rintro e w5 ⟨A5,c5,rfl,hs5,hx5⟩; have hs5' := hide hs5; have hx5' := hide hx5; have hq := ((unhide hb4').ext hx2).ext hx5; have hq' := hide hq; have s0 := hq.cell 0; have s1 := hq.cell 1; have s2 := hq.frozen 0; have s3 := hq.frozen 1; simp at s0 s1; clear hq hs5 hx5))
 refine bodyPost_ret (ret_cell2 rfl rfl (load_G2 w5 (w.heap.size + 1 + 1) _ _ _ _ s0 s1)) rfl ?_
 have hxw := ((ext_self3 _ _ _ _).trans hx2).trans (unhide hx5')
 refine ⟨A5,c5,rfl,(unhide hs5').off (unhide hq') (by intro i u hi x; match i,hi with | 0,hi => simp at hi; subst hi; simp [encV] | 1,hi => simp at hi; subst hi; simp [encV]) (fun x => ⟨_,rfl⟩) ?_ ?_, ?_⟩
 ·simp [World.setCell]
 ·intro j hj _
  rw [Below.heap_setCell _ _ _ _ (by simpa using hj),Below.heap_setCell _ _ _ _ (by simpa using hj)]
 ·exact Below.setCell (Below.setCell hxw (by simp; omega) _) (by simp; omega) _
set_option maxRecDepth 100000 in
set_option maxHeartbeats 4000000 in
theorem do_2 (A B : Option Addr) (V : List (Int × Thing)) (E : List ((Int × Int) × Thing)) (cV cE : Nat) (u v lab wt : Int) (w : World) (hV : SlAt encV 3 w A V) (hE : SlAt encE 4 w B E) (hl : V.length ≤ 4096) (hle : E.length ≤ 4096) (h0 : wrongR 2 u v wt V E = 0) :
  Calls Tryz.prog 107 #[.agg #[.slice A V.length cV, .slice B E.length cE], .agg #[.int .i64 2, .int .i64 u, .int .i64 v, .int .u8 lab, .int .i64 wt]] w fun e w' => ∃ B' cE',e = .returned (.tuple #[.agg #[.slice A V.length cV, .slice B' (insF (gtE ((min u v,max u v),(lab,wt))) ((min u v,max u v),(lab,wt)) E).length cE'], .int .i64 0]) ∧ SlAt encE 4 w' B' (insF (gtE ((min u v,max u v),(lab,wt))) ((min u v,max u v),(lab,wt)) E) ∧ Ext w w' := by
 have hV' := hide hV
 have hE' := hide hE
 have h0' := hide h0
 clear hV hE h0
 obtain ⟨hb2,hb3,hb4⟩ := blk3 w #[.slice A V.length cV, .slice B E.length cE] #[.int .i64 2, .int .i64 u, .int .i64 v, .int .u8 lab, .int .i64 wt] #[.slice none 0 0, .slice none 0 0] 41 149 41
 have d0 := hb2.cells 0 (v := .slice A V.length cV) rfl
 have d1 := hb2.cells 1 (v := .slice B E.length cE) rfl
 have hq3 := EditAt.of' hb3
 obtain ⟨e0,e1,e2,e3,e4⟩ := hq3
 have hb4' := hide hb4
 clear hb2 hb3 hb4
 generalize hS : insF (gtE ((min u v,max u v),(lab,wt))) ((min u v,max u v),(lab,wt)) E = S
 have hS' := hide hS
 go_enter Tryz.func107,Tryz.ntmps107
 go_wp2_with (first
  | (go_at_call 134; refine (wrongR_2 A B V E cV cE u v lab wt _ ((unhide hV').ext (ext_self3 _ _ _ _)) ((unhide hE').ext (ext_self3 _ _ _ _)) hl hle).mono ?_; rw [unhide h0']; rintro e w2 ⟨rfl,hx2⟩; have hz : Ext (((w.alloc (.cells #[.slice A V.length cV, .slice B E.length cE] 41)).alloc (.cells #[.int .i64 2, .int .i64 u, .int .i64 v, .int .u8 lab, .int .i64 wt] 149)).alloc (.cells #[.slice none 0 0, .slice none 0 0] 41)) w2 := hx2)
  | (go_at_call 136; refine (joined_any A B V E cV cE (min u v) (max u v) lab wt _ ((unhide hE').ext ((ext_self3 _ _ _ _).trans hx2)) hle).mono ?_; rw [unhide hS']; rintro e w5 ⟨A5,c5,rfl,hs5,hx5⟩; have hs5' := hide hs5; have hx5' := hide hx5; have hq := ((unhide hb4').ext hx2).ext hx5; have hq' := hide hq; have s0 := hq.cell 0; have s1 := hq.cell 1; have s2 := hq.frozen 0; have s3 := hq.frozen 1; simp at s0 s1; clear hq hs5 hx5))
 refine bodyPost_ret (ret_cell2 rfl rfl (load_G2 w5 (w.heap.size + 1 + 1) _ _ _ _ s0 s1)) rfl ?_
 have hxw := ((ext_self3 _ _ _ _).trans hx2).trans (unhide hx5')
 refine ⟨A5,c5,rfl,(unhide hs5').off (unhide hq') (by intro i u hi x; match i,hi with | 0,hi => simp at hi; subst hi; simp [encE] | 1,hi => simp at hi; subst hi; simp [encE]) (fun x => ⟨_,rfl⟩) ?_ ?_, ?_⟩
 ·simp [World.setCell]
 ·intro j hj _
  rw [Below.heap_setCell _ _ _ _ (by simpa using hj),Below.heap_setCell _ _ _ _ (by simpa using hj)]
 ·exact Below.setCell (Below.setCell hxw (by simp; omega) _) (by simp; omega) _
end Go.Proofs.YtoacpebmhbkmbaaGreatDoor
namespace Go.Proofs.YtoacpebmhbkmbaaGreatDoor
open Go Go.RowKit
attribute [local go_sem] qUpon lUpon
theorem own_at {α : Type} {enc : α → List Value} {w : World} {base T k n c : Nat} {A : Option Addr} {xs : List α} (h : w.ownsRow base T k (.slice A n c) xs.length (xs.flatMap enc)) (hk : ∀ x,(enc x).length = k) : SlAt enc k w A xs := by
 obtain ⟨A',c',he,hs⟩ := SlAt.of_own h hk
 simp only [Value.slice.injEq] at he
 rw [he.1]
 exact hs
end Go.Proofs.YtoacpebmhbkmbaaGreatDoor
namespace Go.Proofs.YtoacpebmhbkmbaaGreatDoor
open Go Go.RowKit
def IsG (w : World) (g bv be : Nat) (V : List (Int × Thing)) (E : List ((Int × Int) × Thing)) : Prop := ∃ V' E',GraphAt w g bv be V' E' ∧ V.Perm V' ∧ E.Perm E' ∧ GInv V E
theorem IsG.ext {w w' : World} {g bv be : Nat} {V : List (Int × Thing)} {E : List ((Int × Int) × Thing)} (h : IsG w g bv be V E) (k : Ext w w') : IsG w' g bv be V E := by
 obtain ⟨V',E',h1,h2⟩ := h
 exact ⟨V',E',h1.ext k,h2⟩
theorem IsG.inv {w : World} {g bv be : Nat} {V : List (Int × Thing)} {E : List ((Int × Int) × Thing)} (h : IsG w g bv be V E) : GInv V E := by
 obtain ⟨V',E',_,_,_,h⟩ := h
 exact h
theorem IsG.keep {S : List Nat} {w w' : World} {g bv be : Nat} {V : List (Int × Thing)} {E : List ((Int × Int) × Thing)} (h : IsG w g bv be V E) (k : Keep S w w') (hg : g ∉ S) (hv : bv ∉ S) (he : be ∉ S) : IsG w' g bv be V E := by
 obtain ⟨V',E',h1,h2⟩ := h
 exact ⟨V',E',⟨h1.blk.keep k hg,h1.vs.keep k hv,h1.es.keep k he,h1.ne⟩,h2⟩
theorem encV0 (x : Int × Thing) : ∃ u : Value,(encV x)[0]? = some u := ⟨_,rfl⟩
theorem encE0 (x : (Int × Int) × Thing) : ∃ u : Value,(encE x)[0]? = some u := ⟨_,rfl⟩
theorem rwrong_any (A B : Option Addr) (V : List (Int × Thing)) (E : List ((Int × Int) × Thing)) (cV cE : Nat) (op u v lab wt : Int) (w : World) (hV : SlAt encV 3 w A V) (hE : SlAt encE 4 w B E) (hl : V.length ≤ 4096) (hle : E.length ≤ 4096) :
  Calls Tryz.prog 134 #[.agg #[.slice A V.length cV, .slice B E.length cE], .agg #[.int .i64 op, .int .i64 u, .int .i64 v, .int .u8 lab, .int .i64 wt]] w fun e w' => e = .returned (.int .i64 (wrongR op u v wt V E)) ∧ Ext w w' := by
 cases h1 : w1B op with
 | true => exact wrongR_bad A B V E cV cE op u v lab wt w h1
 | false =>
  rcases op_cases h1 with rfl | rfl | rfl | rfl | rfl | rfl | rfl | rfl
  ·exact wrongR_0 A B V E cV cE u v lab wt w hV hE hl
  ·exact wrongR_1 A B V E cV cE u v lab wt w hV hE hl
  ·exact wrongR_2 A B V E cV cE u v lab wt w hV hE hl hle
  ·exact wrongR_3 A B V E cV cE u v lab wt w hV hE hl hle
  ·exact wrongR_4 A B V E cV cE u v lab wt w hV hE hl
  ·exact wrongR_5 A B V E cV cE u v lab wt w hV hE hl
  ·exact wrongR_6 A B V E cV cE u v lab wt w hV hE hl hle
  ·exact wrongR_7 A B V E cV cE u v lab wt w hV hE hl hle
theorem do_any (A B : Option Addr) (V : List (Int × Thing)) (E : List ((Int × Int) × Thing)) (cV cE : Nat) (op u v lab wt : Int) (w : World) (hV : SlAt encV 3 w A V) (hE : SlAt encE 4 w B E) (hl : V.length ≤ 4096) (hle : E.length ≤ 4096) :
  Calls Tryz.prog 107 #[.agg #[.slice A V.length cV, .slice B E.length cE], .agg #[.int .i64 op, .int .i64 u, .int .i64 v, .int .u8 lab, .int .i64 wt]] w fun e w' => ∃ A' cV' B' cE',e = .returned (.tuple #[.agg #[.slice A' (nxV op u v lab wt V E).length cV', .slice B' (nxE op u v lab wt V E).length cE'], .int .i64 (wrongR op u v wt V E)]) ∧
   SlAt encV 3 w' A' (nxV op u v lab wt V E) ∧ SlAt encE 4 w' B' (nxE op u v lab wt V E) ∧ Ext w w' := by
 by_cases h0 : wrongR op u v wt V E = 0
 ·have eV : nxV op u v lab wt V E = refV op u lab wt V := if_pos h0
  have eE : nxE op u v lab wt V E = refE op u v lab wt E := if_pos h0
  rw [eV,eE]
  rcases (wrongR_0_iff h0).1 with rfl | rfl | rfl | rfl | rfl | rfl | rfl | rfl
  ·refine (do_0 A B V E cV cE u v lab wt w hV hE hl hle h0).mono fun e w' ⟨A',c',he,h1,hx⟩ => ⟨A',c',B,cE, ?_,h1,hE.ext hx,hx⟩
   rw [h0]; exact he
  ·rw [h0]; exact do_1 A B V E cV cE u v lab wt w hV hE hl hle h0
  ·refine (do_2 A B V E cV cE u v lab wt w hV hE hl hle h0).mono fun e w' ⟨B',c',he,h1,hx⟩ => ⟨A,cV,B',c', ?_,hV.ext hx,h1,hx⟩
   rw [h0]; exact he
  ·rw [h0]; exact do_3 A B V E cV cE u v lab wt w hV hE hl hle h0
  ·rw [h0]; exact do_4 A B V E cV cE u v lab wt w hV hE hl hle h0
  ·rw [h0]; exact do_5 A B V E cV cE u v lab wt w hV hE hl hle h0
  ·rw [h0]; exact do_6 A B V E cV cE u v lab wt w hV hE hl hle h0
  ·rw [h0]; exact do_7 A B V E cV cE u v lab wt w hV hE hl hle h0
 ·have eV : nxV op u v lab wt V E = V := if_neg h0
  have eE : nxE op u v lab wt V E = E := if_neg h0
  rw [eV,eE]
  exact (do_err A B V E cV cE op u v lab wt _ w h0 fun W hW => rwrong_any A B V E cV cE op u v lab wt W (hV.ext hW) (hE.ext hW) hl hle).mono fun e w' ⟨he,hx⟩ => ⟨A,cV,B,cE,he,hV.ext hx,hE.ext hx,hx⟩
theorem apply_any (g bv be : Nat) (V : List (Int × Thing)) (E : List ((Int × Int) × Thing)) (op u v lab wt : Int) (w : World) (hg : IsG w g bv be V E) (hu : i64ok u) (hv : i64ok v) :
  Calls Tryz.prog 14 #[.pointer (some ⟨g,0,none⟩), .agg #[.int .i64 op, .int .i64 u, .int .i64 v, .int .u8 lab, .int .i64 wt]] w fun e w' => e = .returned (.int .i64 (wrongR op u v wt V E)) ∧ IsG w' g bv be (nxV op u v lab wt V E) (nxE op u v lab wt V E) ∧ Keep [bv,be] w w' := by
 obtain ⟨V',E',h1,hV,hE,hi⟩ := hg
 have he := err_eq op u v wt hV hE hi
 by_cases h0 : wrongR op u v wt V E = 0
 ·obtain ⟨p1,p2⟩ := step_perm (lab := lab) hV hE hi h0
  refine (apply_yes g bv be V' E' op u v lab wt w h1 hu hv (he.trans h0)).mono fun e w' ⟨hr,hG,hk⟩ => ⟨by rw [h0]; exact hr,⟨_,_,hG, ?_, ?_,hi.next op u v lab wt⟩,hk⟩
  ·unfold nxV; rw [if_pos h0]; exact p1
  ·unfold nxE; rw [if_pos h0]; exact p2
 ·refine (apply_no g bv be V' E' op u v lab wt w h1 hu hv (by rw [he]; exact h0)).mono fun e w' ⟨hr,hx⟩ => ⟨by rw [← he]; exact hr,⟨V',E',h1.ext hx, ?_, ?_,hi.next op u v lab wt⟩,hx.keep _⟩
  ·unfold nxV; rw [if_neg h0]; exact hV
  ·unfold nxE; rw [if_neg h0]; exact hE
theorem IsG.nV {w : World} {g bv be : Nat} {V : List (Int × Thing)} {E : List ((Int × Int) × Thing)} (h : IsG w g bv be V E) : V.length ≤ 4096 := Nat.le_trans h.inv.nv (by omega)
theorem IsG.nE {w : World} {g bv be : Nat} {V : List (Int × Thing)} {E : List ((Int × Int) × Thing)} (h : IsG w g bv be V E) : E.length ≤ 4096 := Nat.le_trans h.inv.ne (by omega)
theorem new_rel (w : World) : Calls Tryz.prog 13 #[] w fun e w' => ∃ g bv be,e = .returned (.pointer (some ⟨g,0,none⟩)) ∧ IsG w' g bv be [] [] ∧ Ext w w' ∧ w.heap.size ≤ g ∧ w.heap.size ≤ bv ∧ w.heap.size ≤ be :=
 (new_any w).mono fun _ _ ⟨g,bv,be,he,hG,h⟩ => ⟨g,bv,be,he,⟨[],[],hG,List.Perm.refl _,List.Perm.refl _,GInv.nil⟩,h⟩
end Go.Proofs.YtoacpebmhbkmbaaGreatDoor
namespace Go.Proofs.YtoacpebmhbkmbaaGreatDoor
open Go Go.RowKit Go.ChangeShapes Go.WideShapes Go.Deep
section
variable {H : Type} {enc : TypeId × Value → H} {P : Program} {w : World} {base : Nat} {spare : Nat → Bool} {held : Bool}
theorem open_slice_fields {t e : TypeId} {fs : Array Field} {fuel : Nat} {cs : List Value} {x : DataW H × List MemPlace} (ht : P.underlying t = some (.slice e)) (he : P.underlying e = some (.struct fs))
  (hone : oneCellFields P fs = true) (hC : P.cellsOf e = fs.size) (h : DataW.trod enc P w base spare held fuel t cs = some x) :
  cs = [.slice none 0 0] ∨
  ∃ (a : Addr) (len cap n : Nat),cs = [.slice (some a) len cap] ∧ len ≤ cap ∧ cap ≤ maxLen ∧
   ∀ i,i < len → ∀ (j : Nat) (f : Field),fs[j]? = some f → ∃ (v : Value) (y : DataW H × List MemPlace),w.cell? (a.add (i * fs.size + j)) = some v ∧ DataW.trod enc P w base spare held n f.type [v] = some y := by
 rcases open_slice ht h with h0 | ⟨a,len,cap,m,n,D,Pl,hcs,hb,hl,hm,hmm,hx,hi⟩
 ·exact .inl h0.1
 ·cases n with
  | zero =>
   refine .inr ⟨a,len,cap,0,hcs,hl,hm,fun i hil => ?_⟩
   have hle : len ≤ m := by rw [hmm]; split <;> omega
   obtain ⟨cs',hc,ht'⟩ := hi i (by omega)
   cases ht'
  | succ n =>
   refine .inr ⟨a,len,cap,n,hcs,hl,hm,fun i hil j f hj => ?_⟩
   have hle : len ≤ m := by rw [hmm]; split <;> omega
   obtain ⟨cs',hc,ht'⟩ := hi i (by omega)
   rw [hC] at hc
   obtain ⟨ys,n',hn',hy,hlen,hyl,hf⟩ := DataW.trod_struct he ht'
   obtain rfl : n' = n := by omega
   obtain ⟨_,hcl,hat⟩ := World.cells?_some hc
   obtain ⟨ho,hk⟩ := hone_of hone j f hj
   have hjl : j < fs.size := (Array.getElem?_eq_some_iff.1 hj).1
   have hcell := hat j hjl
   have hv : cs'[j]? = some (cs'[j]'(by omega)) := List.getElem?_eq_getElem (by omega)
   have h1 := hf j f hj
   rw [ho,hk] at h1
   have hone' : (cs'.drop j).take 1 = [cs'[j]'(by omega)] := by
    rw [List.drop_eq_getElem_cons (by omega)]
    rfl
   rw [hone'] at h1
   have hys : ys[j]? = some (ys[j]'(by omega)) := List.getElem?_eq_getElem (by omega)
   refine ⟨_,_, ?_,h1.trans hys⟩
   rw [← Go.Deep.add_add,hcell,hv]
end
theorem slAt_of {α : Type} [Inhabited α] {enc : α → List Value} {k : Nat} {w : World} {a : Addr} {len : Nat} {p : α → Prop} (h0 : ∀ x, ∃ u : Value,(enc x)[0]? = some u)
  (h : ∀ i,i < len → ∃ x : α,(∀ j u,(enc x)[j]? = some u → w.cell? (a.add (i * k + j)) = some u) ∧ p x) : ∃ L : List α,L.length = len ∧ SlAt enc k w (some a) L ∧ ∀ x ∈ L,p x := by
 obtain ⟨f,hf⟩ := choose_lt h
 refine ⟨(List.range len).map f,by simp,fun hne => ?_,fun x hx => ?_⟩
 ·have hpos : 0 < len := by
   rcases Nat.eq_zero_or_pos len with h | h
   ·subst h; simp at hne
   ·exact h
  obtain ⟨u,hu⟩ := h0 (f 0)
  have hc := (hf 0 hpos).1 0 u hu
  obtain ⟨b,off,spot⟩ := a
  have hspot : spot = none := by simpa [Addr.add] using World.cell?_spot hc
  subst hspot
  have hlt := World.block_lt_of_cell? w _ hc
  refine ⟨b,off,rfl,by simpa [Addr.add] using hlt,fun i x hx j u hu => ?_⟩
  rw [List.getElem?_map] at hx
  obtain ⟨i',hi',rfl⟩ := Option.map_eq_some_iff.1 hx
  obtain ⟨hil,rfl⟩ := List.getElem?_eq_some_iff.1 hi'
  simp only [List.getElem_range] at hu
  have := (hf i (by simpa using hil)).1 j u hu
  unfold Addr.add at this
  split at this
  ·rename_i hz
   rw [show off + i * k + j = off by omega]
   exact this
  ·rw [show off + i * k + j = off + (i * k + j) by omega]
   exact this
 ·obtain ⟨i,hi,rfl⟩ := List.mem_map.1 hx
  exact (hf i (List.mem_range.1 hi)).2
abbrev Ed := Int × Int × Int × Int × Int
def encD (d : Ed) : List Value := [.int .i64 d.1, .int .i64 d.2.1, .int .i64 d.2.2.1, .int .u8 d.2.2.2.1, .int .i64 d.2.2.2.2]
def okD (d : Ed) : Prop := i64ok d.1 ∧ i64ok d.2.1 ∧ i64ok d.2.2.1 ∧ i64ok d.2.2.2.2
def okV (d : Int × Thing) : Prop := i64ok d.1 ∧ i64ok d.2.2
def okEd (d : (Int × Int) × Thing) : Prop := i64ok d.1.1 ∧ i64ok d.1.2 ∧ i64ok d.2.2
theorem i64_of_wf {n : Int} (h : (Lit.int .i64 n).wf = true) : i64ok n := by
 have := Go.bounds_i64 h
 unfold i64ok
 omega
section
variable {H : Type} {enc : TypeId × Value → H} {w : World} {base : Nat} {spare : Nat → Bool} {held : Bool} {fuel : Nat} {x : DataW H × List MemPlace} {a : Option Addr} {len cap : Nat}
theorem open_edits (h : DataW.trod enc Tryz.prog w base spare held fuel 37 [.slice a len cap] = some x) : ∃ L : List Ed,L.length = len ∧ SlAt encD 5 w a L ∧ (∀ d ∈ L,okD d) ∧ len ≤ 9223372036854775807 ∧ len ≤ cap := by
 rcases open_slice_fields Tryz.underlying37 Tryz.underlying29 (by kernel_rfl) (by kernel_rfl) h with h0 | ⟨a',len',cap',n,hcs,hl,hm,hf⟩
 ·simp at h0
  obtain ⟨rfl,rfl,rfl⟩ := h0
  exact ⟨[],rfl,SlAt.nil,by simp,by omega,by omega⟩
 ·simp at hcs
  obtain ⟨rfl,rfl,rfl⟩ := hcs
  obtain ⟨L,h1,h2,h3⟩ := slAt_of (α := Ed) (enc := encD) (k := 5) (w := w) (a := a') (len := len) (p := okD) (fun x => ⟨_,rfl⟩) (fun i hi => by
   obtain ⟨v0,y0,c0,r0⟩ := hf i hi 0 _ rfl
   obtain ⟨v1,y1,c1,r1⟩ := hf i hi 1 _ rfl
   obtain ⟨v2,y2,c2,r2⟩ := hf i hi 2 _ rfl
   obtain ⟨v3,y3,c3,r3⟩ := hf i hi 3 _ rfl
   obtain ⟨v4,y4,c4,r4⟩ := hf i hi 4 _ rfl
   obtain ⟨n0,e0,_,w0⟩ := DataW.trod_int Tryz.underlying3 r0
   obtain ⟨n1,e1,_,w1⟩ := DataW.trod_int Tryz.underlying3 r1
   obtain ⟨n2,e2,_,w2⟩ := DataW.trod_int Tryz.underlying3 r2
   obtain ⟨n3,e3,_,w3⟩ := DataW.trod_int Tryz.underlying5 r3
   obtain ⟨n4,e4,_,w4⟩ := DataW.trod_int Tryz.underlying3 r4
   simp at e0 e1 e2 e3 e4
   subst e0 e1 e2 e3 e4
   refine ⟨(n0,n1,n2,n3,n4),fun j u hu => ?_,i64_of_wf w0,i64_of_wf w1,i64_of_wf w2,i64_of_wf w4⟩
   match j,hu with
   | 0,hu => simp [encD] at hu; subst hu; exact c0
   | 1,hu => simp [encD] at hu; subst hu; exact c1
   | 2,hu => simp [encD] at hu; subst hu; exact c2
   | 3,hu => simp [encD] at hu; subst hu; exact c3
   | 4,hu => simp [encD] at hu; subst hu; exact c4)
  exact ⟨L,h1,h2,h3,by unfold maxLen at hm; omega,hl⟩
end
end Go.Proofs.YtoacpebmhbkmbaaGreatDoor
namespace Go.Proofs.YtoacpebmhbkmbaaGreatDoor
open Go Go.RowKit
theorem atD {w : World} {A : Option Addr} {L : List Ed} (h : SlAt encD 5 w A L) {i : Nat} (hi : i < L.length) :
  ∃ b off,A = some ⟨b,off,none⟩ ∧ (∀ W,Ext w W → W.cell? ⟨b,off + i * 5,none⟩ = some (.int .i64 L[i].1)) ∧ (∀ W,Ext w W → W.cell? ⟨b,off + i * 5 + 1,none⟩ = some (.int .i64 L[i].2.1)) ∧
   (∀ W,Ext w W → W.cell? ⟨b,off + i * 5 + 2,none⟩ = some (.int .i64 L[i].2.2.1)) ∧ (∀ W,Ext w W → W.cell? ⟨b,off + i * 5 + 3,none⟩ = some (.int .u8 L[i].2.2.2.1)) ∧ (∀ W,Ext w W → W.cell? ⟨b,off + i * 5 + 4,none⟩ = some (.int .i64 L[i].2.2.2.2)) := by
 obtain ⟨b,off,hA,hc⟩ := h.at_ hi
 exact ⟨b,off,hA,hc 0 _ rfl,hc 1 _ rfl,hc 2 _ rfl,hc 3 _ rfl,hc 4 _ rfl⟩
theorem blkG_off (p q : Value) (hp : ∃ A n c,p = .slice A n c) (hq : ∃ A n c,q = .slice A n c) : ∀ (i : Nat) (u : Value),(#[p,q] : Array Value)[i]? = some u → ∃ A n c,u = .slice A n c := by
 intro i u h
 match i,h with
 | 0,h => simp at h; subst h; exact hp
 | 1,h => simp at h; subst h; exact hq
theorem encV_ns (x : Int × Thing) (A : Option Addr) (n c : Nat) : (encV x)[0]? ≠ some (.slice A n c) := by simp [encV]
theorem encE_ns (x : (Int × Int) × Thing) (A : Option Addr) (n c : Nat) : (encE x)[0]? ≠ some (.slice A n c) := by simp [encE]
theorem Blk.set2 {w : World} {b : Nat} {T : TypeId} {p q p' q' : Value} (h : Blk w b T #[p,q]) : Blk ((w.setCell ⟨b,0,none⟩ p').setCell ⟨b,1,none⟩ q') b T #[p',q'] := by
 have := (h.set 0 p').set 1 q'
 simpa using this
theorem Keep.set2 (w : World) (b : Nat) (p q : Value) : Keep [b] w ((w.setCell ⟨b,0,none⟩ p).setCell ⟨b,1,none⟩ q) := (Keep.setCell w b 0 p).trans (Keep.setCell _ b 1 q)
theorem SlAt.keep_G {α : Type} {enc : α → List Value} {k : Nat} {w w' : World} {A : Option Addr} {xs : List α} {b : Nat} {T : TypeId} {p q : Value} (h : SlAt enc k w A xs) (hb : Blk w b T #[p,q]) (hp : ∃ A n c,p = .slice A n c) (hq : ∃ A n c,q = .slice A n c)
  (hns : ∀ (x : α) A n c,(enc x)[0]? ≠ some (.slice A n c)) (hen : ∀ x : α, ∃ u : Value,(enc x)[0]? = some u) (hk : Keep [b] w w') : SlAt enc k w' A xs :=
 h.off hb (fun i u hu x => by obtain ⟨A',n',c',rfl⟩ := blkG_off p q hp hq i u hu; exact hns x _ _ _) hen hk.size (fun j hj hlt => hk.block j hlt (by simpa using hj))
def GCls (b : Nat) (w W : World) : Prop := Keep [b] w W ∧ ∃ A n c B m d,Blk W b 41 #[.slice A n c, .slice B m d]
theorem GCls.refl {b : Nat} {w : World} {A B : Option Addr} {n c m d : Nat} (h : Blk w b 41 #[.slice A n c, .slice B m d]) : GCls b w w := ⟨Keep.refl _ _,_,_,_,_,_,_,h⟩
theorem GCls.ext {b : Nat} {w W W' : World} (h : GCls b w W) (k : Ext W W') : GCls b w W' := ⟨h.1.trans (k.keep _),by
 obtain ⟨A,n,c,B,m,d,h⟩ := h.2
 exact ⟨A,n,c,B,m,d,h.ext k⟩⟩
theorem GCls.set {b : Nat} {w W : World} (h : GCls b w W) (A B : Option Addr) (n c m d : Nat) : GCls b w ((W.setCell ⟨b,0,none⟩ (.slice A n c)).setCell ⟨b,1,none⟩ (.slice B m d)) := ⟨h.1.trans (Keep.set2 _ _ _ _),by
 obtain ⟨_,_,_,_,_,_,h⟩ := h.2
 exact ⟨_,_,_,_,_,_,h.set2⟩⟩
theorem SlAt.cls {α : Type} {enc : α → List Value} {k : Nat} {w W : World} {A : Option Addr} {xs : List α} {b : Nat} (h : SlAt enc k w A xs) (hc : GCls b w W) (hb : ∃ A n c B m d,Blk w b 41 #[.slice A n c, .slice B m d])
  (hns : ∀ (x : α) A n c,(enc x)[0]? ≠ some (.slice A n c)) (hen : ∀ x : α, ∃ u : Value,(enc x)[0]? = some u) : SlAt enc k W A xs := by
 obtain ⟨A',n,c,B,m,d,hb⟩ := hb
 exact h.keep_G hb ⟨_,_,_,rfl⟩ ⟨_,_,_,rfl⟩ hns hen hc.1
end Go.Proofs.YtoacpebmhbkmbaaGreatDoor
