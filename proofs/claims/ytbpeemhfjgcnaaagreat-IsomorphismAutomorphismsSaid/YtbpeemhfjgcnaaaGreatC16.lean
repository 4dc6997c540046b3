/- Parts of a proof, laid together. Each part says its own conditions. -/
import Derived.Test.YtbpeemhfjgcnaaaGreatC11
import Derived.Test.YtbpeemhfjgcnaaaGreatC12
import Derived.Test.YtbpeemhfjgcnaaaGreatC13
import Derived.Test.YtbpeemhfjgcnaaaGreatC14
import Derived.Test.YtbpeemhfjgcnaaaGreatC15
import Derived.Test.YtbpeemhfjgcnaaaGreatC1
import Derived.Test.YtbpeemhfjgcnaaaGreatC6
import Derived.Test.YtbpeemhfjgcnaaaGreatRows
import Derived.Deep.Slices
import Derived.Deep.Fields
import Derived.ChangeSame
import Derived.OpenShut
namespace Go.Proofs.YtbpeemhfjgcnaaaGreat
open Go Go.RowKit
def IsG (w : World) (g bv be : Nat) (V : List (Int × Thing)) (E : List ((Int × Int) × Thing)) : Prop := ∃ V' E',GraphAt w g bv be V' E' ∧ V.Perm V' ∧ E.Perm E' ∧ GInv V E
theorem IsG.ext {w w' : World} {g bv be : Nat} {V : List (Int × Thing)} {E : List ((Int × Int) × Thing)} (h : IsG w g bv be V E) (k : Ext w w') : IsG w' g bv be V E := by
 obtain ⟨V',E',h1,h2⟩ := h
 exact ⟨V',E',h1.ext k,h2⟩
theorem IsG.inv {w : World} {g bv be : Nat} {V : List (Int × Thing)} {E : List ((Int × Int) × Thing)} (h : IsG w g bv be V E) : GInv V E := by
 obtain ⟨V',E',_,_,_,h⟩ := h
 exact h
theorem IsG.lt {w : World} {g bv be : Nat} {V : List (Int × Thing)} {E : List ((Int × Int) × Thing)} (h : IsG w g bv be V E) : g < w.heap.size ∧ bv < w.heap.size ∧ be < w.heap.size := by
 obtain ⟨V',E',h,_⟩ := h
 exact ⟨h.blk.lt,h.vs.lt,h.es.lt⟩
theorem IsG.keep {S : List Nat} {w w' : World} {g bv be : Nat} {V : List (Int × Thing)} {E : List ((Int × Int) × Thing)} (h : IsG w g bv be V E) (k : Keep S w w') (hg : g ∉ S) (hv : bv ∉ S) (he : be ∉ S) : IsG w' g bv be V E := by
 obtain ⟨V',E',h1,h2⟩ := h
 exact ⟨V',E',⟨h1.blk.keep k hg,h1.vs.keep k hv,h1.es.keep k he,h1.ne⟩,h2⟩
theorem encV0 (x : Int × Thing) : ∃ u : Value,(encV x)[0]? = some u := ⟨_,rfl⟩
theorem encE0 (x : (Int × Int) × Thing) : ∃ u : Value,(encE x)[0]? = some u := ⟨_,rfl⟩
theorem rwrong_any (A B : Option Addr) (V : List (Int × Thing)) (E : List ((Int × Int) × Thing)) (cV cE : Nat) (op u v lab wt : Int) (w : World) (hV : SlAt encV 3 w A V) (hE : SlAt encE 4 w B E) (hl : V.length ≤ 4096) (hle : E.length ≤ 4096) :
  Calls Tryz.prog 57 #[.agg #[.slice A V.length cV, .slice B E.length cE], .agg #[.int .i64 op, .int .i64 u, .int .i64 v, .int .u8 lab, .int .i64 wt]] w fun e w' => e = .returned (.int .i64 (wrongR op u v wt V E)) ∧ Ext w w' := by
 cases h1 : w1B op with
 | true => exact wrongR_bad A B V E cV cE op u v lab wt w h1
 | false =>
  rcases op_cases h1 with rfl | rfl | rfl | rfl | rfl | rfl | rfl | rfl
  ·exact wrongR_0 A B V E cV cE u v lab wt w hV hE hl
  ·exact wrongR_1 A B V E cV cE u v lab wt w hV hE hl
  ·exact wrongR_2 A B V E cV cE u v lab wt w hV hE hl hle
  ·exact wrongR_3 A B V E cV cE u v lab wt w hV hE hl hle
  ·exact wrongR_4 A B V E cV cE u v lab wt w hV hE hl
  ·exact wrongR_5 A B V E cV cE u v lab wt w hV hE hl
  ·exact wrongR_6 A B V E cV cE u v lab wt w hV hE hl hle
  ·exact wrongR_7 A B V E cV cE u v lab wt w hV hE hl hle
theorem do_any (A B : Option Addr) (V : List (Int × Thing)) (E : List ((Int × Int) × Thing)) (cV cE : Nat) (op u v lab wt : Int) (w : World) (hV : SlAt encV 3 w A V) (hE : SlAt encE 4 w B E) (hl : V.length ≤ 4096) (hle : E.length ≤ 4096) :
  Calls Tryz.prog 25 #[.agg #[.slice A V.length cV, .slice B E.length cE], .agg #[.int .i64 op, .int .i64 u, .int .i64 v, .int .u8 lab, .int .i64 wt]] w fun e w' => ∃ A' cV' B' cE',e = .returned (.tuple #[.agg #[.slice A' (nxV op u v lab wt V E).length cV', .slice B' (nxE op u v lab wt V E).length cE'], .int .i64 (wrongR op u v wt V E)]) ∧
   SlAt encV 3 w' A' (nxV op u v lab wt V E) ∧ SlAt encE 4 w' B' (nxE op u v lab wt V E) ∧ Ext w w' := by
 by_cases h0 : wrongR op u v wt V E = 0
 ·have eV : nxV op u v lab wt V E = refV op u lab wt V := if_pos h0
  have eE : nxE op u v lab wt V E = refE op u v lab wt E := if_pos h0
  rw [eV,eE]
  rcases (wrongR_0_iff h0).1 with rfl | rfl | rfl | rfl | rfl | rfl | rfl | rfl
  ·refine (do_0 A B V E cV cE u v lab wt w hV hE hl hle h0).mono fun e w' ⟨A',c',he,h1,hx⟩ => ⟨A',c',B,cE, ?_,h1,hE.ext hx,hx⟩
   rw [h0]; exact he
  ·rw [h0]; exact do_1 A B V E cV cE u v lab wt w hV hE hl hle h0
  ·refine (do_2 A B V E cV cE u v lab wt w hV hE hl hle h0).mono fun e w' ⟨B',c',he,h1,hx⟩ => ⟨A,cV,B',c', ?_,hV.ext hx,h1,hx⟩
   rw [h0]; exact he
  ·rw [h0]; exact do_3 A B V E cV cE u v lab wt w hV hE hl hle h0
  ·rw [h0]; exact do_4 A B V E cV cE u v lab wt w hV hE hl hle h0
  ·rw [h0]; exact do_5 A B V E cV cE u v lab wt w hV hE hl hle h0
  ·rw [h0]; exact do_6 A B V E cV cE u v lab wt w hV hE hl hle h0
  ·rw [h0]; exact do_7 A B V E cV cE u v lab wt w hV hE hl hle h0
 ·have eV : nxV op u v lab wt V E = V := if_neg h0
  have eE : nxE op u v lab wt V E = E := if_neg h0
  rw [eV,eE]
  exact (do_err A B V E cV cE op u v lab wt _ w h0 fun W hW => rwrong_any A B V E cV cE op u v lab wt W (hV.ext hW) (hE.ext hW) hl hle).mono fun e w' ⟨he,hx⟩ => ⟨A,cV,B,cE,he,hV.ext hx,hE.ext hx,hx⟩
theorem apply_any (g bv be : Nat) (V : List (Int × Thing)) (E : List ((Int × Int) × Thing)) (op u v lab wt : Int) (w : World) (hg : IsG w g bv be V E) (hu : i64ok u) (hv : i64ok v) :
  Calls Tryz.prog 35 #[.pointer (some ⟨g,0,none⟩), .agg #[.int .i64 op, .int .i64 u, .int .i64 v, .int .u8 lab, .int .i64 wt]] w fun e w' => e = .returned (.int .i64 (wrongR op u v wt V E)) ∧ IsG w' g bv be (nxV op u v lab wt V E) (nxE op u v lab wt V E) ∧ Keep [bv,be] w w' := by
 obtain ⟨V',E',h1,hV,hE,hi⟩ := hg
 have he := err_eq op u v wt hV hE hi
 by_cases h0 : wrongR op u v wt V E = 0
 ·obtain ⟨p1,p2⟩ := step_perm (lab := lab) hV hE hi h0
  refine (apply_yes g bv be V' E' op u v lab wt w h1 hu hv (he.trans h0)).mono fun e w' ⟨hr,hG,hk⟩ => ⟨by rw [h0]; exact hr,⟨_,_,hG, ?_, ?_,hi.next op u v lab wt⟩,hk⟩
  ·unfold nxV; rw [if_pos h0]; exact p1
  ·unfold nxE; rw [if_pos h0]; exact p2
 ·refine (apply_no g bv be V' E' op u v lab wt w h1 hu hv (by rw [he]; exact h0)).mono fun e w' ⟨hr,hx⟩ => ⟨by rw [← he]; exact hr,⟨V',E',h1.ext hx, ?_, ?_,hi.next op u v lab wt⟩,hx.keep _⟩
  ·unfold nxV; rw [if_neg h0]; exact hV
  ·unfold nxE; rw [if_neg h0]; exact hE
theorem IsG.nV {w : World} {g bv be : Nat} {V : List (Int × Thing)} {E : List ((Int × Int) × Thing)} (h : IsG w g bv be V E) : V.length ≤ 4096 := Nat.le_trans h.inv.nv (by omega)
theorem IsG.nE {w : World} {g bv be : Nat} {V : List (Int × Thing)} {E : List ((Int × Int) × Thing)} (h : IsG w g bv be V E) : E.length ≤ 4096 := Nat.le_trans h.inv.ne (by omega)
theorem new_rel (w : World) : Calls Tryz.prog 34 #[] w fun e w' => ∃ g bv be,e = .returned (.pointer (some ⟨g,0,none⟩)) ∧ IsG w' g bv be [] [] ∧ Ext w w' ∧ w.heap.size ≤ g ∧ w.heap.size ≤ bv ∧ w.heap.size ≤ be :=
 (new_any w).mono fun _ _ ⟨g,bv,be,he,hG,h⟩ => ⟨g,bv,be,he,⟨[],[],hG,List.Perm.refl _,List.Perm.refl _,GInv.nil⟩,h⟩
theorem to_rel (g bv be : Nat) (V : List (Int × Thing)) (E : List ((Int × Int) × Thing)) (w : World) (hg : IsG w g bv be V E) :
  Calls Tryz.prog 16 #[.pointer (some ⟨g,0,none⟩)] w fun e w' => ∃ A cA B cB,e = .returned (.agg #[.slice A V.length cA, .slice B E.length cB]) ∧ SlAt encV 3 w' A V ∧ SlAt encE 4 w' B E ∧ Ext w w' := by
 have n1 := hg.nV
 have n2 := hg.nE
 obtain ⟨V',E',h1,hV,hE,hi⟩ := hg
 exact to_any g bv be V' V E' E w h1 hV hi.sv hE hi.se (by rw [← hV.length_eq]; exact n1) (by rw [← hE.length_eq]; exact n2)
end Go.Proofs.YtbpeemhfjgcnaaaGreat
namespace Go.Proofs.YtbpeemhfjgcnaaaGreat
open Go Go.RowKit
section
variable {P : Program} {ops : Array Oper} {R : World → World → Prop} {C C2 : World → Prop} {safe : Nat → Bool} {Q : Act → World → Prop}
theorem wpX_sub (h : ∀ w,C2 w → C w) : ∀ (n : Nat) (listed : Array Bool) (a : Act) (w : World),wpX P ops R C2 safe Q n listed a w → wpX P ops R C safe Q n listed a w
 | 0,_,_,_,h0 => h0
 | n + 1,_,_,_,h0 => ⟨h0.1,fun i hi => xStep_mono (fun a' _ hk => ⟨fun hs => h _ (hk.1 hs),fun w'' hr => wpX_sub h n _ a' w'' (hk.2 w'' hr)⟩) (h0.2 i hi)⟩
def closedB (ops : Array Oper) (listed : Array Bool) : Bool :=
 (List.range ops.size).all fun j => match ops[j]? with
  | some oj => !listed.getD j false || oj.after.all fun e => !Region.binds .any e || listed.getD e.on false
  | none => true
theorem closed_of {listed : Array Bool} (h : closedB ops listed = true) : Closed ops listed := by
 intro j oj hj hl e he hb
 have h1 := List.all_eq_true.1 h j (List.mem_range.2 (Array.getElem?_eq_some_iff.1 hj).1)
 simp only [hj,hl,Bool.not_true,Bool.false_or] at h1
 have h2 := Array.all_eq_true'.1 h1 e he
 simpa [hb] using h2
def mqB (ops : Array Oper) (qs ts : List Nat) (anc : Nat → List Nat) (listed : Array Bool) : Bool :=
 ancB ops anc && Region.noSelect ops && ts.all (fun t => decide (t < ops.size)) && closedB ops listed && qlLook ops (fun j => !ts.contains j) anc qs listed
theorem lx_ql {l : List Oper} {a : Act} {w : World} (C2 : World → Prop) (qs ts : List Nat) (n m : Nat) (listed listed2 : Array Bool)
  (hB : mqB l.toArray qs ts (ancTab l.toArray) listed = true) (hn : n + qs.length = m) (hlst : qlListed l.toArray qs listed = listed2) (hsub : ∀ w,C2 w → C w)
  (hR : ∀ w,R w w) (hRt : ∀ a b c,R a b → R b c → R a c) (hCR : ∀ w w',C2 w → R w w' → C2 w') (hC : C2 w)
  (h : wpQL P l.toArray R C2 (fun a' => ∀ w',C2 w' → wpX P l.toArray R C2 (fun j => !ts.contains j) Q n listed2 a' w') qs a) : wpX P l.toArray R C (fun j => !ts.contains j) Q m listed a w := by
 subst hlst hn
 simp only [mqB,Bool.and_eq_true] at hB
 obtain ⟨⟨⟨⟨h1,h2⟩,h3⟩,h5⟩,h4⟩ := hB
 refine wpX_sub hsub _ _ _ _ (wpX_ql (ancOk_of h1) (fun j hj => ?_) h2 hR hRt hCR n qs listed a w (closed_of h5) h4 hC h)
 simp only [Bool.not_eq_true',List.contains_eq_mem,decide_eq_false_iff_not]
 intro hin
 have := List.all_eq_true.1 h3 j hin
 simp at this
 simp at hj
 omega
theorem wpX_re {safe2 : Nat → Bool} : ∀ (n : Nat) (listed : Array Bool) (a : Act) (w : World),(∀ i,safe i = true → listed.getD i true = true) → wpX P ops R C2 safe2 Q n listed a w → wpX P ops R C safe Q n listed a w
 | 0,_,_,_,_,h0 => h0
 | n + 1,listed,_,_,hs,h0 => ⟨h0.1,fun i hi => xStep_mono (fun a' _ hk => ⟨fun hsi => absurd ((hs i hsi).symm.trans (mem_ready.1 hi).1) (by simp),fun w'' hr => wpX_re n _ a' w'' (fun j hj => by
    by_cases hij : i = j
    ·subst hij
     rcases Nat.lt_or_ge i listed.size with h | h
     ·simp [h]
     ·simp [h]
    ·rw [getD_set_ne true hij]; exact hs j hj) (hk.2 w'' hr)⟩) (h0.2 i hi)⟩
theorem lx_re {l : List Oper} {a : Act} {w : World} (C2 : World → Prop) (qs : List Nat) (n m : Nat) (listed listed2 : Array Bool) (hre : (listed.size == l.length && (List.range l.length).all fun i => !safe i || listed.getD i true) = true)
  (hB : mqB l.toArray qs [] (ancTab l.toArray) listed = true) (hn : n + qs.length = m) (hlst : qlListed l.toArray qs listed = listed2)
  (hR : ∀ w,R w w) (hRt : ∀ a b c,R a b → R b c → R a c) (hCR : ∀ w w',C2 w → R w w' → C2 w') (hC : C2 w)
  (h : wpQL P l.toArray R C2 (fun a' => ∀ w',C2 w' → wpX P l.toArray R C2 (fun j => !([] : List Nat).contains j) Q n listed2 a' w') qs a) : wpX P l.toArray R C safe Q m listed a w := by
 refine wpX_re (C2 := C2) (safe2 := fun j => !([] : List Nat).contains j) _ _ _ _ (fun i hi => ?_) (lx_ql C2 qs [] n m listed listed2 hB hn hlst (fun _ h => h) hR hRt hCR hC h)
 simp only [Bool.and_eq_true,beq_iff_eq] at hre
 rcases Nat.lt_or_ge i l.length with hlt | hge
 ·have := List.all_eq_true.1 hre.2 i (List.mem_range.2 hlt)
  simpa [hi] using this
 ·have : listed.size ≤ i := by omega
  simp [this]
end
end Go.Proofs.YtbpeemhfjgcnaaaGreat
namespace Go.Proofs.YtbpeemhfjgcnaaaGreat
open Go Go.RowKit Go.ChangeShapes Go.WideShapes Go.Deep
section
variable {H : Type} {enc : TypeId × Value → H} {P : Program} {w : World} {base : Nat} {spare : Nat → Bool} {held : Bool}
theorem open_slice_fields {t e : TypeId} {fs : Array Field} {fuel : Nat} {cs : List Value} {x : DataW H × List MemPlace} (ht : P.underlying t = some (.slice e)) (he : P.underlying e = some (.struct fs))
  (hone : oneCellFields P fs = true) (hC : P.cellsOf e = fs.size) (h : DataW.trod enc P w base spare held fuel t cs = some x) :
  cs = [.slice none 0 0] ∨
  ∃ (a : Addr) (len cap n : Nat),cs = [.slice (some a) len cap] ∧ len ≤ cap ∧ cap ≤ maxLen ∧
   ∀ i,i < len → ∀ (j : Nat) (f : Field),fs[j]? = some f → ∃ (v : Value) (y : DataW H × List MemPlace),w.cell? (a.add (i * fs.size + j)) = some v ∧ DataW.trod enc P w base spare held n f.type [v] = some y := by
 rcases open_slice ht h with h0 | ⟨a,len,cap,m,n,D,Pl,hcs,hb,hl,hm,hmm,hx,hi⟩
 ·exact .inl h0.1
 ·cases n with
  | zero =>
   refine .inr ⟨a,len,cap,0,hcs,hl,hm,fun i hil => ?_⟩
   have hle : len ≤ m := by rw [hmm]; split <;> omega
   obtain ⟨cs',hc,ht'⟩ := hi i (by omega)
   cases ht'
  | succ n =>
   refine .inr ⟨a,len,cap,n,hcs,hl,hm,fun i hil j f hj => ?_⟩
   have hle : len ≤ m := by rw [hmm]; split <;> omega
   obtain ⟨cs',hc,ht'⟩ := hi i (by omega)
   rw [hC] at hc
   obtain ⟨ys,n',hn',hy,hlen,hyl,hf⟩ := DataW.trod_struct he ht'
   obtain rfl : n' = n := by omega
   obtain ⟨_,hcl,hat⟩ := World.cells?_some hc
   obtain ⟨ho,hk⟩ := hone_of hone j f hj
   have hjl : j < fs.size := (Array.getElem?_eq_some_iff.1 hj).1
   have hcell := hat j hjl
   have hv : cs'[j]? = some (cs'[j]'(by omega)) := List.getElem?_eq_getElem (by omega)
   have h1 := hf j f hj
   rw [ho,hk] at h1
   have hone' : (cs'.drop j).take 1 = [cs'[j]'(by omega)] := by
    rw [List.drop_eq_getElem_cons (by omega)]
    rfl
   rw [hone'] at h1
   have hys : ys[j]? = some (ys[j]'(by omega)) := List.getElem?_eq_getElem (by omega)
   refine ⟨_,_, ?_,h1.trans hys⟩
   rw [← Go.Deep.add_add,hcell,hv]
end
theorem slAt_of {α : Type} [Inhabited α] {enc : α → List Value} {k : Nat} {w : World} {a : Addr} {len : Nat} {p : α → Prop} (h0 : ∀ x, ∃ u : Value,(enc x)[0]? = some u)
  (h : ∀ i,i < len → ∃ x : α,(∀ j u,(enc x)[j]? = some u → w.cell? (a.add (i * k + j)) = some u) ∧ p x) : ∃ L : List α,L.length = len ∧ SlAt enc k w (some a) L ∧ ∀ x ∈ L,p x := by
 obtain ⟨f,hf⟩ := choose_lt h
 refine ⟨(List.range len).map f,by simp,fun hne => ?_,fun x hx => ?_⟩
 ·have hpos : 0 < len := by
   rcases Nat.eq_zero_or_pos len with h | h
   ·subst h; simp at hne
   ·exact h
  obtain ⟨u,hu⟩ := h0 (f 0)
  have hc := (hf 0 hpos).1 0 u hu
  obtain ⟨b,off,spot⟩ := a
  have hspot : spot = none := by simpa [Addr.add] using World.cell?_spot hc
  subst hspot
  have hlt := World.block_lt_of_cell? w _ hc
  refine ⟨b,off,rfl,by simpa [Addr.add] using hlt,fun i x hx j u hu => ?_⟩
  rw [List.getElem?_map] at hx
  obtain ⟨i',hi',rfl⟩ := Option.map_eq_some_iff.1 hx
  obtain ⟨hil,rfl⟩ := List.getElem?_eq_some_iff.1 hi'
  simp only [List.getElem_range] at hu
  have := (hf i (by simpa using hil)).1 j u hu
  unfold Addr.add at this
  split at this
  ·rename_i hz
   rw [show off + i * k + j = off by omega]
   exact this
  ·rw [show off + i * k + j = off + (i * k + j) by omega]
   exact this
 ·obtain ⟨i,hi,rfl⟩ := List.mem_map.1 hx
  exact (hf i (List.mem_range.1 hi)).2
abbrev Ed := Int × Int × Int × Int × Int
def encD (d : Ed) : List Value := [.int .i64 d.1, .int .i64 d.2.1, .int .i64 d.2.2.1, .int .u8 d.2.2.2.1, .int .i64 d.2.2.2.2]
def okD (d : Ed) : Prop := i64ok d.1 ∧ i64ok d.2.1 ∧ i64ok d.2.2.1 ∧ i64ok d.2.2.2.2
def okV (d : Int × Thing) : Prop := i64ok d.1 ∧ i64ok d.2.2
def okEd (d : (Int × Int) × Thing) : Prop := i64ok d.1.1 ∧ i64ok d.1.2 ∧ i64ok d.2.2
theorem i64_of_wf {n : Int} (h : (Lit.int .i64 n).wf = true) : i64ok n := by
 have := Go.bounds_i64 h
 unfold i64ok
 omega
section
variable {H : Type} {enc : TypeId × Value → H} {w : World} {base : Nat} {spare : Nat → Bool} {held : Bool} {fuel : Nat} {x : DataW H × List MemPlace} {a : Option Addr} {len cap : Nat}
end
end Go.Proofs.YtbpeemhfjgcnaaaGreat
namespace Go.Proofs.YtbpeemhfjgcnaaaGreat
open Go Go.RowKit
theorem atD {w : World} {A : Option Addr} {L : List Ed} (h : SlAt encD 5 w A L) {i : Nat} (hi : i < L.length) :
  ∃ b off,A = some ⟨b,off,none⟩ ∧ (∀ W,Ext w W → W.cell? ⟨b,off + i * 5,none⟩ = some (.int .i64 L[i].1)) ∧ (∀ W,Ext w W → W.cell? ⟨b,off + i * 5 + 1,none⟩ = some (.int .i64 L[i].2.1)) ∧
   (∀ W,Ext w W → W.cell? ⟨b,off + i * 5 + 2,none⟩ = some (.int .i64 L[i].2.2.1)) ∧ (∀ W,Ext w W → W.cell? ⟨b,off + i * 5 + 3,none⟩ = some (.int .u8 L[i].2.2.2.1)) ∧ (∀ W,Ext w W → W.cell? ⟨b,off + i * 5 + 4,none⟩ = some (.int .i64 L[i].2.2.2.2)) := by
 obtain ⟨b,off,hA,hc⟩ := h.at_ hi
 exact ⟨b,off,hA,hc 0 _ rfl,hc 1 _ rfl,hc 2 _ rfl,hc 3 _ rfl,hc 4 _ rfl⟩
theorem blkG_off (p q : Value) (hp : ∃ A n c,p = .slice A n c) (hq : ∃ A n c,q = .slice A n c) : ∀ (i : Nat) (u : Value),(#[p,q] : Array Value)[i]? = some u → ∃ A n c,u = .slice A n c := by
 intro i u h
 match i,h with
 | 0,h => simp at h; subst h; exact hp
 | 1,h => simp at h; subst h; exact hq
theorem encV_ns (x : Int × Thing) (A : Option Addr) (n c : Nat) : (encV x)[0]? ≠ some (.slice A n c) := by simp [encV]
theorem encE_ns (x : (Int × Int) × Thing) (A : Option Addr) (n c : Nat) : (encE x)[0]? ≠ some (.slice A n c) := by simp [encE]
theorem Blk.set2 {w : World} {b : Nat} {T : TypeId} {p q p' q' : Value} (h : Blk w b T #[p,q]) : Blk ((w.setCell ⟨b,0,none⟩ p').setCell ⟨b,1,none⟩ q') b T #[p',q'] := by
 have := (h.set 0 p').set 1 q'
 simpa using this
theorem Keep.set2 (w : World) (b : Nat) (p q : Value) : Keep [b] w ((w.setCell ⟨b,0,none⟩ p).setCell ⟨b,1,none⟩ q) := (Keep.setCell w b 0 p).trans (Keep.setCell _ b 1 q)
theorem SlAt.keep_G {α : Type} {enc : α → List Value} {k : Nat} {w w' : World} {A : Option Addr} {xs : List α} {b : Nat} {T : TypeId} {p q : Value} (h : SlAt enc k w A xs) (hb : Blk w b T #[p,q]) (hp : ∃ A n c,p = .slice A n c) (hq : ∃ A n c,q = .slice A n c)
  (hns : ∀ (x : α) A n c,(enc x)[0]? ≠ some (.slice A n c)) (hen : ∀ x : α, ∃ u : Value,(enc x)[0]? = some u) (hk : Keep [b] w w') : SlAt enc k w' A xs :=
 h.off hb (fun i u hu x => by obtain ⟨A',n',c',rfl⟩ := blkG_off p q hp hq i u hu; exact hns x _ _ _) hen hk.size (fun j hj hlt => hk.block j hlt (by simpa using hj))
def GCls (b : Nat) (w W : World) : Prop := Keep [b] w W ∧ ∃ A n c B m d,Blk W b 28 #[.slice A n c, .slice B m d]
theorem GCls.refl {b : Nat} {w : World} {A B : Option Addr} {n c m d : Nat} (h : Blk w b 28 #[.slice A n c, .slice B m d]) : GCls b w w := ⟨Keep.refl _ _,_,_,_,_,_,_,h⟩
theorem GCls.ext {b : Nat} {w W W' : World} (h : GCls b w W) (k : Ext W W') : GCls b w W' := ⟨h.1.trans (k.keep _),by
 obtain ⟨A,n,c,B,m,d,h⟩ := h.2
 exact ⟨A,n,c,B,m,d,h.ext k⟩⟩
theorem GCls.set {b : Nat} {w W : World} (h : GCls b w W) (A B : Option Addr) (n c m d : Nat) : GCls b w ((W.setCell ⟨b,0,none⟩ (.slice A n c)).setCell ⟨b,1,none⟩ (.slice B m d)) := ⟨h.1.trans (Keep.set2 _ _ _ _),by
 obtain ⟨_,_,_,_,_,_,h⟩ := h.2
 exact ⟨_,_,_,_,_,_,h.set2⟩⟩
theorem SlAt.cls {α : Type} {enc : α → List Value} {k : Nat} {w W : World} {A : Option Addr} {xs : List α} {b : Nat} (h : SlAt enc k w A xs) (hc : GCls b w W) (hb : ∃ A n c B m d,Blk w b 28 #[.slice A n c, .slice B m d])
  (hns : ∀ (x : α) A n c,(enc x)[0]? ≠ some (.slice A n c)) (hen : ∀ x : α, ∃ u : Value,(enc x)[0]? = some u) : SlAt enc k W A xs := by
 obtain ⟨A',n,c,B,m,d,hb⟩ := hb
 exact h.keep_G hb ⟨_,_,_,rfl⟩ ⟨_,_,_,rfl⟩ hns hen hc.1
end Go.Proofs.YtbpeemhfjgcnaaaGreat
namespace Go.Proofs.YtbpeemhfjgcnaaaGreat
open Go Go.RowKit
attribute [local go_sem] qUpon lUpon
abbrev GS := List (Int × Thing) × List ((Int × Int) × Thing)
section
variable {σ α : Type}
def fe (er : σ → α → Int) (st : σ → α → σ) : List α → σ → Int
 | [],_ => 0
 | x :: l,s => if er s x = 0 then fe er st l (st s x) else er s x
theorem fe_append (er : σ → α → Int) (st : σ → α → σ) : ∀ (l1 l2 : List α) (s : σ),fe er st (l1 ++ l2) s = if fe er st l1 s = 0 then fe er st l2 (l1.foldl st s) else fe er st l1 s
 | [],l2,s => by simp [fe]
 | x :: l1,l2,s => by
  simp only [List.cons_append,fe,List.foldl_cons]
  by_cases h : er s x = 0
  ·simp only [h,if_true]
   exact fe_append er st l1 l2 _
  ·simp [h]
theorem fe_step {er : σ → α → Int} {st : σ → α → σ} {l : List α} {s : σ} {k : Nat} (hk : k < l.length) (h0 : fe er st (l.take k) s = 0) (h1 : er ((l.take k).foldl st s) l[k] = 0) : fe er st (l.take (k + 1)) s = 0 := by
 rw [List.take_succ_eq_append_getElem hk,fe_append,if_pos h0]
 simp [fe,h1]
theorem fe_stop {er : σ → α → Int} {st : σ → α → σ} {l : List α} {s : σ} {k : Nat} (hk : k < l.length) (h0 : fe er st (l.take k) s = 0) (h1 : er ((l.take k).foldl st s) l[k] ≠ 0) : fe er st l s = er ((l.take k).foldl st s) l[k] := by
 conv => lhs; rw [← List.take_append_drop k l,List.drop_eq_getElem_cons hk]
 rw [fe_append,if_pos h0]
 simp [fe,h1]
theorem fold_step {st : σ → α → σ} {l : List α} {s : σ} {k : Nat} (hk : k < l.length) : (l.take (k + 1)).foldl st s = st ((l.take k).foldl st s) l[k] := by
 rw [List.take_succ_eq_append_getElem hk,List.foldl_append]; rfl
end
def erV (s : GS) (x : Int × Thing) : Int := wrongR 0 x.1 0 x.2.2 s.1 s.2
def stV (s : GS) (x : Int × Thing) : GS := (nxV 0 x.1 0 x.2.1 x.2.2 s.1 s.2,nxE 0 x.1 0 x.2.1 x.2.2 s.1 s.2)
def erE (s : GS) (x : (Int × Int) × Thing) : Int := wrongR 2 x.1.1 x.1.2 x.2.2 s.1 s.2
def stE (s : GS) (x : (Int × Int) × Thing) : GS := (nxV 2 x.1.1 x.1.2 x.2.1 x.2.2 s.1 s.2,nxE 2 x.1.1 x.1.2 x.2.1 x.2.2 s.1 s.2)
def bS1 (Vs : List (Int × Thing)) : GS := Vs.foldl stV ([],[])
def bS (Vs : List (Int × Thing)) (Es : List ((Int × Int) × Thing)) : GS := Es.foldl stE (bS1 Vs)
def bErr (Vs : List (Int × Thing)) (Es : List ((Int × Int) × Thing)) : Int := if fe erV stV Vs ([],[]) = 0 then fe erE stE Es (bS1 Vs) else fe erV stV Vs ([],[])
def BuildPost (Vs : List (Int × Thing)) (Es : List ((Int × Int) × Thing)) (w : World) (e : Ending) (w' : World) : Prop :=
 (bErr Vs Es = 0 ∧ ∃ g bv be,e = .returned (.tuple #[.pointer (some ⟨g,0,none⟩), .int .i64 0]) ∧ IsG w' g bv be (bS Vs Es).1 (bS Vs Es).2 ∧ Ext w w' ∧ w.heap.size ≤ g ∧ w.heap.size ≤ bv ∧ w.heap.size ≤ be) ∨
 (bErr Vs Es ≠ 0 ∧ e = .returned (.tuple #[.pointer none, .int .i64 (bErr Vs Es)]) ∧ Ext w w')
theorem bne0 {n : Int} (h : n ≠ 0) : (n != 0) = true := by simpa using h
set_option maxRecDepth 100000 in
set_option maxHeartbeats 4000000 in
theorem build_any (A B : Option Addr) (Vs : List (Int × Thing)) (Es : List ((Int × Int) × Thing)) (cV cE : Nat) (w : World) (hV : SlAt encV 3 w A Vs) (hE : SlAt encE 4 w B Es) (oV : ∀ d ∈ Vs,okV d) (oE : ∀ d ∈ Es,okEd d) (hl : Vs.length ≤ 9223372036854775807) (hle : Es.length ≤ 9223372036854775807) :
  Calls Tryz.prog 36 #[.slice A Vs.length cV, .slice B Es.length cE] w (BuildPost Vs Es w) := by
 have hV' := hide hV
 have hE' := hide hE
 have oV' := hide oV
 have oE' := hide oE
 clear hV hE oV oE
 go_enter Tryz.func36,Tryz.ntmps36
 go_wp2_with fail
 refine (new_rel _).mono ?_
 rintro e w1 ⟨g,bv,be,rfl,hg10,hx10,n1,n2,n3⟩
 have hg1 := hide hg10
 have hx1 := hide hx10
 have hn1 := hide (And.intro n1 (And.intro n2 n3))
 clear hg10 hx10 n1 n2 n3
 go_wp2_with fail
 go_loopw [16] (fun i wr => ∃ k : Nat,k ≤ Vs.length ∧ i = .int .i64 k ∧ fe erV stV (Vs.take k) ([],[]) = 0 ∧ IsG wr g bv be ((Vs.take k).foldl stV ([],[])).1 ((Vs.take k).foldl stV ([],[])).2 ∧ Ext w wr) (fun i _ => Vs.length - (intOf i).toNat)
 case atStart => exact ⟨0,Nat.zero_le _,rfl,rfl,unhide hg1,unhide hx1⟩
 case round =>
  obtain ⟨k,hk,rfl,hf,hg,hx⟩ := hrel
  have hf' := hide hf
  have hg' := hide hg
  have hx' := hide hx
  clear hf hg hx hg1 hx1
  by_cases hlt : k < Vs.length
  ·obtain ⟨b,off,rfl,c0,c1,c2⟩ := atV ((unhide hV').ext (unhide hx')) hlt
   have hd := unhide oV' Vs[k] (List.getElem_mem hlt)
   have hst := hide (fold_step (st := stV) (s := (([],[]) : GS)) hlt)
   have hfs := hide (fun h => fe_step (er := erV) (st := stV) (s := (([],[]) : GS)) hlt (unhide hf') h)
   have hfe := hide (fun h => fe_stop (er := erV) (st := stV) (s := (([],[]) : GS)) hlt (unhide hf') h)
   generalize hS : (Vs.take k).foldl stV ([],[]) = S at *
   clear hS
   obtain ⟨V,E⟩ := S
   generalize hy : Vs[k] = y at c0 c1 c2 hd hst hfs hfe
   obtain ⟨u,lab,wt⟩ := y
   have hok := hide hd.1
   clear hd hy
   simp only at c0 c1 c2
   by_cases h0 : wrongR 0 u 0 wt V E = 0
   ·have h0' := hide h0
    clear h0
    go_wp2_with fail
    refine (apply_any g bv be V E 0 u 0 lab wt _ ((unhide hg').ext (ext_self1 _ _)) (unhide hok) (by unfold i64ok; omega)).mono ?_
    rw [unhide h0']
    rintro e wa ⟨rfl,hga,hka⟩
    have hxa := hide (((unhide hx').trans (ext_self1 _ _)).of_new hka (by have := unhide hn1; simp; omega))
    have hga' := hide hga
    clear hga hka c0 c1 c2
    go_wp2_with fail
    go_roundw
    case rel => exact ⟨k + 1,by omega,by go_num,unhide hfs (unhide h0'),by rw [unhide hst]; exact unhide hga',unhide hxa⟩
    case measure => simp [intOf]; omega
   ·have hbe : bErr Vs Es = wrongR 0 u 0 wt V E := by
     have h1 := unhide hfe h0
     unfold bErr
     rw [h1]
     exact if_neg h0
    have hbe' := hide hbe
    have h0' := hide h0
    have hb := bne0 h0
    clear hbe h0
    generalize hno : wrongR 0 u 0 wt V E = no at hb
    have hno' := hide hno
    clear hno
    go_wp2_with fail
    refine (apply_any g bv be V E 0 u 0 lab wt _ ((unhide hg').ext (ext_self1 _ _)) (unhide hok) (by unfold i64ok; omega)).mono ?_
    rw [unhide hno']
    rintro e wa ⟨rfl,hga,hka⟩
    have hxa := hide (((unhide hx').trans (ext_self1 _ _)).of_new hka (by have := unhide hn1; simp; omega))
    clear hga hka c0 c1 c2
    go_wp2_with fail
    go_ret2
    exact .inr ⟨by rw [unhide hbe']; exact unhide h0',by rw [unhide hbe',unhide hno']; rfl,unhide hxa⟩
  ·have hkV : k = Vs.length := by omega
   subst hkV
   rw [List.take_length] at hf' hg'
   have hF := hide (unhide hf')
   have hG := hide (unhide hg')
   have hX := hide (unhide hx')
   rename World => wV
   clear hf' hg' hx'
   go_wp2_with fail
   go_loopw [35] (fun i wr => ∃ k : Nat,k ≤ Es.length ∧ i = .int .i64 k ∧ fe erE stE (Es.take k) (bS1 Vs) = 0 ∧ IsG wr g bv be ((Es.take k).foldl stE (bS1 Vs)).1 ((Es.take k).foldl stE (bS1 Vs)).2 ∧ Ext w wr) (fun i _ => Es.length - (intOf i).toNat)
   case atStart => exact ⟨0,Nat.zero_le _,rfl,rfl,unhide hG,unhide hX⟩
   case round =>
    obtain ⟨k,hk,rfl,hf,hg,hx⟩ := hrel
    have hf' := hide hf
    have hg' := hide hg
    have hx' := hide hx
    clear hf hg hx hG hX
    by_cases hlt : k < Es.length
    ·obtain ⟨b,off,rfl,c0,c1,c2,c3⟩ := atE ((unhide hE').ext (unhide hx')) hlt
     have hd := unhide oE' Es[k] (List.getElem_mem hlt)
     have hst := hide (fold_step (st := stE) (s := bS1 Vs) hlt)
     have hfs := hide (fun h => fe_step (er := erE) (st := stE) (s := bS1 Vs) hlt (unhide hf') h)
     have hfe := hide (fun h => fe_stop (er := erE) (st := stE) (s := bS1 Vs) hlt (unhide hf') h)
     generalize hS : (Es.take k).foldl stE (bS1 Vs) = S at *
     clear hS
     obtain ⟨V,E⟩ := S
     generalize hy : Es[k] = y at c0 c1 c2 c3 hd hst hfs hfe
     obtain ⟨⟨u,v⟩,⟨lab,wt⟩⟩ := y
     have hok := hide hd.1
     have hok2 := hide hd.2.1
     clear hd hy
     simp only at c0 c1 c2 c3
     by_cases h0 : wrongR 2 u v wt V E = 0
     ·have h0' := hide h0
      clear h0
      go_wp2_with fail
      refine (apply_any g bv be V E 2 u v lab wt _ ((unhide hg').ext (ext_self1 _ _)) (unhide hok) (unhide hok2)).mono ?_
      rw [unhide h0']
      rintro e wa ⟨rfl,hga,hka⟩
      have hxa := hide (((unhide hx').trans (ext_self1 _ _)).of_new hka (by have := unhide hn1; simp; omega))
      have hga' := hide hga
      clear hga hka c0 c1 c2 c3
      go_wp2_with fail
      go_roundw
      case rel => exact ⟨k + 1,by omega,by go_num,unhide hfs (unhide h0'),by rw [unhide hst]; exact unhide hga',unhide hxa⟩
      case measure => simp [intOf]; omega
     ·have hbe : bErr Vs Es = wrongR 2 u v wt V E := by
       have h1 := unhide hfe h0
       unfold bErr
       rw [if_pos (unhide hF),h1]
       rfl
      have hbe' := hide hbe
      have h0' := hide h0
      have hb := bne0 h0
      clear hbe h0
      generalize hno : wrongR 2 u v wt V E = no at hb
      have hno' := hide hno
      clear hno
      go_wp2_with fail
      refine (apply_any g bv be V E 2 u v lab wt _ ((unhide hg').ext (ext_self1 _ _)) (unhide hok) (unhide hok2)).mono ?_
      rw [unhide hno']
      rintro e wa ⟨rfl,hga,hka⟩
      have hxa := hide (((unhide hx').trans (ext_self1 _ _)).of_new hka (by have := unhide hn1; simp; omega))
      clear hga hka c0 c1 c2 c3
      go_wp2_with fail
      go_ret2
      exact .inr ⟨by rw [unhide hbe']; exact unhide h0',by rw [unhide hbe',unhide hno']; rfl,unhide hxa⟩
    ·have hkE : k = Es.length := by omega
     subst hkE
     rw [List.take_length] at hf' hg'
     go_wp2_with fail
     go_ret2
     obtain ⟨n1,n2,n3⟩ := unhide hn1
     exact .inl ⟨by unfold bErr; rw [if_pos (unhide hF),unhide hf'],g,bv,be,rfl,unhide hg',unhide hx',n1,n2,n3⟩
end Go.Proofs.YtbpeemhfjgcnaaaGreat
