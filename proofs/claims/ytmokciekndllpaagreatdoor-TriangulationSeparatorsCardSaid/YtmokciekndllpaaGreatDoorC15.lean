/- Parts of a proof, laid together. Each part says its own conditions. -/
import Derived.Test.YtmokciekndllpaaGreatDoorC13
import Derived.Test.YtmokciekndllpaaGreatDoorC14
namespace Go.Proofs.YtmokciekndllpaaGreatDoor
open Go Go.RowKit
attribute [local go_sem] qUpon lUpon
abbrev GS := List (Int × Thing) × List ((Int × Int) × Thing)
section
variable {σ α : Type}
def fe (er : σ → α → Int) (st : σ → α → σ) : List α → σ → Int
 | [],_ => 0
 | x :: l,s => if er s x = 0 then fe er st l (st s x) else er s x
theorem fe_append (er : σ → α → Int) (st : σ → α → σ) : ∀ (l1 l2 : List α) (s : σ),fe er st (l1 ++ l2) s = if fe er st l1 s = 0 then fe er st l2 (l1.foldl st s) else fe er st l1 s
 | [],l2,s => by simp [fe]
 | x :: l1,l2,s => by
  simp only [List.cons_append,fe,List.foldl_cons]
  by_cases h : er s x = 0
  ·simp only [h,if_true]
   exact fe_append er st l1 l2 _
  ·simp [h]
theorem fe_step {er : σ → α → Int} {st : σ → α → σ} {l : List α} {s : σ} {k : Nat} (hk : k < l.length) (h0 : fe er st (l.take k) s = 0) (h1 : er ((l.take k).foldl st s) l[k] = 0) : fe er st (l.take (k + 1)) s = 0 := by
 rw [List.take_succ_eq_append_getElem hk,fe_append,if_pos h0]
 simp [fe,h1]
theorem fe_stop {er : σ → α → Int} {st : σ → α → σ} {l : List α} {s : σ} {k : Nat} (hk : k < l.length) (h0 : fe er st (l.take k) s = 0) (h1 : er ((l.take k).foldl st s) l[k] ≠ 0) : fe er st l s = er ((l.take k).foldl st s) l[k] := by
 conv => lhs; rw [← List.take_append_drop k l,List.drop_eq_getElem_cons hk]
 rw [fe_append,if_pos h0]
 simp [fe,h1]
theorem fold_step {st : σ → α → σ} {l : List α} {s : σ} {k : Nat} (hk : k < l.length) : (l.take (k + 1)).foldl st s = st ((l.take k).foldl st s) l[k] := by
 rw [List.take_succ_eq_append_getElem hk,List.foldl_append]; rfl
end
def erV (s : GS) (x : Int × Thing) : Int := wrongR 0 x.1 0 x.2.2 s.1 s.2
def stV (s : GS) (x : Int × Thing) : GS := (nxV 0 x.1 0 x.2.1 x.2.2 s.1 s.2,nxE 0 x.1 0 x.2.1 x.2.2 s.1 s.2)
def erE (s : GS) (x : (Int × Int) × Thing) : Int := wrongR 2 x.1.1 x.1.2 x.2.2 s.1 s.2
def stE (s : GS) (x : (Int × Int) × Thing) : GS := (nxV 2 x.1.1 x.1.2 x.2.1 x.2.2 s.1 s.2,nxE 2 x.1.1 x.1.2 x.2.1 x.2.2 s.1 s.2)
def bS1 (Vs : List (Int × Thing)) : GS := Vs.foldl stV ([],[])
def bS (Vs : List (Int × Thing)) (Es : List ((Int × Int) × Thing)) : GS := Es.foldl stE (bS1 Vs)
def bErr (Vs : List (Int × Thing)) (Es : List ((Int × Int) × Thing)) : Int := if fe erV stV Vs ([],[]) = 0 then fe erE stE Es (bS1 Vs) else fe erV stV Vs ([],[])
def BuildPost (Vs : List (Int × Thing)) (Es : List ((Int × Int) × Thing)) (w : World) (e : Ending) (w' : World) : Prop :=
 (bErr Vs Es = 0 ∧ ∃ g bv be,e = .returned (.tuple #[.pointer (some ⟨g,0,none⟩), .int .i64 0]) ∧ IsG w' g bv be (bS Vs Es).1 (bS Vs Es).2 ∧ Ext w w' ∧ w.heap.size ≤ g ∧ w.heap.size ≤ bv ∧ w.heap.size ≤ be) ∨
 (bErr Vs Es ≠ 0 ∧ e = .returned (.tuple #[.pointer none, .int .i64 (bErr Vs Es)]) ∧ Ext w w')
theorem bne0 {n : Int} (h : n ≠ 0) : (n != 0) = true := by simpa using h
set_option maxRecDepth 100000 in
set_option maxHeartbeats 4000000 in
theorem build_any (A B : Option Addr) (Vs : List (Int × Thing)) (Es : List ((Int × Int) × Thing)) (cV cE : Nat) (w : World) (hV : SlAt encV 3 w A Vs) (hE : SlAt encE 4 w B Es) (oV : ∀ d ∈ Vs,okV d) (oE : ∀ d ∈ Es,okEd d) (hl : Vs.length ≤ 9223372036854775807) (hle : Es.length ≤ 9223372036854775807) :
  Calls Tryz.prog 49 #[.slice A Vs.length cV, .slice B Es.length cE] w (BuildPost Vs Es w) := by
 have hV' := hide hV
 have hE' := hide hE
 have oV' := hide oV
 have oE' := hide oE
 clear hV hE oV oE
 go_enter Tryz.func49,Tryz.ntmps49
 go_wp2_with fail
 refine (new_rel _).mono ?_
 rintro e w1 ⟨g,bv,be,rfl,hg10,hx10,n1,n2,n3⟩
 have hg1 := hide hg10
 have hx1 := hide hx10
 have hn1 := hide (And.intro n1 (And.intro n2 n3))
 clear hg10 hx10 n1 n2 n3
 go_wp2_with fail
 go_loopw [16] (fun i wr => ∃ k : Nat,k ≤ Vs.length ∧ i = .int .i64 k ∧ fe erV stV (Vs.take k) ([],[]) = 0 ∧ IsG wr g bv be ((Vs.take k).foldl stV ([],[])).1 ((Vs.take k).foldl stV ([],[])).2 ∧ Ext w wr) (fun i _ => Vs.length - (intOf i).toNat)
 case atStart => exact ⟨0,Nat.zero_le _,rfl,rfl,unhide hg1,unhide hx1⟩
 case round =>
  obtain ⟨k,hk,rfl,hf,hg,hx⟩ := hrel
  have hf' := hide hf
  have hg' := hide hg
  have hx' := hide hx
  clear hf hg hx hg1 hx1
  by_cases hlt : k < Vs.length
  ·obtain ⟨b,off,rfl,c0,c1,c2⟩ := atV ((unhide hV').ext (unhide hx')) hlt
   have hd := unhide oV' Vs[k] (List.getElem_mem hlt)
   have hst := hide (fold_step (st := stV) (s := (([],[]) : GS)) hlt)
   have hfs := hide (fun h => fe_step (er := erV) (st := stV) (s := (([],[]) : GS)) hlt (unhide hf') h)
   have hfe := hide (fun h => fe_stop (er := erV) (st := stV) (s := (([],[]) : GS)) hlt (unhide hf') h)
   generalize hS : (Vs.take k).foldl stV ([],[]) = S at *
   clear hS
   obtain ⟨V,E⟩ := S
   generalize hy : Vs[k] = y at c0 c1 c2 hd hst hfs hfe
   obtain ⟨u,lab,wt⟩ := y
   have hok := hide hd.1
   clear hd hy
   simp only at c0 c1 c2
   by_cases h0 : wrongR 0 u 0 wt V E = 0
   ·have h0' := hide h0
    clear h0
    go_wp2_with fail
    refine (apply_any g bv be V E 0 u 0 lab wt _ ((unhide hg').ext (ext_self1 _ _)) (unhide hok) (by unfold i64ok; omega)).mono ?_
    rw [unhide h0']
    rintro e wa ⟨rfl,hga,hka⟩
    have hxa := hide (((unhide hx').trans (ext_self1 _ _)).of_new hka (by have := unhide hn1; simp; omega))
    have hga' := hide hga
    clear hga hka c0 c1 c2
    go_wp2_with fail
    go_roundw
    case rel => exact ⟨k + 1,by omega,by go_num,unhide hfs (unhide h0'),by rw [unhide hst]; exact unhide hga',unhide hxa⟩
    case measure => simp [intOf]; omega
   ·have hbe : bErr Vs Es = wrongR 0 u 0 wt V E := by
     have h1 := unhide hfe h0
     unfold bErr
     rw [h1]
     exact if_neg h0
    have hbe' := hide hbe
    have h0' := hide h0
    have hb := bne0 h0
    clear hbe h0
    generalize hno : wrongR 0 u 0 wt V E = no at hb
    have hno' := hide hno
    clear hno
    go_wp2_with fail
    refine (apply_any g bv be V E 0 u 0 lab wt _ ((unhide hg').ext (ext_self1 _ _)) (unhide hok) (by unfold i64ok; omega)).mono ?_
    rw [unhide hno']
    rintro e wa ⟨rfl,hga,hka⟩
    have hxa := hide (((unhide hx').trans (ext_self1 _ _)).of_new hka (by have := unhide hn1; simp; omega))
    clear hga hka c0 c1 c2
    go_wp2_with fail
    go_ret2
    exact .inr ⟨by rw [unhide hbe']; exact unhide h0',by rw [unhide hbe',unhide hno']; rfl,unhide hxa⟩
  ·have hkV : k = Vs.length := by omega
   subst hkV
   rw [List.take_length] at hf' hg'
   have hF := hide (unhide hf')
   have hG := hide (unhide hg')
   have hX := hide (unhide hx')
   rename World => wV
   clear hf' hg' hx'
   go_wp2_with fail
   go_loopw [35] (fun i wr => ∃ k : Nat,k ≤ Es.length ∧ i = .int .i64 k ∧ fe erE stE (Es.take k) (bS1 Vs) = 0 ∧ IsG wr g bv be ((Es.take k).foldl stE (bS1 Vs)).1 ((Es.take k).foldl stE (bS1 Vs)).2 ∧ Ext w wr) (fun i _ => Es.length - (intOf i).toNat)
   case atStart => exact ⟨0,Nat.zero_le _,rfl,rfl,unhide hG,unhide hX⟩
   case round =>
    obtain ⟨k,hk,rfl,hf,hg,hx⟩ := hrel
    have hf' := hide hf
    have hg' := hide hg
    have hx' := hide hx
    clear hf hg hx hG hX
    by_cases hlt : k < Es.length
    ·obtain ⟨b,off,rfl,c0,c1,c2,c3⟩ := atE ((unhide hE').ext (unhide hx')) hlt
     have hd := unhide oE' Es[k] (List.getElem_mem hlt)
     have hst := hide (fold_step (st := stE) (s := bS1 Vs) hlt)
     have hfs := hide (fun h => fe_step (er := erE) (st := stE) (s := bS1 Vs) hlt (unhide hf') h)
     have hfe := hide (fun h => fe_stop (er := erE) (st := stE) (s := bS1 Vs) hlt (unhide hf') h)
     generalize hS : (Es.take k).foldl stE (bS1 Vs) = S at *
     clear hS
     obtain ⟨V,E⟩ := S
     generalize hy : Es[k] = y at c0 c1 c2 c3 hd hst hfs hfe
     obtain ⟨⟨u,v⟩,⟨lab,wt⟩⟩ := y
     have hok := hide hd.1
     have hok2 := hide hd.2.1
     clear hd hy
     simp only at c0 c1 c2 c3
     by_cases h0 : wrongR 2 u v wt V E = 0
     ·have h0' := hide h0
      clear h0
      go_wp2_with fail
      refine (apply_any g bv be V E 2 u v lab wt _ ((unhide hg').ext (ext_self1 _ _)) (unhide hok) (unhide hok2)).mono ?_
      rw [unhide h0']
      rintro e wa ⟨rfl,hga,hka⟩
      have hxa := hide (((unhide hx').trans (ext_self1 _ _)).of_new hka (by have := unhide hn1; simp; omega))
      have hga' := hide hga
      clear hga hka c0 c1 c2 c3
      go_wp2_with fail
      go_roundw
      case rel => exact ⟨k + 1,by omega,by go_num,unhide hfs (unhide h0'),by rw [unhide hst]; exact unhide hga',unhide hxa⟩
      case measure => simp [intOf]; omega
     ·have hbe : bErr Vs Es = wrongR 2 u v wt V E := by
       have h1 := unhide hfe h0
       unfold bErr
       rw [if_pos (unhide hF),h1]
       rfl
      have hbe' := hide hbe
      have h0' := hide h0
      have hb := bne0 h0
      clear hbe h0
      generalize hno : wrongR 2 u v wt V E = no at hb
      have hno' := hide hno
      clear hno
      go_wp2_with fail
      refine (apply_any g bv be V E 2 u v lab wt _ ((unhide hg').ext (ext_self1 _ _)) (unhide hok) (unhide hok2)).mono ?_
      rw [unhide hno']
      rintro e wa ⟨rfl,hga,hka⟩
      have hxa := hide (((unhide hx').trans (ext_self1 _ _)).of_new hka (by have := unhide hn1; simp; omega))
      clear hga hka c0 c1 c2 c3
      go_wp2_with fail
      go_ret2
      exact .inr ⟨by rw [unhide hbe']; exact unhide h0',by rw [unhide hbe',unhide hno']; rfl,unhide hxa⟩
    ·have hkE : k = Es.length := by omega
     subst hkE
     rw [List.take_length] at hf' hg'
     go_wp2_with fail
     go_ret2
     obtain ⟨n1,n2,n3⟩ := unhide hn1
     exact .inl ⟨by unfold bErr; rw [if_pos (unhide hF),unhide hf'],g,bv,be,rfl,unhide hg',unhide hx',n1,n2,n3⟩
end Go.Proofs.YtmokciekndllpaaGreatDoor
namespace Go.Proofs.YtmokciekndllpaaGreatDoor
open Go Go.RowKit
theorem insP_end {α : Type} {gt : α → Bool} {x : α} : ∀ {l : List α},(∀ y ∈ l,gt y = false) → insP gt x l = l ++ [x]
 | [],_ => rfl
 | y :: l,h => by
  unfold insP
  rw [h y List.mem_cons_self,if_neg (by simp),insP_end (fun z hz => h z (List.mem_cons_of_mem _ hz))]
  rfl
theorem hasV_false {u : Int} {V : List (Int × Thing)} (h : ∀ p ∈ V,p.1 ≠ u) : hasV u V = false := by
 rw [hasV_look,lookM_none.2 h]; rfl
theorem hasV_true {u : Int} {V : List (Int × Thing)} {t : Thing} (h : (u,t) ∈ V) : hasV u V = true := by
 rw [hasV_look,lookM_isSome]; exact ⟨_,h,rfl⟩
theorem hasE_false {u v : Int} {E : List ((Int × Int) × Thing)} (hlo : ∀ e ∈ E,e.1.1 < e.1.2) (h : ∀ p ∈ E,p.1 ≠ (min u v,max u v)) : hasE u v E = false := by
 rw [hasE_look hlo,lookM_none.2 h]; rfl
theorem redoV : ∀ (l acc : List (Int × Thing)),(acc ++ l).Pairwise ltV → (∀ p ∈ acc ++ l,idB p.1 = true) → (∀ p ∈ acc ++ l,heavyB p.2.2 = false) → l.foldl stV (acc,[]) = (acc ++ l,[]) ∧ fe erV stV l (acc,[]) = 0
 | [],acc,_,_,_ => by simp [fe]
 | x :: l,acc,hs,hid,hw => by
  obtain ⟨u,lab,wt⟩ := x
  have hx : ∀ y ∈ acc,y.1 < u := fun y hy => (List.pairwise_append.1 hs).2.2 y hy _ List.mem_cons_self
  have h1 := hid (u,(lab,wt)) (by simp)
  have h2 := hw (u,(lab,wt)) (by simp)
  have hno : hasV u acc = false := hasV_false fun p hp e => by have := hx p hp; omega
  have he : wrongR 0 u 0 wt acc [] = 0 := by
   simp only at h1 h2
   unfold wrongR
   rw [if_neg (by simp [w1B]),if_neg (by simp [w2B,h1,h2,pairsB]),if_neg (by simp [w3B,pairsB]),if_pos rfl,hno]
   rfl
  have hst : stV (acc,[]) (u,(lab,wt)) = (acc ++ [(u,(lab,wt))],[]) := by
   unfold stV nxV nxE
   simp only [he,if_true]
   refine Prod.ext ?_ rfl
   show refV 0 u lab wt acc = _
   simp only [refV,if_true]
   rw [insF_eq,insP_end (fun y hy => by have := hx y hy; unfold gtV; simp; omega)]
  have ih := redoV l (acc ++ [(u,(lab,wt))]) (by simpa using hs) (by simpa using hid) (by simpa using hw)
  have her : erV (acc,[]) (u,(lab,wt)) = 0 := he
  simp only [List.foldl_cons,fe,her,hst,if_true]
  rw [ih.1,ih.2]
  simp
theorem redoE (V : List (Int × Thing)) : ∀ (l acc : List ((Int × Int) × Thing)),GInv V (acc ++ l) → l.foldl stE (V,acc) = (V,acc ++ l) ∧ fe erE stE l (V,acc) = 0
 | [],acc,_ => by simp [fe]
 | x :: l,acc,hi => by
  obtain ⟨⟨u,v⟩,lab,wt⟩ := x
  have hx : ∀ y ∈ acc,ltE y ((u,v),(lab,wt)) := fun y hy => (List.pairwise_append.1 hi.se).2.2 y hy _ List.mem_cons_self
  have hm : ((u,v),(lab,wt)) ∈ acc ++ ((u,v),(lab,wt)) :: l := by simp
  have hlt := hi.lo _ hm
  obtain ⟨⟨t,ht⟩,⟨s,hs⟩⟩ := hi.ends _ hm
  have h2 := hi.we _ hm
  have i1 := hi.ids _ ht
  have i2 := hi.ids _ hs
  have hn := hi.ne
  simp only at hlt ht hs h2 i1 i2
  simp only [List.length_append,List.length_cons] at hn
  have e1 : min u v = u := by omega
  have e2 : max u v = v := by omega
  have hno : hasE u v acc = false := hasE_false (fun e he => hi.lo e (List.mem_append_left _ he)) fun p hp e => by
   have := hx p hp
   unfold ltE at this
   rw [e,e1,e2] at this
   simp only at this
   omega
  have he : wrongR 2 u v wt V acc = 0 := by
   unfold wrongR
   rw [if_neg (by simp [w1B]),if_neg (by simp [w2B,h2,i1,i2,pairsB]),if_neg (by simp [w3B,pairsB]; omega),if_neg (by decide),if_neg (by simp [hasV_true ht,hasV_true hs]),if_pos rfl,hno,if_neg (by simp),if_neg (by omega)]
  have hst : stE (V,acc) ((u,v),(lab,wt)) = (V,acc ++ [((u,v),(lab,wt))]) := by
   unfold stE nxV nxE
   simp only [he,if_true]
   refine Prod.ext rfl ?_
   show refE 2 u v lab wt acc = _
   simp only [refE,Int.reduceEq,if_false,if_true,e1,e2]
   rw [insF_eq,insP_end (fun y hy => by have := hx y hy; unfold ltE at this; simp only at this; unfold gtE; simp; omega)]
  have ih := redoE V l (acc ++ [((u,v),(lab,wt))]) (by simpa using hi)
  have her : erE (V,acc) ((u,v),(lab,wt)) = 0 := he
  simp only [List.foldl_cons,fe,her,hst,if_true]
  rw [ih.1,ih.2]
  simp
theorem rebuild {V : List (Int × Thing)} {E : List ((Int × Int) × Thing)} (h : GInv V E) : bErr V E = 0 ∧ bS V E = (V,E) := by
 have h1 := redoV V [] (by simpa using h.sv) (by simpa using h.ids) (by simpa using h.wv)
 have h2 := redoE V E [] (by simpa using h)
 have e1 : bS1 V = (V,[]) := h1.1
 unfold bErr bS
 rw [e1,if_pos h1.2]
 exact ⟨h2.2,h2.1⟩
theorem GInv.okV {V : List (Int × Thing)} {E : List ((Int × Int) × Thing)} (h : GInv V E) : ∀ d ∈ V,okV d := fun d hd => by
 have h1 := h.ids d hd
 have h2 := h.wv d hd
 unfold idB at h1
 unfold heavyB at h2
 simp at h1 h2
 unfold Go.Proofs.YtmokciekndllpaaGreatDoor.okV i64ok
 omega
theorem GInv.okE {V : List (Int × Thing)} {E : List ((Int × Int) × Thing)} (h : GInv V E) : ∀ d ∈ E,okEd d := fun d hd => by
 obtain ⟨⟨t,ht⟩,⟨s,hs⟩⟩ := h.ends d hd
 have h1 := h.ids _ ht
 have h3 := h.ids _ hs
 have h2 := h.we d hd
 unfold idB at h1 h3
 unfold heavyB at h2
 simp at h1 h2 h3
 unfold okEd i64ok
 omega
theorem wp_ap {α : Type} {enc : α → List Value} {T ST : TypeId} {k byt : Nat} (hi0 : (Tryz.prog.info? T).map (fun i => (i.zero.map (·.cells.size),i.size,i.bytes)) = some (some k,k,byt)) (hu : Tryz.prog.underlying ST = some (.slice T)) (hone : ∀ x, ∀ v ∈ enc x,v.oneCell' = true) (hlen : ∀ x,(enc x).length = k) (hk : 0 < k) (hby : byt ≤ 1000)
  {ops : Array Oper} {rest : List Oper} {o : Oper} {a : Act} {Q : Exit → Act → World → Prop} (w : World) (hgd : o.guard = none) (s x : Operand)
  (ho : o.op = .call { callee := .builtin .append,args := #[s,x],argTypes := #[ST,ST] }) (base : Nat) (v : Value) (n : Nat) (xs : List α) (e : α) (hn : xs.length = n) (g : Nat) (W : World) (hW : W = w.alloc (.cells (enc e).toArray T)) (hsg : w.heap.size = g) (hs : a.eval s = v) (hx : a.eval x = .slice (some ⟨g,0,none⟩) 1 1)
  (hown : w.ownsRow base T k v n (xs.flatMap enc)) (hl : n ≤ 100000) (hb : base ≤ w.heap.size)
  (h : ∀ A' c' w',w'.ownsRow base T k (.slice A' (n + 1) c') (n + 1) ((xs ++ [e]).flatMap enc) → (w.alloc (.cells (enc e).toArray T)).grownBy w' v.ownBlock → wpList Tryz.prog ops Q rest (a.put o.dst (.slice A' (n + 1) c')) w') :
  wpList Tryz.prog ops Q (o :: rest) a W := by
 subst hW
 subst hn
 subst hsg
 obtain ⟨i0,hi,hi1⟩ := Option.map_eq_some_iff.1 hi0
 simp only [Prod.mk.injEq] at hi1
 obtain ⟨hz1,hz2,hz3⟩ := hi1
 obtain ⟨z0,hz,hz4⟩ := Option.map_eq_some_iff.1 hz1
 have hown' := own_ext hown ((Ext.refl w).alloc (.cells (enc e).toArray T))
 have hmul : (xs.length + 1) * byt ≤ 100001 * 1000 := Nat.mul_le_mul (by omega) hby
 refine wpList_append_own_at _ hgd s x _ ho base T i0 z0 k byt hu hi hz hz2 hz3 hz4 hk v xs.length _ hs hown' ⟨w.heap.size,0,none⟩ 1 1 (enc e) hx (by rw [hlen]; simp) ?_ (hone e) (by unfold maxLen; omega) (by omega) (by simp; omega) ?_
 ·intro j u hj
  have := (Blk.new w T (enc e).toArray).cell j
  rw [show (⟨w.heap.size,0,none⟩ : Addr).add j = ⟨w.heap.size,j,none⟩ by simp [Addr.add]; omega,this]
  simpa using hj
 ·intro v' w' h1 h2 _ _
  obtain ⟨A',c',rfl⟩ := own_slice h1
  exact h A' c' w' (by simpa using h1) h2
theorem infoGV : (Tryz.prog.info? 93).map (fun i => (i.zero.map (·.cells.size),i.size,i.bytes)) = some (some 3,3,24) := by kernel_rfl
theorem infoGE : (Tryz.prog.info? 61).map (fun i => (i.zero.map (·.cells.size),i.size,i.bytes)) = some (some 4,4,32) := by kernel_rfl
theorem app_step {α : Type} {enc : α → List Value} {wI wr w2 w' : World} {T k n : Nat} {v : Value} {xs : List α} (hx : Ext wI wr) (hown : wr.ownsRow wI.heap.size T k v n (xs.flatMap enc)) (hx2 : Ext wr w2) (hg : w2.grownBy w' v.ownBlock) : Ext wI w' :=
 (hx.trans hx2).grown hg (Nat.le_refl _) (own_ext hown hx2)
set_option maxRecDepth 100000 in
set_option maxHeartbeats 4000000 in
theorem from_any (A B : Option Addr) (V : List (Int × Thing)) (E : List ((Int × Int) × Thing)) (cA cB : Nat) (w : World) (hV : SlAt encV 3 w A V) (hE : SlAt encE 4 w B E) (hi : GInv V E) :
  Calls Tryz.prog 48 #[.agg #[.slice A V.length cA, .slice B E.length cB]] w fun e w' => ∃ g bv be,e = .returned (.pointer (some ⟨g,0,none⟩)) ∧ IsG w' g bv be V E ∧ Ext w w' ∧ w.heap.size ≤ g ∧ w.heap.size ≤ bv ∧ w.heap.size ≤ be := by
 have hV' := hide hV
 have hE' := hide hE
 have hi' := hide hi
 have hlV := hi.nv
 have hlE := hi.ne
 clear hV hE hi
 go_enter Tryz.func48,Tryz.ntmps48
 go_wp2_with fail
 refine wp_abs (fun W => Ext w W ∧ Blk W w.heap.size 30 #[.slice A V.length cA, .slice B E.length cB]) ⟨ext_self1 _ _,Blk.new w _ _⟩ ?_
 rintro wI ⟨hxI,hbI⟩
 have q0 := hbI.cells 0 (v := .slice A V.length cA) rfl
 have q1 := hbI.cells 1 (v := .slice B E.length cB) rfl
 have hxI' := hide hxI
 clear hxI hbI
 go_loopw [3,5] (fun l i wr => ∃ (k : Nat) (vs : Value),k ≤ V.length ∧ i = .int .i64 k ∧ vs = l ∧ wr.ownsRow wI.heap.size 93 3 vs k ((V.take k).flatMap encV) ∧ Ext wI wr) (fun _ i _ => V.length - (intOf i).toNat)
 case atStart => exact ⟨0,_,Nat.zero_le _,rfl,rfl,World.ownsRow_nil _ _ _ _,Ext.refl _⟩
 case round =>
  obtain ⟨k,vs,hk,rfl,hl3,hown,hx⟩ := hrel
  subst hl3
  have hown' := hide hown
  have hx' := hide hx
  clear hown
  by_cases hlt : k < V.length
  ·obtain ⟨b,off,rfl,c0,c1,c2⟩ := atV ((unhide hV').ext ((unhide hxI').trans hx)) hlt
   have hst := List.take_succ_eq_append_getElem hlt
   generalize hy : V[k] = y at c0 c1 c2 hst
   obtain ⟨u,lab,wt⟩ := y
   have hst' := hide hst
   have hn' := hide (show k ≤ 100000 by omega)
   have hln := hide (show (V.take k).length = k by rw [List.length_take]; omega)
   clear hy hst
   simp only at c0 c1 c2
   go_wp2_with (at_builtin; refine wp_ap infoGV Tryz.underlying94 one_encV (fun _ => rfl) (by decide) (by decide) wr rfl _ _ rfl wI.heap.size vs k (V.take k) (u,(lab,wt)) (unhide hln) wr.heap.size _ (by rfl) rfl (by rfl) (by rfl) (unhide hown') (unhide hn') (Below.size (unhide hx')) ?_; intro A1 k1 w4 ho4 hg4; have hx4 := hide (app_step (unhide hx') (unhide hown') (ext_self1 _ _) hg4); have ho4' := hide ho4; clear ho4 hg4)
   go_roundw
   case rel => exact ⟨k + 1,_,by omega,by go_num,rfl,by have h := unhide ho4'; rw [unhide hst']; exact h,unhide hx4⟩
   case measure => simp [intOf]; omega
  ·have hkV : k = V.length := by omega
   subst hkV
   rw [List.take_length] at hown'
   obtain ⟨A1,c1,rfl⟩ := own_slice (unhide hown')
   have hoV := hide (unhide hown')
   have hxV := hide hx
   have r1 := cell_ext (q1 wr hx)
   have r0 := q0 wr hx
   rename World => wV
   clear hown' hx' hx q0 q1
   go_wp2_with fail
   clear r0
   go_loopw [4,6] (fun l i wr => ∃ (k : Nat) (vs : Value),k ≤ E.length ∧ i = .int .i64 k ∧ vs = l ∧ wr.ownsRow wV.heap.size 61 4 vs k ((E.take k).flatMap encE) ∧ Ext wV wr) (fun _ i _ => E.length - (intOf i).toNat)
   case atStart => exact ⟨0,_,Nat.zero_le _,rfl,rfl,World.ownsRow_nil _ _ _ _,Ext.refl _⟩
   case round =>
    obtain ⟨k,vs,hk,rfl,hl3,hown,hx⟩ := hrel
    subst hl3
    have hown' := hide hown
    have hx' := hide hx
    clear hown
    by_cases hlt : k < E.length
    ·obtain ⟨b,off,rfl,c0,c1,c2,c3⟩ := atE ((unhide hE').ext (((unhide hxI').trans (unhide hxV)).trans hx)) hlt
     have hst := List.take_succ_eq_append_getElem hlt
     generalize hy : E[k] = y at c0 c1 c2 c3 hst
     obtain ⟨⟨u,v⟩,⟨lab,wt⟩⟩ := y
     have hst' := hide hst
     have hn' := hide (show k ≤ 100000 by omega)
     have hln := hide (show (E.take k).length = k by rw [List.length_take]; omega)
     clear hy hst
     simp only at c0 c1 c2 c3
     go_wp2_with (at_builtin; refine wp_ap infoGE Tryz.underlying57 one_encE (fun _ => rfl) (by decide) (by decide) wr rfl _ _ rfl wV.heap.size vs k (E.take k) ((u,v),(lab,wt)) (unhide hln) wr.heap.size _ (by rfl) rfl (by rfl) (by rfl) (unhide hown') (unhide hn') (Below.size (unhide hx')) ?_; intro A1 k1 w4 ho4 hg4; have hx4 := hide (app_step (unhide hx') (unhide hown') (ext_self1 _ _) hg4); have ho4' := hide ho4; clear ho4 hg4)
     go_roundw
     case rel => exact ⟨k + 1,_,by omega,by go_num,rfl,by have h := unhide ho4'; rw [unhide hst']; exact h,unhide hx4⟩
     case measure => simp [intOf]; omega
    ·have hkE : k = E.length := by omega
     subst hkE
     rw [List.take_length] at hown'
     obtain ⟨A2,c2,rfl⟩ := own_slice (unhide hown')
     have hinv := unhide hi'
     have hreb := rebuild hinv
     have hxIr := hide (((unhide hxI').trans (unhide hxV)).trans hx)
     have hsV := hide ((own_at (unhide hoV) (fun _ => rfl)).ext hx)
     have hsE := hide (own_at (unhide hown') (fun _ => rfl))
     have hoV' := hide hinv.okV
     have hoE' := hide hinv.okE
     have hr' := hide hreb
     have r1' := r1 wr hx
     clear hinv hreb hx hx' hown' hoV hxV r1
     go_wp2_with fail
     refine (build_any A1 A2 V E c1 c2 _ (unhide hsV) (unhide hsE) (unhide hoV') (unhide hoE') (by omega) (by omega)).mono ?_
     rintro e w5 (⟨-,g,bv,be,rfl,hg,hx5,n1,n2,n3⟩ | ⟨hbad,_⟩)
     ·rw [(unhide hr').2] at hg
      have hg' := hide hg
      have hx5' := hide hx5
      have hn' := hide (And.intro n1 (And.intro n2 n3))
      clear hg hx5 n1 n2 n3
      go_wp2_with fail
      go_ret
      obtain ⟨n1,n2,n3⟩ := unhide hn'
      have hsz := Below.size (unhide hxIr)
      exact ⟨g,bv,be,rfl,unhide hg',(unhide hxIr).trans (unhide hx5'),by omega,by omega,by omega⟩
     ·exact absurd (unhide hr').1 hbad
end Go.Proofs.YtmokciekndllpaaGreatDoor
namespace Go.Proofs.YtmokciekndllpaaGreatDoor
open Go Go.RowKit
def encI (n : Int) : List Value := [.int .i64 n]
theorem one_encI (x : Int) : ∀ v ∈ encI x,v.oneCell' = true := by
 intro v hv
 simp [encI] at hv
 subst hv
 rfl
theorem atI {w : World} {A : Option Addr} {L : List Int} (h : SlAt encI 1 w A L) {i : Nat} (hi : i < L.length) : ∃ b off,A = some ⟨b,off,none⟩ ∧ (∀ W,Ext w W → W.cell? ⟨b,off + i,none⟩ = some (.int .i64 L[i])) := by
 obtain ⟨b,off,hA,hc⟩ := h.at_ hi
 refine ⟨b,off,hA, ?_⟩
 have := hc 0 _ rfl
 simpa using this
theorem infoI : (Tryz.prog.info? 3).map (fun i => (i.zero.map (·.cells.size),i.size,i.bytes)) = some (some 1,1,8) := by kernel_rfl
theorem own_base_le {w : World} {b b' T k n : Nat} {v : Value} {xs : List Value} (h : w.ownsRow b T k v n xs) (hb : b' ≤ b) : w.ownsRow b' T k v n xs :=
 ⟨h.1,h.2.imp id fun ⟨g,cap,cur,e,hg,r⟩ => ⟨g,cap,cur,e,Nat.le_trans hb hg,r⟩⟩
end Go.Proofs.YtmokciekndllpaaGreatDoor
