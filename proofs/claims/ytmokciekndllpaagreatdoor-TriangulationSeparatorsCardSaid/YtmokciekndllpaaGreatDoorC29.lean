/- Parts of a proof, laid together. Each part says its own conditions. -/
import Derived.Test.YtmokciekndllpaaGreatDoorC28
namespace Go.Proofs.YtmokciekndllpaaGreatDoor
open Go Go.RowKit Go.Shelf
attribute [local go_sem] qUpon lUpon
attribute [local irreducible] wpO wpX wpQL
def evN (n : Nat) : Value := .int .i64 (n : Nat)
theorem zeroN (w : World) : (zeroValue 3).run Tryz.prog w = .ok (evN 0) w := by kernel_rfl
def nC (C : List (Int × Nat)) (x : Int) : Nat := (lookM C x).getD 0
theorem mem_withZ {c : Nat} {v x : Int} (hv : 0 ≤ v ∧ v < 1024) : x ∈ toL (withS c v) ↔ x ∈ toL c ∨ x = v := by
 rw [mem_toL',mem_toL',withS_bit]
 constructor
 ·rintro ⟨h1,h2,h3⟩
  rw [Bool.or_eq_true,Bool.and_eq_true,decide_eq_true_eq,decide_eq_true_eq] at h3
  rcases h3 with h3 | ⟨_,h3⟩
  ·exact .inl ⟨h1,h2,h3⟩
  ·right; omega
 ·rintro (⟨h1,h2,h3⟩ | rfl)
  ·exact ⟨h1,h2,by rw [h3]; rfl⟩
  ·refine ⟨hv.1,hv.2, ?_⟩
   rw [Bool.or_eq_true,Bool.and_eq_true,decide_eq_true_eq,decide_eq_true_eq]
   right
   omega
theorem setC_same {N M : Nat} (h : ∀ x,x ∈ toL N ↔ x ∈ toL M) : setC N = setC M := by
 have hb := same_bits h
 refine setC_ext fun i hi => Nat.eq_of_testBit_eq fun k => ?_
 rw [wdN_bit,wdN_bit]
 by_cases hk : k < 64
 ·rw [hb _ (by omega)]
 ·simp [hk]
theorem has_mem (N : Nat) (n : Int) : (fitB n && N.testBit n.toNat) = decide (n ∈ toL N) := by
 rw [Bool.eq_iff_iff,Bool.and_eq_true,decide_eq_true_eq,mem_toL']
 unfold fitB
 rw [Bool.and_eq_true,decide_eq_true_eq,decide_eq_true_eq]
 exact ⟨fun h => ⟨h.1.1,h.1.2,h.2⟩,fun h => ⟨⟨h.1,h.2.1⟩,h.2.2⟩⟩
theorem RInv.perm {A : Int → Int → Prop} {S : Int → Prop} {c : Int → Nat} {z : Int} {H H' : List (Int × Int)} {seen out : Int → Prop} {d : Int → Int} (h : RInv A S c z H seen out d) (hp : H'.Perm H) : RInv A S c z H' seen out d where
 way p hp' := h.way p (hp.mem_iff.1 hp')
 got := h.got
 sub := h.sub
 one y h1 h2 h3 := by
  obtain ⟨p,h4,h5⟩ := h.one y h1 h2 h3
  exact ⟨p,hp.mem_iff.2 h4,h5⟩
 nxt y h1 h2 v hv h3 := by
  obtain ⟨p,h4,h5⟩ := h.nxt y h1 h2 v hv h3
  exact ⟨p,hp.mem_iff.2 h4,h5⟩
theorem mem_onW {M : List (Int × Nat)} {N sn : Nat} {cost id : Int} {p : Int × Int} : p ∈ onW M N sn cost id ↔ p.1 = cost ∧ p.2 ∈ toL (nrM M id) ∧ p.2 ∈ toL N ∧ p.2 ∉ toL sn := by
 unfold onW
 rw [List.mem_map]
 constructor
 ·rintro ⟨y,hy,rfl⟩
  obtain ⟨h1,h2⟩ := mem_minus.1 hy
  obtain ⟨h3,h4⟩ := mem_and.1 h1
  exact ⟨rfl,h3,h4,h2⟩
 ·rintro ⟨h1,h2,h3,h4⟩
  exact ⟨p.2,mem_minus.2 ⟨mem_and.2 ⟨h2,h3⟩,h4⟩,by rw [← h1]⟩
theorem onW_len {M : List (Int × Nat)} {N sn : Nat} {cost id : Int} : (onW M N sn cost id).length ≤ 1024 := by
 unfold onW
 rw [List.length_map]
 exact toL_len _
def rMeas (N sn : Nat) (hs : List (Int × Int)) : Nat := ((toL N).filter fun v => decide (v ∉ toL sn)).length * 1025 + hs.length
def RchI (E : List ((Int × Int) × Thing)) (N : Nat) (C : List (Int × Nat)) (z : Int) (hs : List (Int × Int)) (sn on : Nat) : Prop := ∃ d,RInv (AdE E) (fun x => x ∈ toL N) (nC C) z hs (fun v => v ∈ toL sn) (fun v => v ∈ toL on) d
theorem zero_mem (x : Int) : ¬ x ∈ toL 0 := by
 rw [mem_toL',Nat.zero_testBit]
 simp
theorem RchI.start {E : List ((Int × Int) × Thing)} {N : Nat} {C : List (Int × Nat)} {M : List (Int × Nat)} {z : Int} {hs : List (Int × Int)} (hn : ∀ y ∈ toL N,(y ∈ toL (nrM M z) ↔ AdE E z y)) (hp : hs.Perm ([] ++ onW M N 0 (-1) z)) : RchI E N C z hs 0 0 := by
 have e : (fun v : Int => v ∈ toL 0) = fun _ => False := funext fun v => propext ⟨fun h => zero_mem v h,False.elim⟩
 refine ⟨fun _ => 0, ?_⟩
 rw [e]
 refine (RInv.start fun p => ?_).perm hp
 rw [List.nil_append,mem_onW]
 constructor
 ·rintro ⟨h1,h2,h3,_⟩; exact ⟨h1,h3,(hn _ h3).1 h2⟩
 ·rintro ⟨h1,h2,h3⟩; exact ⟨h1,(hn _ h2).2 h3,h2,zero_mem _⟩
theorem RchI.skip {E : List ((Int × Int) × Thing)} {N : Nat} {C : List (Int × Nat)} {z x y : Int} {hs h2 : List (Int × Int)} {sn on : Nat} (h : RchI E N C z hs sn on) (hp : ((x,y) :: h2).Perm hs) (hy : y ∈ toL sn) : RchI E N C z h2 sn on ∧ rMeas N sn h2 < rMeas N sn hs := by
 obtain ⟨d,h⟩ := h
 refine ⟨⟨d,h.skip hp hy⟩, ?_⟩
 have := hp.length_eq
 unfold rMeas
 simp only [List.length_cons] at this
 omega
theorem RchI.inN {E : List ((Int × Int) × Thing)} {N : Nat} {C : List (Int × Nat)} {z x y : Int} {hs h2 : List (Int × Int)} {sn on : Nat} (h : RchI E N C z hs sn on) (hp : ((x,y) :: h2).Perm hs) : y ∈ toL N := by
 obtain ⟨d,h⟩ := h
 exact (h.way (x,y) (hp.mem_iff.1 (by simp))).1
theorem RchI.take {E : List ((Int × Int) × Thing)} {N : Nat} {C : List (Int × Nat)} {M : List (Int × Nat)} {z x y : Int} {hs h2 h3 : List (Int × Int)} {sn on on' : Nat} (h : RchI E N C z hs sn on) (hp : ((x,y) :: h2).Perm hs) (hmin : ∀ p ∈ h2,x ≤ p.1) (hy : y ∉ toL sn) (hn : ∀ u ∈ toL N,(u ∈ toL (nrM M y) ↔ AdE E y u))
  (h3p : h3.Perm (h2 ++ onW M N (withS sn y) (max x (nC C y)) y)) (ho : on' = if x < nC C y then withS on y else on) : RchI E N C z h3 (withS sn y) on' ∧ rMeas N (withS sn y) h3 < rMeas N sn hs := by
 have hyN := h.inN hp
 have hyr := toL_rng hyN
 obtain ⟨d,h⟩ := h
 have e : (fun v : Int => v ∈ toL (withS sn y)) = fun v => v ∈ toL sn ∨ v = y := funext fun v => propext (mem_withZ hyr)
 refine ⟨⟨fun v => if v = y then x else d v, ?_⟩, ?_⟩
 ·rw [e]
  refine (RInv.take (out' := fun v => v ∈ toL on') h hp hmin hy (N := onW M N (withS sn y) (max x (nC C y)) y) (fun q => ?_) (fun v => ?_)).perm h3p
  ·rw [mem_onW,mem_withZ hyr]
   constructor
   ·rintro ⟨h4,h5,h6,h7⟩; exact ⟨h4,h6,(hn _ h6).1 h5,h7⟩
   ·rintro ⟨h4,h5,h6,h7⟩; exact ⟨h4,(hn _ h5).2 h6,h5,h7⟩
  ·rw [ho]
   show v ∈ toL (if x < nC C y then withS on y else on) ↔ v ∈ toL on ∨ (v = y ∧ x < nC C y)
   by_cases hx : x < nC C y
   ·rw [if_pos hx,mem_withZ hyr]
    exact or_congr Iff.rfl ⟨fun h => ⟨h,hx⟩,fun h => h.1⟩
   ·rw [if_neg hx]
    exact ⟨.inl,fun h => h.elim id fun h => absurd h.2 hx⟩
 ·have h4 := h3p.length_eq
  rw [List.length_append] at h4
  have h5 := onW_len (M := M) (N := N) (sn := withS sn y) (cost := max x (nC C y)) (id := y)
  have h6 := hp.length_eq
  simp only [List.length_cons] at h6
  have h7 : ((toL N).filter fun v => decide (v ∉ toL (withS sn y))).length < ((toL N).filter fun v => decide (v ∉ toL sn)).length := by
   refine flt_lt (fun u hu => ?_) hyN (by simpa using hy) ?_
   ·simp only [decide_eq_true_eq] at hu ⊢
    exact fun h => hu ((mem_withZ hyr).2 (.inl h))
   ·simp only [decide_eq_false_iff_not,Classical.not_not]
    exact (mem_withZ hyr).2 (.inr rfl)
  unfold rMeas
  omega
theorem RchI.done {V : List (Int × Thing)} {E : List ((Int × Int) × Thing)} {N : Nat} {C : List (Int × Nat)} {z : Int} {sn on : Nat} (hi : GInv V E) (hz : 0 ≤ z ∧ z < 1024) (h : RchI E N C z [] sn on) : setC on = setC (reaS E N (nC C) z) := by
 obtain ⟨d,h⟩ := h
 refine setC_same fun y => ?_
 rw [mem_rea hi hz]
 exact h.done
theorem rMeas_le (N sn : Nat) (hs : List (Int × Int)) (h : hs.length ≤ 1024) : rMeas N sn hs ≤ 1060000 := by
 have h1 : ((toL N).filter fun v => decide (v ∉ toL sn)).length ≤ 1024 := Nat.le_trans (List.length_filter_le _ _) (toL_len N)
 unfold rMeas
 omega
theorem Sp.build0O {P : Program} {wf : World} {T0 : List Nat} {w W : World} {ds : List Deferred} {L : List Cl} {Rs : List Rw} {l : List Oper} {K : Act → World → Prop} {r : List Oper} {o : Oper} {a : Act} (h : Sp wf T0 w ds L Rs W) (t k : Nat) (hk0 : k ≠ 0) (hw : Region.wanted o (yielded l.toArray a.tmps) = true) (hrun : (execOp a.eval o).run P W = .ok (.value (.slice (some ⟨W.heap.size,0,none⟩) 0 0)) (W.alloc (.cells #[] t)))
  (hk : ∀ b W',Sp wf T0 w ds L (Rs ++ [(t,k, .slice (some ⟨b,0,none⟩) 0 0,0,[])]) W' → wpO P l K r (a.put o.dst (.slice (some ⟨b,0,none⟩) 0 0)) W') : wpO P l K (o :: r) a W :=
 wpO_val hw hrun (hk _ _ (h.addRow (ext_self1 W _) ⟨by simp, .inr ⟨W.heap.size,0, #[],rfl,Nat.le_refl _,Blk.new W t #[],Nat.le_refl _,Nat.zero_le _,by simp,by simp⟩⟩ hk0))
theorem perm7 {α : Type} (a b c d e f g : α) : [f,g,a,b,e,c,d].Perm [a,b,c,d,e,f,g] := by
 classical
 rw [List.perm_iff_count]
 intro x
 simp only [List.count_cons,List.count_nil]
 omega
set_option maxRecDepth 100000 in
set_option maxHeartbeats 16000000 in
theorem reach_any (mb cb : Nat) (M : List (Int × Nat)) (C : List (Int × Nat)) (N : Nat) (z : Int) (V : List (Int × Thing)) (E : List ((Int × Int) × Thing)) (w : World) (hi : GInv V E) (hM : MapIs ekV evS i64ok w mb M) (hC : MapIs ekV evN i64ok w cb C) (hz : 0 ≤ z ∧ z < 1024) (hnr : ∀ id,id = z ∨ id ∈ toL N → ∀ u ∈ toL N,(u ∈ toL (nrM M id) ↔ AdE E id u)) (hT : Tab w) :
  Calls Tryz.prog 122 #[.map (some mb), .map (some cb), .agg (setC N), .int .i64 z] w fun e w' => e = .returned (.agg (setC (reaS E N (nC C) z))) ∧ Ext w w' := by
 have hi' := hide hi
 have hM' := hide hM
 have hC' := hide hC
 have hz' := hide hz
 have hnr' := hide hnr
 have hT' := hide hT
 have hzo := hide (okK hz)
 clear hi hM hC hz hnr hT
 have hP := hide (Sp.new w)
 refine callsIn_wide.1 (callsIn_of_wp_marks (n := 0) Tryz.func122 rfl trivial (wpIn_wide.2 ?_))
 simp only [Tryz.ntmps122,List.size_toArray,List.length_cons,List.length_nil,Nat.reduceAdd,Nat.reduceSub,Array.replicate_succ,Array.replicate_zero,List.push_toArray,List.append_toArray,List.nil_append,List.cons_append]
 try dsimp only
 repeat ((fail_if_success (with_reducible refine wp_reg (id := 0) ?_)); (first | go_values | go_skip | go_step | go_guarded | go_upon | go_in | go_back | fail))
 with_reducible refine wp_reg (id := 0) ?_
 refine (unhide hP).allocO 177 #[.map (some mb)] rfl (run_box (v := .map (some mb)) rfl rfl) ?_
 intro bm y1 hQ
 replace hP : Hid (Sp w [] w [] [(bm,177, #[.map (some mb)])] [] y1) := hide hQ
 clear hQ
 refine (unhide hP).allocO 25 (setC N) rfl (run_box (v := .agg (setC N)) rfl rfl) ?_
 intro br y2 hQ
 replace hP : Hid (Sp w [] w [] [(bm,177, #[.map (some mb)]),(br,25,setC N)] [] y2) := hide hQ
 clear hQ
 refine (unhide hP).allocO 25 (setC 0) rfl (run_alloc_set rfl) ?_
 intro r8 y3 hQ
 replace hP : Hid (Sp w [] w [] [(bm,177, #[.map (some mb)]),(br,25,setC N),(r8,25,setC 0)] [] y3) := hide hQ
 clear hQ
 refine wpO_done ?_
 try go_frame
 try dsimp only
 repeat ((fail_if_success (with_reducible refine wp_reg (id := 1) ?_)); (first | go_values | go_skip | go_step | go_guarded | go_upon | go_in | go_back | fail))
 with_reducible refine wp_reg (id := 1) ?_
 refine (unhide hP).allocO 25 (setC 0) rfl (run_alloc_set rfl) ?_
 intro r9 y4 hQ
 replace hP : Hid (Sp w [] w [] [(bm,177, #[.map (some mb)]),(br,25,setC N),(r8,25,setC 0),(r9,25,setC 0)] [] y4) := hide hQ
 clear hQ
 refine (unhide hP).allocO 25 (setC 0) rfl (run_alloc_set rfl) ?_
 intro bs y5 hQ
 replace hP : Hid (Sp w [] w [] [(bm,177, #[.map (some mb)]),(br,25,setC N),(r8,25,setC 0),(r9,25,setC 0),(bs,25,setC 0)] [] y5) := hide hQ
 clear hQ
 refine wpO_done ?_
 try go_frame
 try dsimp only
 repeat ((fail_if_success (with_reducible refine wp_reg (id := 2) ?_)); (first | go_values | go_skip | go_step | go_guarded | go_upon | go_in | go_back | fail))
 with_reducible refine wp_reg (id := 2) ?_
 refine (unhide hP).build0O 214 2 (by decide) rfl (by go_simp) ?_
 intro b0 y6 hQ
 replace hP : Hid (Sp w [] w [] [(bm,177, #[.map (some mb)]),(br,25,setC N),(r8,25,setC 0),(r9,25,setC 0),(bs,25,setC 0)] [(214,2, .slice (some ⟨b0,0,none⟩) 0 0,0,[])] y6) := hide hQ
 clear hQ
 try go_frame
 refine (unhide hP).allocO 211 #[.slice (some ⟨b0,0,none⟩) 0 0] rfl (run_box (v := .slice (some ⟨b0,0,none⟩) 0 0) rfl rfl) ?_
 intro bw y7 hQ
 replace hP : Hid (Sp w [] w [] [(bm,177, #[.map (some mb)]),(br,25,setC N),(r8,25,setC 0),(r9,25,setC 0),(bs,25,setC 0),(bw,211, #[.slice (some ⟨b0,0,none⟩) 0 0])] [(214,2, .slice (some ⟨b0,0,none⟩) 0 0,0,[])] y7) := hide hQ
 clear hQ
 refine (unhide hP).allocO 209 #[.pointer none] rfl (by go_simp) ?_
 intro bp y8 hQ
 replace hP : Hid (Sp w [] w [] [(bm,177, #[.map (some mb)]),(br,25,setC N),(r8,25,setC 0),(r9,25,setC 0),(bs,25,setC 0),(bw,211, #[.slice (some ⟨b0,0,none⟩) 0 0]),(bp,209, #[.pointer none])] [(214,2, .slice (some ⟨b0,0,none⟩) 0 0,0,[])] y8) := hide hQ
 clear hQ
 refine (unhide hP).setO 6 #[.pointer (some ⟨bw,0,none⟩)] rfl rfl (fun hb => run_store_row (v := .pointer (some ⟨bw,0,none⟩)) rfl rfl rfl (by simp [go_sem]) hb rfl (by simp [Value.cells,Value.oneCell'])) ?_
 intro y9 hQ
 replace hP : Hid (Sp w [] w [] [(bm,177, #[.map (some mb)]),(br,25,setC N),(r8,25,setC 0),(r9,25,setC 0),(bs,25,setC 0),(bw,211, #[.slice (some ⟨b0,0,none⟩) 0 0]),(bp,209, #[.pointer (some ⟨bw,0,none⟩)])] [(214,2, .slice (some ⟨b0,0,none⟩) 0 0,0,[])] y9) := hide hQ
 clear hQ
 refine wpO_done ?_
 try go_frame
 try dsimp only
 repeat ((fail_if_success (with_reducible refine wp_reg (id := 3) ?_)); (first | go_values | go_skip | go_step | go_guarded | go_upon | go_in | go_back | fail))
 with_reducible refine wp_reg (id := 3) ?_
 iterate 2
  refine wpO_want rfl ?_
  go_simp
 refine wpO_done ?_
 try go_frame
 replace hP : Hid (Sp w [] w [] [(bw,211, #[.slice (some ⟨b0,0,none⟩) 0 0]),(bp,209, #[.pointer (some ⟨bw,0,none⟩)]),(bm,177, #[.map (some mb)]),(br,25,setC N),(bs,25,setC 0),(r8,25,setC 0),(r9,25,setC 0)] [(214,2, .slice (some ⟨b0,0,none⟩) 0 0,0,([] : List (Int × Int)).flatMap encP2)] y9) := hide ((unhide hP).perm (perm7 _ _ _ _ _ _ _) (List.Perm.refl _))
 try dsimp only
 repeat ((fail_if_success (with_reducible refine wp_reg (id := 4) ?_)); (first | go_values | go_skip | go_step | go_guarded | go_upon | go_in | go_back | fail))
 with_reducible refine wp_reg (id := 4) ?_
 iterate 2
  refine wpO_want rfl ?_
  go_simp
 refine wpO_want rfl ?_
 go_simp
 have hca := rstep_any w bw bp bm br bs mb N 0 M [] (-1) z (some ⟨b0,0,none⟩) 0 0 y9 ((unhide hP).st.sub (List.sublist_append_left _ ([(r8,25,setC 0),(r9,25,setC 0)] : List Cl)) (List.Sublist.refl _)) (unhide hP).extf (unhide hT') (unhide hM') (unhide hzo) (rfl) (fun k _ hk => by simp at hk) (by simp)
 refine hca.mono ?_
 clear hca
 rintro _ y10 ⟨rfl,A1,n1,c1,h1,hn9,hp9,hh9,hs9,hk9,ht9⟩
 replace hP : Hid (Sp w [] w [] [(bw,211, #[.slice A1 n1 c1]),(bp,209, #[.pointer (some ⟨bw,0,none⟩)]),(bm,177, #[.map (some mb)]),(br,25,setC N),(bs,25,setC 0),(r8,25,setC 0),(r9,25,setC 0)] [(214,2, .slice A1 n1 c1,n1,h1.flatMap encP2)] y10) := hide (Sp.frame (L2 := [(r8,25,setC 0),(r9,25,setC 0)]) (R2 := []) (unhide hP) hs9 hk9 ht9)
 have hnN := hide hn9
 have hpN := hide hp9
 have hhN := hide hh9
 clear hs9 hk9 ht9 hn9 hp9 hh9
 refine ⟨_,rfl, ?_⟩
 try go_frame
 refine wpO_done ?_
 try go_frame
 go_wp2_with fail
 have hRI := hide (RchI.start (unhide (hide fun y hy => (unhide hnr') z (.inl rfl) y hy)) (unhide hpN) : RchI E N C z h1 0 0)
 have hm1 := hide (rMeas_le N 0 h1 (by have h9 := (unhide hpN).length_eq; rw [List.nil_append] at h9; rw [h9]; exact onW_len))
 clear hpN
 obtain ⟨I10_2,hI10_20⟩ : ∃ I : Nat → Act → World → Prop,I = fun fi a' wr => ∃ (A : Option Addr), ∃ (n : Nat), ∃ (c : Nat), ∃ (hs : List (Int × Int)), ∃ (sn : Nat), ∃ (on : Nat),a'.tmps.size = 64 ∧ a'.tmps.getD 1 undef = .map (some cb) ∧ a'.tmps.getD 8 undef = .pointer (some ⟨r8,0,none⟩) ∧ a'.tmps.getD 9 undef = .pointer (some ⟨r9,0,none⟩) ∧ a'.tmps.getD 10 undef = .pointer (some ⟨bs,0,none⟩) ∧ a'.tmps.getD 11 undef = .pointer (some ⟨bp,0,none⟩) ∧ a'.tmps.getD 12 undef = .func (.func 170) #[] #[.pointer (some ⟨bm,0,none⟩), .pointer (some ⟨br,0,none⟩), .pointer (some ⟨bs,0,none⟩), .pointer (some ⟨bp,0,none⟩)] ∧ a'.defers = [] ∧ n = hs.length ∧ HeapN hs hs.length ∧ RchI E N C z hs sn on ∧ fi ≤ 1060000 ∧ Sp w [] w [] [(bw,211, #[.slice A n c]),(bp,209, #[.pointer (some ⟨bw,0,none⟩)]),(bm,177, #[.map (some mb)]),(br,25,setC N),(bs,25,setC sn),(r8,25,setC 0),(r9,25,setC on)] [(214,2, .slice A n c,n,hs.flatMap encP2)] wr ∧ fi = rMeas N sn hs := ⟨_,rfl⟩
 have hI10_2 := hide hI10_20
 clear hI10_20
 refine wp_loop_ix I10_2 (rMeas N 0 h1) ?_ ?_
 ·rw [unhide hI10_2]; exact ⟨A1,n1,c1,h1,0,0,rfl,rfl,rfl,rfl,rfl,rfl,rfl,rfl,unhide hnN,unhide hhN,unhide hRI,unhide hm1,unhide hP,rfl⟩
 ·rintro fi ⟨tm,dfs⟩ wr hrel
  rw [unhide hI10_2] at hrel
  obtain ⟨A,n,c,hs,sn,on,hsz,e1,e8,e9,e10,e11,e12,hdf,hn0,hh0,hR0,hb0,hPr,hfm⟩ := hrel
  obtain ⟨us,rfl⟩ : ∃ us : Nat → Value,tm = #[us 0,us 1,us 2,us 3,us 4,us 5,us 6,us 7,us 8,us 9,us 10,us 11,us 12,us 13,us 14,us 15,us 16,us 17,us 18,us 19,us 20,us 21,us 22,us 23,us 24,us 25,us 26,us 27,us 28,us 29,us 30,us 31,us 32,us 33,us 34,us 35,us 36,us 37,us 38,us 39,us 40,us 41,us 42,us 43,us 44,us 45,us 46,us 47,us 48,us 49,us 50,us 51,us 52,us 53,us 54,us 55,us 56,us 57,us 58,us 59,us 60,us 61,us 62,us 63] := ⟨fun i => tm.getD i undef,arr_fn hsz⟩
  have h1 : us 1 = .map (some cb) := e1
  have h8 : us 8 = .pointer (some ⟨r8,0,none⟩) := e8
  have h9 : us 9 = .pointer (some ⟨r9,0,none⟩) := e9
  have h10 : us 10 = .pointer (some ⟨bs,0,none⟩) := e10
  have h11 : us 11 = .pointer (some ⟨bp,0,none⟩) := e11
  have h12 : us 12 = .func (.func 170) #[] #[.pointer (some ⟨bm,0,none⟩), .pointer (some ⟨br,0,none⟩), .pointer (some ⟨bs,0,none⟩), .pointer (some ⟨bp,0,none⟩)] := e12
  have hdf2 : dfs = [] := hdf
  subst hdf2
  clear hdf hsz e1 e8 e9 e10 e11 e12
  simp only [h1,h8,h9,h10,h11,h12]
  clear h1 h8 h9 h10 h11 h12
  clear hP hRI hm1 hnN hhN
  have hP := hide hPr
  have hfm' := hide hfm
  have hn' := hide hn0
  have hh' := hide hh0
  have hR' := hide hR0
  have hb' := hide hb0
  have hlen := hide (show hs.length ≤ 1060000 by unfold rMeas at hfm; omega)
  clear hPr hfm hn0 hh0 hR0 hb0
  try dsimp only
  repeat ((fail_if_success (with_reducible refine wp_reg (id := 5) ?_)); (first | go_values | go_skip | go_step | go_guarded | go_upon | go_in | go_back | fail))
  with_reducible refine wp_reg (id := 5) ?_
  refine wpO_val rfl (load_V (v := .pointer (some ⟨bw,0,none⟩)) rfl rfl (by simp [go_sem]) (((unhide hP).get 1 rfl).cell 0)) ?_
  go_frame
  refine wpO_want rfl ?_
  go_simp
  refine wpO_val rfl (load_V (v := .slice A n c) rfl rfl (by simp [go_sem]) (((unhide hP).get 0 rfl).cell 0)) ?_
  go_frame
  refine wpO_want rfl ?_
  go_simp
  refine (wlen_any A n c wr).mono ?_
  rintro _ y11 ⟨rfl,hxc⟩
  replace hP : Hid (Sp w [] w [] [(bw,211, #[.slice A n c]),(bp,209, #[.pointer (some ⟨bw,0,none⟩)]),(bm,177, #[.map (some mb)]),(br,25,setC N),(bs,25,setC sn),(r8,25,setC 0),(r9,25,setC on)] [(214,2, .slice A n c,n,hs.flatMap encP2)] y11) := hide ((unhide hP).ext hxc)
  clear hxc
  refine ⟨_,rfl, ?_⟩
  try go_frame
  by_cases hpos : 0 < n
  ·skip
   have hpg : (0 : Int) < (n : Int) := by omega
   obtain ⟨m,hm⟩ : ∃ m,hs.length = m + 1 := ⟨hs.length - 1,by have := unhide hn'; omega⟩
   have hm' := hide hm
   clear hm
   refine wpO_want rfl ?_
   go_simp
   refine wpO_done ?_
   try go_frame
   clear hpos hpg
   try dsimp only
   repeat ((fail_if_success (with_reducible refine wp_reg (id := 6) ?_)); (first | go_values | go_skip | go_step | go_guarded | go_upon | go_in | go_back | fail))
   with_reducible refine wp_reg (id := 6) ?_
   refine wpO_val rfl (load_V (v := .pointer (some ⟨bw,0,none⟩)) rfl rfl (by simp [go_sem]) (((unhide hP).get 1 rfl).cell 0)) ?_
   go_frame
   refine wpO_want rfl ?_
   go_simp
   refine wpO_want rfl ?_
   go_simp
   have hca := hpop_any bw hs m _ y11 (Sp.hpj (L2 := [(bp,209, #[.pointer (some ⟨bw,0,none⟩)]),(bm,177, #[.map (some mb)]),(br,25,setC N),(bs,25,setC sn),(r8,25,setC 0),(r9,25,setC on)]) (R2 := []) (unhide hP) (unhide hn')) (unhide hh') (by have := unhide hlen; omega) (unhide hm')
   refine hca.mono ?_
   clear hca
   rintro _ y12 ⟨x,y,h2,hp2,hh2,hmn2,rfl,T2,hj2,hk2,ht2⟩
   obtain ⟨A2,n2,c2,hn2,hP2⟩ := Sp.heap (L2 := [(bp,209, #[.pointer (some ⟨bw,0,none⟩)]),(bm,177, #[.map (some mb)]),(br,25,setC N),(bs,25,setC sn),(r8,25,setC 0),(r9,25,setC on)]) (R2 := []) (unhide hP) hj2 hk2 ht2
   replace hP : Hid (Sp w [] w [] [(bw,211, #[.slice A2 n2 c2]),(bp,209, #[.pointer (some ⟨bw,0,none⟩)]),(bm,177, #[.map (some mb)]),(br,25,setC N),(bs,25,setC sn),(r8,25,setC 0),(r9,25,setC on)] [(214,2, .slice A2 n2 c2,n2,h2.flatMap encP2)] y12) := hide hP2
   have hp2' := hide hp2
   have hh2' := hide hh2
   have hmn2' := hide hmn2
   have hn2' := hide hn2
   have hyN := hide (unhide hR' |>.inN hp2)
   have hyo := hide (okK (toL_rng (unhide hyN)))
   have hl2 := hide (show h2.length ≤ 1060000 by have := hp2.length_eq; have := unhide hlen; simp only [List.length_cons] at *; omega)
   clear hP2 hj2 hk2 ht2 hp2 hh2 hmn2 hn2
   refine ⟨_,rfl, ?_⟩
   try go_frame
   refine wpO_val rfl (run_assertW (v := .agg #[.int .i64 x, .int .i64 y]) rfl rfl) ?_
   go_frame
   generalize htu0 : Value.tuple _ = tu
   have htu := hide htu0
   clear htu0
   refine wpO_val rfl (run_move rfl rfl) ?_
   go_frame
   refine wpO_val rfl (run_extract (i := 0) (v := .agg #[.int .i64 x, .int .i64 y]) rfl (unhide htu).symm rfl) ?_
   go_frame
   refine wpO_val rfl (run_extract (i := 1) (v := .bool true) rfl (unhide htu).symm rfl) ?_
   go_frame
   refine (unhide hP).allocO 214 #[.int .i64 0, .int .i64 0] rfl (by go_simp) ?_
   intro r13 y13 hQ
   replace hP : Hid (Sp w [] w [] [(bw,211, #[.slice A2 n2 c2]),(bp,209, #[.pointer (some ⟨bw,0,none⟩)]),(bm,177, #[.map (some mb)]),(br,25,setC N),(bs,25,setC sn),(r8,25,setC 0),(r9,25,setC on),(r13,214, #[.int .i64 0, .int .i64 0])] [(214,2, .slice A2 n2 c2,n2,h2.flatMap encP2)] y13) := hide hQ
   clear hQ
   refine (unhide hP).setO 7 #[.int .i64 x, .int .i64 y] rfl rfl (fun hb => run_store_row (v := .agg #[.int .i64 x, .int .i64 y]) rfl (by rfl) (by rfl) (by simp [go_sem]) hb rfl (fun u hu => by simp [Value.cells] at hu; rcases hu with rfl | rfl <;> rfl)) ?_
   intro y14 hQ
   replace hP : Hid (Sp w [] w [] [(bw,211, #[.slice A2 n2 c2]),(bp,209, #[.pointer (some ⟨bw,0,none⟩)]),(bm,177, #[.map (some mb)]),(br,25,setC N),(bs,25,setC sn),(r8,25,setC 0),(r9,25,setC on),(r13,214, #[.int .i64 x, .int .i64 y])] [(214,2, .slice A2 n2 c2,n2,h2.flatMap encP2)] y14) := hide hQ
   clear hQ
   refine wpO_want rfl ?_
   go_simp
   refine wpO_done ?_
   try go_frame
   clear htu
   have d0 := (unhide hP).cell 7 0 (v := .int .i64 x) rfl rfl
   have d1 := (unhide hP).cell 7 1 (v := .int .i64 y) rfl rfl
   have hself := Ext.refl y14
   try dsimp only
   repeat ((fail_if_success (with_reducible refine wp_reg (id := 7) ?_)); (first | go_values | go_skip | go_step | go_guarded | go_upon | go_in | go_back | fail))
   with_reducible refine wp_reg (id := 7) ?_
   refine wpO_val rfl (load_SetR (N := sn) rfl rfl ((unhide hP).get 4 rfl).whole) ?_
   iterate 2
    refine wpO_want rfl ?_
    go_simp
   clear d0 d1 hself
   refine wpO_want rfl ?_
   go_simp
   have hca := has_any sn y y14
   rw [has_mem] at hca
   refine hca.mono ?_
   clear hca
   rintro _ y15 ⟨rfl,hxc⟩
   replace hP : Hid (Sp w [] w [] [(bw,211, #[.slice A2 n2 c2]),(bp,209, #[.pointer (some ⟨bw,0,none⟩)]),(bm,177, #[.map (some mb)]),(br,25,setC N),(bs,25,setC sn),(r8,25,setC 0),(r9,25,setC on),(r13,214, #[.int .i64 x, .int .i64 y])] [(214,2, .slice A2 n2 c2,n2,h2.flatMap encP2)] y15) := hide ((unhide hP).ext hxc)
   clear hxc
   obtain ⟨q,hq0⟩ : ∃ q,decide (y ∈ toL sn) = q := ⟨_,rfl⟩
   have hq := hide hq0
   rw [hq0]
   clear hq0
   refine ⟨_,rfl, ?_⟩
   try go_frame
   refine wpO_done ?_
   try go_frame
   cases q
   ·skip
    have hyn := hide (of_decide_eq_false (unhide hq))
    clear hq
    have d0 := (unhide hP).cell 7 0 (v := .int .i64 x) rfl rfl
    have d1 := (unhide hP).cell 7 1 (v := .int .i64 y) rfl rfl
    have hself := Ext.refl y15
    try dsimp only
    repeat ((fail_if_success (with_reducible refine wp_reg (id := 8) ?_)); (first | go_values | go_skip | go_step | go_guarded | go_upon | go_in | go_back | fail))
    with_reducible refine wp_reg (id := 8) ?_
    refine wpO_val rfl (load_SetR (N := sn) rfl rfl ((unhide hP).get 4 rfl).whole) ?_
    iterate 2
     refine wpO_want rfl ?_
     go_simp
    clear d0 d1 hself
    refine wpO_want rfl ?_
    go_simp
    refine (with_any sn y _).mono ?_
    rintro _ y16 ⟨rfl,hxc⟩
    refine ⟨_,rfl, ?_⟩
    replace hP : Hid (Sp w [] w [] [(bw,211, #[.slice A2 n2 c2]),(bp,209, #[.pointer (some ⟨bw,0,none⟩)]),(bm,177, #[.map (some mb)]),(br,25,setC N),(bs,25,setC sn),(r8,25,setC 0),(r9,25,setC on),(r13,214, #[.int .i64 x, .int .i64 y])] [(214,2, .slice A2 n2 c2,n2,h2.flatMap encP2)] y16) := hide ((unhide hP).ext hxc)
    clear hxc
    refine (unhide hP).setO 4 (setC (withS sn y)) rfl rfl (fun hb => store_SetR (N := withS sn y) rfl rfl rfl hb) ?_
    intro y17 hQ
    replace hP : Hid (Sp w [] w [] [(bw,211, #[.slice A2 n2 c2]),(bp,209, #[.pointer (some ⟨bw,0,none⟩)]),(bm,177, #[.map (some mb)]),(br,25,setC N),(bs,25,setC (withS sn y)),(r8,25,setC 0),(r9,25,setC on),(r13,214, #[.int .i64 x, .int .i64 y])] [(214,2, .slice A2 n2 c2,n2,h2.flatMap encP2)] y17) := hide hQ
    clear hQ
    refine wpO_done ?_
    try go_frame
    have d0 := (unhide hP).cell 7 0 (v := .int .i64 x) rfl rfl
    have d1 := (unhide hP).cell 7 1 (v := .int .i64 y) rfl rfl
    have hself := Ext.refl y17
    try dsimp only
    repeat ((fail_if_success (with_reducible refine wp_reg (id := 9) ?_)); (first | go_values | go_skip | go_step | go_guarded | go_upon | go_in | go_back | fail))
    with_reducible refine wp_reg (id := 9) ?_
    iterate 5
     refine wpO_want rfl ?_
     go_simp
    obtain ⟨k,hk0⟩ : ∃ k,k = nC C y := ⟨_,rfl⟩
    have hk' := hide hk0
    clear hk0
    refine wpO_val rfl (run_lookup1_op (z0 := 0) keV Tryz.underlying178 ((unhide hC').ext (unhide hP).extf) (zeroN _) (unhide hyo) rfl rfl rfl) ?_
    rw [show (lookM C y).getD 0 = k from (unhide hk').symm]
    simp only [evN]
    go_frame
    obtain ⟨q2,hq20⟩ : ∃ q,decide (x < (k : Int)) = q := ⟨_,rfl⟩
    have hq2 := hide hq20
    refine wpO_want rfl ?_
    go_simp
    try rw [hq20]
    clear hq20
    refine wpO_done ?_
    try go_frame
    clear d0 d1 hself
    cases q2
    ·skip
     have d0 := (unhide hP).cell 7 0 (v := .int .i64 x) rfl rfl
     have d1 := (unhide hP).cell 7 1 (v := .int .i64 y) rfl rfl
     have hself := Ext.refl y17
     try dsimp only
     repeat ((fail_if_success (with_reducible refine wp_reg (id := 11) ?_)); (first | go_values | go_skip | go_step | go_guarded | go_upon | go_in | go_back | fail))
     with_reducible refine wp_reg (id := 11) ?_
     iterate 6
      refine wpO_want rfl ?_
      go_simp
     refine wpO_val rfl (run_lookup1_op (z0 := 0) keV Tryz.underlying178 ((unhide hC').ext (unhide hP).extf) (zeroN _) (unhide hyo) rfl rfl rfl) ?_
     rw [show (lookM C y).getD 0 = k from (unhide hk').symm]
     simp only [evN]
     go_frame
     obtain ⟨mx,hmx0⟩ : ∃ m,m = max x (k : Int) := ⟨_,rfl⟩
     have hmx := hide hmx0
     refine wpO_want rfl ?_
     go_simp
     rw [← hmx0]
     clear hmx0
     iterate 2
      refine wpO_want rfl ?_
      go_simp
     clear d0 d1 hself
     refine wpO_want rfl ?_
     go_simp
     have hca := rstep_any w bw bp bm br bs mb N (withS sn y) M h2 mx y A2 n2 c2 y17 ((unhide hP).st.sub (List.sublist_append_left _ ([(r8,25,setC 0),(r9,25,setC on),(r13,214, #[.int .i64 x, .int .i64 y])] : List Cl)) (List.Sublist.refl _)) (unhide hP).extf (unhide hT') (unhide hM') (unhide hyo) (unhide hn2') (unhide hh2') (by have := unhide hl2; omega)
     refine hca.mono ?_
     clear hca
     rintro _ y18 ⟨rfl,A3,n3,c3,h3,hn9,hp9,hh9,hs9,hk9,ht9⟩
     replace hP : Hid (Sp w [] w [] [(bw,211, #[.slice A3 n3 c3]),(bp,209, #[.pointer (some ⟨bw,0,none⟩)]),(bm,177, #[.map (some mb)]),(br,25,setC N),(bs,25,setC (withS sn y)),(r8,25,setC 0),(r9,25,setC on),(r13,214, #[.int .i64 x, .int .i64 y])] [(214,2, .slice A3 n3 c3,n3,h3.flatMap encP2)] y18) := hide (Sp.frame (L2 := [(r8,25,setC 0),(r9,25,setC on),(r13,214, #[.int .i64 x, .int .i64 y])]) (R2 := []) (unhide hP) hs9 hk9 ht9)
     have hnN := hide hn9
     have hpN := hide hp9
     have hhN := hide hh9
     clear hs9 hk9 ht9 hn9 hp9 hh9
     refine ⟨_,rfl, ?_⟩
     try go_frame
     refine wpO_done ?_
     try go_frame
     replace hP : Hid (Sp w [] w [] [(bw,211, #[.slice A3 n3 c3]),(bp,209, #[.pointer (some ⟨bw,0,none⟩)]),(bm,177, #[.map (some mb)]),(br,25,setC N),(bs,25,setC (withS sn y)),(r8,25,setC 0),(r9,25,setC on)] [(214,2, .slice A3 n3 c3,n3,h3.flatMap encP2)] y18) := hide ((unhide hP).sub (List.sublist_append_left _ ([(r13,214, #[.int .i64 x, .int .i64 y])] : List Cl)) (List.Sublist.refl _))
     go_wp2_with fail
     obtain ⟨hR9,hm9⟩ := (unhide hR').take (h3 := h3) (on' := on) (unhide hp2') (unhide hmn2') (unhide hyn) (fun u hu => (unhide hnr') y (.inr (unhide hyN)) u hu) (by rw [← unhide hk', ← unhide hmx]; exact unhide hpN) (by rw [← unhide hk']; rw [if_neg (of_decide_eq_false (unhide hq2))])
     have hR9' := hide hR9
     have hm9' := hide hm9
     clear hR9 hm9
     refine ⟨rMeas N (withS sn y) h3, ?_,by have := unhide hm9'; have := unhide hfm'; omega⟩
     rw [unhide hI10_2]
     exact ⟨A3,n3,c3,h3,withS sn y,on,(by first | rfl | trivial),(by first | rfl | trivial),(by first | rfl | trivial),(by first | rfl | trivial),(by first | rfl | trivial),(by first | rfl | trivial),(by first | rfl | trivial),(by first | rfl | trivial),unhide hnN,unhide hhN,unhide hR9',(by have := unhide hm9'; have := unhide hfm'; have := unhide hb'; omega),unhide hP,rfl⟩
    ·skip
     have d0 := (unhide hP).cell 7 0 (v := .int .i64 x) rfl rfl
     have d1 := (unhide hP).cell 7 1 (v := .int .i64 y) rfl rfl
     have hself := Ext.refl y17
     try dsimp only
     repeat ((fail_if_success (with_reducible refine wp_reg (id := 10) ?_)); (first | go_values | go_skip | go_step | go_guarded | go_upon | go_in | go_back | fail))
     with_reducible refine wp_reg (id := 10) ?_
     refine wpO_val rfl (load_SetR (N := on) rfl rfl ((unhide hP).get 6 rfl).whole) ?_
     iterate 2
      refine wpO_want rfl ?_
      go_simp
     clear d0 d1 hself
     refine wpO_want rfl ?_
     go_simp
     refine (with_any on y _).mono ?_
     rintro _ y18 ⟨rfl,hxc⟩
     refine ⟨_,rfl, ?_⟩
     replace hP : Hid (Sp w [] w [] [(bw,211, #[.slice A2 n2 c2]),(bp,209, #[.pointer (some ⟨bw,0,none⟩)]),(bm,177, #[.map (some mb)]),(br,25,setC N),(bs,25,setC (withS sn y)),(r8,25,setC 0),(r9,25,setC on),(r13,214, #[.int .i64 x, .int .i64 y])] [(214,2, .slice A2 n2 c2,n2,h2.flatMap encP2)] y18) := hide ((unhide hP).ext hxc)
     clear hxc
     refine (unhide hP).setO 6 (setC (withS on y)) rfl rfl (fun hb => store_SetR (N := withS on y) rfl rfl rfl hb) ?_
     intro y19 hQ
     replace hP : Hid (Sp w [] w [] [(bw,211, #[.slice A2 n2 c2]),(bp,209, #[.pointer (some ⟨bw,0,none⟩)]),(bm,177, #[.map (some mb)]),(br,25,setC N),(bs,25,setC (withS sn y)),(r8,25,setC 0),(r9,25,setC (withS on y)),(r13,214, #[.int .i64 x, .int .i64 y])] [(214,2, .slice A2 n2 c2,n2,h2.flatMap encP2)] y19) := hide hQ
     clear hQ
     refine wpO_done ?_
     try go_frame
     have d0 := (unhide hP).cell 7 0 (v := .int .i64 x) rfl rfl
     have d1 := (unhide hP).cell 7 1 (v := .int .i64 y) rfl rfl
     have hself := Ext.refl y19
     try dsimp only
     repeat ((fail_if_success (with_reducible refine wp_reg (id := 11) ?_)); (first | go_values | go_skip | go_step | go_guarded | go_upon | go_in | go_back | fail))
     with_reducible refine wp_reg (id := 11) ?_
     iterate 6
      refine wpO_want rfl ?_
      go_simp
     refine wpO_val rfl (run_lookup1_op (z0 := 0) keV Tryz.underlying178 ((unhide hC').ext (unhide hP).extf) (zeroN _) (unhide hyo) rfl rfl rfl) ?_
     rw [show (lookM C y).getD 0 = k from (unhide hk').symm]
     simp only [evN]
     go_frame
     obtain ⟨mx,hmx0⟩ : ∃ m,m = max x (k : Int) := ⟨_,rfl⟩
     have hmx := hide hmx0
     refine wpO_want rfl ?_
     go_simp
     rw [← hmx0]
     clear hmx0
     iterate 2
      refine wpO_want rfl ?_
      go_simp
     clear d0 d1 hself
     refine wpO_want rfl ?_
     go_simp
     have hca := rstep_any w bw bp bm br bs mb N (withS sn y) M h2 mx y A2 n2 c2 y19 ((unhide hP).st.sub (List.sublist_append_left _ ([(r8,25,setC 0),(r9,25,setC (withS on y)),(r13,214, #[.int .i64 x, .int .i64 y])] : List Cl)) (List.Sublist.refl _)) (unhide hP).extf (unhide hT') (unhide hM') (unhide hyo) (unhide hn2') (unhide hh2') (by have := unhide hl2; omega)
     refine hca.mono ?_
     clear hca
     rintro _ y20 ⟨rfl,A3,n3,c3,h3,hn9,hp9,hh9,hs9,hk9,ht9⟩
     replace hP : Hid (Sp w [] w [] [(bw,211, #[.slice A3 n3 c3]),(bp,209, #[.pointer (some ⟨bw,0,none⟩)]),(bm,177, #[.map (some mb)]),(br,25,setC N),(bs,25,setC (withS sn y)),(r8,25,setC 0),(r9,25,setC (withS on y)),(r13,214, #[.int .i64 x, .int .i64 y])] [(214,2, .slice A3 n3 c3,n3,h3.flatMap encP2)] y20) := hide (Sp.frame (L2 := [(r8,25,setC 0),(r9,25,setC (withS on y)),(r13,214, #[.int .i64 x, .int .i64 y])]) (R2 := []) (unhide hP) hs9 hk9 ht9)
     have hnN := hide hn9
     have hpN := hide hp9
     have hhN := hide hh9
     clear hs9 hk9 ht9 hn9 hp9 hh9
     refine ⟨_,rfl, ?_⟩
     try go_frame
     refine wpO_done ?_
     try go_frame
     replace hP : Hid (Sp w [] w [] [(bw,211, #[.slice A3 n3 c3]),(bp,209, #[.pointer (some ⟨bw,0,none⟩)]),(bm,177, #[.map (some mb)]),(br,25,setC N),(bs,25,setC (withS sn y)),(r8,25,setC 0),(r9,25,setC (withS on y))] [(214,2, .slice A3 n3 c3,n3,h3.flatMap encP2)] y20) := hide ((unhide hP).sub (List.sublist_append_left _ ([(r13,214, #[.int .i64 x, .int .i64 y])] : List Cl)) (List.Sublist.refl _))
     go_wp2_with fail
     obtain ⟨hR9,hm9⟩ := (unhide hR').take (h3 := h3) (on' := withS on y) (unhide hp2') (unhide hmn2') (unhide hyn) (fun u hu => (unhide hnr') y (.inr (unhide hyN)) u hu) (by rw [← unhide hk', ← unhide hmx]; exact unhide hpN) (by rw [← unhide hk']; rw [if_pos (of_decide_eq_true (unhide hq2))])
     have hR9' := hide hR9
     have hm9' := hide hm9
     clear hR9 hm9
     refine ⟨rMeas N (withS sn y) h3, ?_,by have := unhide hm9'; have := unhide hfm'; omega⟩
     rw [unhide hI10_2]
     exact ⟨A3,n3,c3,h3,withS sn y,withS on y,(by first | rfl | trivial),(by first | rfl | trivial),(by first | rfl | trivial),(by first | rfl | trivial),(by first | rfl | trivial),(by first | rfl | trivial),(by first | rfl | trivial),(by first | rfl | trivial),unhide hnN,unhide hhN,unhide hR9',(by have := unhide hm9'; have := unhide hfm'; have := unhide hb'; omega),unhide hP,rfl⟩
   ·skip
    replace hP : Hid (Sp w [] w [] [(bw,211, #[.slice A2 n2 c2]),(bp,209, #[.pointer (some ⟨bw,0,none⟩)]),(bm,177, #[.map (some mb)]),(br,25,setC N),(bs,25,setC sn),(r8,25,setC 0),(r9,25,setC on)] [(214,2, .slice A2 n2 c2,n2,h2.flatMap encP2)] y15) := hide ((unhide hP).sub (List.sublist_append_left _ ([(r13,214, #[.int .i64 x, .int .i64 y])] : List Cl)) (List.Sublist.refl _))
    go_wp2_with fail
    obtain ⟨hR9,hm9⟩ := (unhide hR').skip (unhide hp2') (of_decide_eq_true (unhide hq))
    have hR9' := hide hR9
    have hm9' := hide hm9
    clear hR9 hm9
    refine ⟨rMeas N sn h2, ?_,by have := unhide hm9'; have := unhide hfm'; omega⟩
    rw [unhide hI10_2]
    exact ⟨A2,n2,c2,h2,sn,on,(by first | rfl | trivial),(by first | rfl | trivial),(by first | rfl | trivial),(by first | rfl | trivial),(by first | rfl | trivial),(by first | rfl | trivial),(by first | rfl | trivial),(by first | rfl | trivial),unhide hn2',unhide hh2',unhide hR9',(by have := unhide hm9'; have := unhide hfm'; have := unhide hb'; omega),unhide hP,rfl⟩
  ·skip
   have hng : ¬ (0 : Int) < (n : Int) := by omega
   have hng2 : ¬ 0 < n := hpos
   obtain rfl : hs = [] := by
    have := unhide hn'
    exact List.eq_nil_of_length_eq_zero (by omega)
   clear hpos
   refine wpO_want rfl ?_
   go_simp
   refine wpO_done ?_
   try go_frame
   clear hng hng2
   try dsimp only
   repeat ((fail_if_success (with_reducible refine wp_reg (id := 12) ?_)); (first | go_values | go_skip | go_step | go_guarded | go_upon | go_in | go_back | fail))
   with_reducible refine wp_reg (id := 12) ?_
   refine wpO_val rfl (load_SetR (N := on) rfl rfl ((unhide hP).get 6 rfl).whole) ?_
   refine (unhide hP).setO 5 (setC on) rfl rfl (fun hb => store_SetR (N := on) rfl rfl rfl hb) ?_
   intro y12 hQ
   replace hP : Hid (Sp w [] w [] [(bw,211, #[.slice A n c]),(bp,209, #[.pointer (some ⟨bw,0,none⟩)]),(bm,177, #[.map (some mb)]),(br,25,setC N),(bs,25,setC sn),(r8,25,setC on),(r9,25,setC on)] [(214,2, .slice A n c,n,([] : List (Int × Int)).flatMap encP2)] y12) := hide hQ
   clear hQ
   refine wpO_done ?_
   try go_frame
   go_wp2_with fail
   have hfin := (unhide hR').done (unhide hi') (unhide hz')
   refine Sp.leaves0 ?_
   refine ⟨_,ret_cell1 rfl rfl (load_Set _ _ _ ((unhide hP).get 5 rfl)), ?_⟩
   rw [← hfin]
   exact ⟨rfl,(unhide hP).extf⟩
end Go.Proofs.YtmokciekndllpaaGreatDoor
