/- Parts of a proof, laid together. Each part says its own conditions. -/
import Derived.Test.YtmokciekndllpaaGreatDoorC24
import Derived.Test.YtmokciekndllpaaGreatDoorC26
import Derived.Test.YtmokciekndllpaaGreatDoorC27
namespace Go.Proofs.YtmokciekndllpaaGreatDoor
open Go Go.RowKit Go.Shelf
attribute [local go_sem] qUpon lUpon
attribute [local irreducible] wpO wpX wpQL
section
variable {wf w W W' : World} {T0 : List Nat} {ds : List Deferred} {L2 : List Cl} {R2 : List Rw} {bw n c : Nat} {A : Option Addr} {hs : List (Int × Int)}
theorem Sp.hpj (h : Sp wf T0 w ds (hpL bw A n c ++ L2) (hpR A n c hs ++ R2) W) (hn : n = hs.length) : HpJ bw hs (stT (hpL bw A n c) (hpR A n c hs)) W := ⟨A,n,c,hn,(h.st.sub (List.sublist_append_left _ _) (List.sublist_append_left _ _)).down,rfl⟩
theorem Sp.heap (h : Sp wf T0 w ds (hpL bw A n c ++ L2) (hpR A n c hs ++ R2) W) {hs' : List (Int × Int)} {T' : List Nat} (hj : HpJ bw hs' T' W') (hk : Keep (stT (hpL bw A n c) (hpR A n c hs)) W W') (ht : ∀ x ∈ T',x ∈ stT (hpL bw A n c) (hpR A n c hs) ∨ W.heap.size ≤ x) : ∃ A' n' c',n' = hs'.length ∧ Sp wf T0 w ds (hpL bw A' n' c' ++ L2) (hpR A' n' c' hs' ++ R2) W' := by
 obtain ⟨A',n',c',h1,h2,rfl⟩ := hj
 refine ⟨A',n',c',h1,h.frame (h2.up fun x hx => ?_) hk ht⟩
 have hsz := h.size
 rcases ht x hx with h9 | h9
 ·exact (h.st.sub (List.sublist_append_left _ _) (List.sublist_append_left _ _)).ge x h9
 ·omega
end
def rsL (bw bp bm br bs mb N sn : Nat) (A : Option Addr) (n c : Nat) : List Cl := [(bw,211, #[.slice A n c]),(bp,209, #[.pointer (some ⟨bw,0,none⟩)]),(bm,177, #[.map (some mb)]),(br,25,setC N),(bs,25,setC sn)]
def onW (M : List (Int × Nat)) (N sn : Nat) (cost id : Int) : List (Int × Int) := (toL (minusS (nrM M id &&& N) sn)).map fun y => (cost,y)
def StepPost (wf : World) (bw bp bm br bs mb N sn : Nat) (M : List (Int × Nat)) (hs : List (Int × Int)) (cost id : Int) (T : List Nat) (w : World) (e : Ending) (w' : World) : Prop := e = .returned (.tuple #[]) ∧ ∃ A n c hs',n = hs'.length ∧ hs'.Perm (hs ++ onW M N sn cost id) ∧ HeapN hs' hs'.length ∧ St wf.heap.size (rsL bw bp bm br bs mb N sn A n c) (hpR A n c hs') w' ∧ Keep T w w' ∧ tIn T w.heap.size (stT (rsL bw bp bm br bs mb N sn A n c) (hpR A n c hs'))
set_option maxRecDepth 100000 in
set_option maxHeartbeats 16000000 in
theorem rstep_any (wf : World) (bw bp bm br bs mb N sn : Nat) (M : List (Int × Nat)) (hs : List (Int × Int)) (cost id : Int) (A : Option Addr) (n c : Nat) (w : World) (hst : St wf.heap.size (rsL bw bp bm br bs mb N sn A n c) (hpR A n c hs) w) (hx : Ext wf w) (hT : Tab wf) (hM : MapIs ekV evS i64ok wf mb M) (hid : i64ok id) (hn : n = hs.length) (hh : HeapN hs hs.length) (hb : hs.length ≤ 1400000) :
  Calls Tryz.prog 170 #[.int .i64 cost, .int .i64 id, .pointer (some ⟨bm,0,none⟩), .pointer (some ⟨br,0,none⟩), .pointer (some ⟨bs,0,none⟩), .pointer (some ⟨bp,0,none⟩)] w (StepPost wf bw bp bm br bs mb N sn M hs cost id (stT (rsL bw bp bm br bs mb N sn A n c) (hpR A n c hs)) w) := by
 have hP := hide (Sp.ofS hst hx)
 obtain ⟨T,hT0⟩ : ∃ T,T = stT (rsL bw bp bm br bs mb N sn A n c) (hpR A n c hs) := ⟨_,rfl⟩
 rw [← hT0] at hP ⊢
 unfold rsL hpR at hP
 have hT' := hide hT
 have hM' := hide hM
 have hid' := hide hid
 have hn' := hide hn
 have hh' := hide hh
 have hb' := hide hb
 obtain ⟨NR,hNR⟩ : ∃ NR,NR = nrM M id := ⟨_,rfl⟩
 have hNR' := hide hNR
 have hon := hide (show onW M N sn cost id = (toL (minusS (NR &&& N) sn)).map fun y => (cost,y) by rw [hNR]; rfl)
 clear hst hx hT hM hid hn hh hb hT0 hNR
 refine callsIn_wide.1 (callsIn_of_wp_marks (n := 0) Tryz.func170 rfl trivial (wpIn_wide.2 ?_))
 simp only [Tryz.ntmps170,List.size_toArray,List.length_cons,List.length_nil,Nat.reduceAdd,Nat.reduceSub,Array.replicate_succ,Array.replicate_zero,List.push_toArray,List.append_toArray,List.nil_append,List.cons_append]
 try dsimp only
 repeat ((fail_if_success (with_reducible refine wp_reg (id := 0) ?_)); (first | go_values | go_skip | go_step | go_guarded | go_upon | go_in | go_back | fail))
 with_reducible refine wp_reg (id := 0) ?_
 refine (unhide hP).allocO 3 #[.int .i64 cost] rfl (run_box (v := .int .i64 cost) rfl rfl) ?_
 intro r6 y1 hQ
 replace hP : Hid (Sp wf T w [] [(bw,211, #[.slice A n c]),(bp,209, #[.pointer (some ⟨bw,0,none⟩)]),(bm,177, #[.map (some mb)]),(br,25,setC N),(bs,25,setC sn),(r6,3, #[.int .i64 cost])] [(214,2, .slice A n c,n,hs.flatMap encP2)] y1) := hide hQ
 clear hQ
 refine wpO_done ?_
 try go_frame
 go_wp2_with fail
 refine wp_regionK (P := Tryz.prog) [] [0,1,2,3,4,5,6] [7] 1 #[true,true,true,true,true,true,true,false] (by kernel_rfl) (by kernel_rfl) rfl (by rfl) ?_
 refine ql_want (v := .map (some mb)) rfl (by rfl) (fun W hW => qUpon_ofX (load_V rfl rfl (by simp [go_sem]) ((unhide hP).cellK 2 0 rfl rfl (by simp) W hW))) ?_
 go_frame
 iterate 1
  refine ql_want (v := ?_) rfl (by rfl) (fun W hW => ?_) ?_
  rotate_left
  ·go_simp
   first | done | rfl
  go_frame
 refine ql_want (v := .agg (setC NR)) rfl (by rfl) (fun W hW => qUpon_ofX ?_) ?_
 ·rw [unhide hNR']
  exact run_lookup1_op (z0 := 0) keV Tryz.underlying177 ((unhide hM').ext ((unhide hP).extf.trans (Ext.of_keep0 hW))) (zeroS _) (unhide hid') rfl rfl rfl
 go_frame
 refine ql_want (v := .agg (setC N)) rfl (by rfl) (fun W hW => qUpon_ofX (load_SetR rfl rfl ((unhide hP).wholeK 3 rfl hW (by simp)))) ?_
 go_frame
 refine ql_want (v := .agg (setC (NR &&& N))) rfl (by rfl) (fun W hW => ?_) ?_
 ·go_simp
  refine (inter_any NR N W).mono ?_
  rintro _ _ ⟨h1,h2⟩
  exact ⟨_,h1,rfl,h2⟩
 go_frame
 refine ql_want (v := .agg (setC sn)) rfl (by rfl) (fun W hW => qUpon_ofX (load_SetR rfl rfl ((unhide hP).wholeK 4 rfl hW (by simp)))) ?_
 go_frame
 refine ql_want (v := .agg (setC (minusS (NR &&& N) sn))) rfl (by rfl) (fun W hW => ?_) ?_
 ·go_simp
  refine (minus_any (NR &&& N) sn W).mono ?_
  rintro _ _ ⟨h1,h2⟩
  exact ⟨_,h1,rfl,h2⟩
 go_frame
 refine wpQL_nil (fun y2 hxq => ?_)
 replace hP : Hid (Sp wf T w [] [(bw,211, #[.slice A n c]),(bp,209, #[.pointer (some ⟨bw,0,none⟩)]),(bm,177, #[.map (some mb)]),(br,25,setC N),(bs,25,setC sn),(r6,3, #[.int .i64 cost])] [(214,2, .slice A n c,n,hs.flatMap encP2)] y2) := hide ((unhide hP).ext hxq)
 clear hxq
 obtain ⟨X,hX⟩ : ∃ X,X = minusS (NR &&& N) sn := ⟨_,rfl⟩
 rw [← hX]
 rw [← hX] at hon
 clear hX
 refine lx_one (i := 7) (by kernel_rfl) rfl (by rfl) #[true,true,true,true,true,true,true,true] (by rfl) ?_
 go_simp
 refine (all_ext X _).mono ?_
 rintro _ zy3 ⟨ba,rfl,hBa0,hxc⟩
 refine ⟨_,rfl,fun y3 hxd => ?_⟩
 replace hP : Hid (Sp wf T w [] [(bw,211, #[.slice A n c]),(bp,209, #[.pointer (some ⟨bw,0,none⟩)]),(bm,177, #[.map (some mb)]),(br,25,setC N),(bs,25,setC sn),(r6,3, #[.int .i64 cost])] [(214,2, .slice A n c,n,hs.flatMap encP2)] y3) := hide ((unhide hP).ext (hxc.trans hxd))
 have hBa := hide (hBa0.ext hxd)
 clear hxc hxd hBa0
 try go_frame
 refine wpX_done (by kernel_rfl) ?_
 try go_frame
 go_wp2_with fail
 have hsz9 := hide (unhide hP).keep.size
 refine wp_rngM (gf := 109) (lb := #[.pointer (some ⟨ba,0,none⟩)]) (unhide hP) rfl (enters_of Tryz.func109 (by kernel_rfl) rfl) (ex := [0]) ((unhide hP).tab (unhide hT')) (all_iter X ba y3 (unhide hBa) ((unhide hT').ext (unhide hP).extf)) (fun _ => rfl)
  (fun pre L' Rs' => ∃ A2 n2 c2 h2,n2 = List.length h2 ∧ h2.Perm (hs ++ pre.map fun y => (cost,y)) ∧ HeapN h2 h2.length ∧ L' = [(bw,211, #[.slice A2 n2 c2]),(bp,209, #[.pointer (some ⟨bw,0,none⟩)]),(bm,177, #[.map (some mb)]),(br,25,setC N),(bs,25,setC sn),(r6,3, #[.int .i64 cost])] ∧ Rs' = [(214,2, .slice A2 n2 c2,n2,h2.flatMap encP2)])
  (fun _ _ _ => False)
  (fun tm _ v a1 _ => a1 = ⟨(tm.setIfInBounds 17 (.int .i64 v)).setIfInBounds 8 (.int .i64 v),[]⟩)
  (fun _ _ _ _ _ h _ => h) ⟨A,n,c,hs,unhide hn',by simp,unhide hh',rfl,rfl⟩ ?_ ?_ ?_ ?_
 ·intro T' v W' K hlt' hsz hK
  have hK' := hide hK
  have hlt2 := hide hlt'
  have hsz2 := hide hsz
  clear hK hlt' hsz
  rw [zip1]
  simp only [List.setIfInBounds_toArray,List.set_cons_succ,List.set_cons_zero]
  try dsimp only
  repeat ((fail_if_success (with_reducible refine wpI_reg (id := 2) (by kernel_rfl) ?_)); (first | go_values | gi_step | gi_guarded | gi_upon | gi_in | gi_back | fail))
  with_reducible refine wpI_reg (id := 2) (by kernel_rfl) ?_
  refine wpO_want rfl ?_
  go_simp
  refine wpO_done ?_
  try go_frame
  exact unhide hK' _ _ rfl (Ext.refl _)
 ·rintro l pre v a1 L' Rs' W' ⟨A2,n2,c2,h2,hn2,hp2,hh2,rfl,rfl⟩ hB0 rfl hpx hl hkW htW
  simp only [List.setIfInBounds_toArray,List.set_cons_succ,List.set_cons_zero]
  have hlen := hide (show h2.length ≤ 1450000 by
   have h1 := hp2.length_eq
   rw [List.length_append,List.length_map] at h1
   have h3 := hpx.length_le
   rw [List.length_append] at h3
   have h4 := toL_len X
   have := unhide hb'
   omega)
  have hn2' := hide hn2
  have hp2' := hide hp2
  have hh2' := hide hh2
  have hB : Hid (Sp wf (stT [(bw,211, #[.slice A2 n2 c2]),(bp,209, #[.pointer (some ⟨bw,0,none⟩)]),(bm,177, #[.map (some mb)]),(br,25,setC N),(bs,25,setC sn),(r6,3, #[.int .i64 cost])] [(214,2, .slice A2 n2 c2,n2,h2.flatMap encP2)]) W' [] [(bw,211, #[.slice A2 n2 c2]),(bp,209, #[.pointer (some ⟨bw,0,none⟩)]),(bm,177, #[.map (some mb)]),(br,25,setC N),(bs,25,setC sn),(r6,3, #[.int .i64 cost])] [(214,2, .slice A2 n2 c2,n2,h2.flatMap encP2)] W') := hide hB0
  clear hB0 hpx hl hkW htW hn2 hp2 hh2
  try dsimp only
  repeat ((fail_if_success (with_reducible refine wpI_reg (id := 3) (by kernel_rfl) ?_)); (first | go_values | gi_step | gi_guarded | gi_upon | gi_in | gi_back | fail))
  with_reducible refine wpI_reg (id := 3) (by kernel_rfl) ?_
  refine wpO_val rfl (load_V (v := .pointer (some ⟨bw,0,none⟩)) rfl rfl (by simp [go_sem]) (((unhide hB).get 1 rfl).cell 0)) ?_
  go_frame
  refine wpO_want rfl ?_
  go_simp
  refine wpO_val rfl (load_V (v := .int .i64 cost) rfl rfl (by simp [go_sem]) (((unhide hB).get 5 rfl).cell 0)) ?_
  go_frame
  iterate 3
   refine wpO_want rfl ?_
   go_simp
  refine wpO_want rfl ?_
  go_simp
  have hca := hpush_any bw h2 cost v _ W' (Sp.hpj (L2 := [(bp,209, #[.pointer (some ⟨bw,0,none⟩)]),(bm,177, #[.map (some mb)]),(br,25,setC N),(bs,25,setC sn),(r6,3, #[.int .i64 cost])]) (R2 := []) (unhide hB) (unhide hn2')) (unhide hh2') (by have := unhide hlen; omega)
  refine hca.mono ?_
  clear hca
  rintro _ W2 ⟨rfl,h3,hp3,hh3,T3,hj3,hk3,ht3⟩
  obtain ⟨A3,n3,c3,hn3,hB3⟩ := Sp.heap (L2 := [(bp,209, #[.pointer (some ⟨bw,0,none⟩)]),(bm,177, #[.map (some mb)]),(br,25,setC N),(bs,25,setC sn),(r6,3, #[.int .i64 cost])]) (R2 := []) (unhide hB) hj3 hk3 ht3
  refine ⟨_,rfl, ?_⟩
  have hB3' := hide hB3
  have hfin := hide (show n3 = h3.length ∧ h3.Perm (hs ++ (pre ++ [v]).map fun y => (cost,y)) ∧ HeapN h3 h3.length from ⟨hn3,by rw [List.map_append, ← List.append_assoc]; exact hp3.trans ((unhide hp2').append_right _),hh3⟩)
  clear hB3 hj3 hk3 ht3 hn3 hp3 hh3 hB
  refine wpO_done ?_
  try go_frame
  gi_wp2_with fail
  exact ⟨_,_,⟨A3,n3,c3,h3,(unhide hfin).1,(unhide hfin).2.1,(unhide hfin).2.2,rfl,rfl⟩,unhide hB3'⟩
 ·rintro D L' Rs' W' hD0 ⟨A2,n2,c2,h2,hn2,hp2,hh2,rfl,rfl⟩ hkW hP0
  have hDD : w.heap.size ≤ D := Nat.le_trans (unhide hsz9) hD0
  obtain ⟨ds2,hds2⟩ : ∃ ds2,ds2 = ({ target := .collected D,args := #[] } :: [] : List Deferred) := ⟨_,rfl⟩
  rw [← hds2] at hP0 ⊢
  have hds := hide (And.intro hds2 hDD)
  have hn2' := hide hn2
  have hp2' := hide hp2
  have hh2' := hide hh2
  clear hP
  have hP : Hid (Sp wf T w ds2 [(bw,211, #[.slice A2 n2 c2]),(bp,209, #[.pointer (some ⟨bw,0,none⟩)]),(bm,177, #[.map (some mb)]),(br,25,setC N),(bs,25,setC sn),(r6,3, #[.int .i64 cost])] [(214,2, .slice A2 n2 c2,n2,h2.flatMap encP2)] W') := hide hP0
  clear hkW hBa hD0 hDD hds2 hP0 hn2 hp2 hh2
  go_wp2_with fail
  have hmk : Marks w.heap.size ds2 W' := by
   have h := (unhide hP).marks
   have h2 := (unhide hds).2
   rw [(unhide hds).1] at h ⊢
   exact h.upD h2
  have htin := hide (unhide hP).tin
  refine (unhide hP).leavesG hmk ?_
  intro w' hx hst
  refine ⟨_,results_none rfl _ _ _,rfl,A2,n2,c2,h2,unhide hn2',by rw [unhide hon]; exact unhide hp2',unhide hh2',hst.sub (List.sublist_append_left _ ([(r6,3, #[.int .i64 cost])] : List Cl)) (List.Sublist.refl _),hx,fun x hx9 => unhide htin x (stT_sub (List.sublist_append_left _ ([(r6,3, #[.int .i64 cost])] : List Cl)) (List.Sublist.refl _) x hx9)⟩
 ·intro D c L' Rs' W' h
  exact h.elim
end Go.Proofs.YtmokciekndllpaaGreatDoor
namespace Go.Proofs.YtmokciekndllpaaGreatDoor
section
variable {A : Int → Int → Prop} {S : Int → Prop} {c : Int → Nat} {z : Int}
def Way (A : Int → Int → Prop) (S : Int → Prop) (c : Int → Nat) (z : Int) (q : Int) (y : Int) : Prop := Rch A (fun x => S x ∧ (c x : Int) ≤ q) z y
structure RInv (A : Int → Int → Prop) (S : Int → Prop) (c : Int → Nat) (z : Int) (H : List (Int × Int)) (seen out : Int → Prop) (d : Int → Int) : Prop where
 way : ∀ p ∈ H,S p.2 ∧ Way A S c z p.1 p.2 ∧ -1 ≤ p.1
 got : ∀ v,seen v → S v ∧ Way A S c z (d v) v ∧ (out v ↔ d v < c v) ∧ (∀ q, -1 ≤ q → Way A S c z q v → d v ≤ q) ∧ -1 ≤ d v
 sub : ∀ v,out v → seen v
 one : ∀ y,S y → ¬ seen y → A z y → ∃ p ∈ H,p.2 = y ∧ p.1 ≤ -1
 nxt : ∀ y,S y → ¬ seen y → ∀ v,seen v → A v y → ∃ p ∈ H,p.2 = y ∧ p.1 ≤ max (d v) (c v)
theorem Rch.lastZ {S : Int → Prop} {u v : Int} (h : Rch A S u v) : A u v ∨ ∃ a,S a ∧ Rch A S u a ∧ A a v := by
 induction h with
 | edge h => exact .inl h
 | step h hs _ ih =>
  rcases ih with ih | ⟨a,h5,h6,h7⟩
  ·exact .inr ⟨_,hs, .edge h,ih⟩
  ·exact .inr ⟨a,h5, .step h hs h6,h7⟩
theorem RInv.start {H : List (Int × Int)} (h : ∀ p,p ∈ H ↔ p.1 = -1 ∧ S p.2 ∧ A z p.2) : RInv A S c z H (fun _ => False) (fun _ => False) (fun _ => 0) where
 way p hp := by
  obtain ⟨h1,h2,h3⟩ := (h p).1 hp
  exact ⟨h2, .edge h3,by omega⟩
 got v hv := hv.elim
 sub v hv := hv
 one y h1 _ h2 := ⟨(-1,y),(h _).2 ⟨rfl,h1,h2⟩,rfl,Int.le_refl _⟩
 nxt y _ _ v hv := hv.elim
theorem RInv.skip {H H' : List (Int × Int)} {seen out : Int → Prop} {d : Int → Int} {p : Int × Int} (h : RInv A S c z H seen out d) (hp : (p :: H').Perm H) (hs : seen p.2) : RInv A S c z H' seen out d where
 way q hq := h.way q (hp.mem_iff.1 (by simp [hq]))
 got := h.got
 sub := h.sub
 one y h1 h2 h3 := by
  obtain ⟨q,h4,h5,h6⟩ := h.one y h1 h2 h3
  rcases List.mem_cons.1 (hp.mem_iff.2 h4) with rfl | h7
  ·exact absurd (h5 ▸ hs) h2
  ·exact ⟨q,h7,h5,h6⟩
 nxt y h1 h2 v hv h3 := by
  obtain ⟨q,h4,h5,h6⟩ := h.nxt y h1 h2 v hv h3
  rcases List.mem_cons.1 (hp.mem_iff.2 h4) with rfl | h7
  ·exact absurd (h5 ▸ hs) h2
  ·exact ⟨q,h7,h5,h6⟩
theorem RInv.least {H : List (Int × Int)} {seen out : Int → Prop} {d : Int → Int} {p : Int × Int} (h : RInv A S c z H seen out d) (hpH : p ∈ H) (hmin : ∀ q ∈ H,p.1 ≤ q.1) (hs : ¬ seen p.2) {q : Int} (hq : -1 ≤ q) (hw : Way A S c z q p.2) : p.1 ≤ q := by
 have key : ∃ y,S y ∧ ¬ seen y ∧ Rch A (fun x => (S x ∧ (c x : Int) ≤ q) ∧ ¬ ¬ seen x) z y := by
  rcases hw.firstZ (fun x => ¬ seen x) with h1 | ⟨x,h1,h2,h3,_⟩
  ·exact ⟨p.2,(h.way p hpH).1,hs,h1⟩
  ·exact ⟨x,h1.1,h2,h3⟩
 obtain ⟨y,hy,hys,hr⟩ := key
 rcases hr.lastZ with h1 | ⟨a,h1,h2,h3⟩
 ·obtain ⟨p',h4,_,h5⟩ := h.one y hy hys h1
  have := hmin p' h4
  omega
 ·have ha : seen a := Classical.not_not.1 h1.2
  have h4 := (h.got a ha).2.2.2.1 q hq (h2.mono fun x hx => hx.1)
  obtain ⟨p',h5,_,h6⟩ := h.nxt y hy hys a ha h3
  have := hmin p' h5
  have := h1.1.2
  omega
theorem RInv.take {H H' N : List (Int × Int)} {seen out out' : Int → Prop} {d : Int → Int} {p : Int × Int} (h : RInv A S c z H seen out d) (hp : (p :: H').Perm H) (hmin : ∀ q ∈ H',p.1 ≤ q.1) (hs : ¬ seen p.2)
  (hN : ∀ q,q ∈ N ↔ q.1 = max p.1 (c p.2) ∧ S q.2 ∧ A p.2 q.2 ∧ ¬ (seen q.2 ∨ q.2 = p.2)) (ho : ∀ v,out' v ↔ out v ∨ (v = p.2 ∧ p.1 < c p.2)) : RInv A S c z (H' ++ N) (fun v => seen v ∨ v = p.2) out' (fun v => if v = p.2 then p.1 else d v) where
 way q hq := by
  rcases List.mem_append.1 hq with hq | hq
  ·exact h.way q (hp.mem_iff.1 (by simp [hq]))
  ·obtain ⟨h1,h2,h3,_⟩ := (hN q).1 hq
   obtain ⟨h4,h5,h6⟩ := h.way p (hp.mem_iff.1 (by simp))
   refine ⟨h2, ?_,by omega⟩
   rw [h1]
   exact (h5.mono fun x hx => ⟨hx.1,by have := hx.2; omega⟩).trans ⟨h4,by omega⟩ (.edge h3)
 got v hv := by
  by_cases e : v = p.2
  ·subst e
   obtain ⟨h4,h5,h6⟩ := h.way p (hp.mem_iff.1 (by simp))
   rw [if_pos rfl]
   refine ⟨h4,h5, ?_,fun q hq hw => h.least (hp.mem_iff.1 (by simp)) (fun q hq => ?_) hs hq hw,h6⟩
   ·rw [ho]
    exact ⟨fun h7 => h7.elim (fun h8 => absurd (h.sub _ h8) hs) (fun h8 => h8.2),fun h7 => .inr ⟨rfl,h7⟩⟩
   ·rcases List.mem_cons.1 (hp.mem_iff.2 hq) with rfl | h7
    ·exact Int.le_refl _
    ·exact hmin q h7
  ·have hv' := hv.resolve_right e
   obtain ⟨h1,h2,h3,h4,h5⟩ := h.got v hv'
   rw [if_neg e]
   refine ⟨h1,h2, ?_,h4,h5⟩
   rw [ho, ← h3]
   exact ⟨fun h7 => h7.elim id fun h8 => absurd h8.1 e, .inl⟩
 sub v hv := by
  rcases (ho v).1 hv with h1 | h1
  ·exact .inl (h.sub v h1)
  ·exact .inr h1.1
 one y h1 h2 h3 := by
  obtain ⟨q,h4,h5,h6⟩ := h.one y h1 (fun h => h2 (.inl h)) h3
  rcases List.mem_cons.1 (hp.mem_iff.2 h4) with rfl | h7
  ·exact absurd (.inr h5.symm) h2
  ·exact ⟨q,List.mem_append_left _ h7,h5,h6⟩
 nxt y h1 h2 v hv h3 := by
  by_cases e : v = p.2
  ·subst e
   rw [if_pos rfl]
   exact ⟨(max p.1 (c p.2),y),List.mem_append_right _ ((hN _).2 ⟨rfl,h1,h3,h2⟩),rfl,Int.le_refl _⟩
  ·rw [if_neg e]
   obtain ⟨q,h4,h5,h6⟩ := h.nxt y h1 (fun h => h2 (.inl h)) v (hv.resolve_right e) h3
   rcases List.mem_cons.1 (hp.mem_iff.2 h4) with rfl | h7
   ·exact absurd (.inr h5.symm) h2
   ·exact ⟨q,List.mem_append_left _ h7,h5,h6⟩
theorem RInv.done {seen out : Int → Prop} {d : Int → Int} (h : RInv A S c z [] seen out d) {y : Int} : out y ↔ S y ∧ Rch A (fun x => S x ∧ c x < c y) z y := by
 constructor
 ·intro ho
  obtain ⟨h1,h2,h3,_,_⟩ := h.got y (h.sub y ho)
  have h4 := h3.1 ho
  exact ⟨h1,h2.mono fun x hx => ⟨hx.1,by have := hx.2; omega⟩⟩
 ·rintro ⟨h1,h2⟩
  have hz : ∀ y,S y → A z y → seen y := fun y hy hA => by
   by_cases h3 : seen y
   ·exact h3
   ·obtain ⟨p,hp,_⟩ := h.one y hy h3 hA; cases hp
  have hn : ∀ y v,S y → seen v → A v y → seen y := fun y v hy hv hA => by
   by_cases h3 : seen y
   ·exact h3
   ·obtain ⟨p,hp,_⟩ := h.nxt y hy h3 v hv hA; cases hp
  have hseen : ∀ {T : Int → Prop} {y : Int},(∀ x,T x → S x) → S y → Rch A T z y → seen y := by
   intro T y hT hy hr
   have h3 : ∀ {u v : Int},Rch A T u v → S v → (u = z ∨ seen u) → seen v := by
    intro u v h4
    induction h4 with
    | edge h => intro hv hu; exact hu.elim (fun e => hz _ hv (e ▸ h)) (fun hs => hn _ _ hv hs h)
    | step h hs _ ih => intro hv hu; exact ih hv (.inr (hu.elim (fun e => hz _ (hT _ hs) (e ▸ h)) (fun hs' => hn _ _ (hT _ hs) hs' h)))
   exact h3 hr hy (.inl rfl)
  have h3 := hseen (fun x hx => hx.1) h1 h2
  obtain ⟨_,_,h4,h5,_⟩ := h.got y h3
  have h6 := h5 ((c y : Int) - 1) (by omega) (h2.mono fun x hx => ⟨hx.1,by have := hx.2; omega⟩)
  exact h4.2 (by omega)
end
end Go.Proofs.YtmokciekndllpaaGreatDoor
