/- Parts of a proof, laid together. Each part says its own conditions. -/
import Derived.Test.YtmokciekndllpaaGreatDoorC23
import Derived.Test.YtmokciekndllpaaGreatDoorC14
import Derived.Test.YtmokciekndllpaaGreatDoorC11
import Derived.ChangeKeysEq
import Derived.Test.YtmokciekndllpaaGreatDoorC16
namespace Go.Proofs.YtmokciekndllpaaGreatDoor
open Go Go.RowKit Go.Shelf
attribute [local go_sem] qUpon lUpon
attribute [local irreducible] wpO wpX wpQL
theorem Keep.via {T T1 : List Nat} {w u v : World} (h : Keep T w u) (h1 : Keep T1 u v) (hin : ∀ x ∈ T1,x ∈ T ∨ w.heap.size ≤ x) : Keep T w v :=
 ⟨h1.os.trans h.os,h1.tape.trans h.tape,h1.output.trans h.output,Nat.le_trans h.size h1.size,fun k hk hn => (h1.block k (Nat.lt_of_lt_of_le hk h.size) fun hm => (hin k hm).elim hn (fun h9 => absurd hk (Nat.not_lt.2 h9))).trans (h.block k hk hn)⟩
def HuPost (bw : Nat) (hs : List (Int × Int)) (p : Int × Int) (T : List Nat) (w : World) (e : Ending) (w' : World) : Prop := e = .returned (.tuple #[]) ∧ ∃ hs',hs'.Perm (hs ++ [p]) ∧ HeapN hs' hs'.length ∧ ∃ T',HpJ bw hs' T' w' ∧ Keep T w w' ∧ ∀ x ∈ T',x ∈ T ∨ w.heap.size ≤ x
def HoPost25 (bw : Nat) (hs : List (Int × Int)) (T : List Nat) (w : World) (e : Ending) (w' : World) : Prop := ∃ x y hs',((x,y) :: hs').Perm hs ∧ HeapN hs' hs'.length ∧ (∀ p ∈ hs',x ≤ p.1) ∧ e = .returned (.iface 214 (.agg #[.int .i64 x, .int .i64 y])) ∧ ∃ T',HpJ bw hs' T' w' ∧ Keep T w w' ∧ ∀ x ∈ T',x ∈ T ∨ w.heap.size ≤ x
theorem take_last {l : List (Int × Int)} {m : Nat} (h : l.length = m + 1) : l = l.take m ++ [l.getD m (0,0)] := by
 have hm : m < l.length := by omega
 rw [List.getD_eq_getElem?_getD,List.getElem?_eq_getElem hm]
 show l = l.take m ++ [l[m]]
 rw [← List.take_succ_eq_append_getElem hm,List.take_of_length_le (by omega)]
set_option maxRecDepth 100000 in
set_option maxHeartbeats 16000000 in
theorem hpush_any (bw : Nat) (hs : List (Int × Int)) (x y : Int) (T : List Nat) (w : World) (hj : HpJ bw hs T w) (hh : HeapN hs hs.length) (hb : hs.length ≤ 1500000) :
  Calls Tryz.prog 171 #[.iface 209 (.pointer (some ⟨bw,0,none⟩)), .iface 214 (.agg #[.int .i64 x, .int .i64 y])] w (HuPost bw hs (x,y) T w) := by
 obtain ⟨A,n,c,hn0,hst0,hT0⟩ := hj
 have hca0 := hide (wpush_any bw hs x y T w A n c hn0 hst0 hT0 (by omega))
 have hh' := hide hh
 have hb' := hide hb
 clear hn0 hst0 hT0 hh hb
 refine callsIn_wide.1 (callsIn_of_wp_marks (n := 0) Tryz.func171 rfl trivial (wpIn_wide.2 ?_))
 simp only [Tryz.ntmps171,List.size_toArray,List.length_cons,List.length_nil,Nat.reduceAdd,Nat.reduceSub,Array.replicate_succ,Array.replicate_zero,List.push_toArray,List.append_toArray,List.nil_append,List.cons_append]
 try dsimp only
 repeat ((fail_if_success (with_reducible refine wp_reg (id := 0) ?_)); (first | go_values | go_skip | go_step | go_guarded | go_upon | go_in | go_back | fail))
 with_reducible refine wp_reg (id := 0) ?_
 iterate 2
  refine wpO_want rfl ?_
  go_simp
 refine wpO_want rfl ?_
 go_simp
 rw [meth_ptr (name := "Push") (f := 235) (by kernel_rfl)]
 go_simp
 refine (unhide hca0).mono ?_
 rintro _ u1 ⟨rfl,T1,⟨A1,n1,c1,hn1,hst1,hT1⟩,hk1,hin1⟩
 refine ⟨_,rfl, ?_⟩
 obtain ⟨m,hm⟩ : ∃ m,m = hs.length := ⟨_,rfl⟩
 have hnm : n1 = m + 1 := by rw [hn1,List.length_append, ← hm]; rfl
 have hn1' := hide hn1
 have hst1' := hide hst1
 have hT1' := hide hT1
 have hk1' := hide hk1
 have hin1' := hide hin1
 have hm' := hide hm
 have hw : IntKind.i64.wrap ((n1 : Int) - 1) = (m : Int) := by have := unhide hb'; rw [IntWalk.i64_in _ (by omega)]; omega
 have hnm' := hide hnm
 clear hca0 hn1 hst1 hT1 hk1 hin1 hm hnm
 try go_frame
 refine wpO_done ?_
 try go_frame
 try dsimp only
 repeat ((fail_if_success (with_reducible refine wp_reg (id := 1) ?_)); (first | go_values | go_skip | go_step | go_guarded | go_upon | go_in | go_back | fail))
 with_reducible refine wp_reg (id := 1) ?_
 iterate 2
  refine wpO_want rfl ?_
  go_simp
 refine wpO_want rfl ?_
 go_simp
 rw [meth_way (name := "Len") (f := 172) (by kernel_rfl) (((unhide hst1').get 0 rfl).cells 0 (v := .slice A1 n1 c1) rfl _ (Ext.refl _))]
 go_simp
 refine (wlen_any A1 n1 c1 u1).mono ?_
 rintro _ u2 ⟨rfl,hx2⟩
 have hx2' := hide hx2
 refine ⟨_,rfl, ?_⟩
 clear hx2
 try go_frame
 refine wpO_want rfl ?_
 go_simp
 clear hw
 refine wpO_want rfl ?_
 go_simp
 have hca := hup_any bw (hs ++ [(x,y)]) m T1 u2 A1 n1 c1 (unhide hn1') ((unhide hst1').ext (unhide hx2')) (unhide hT1') (by have := unhide hnm'; have := unhide hm'; have := unhide hb'; omega) (by have := unhide hnm'; omega) (by
  have h := HeapN.push (unhide hh') (x,y)
  rw [← unhide hm', ← unhide hnm'] at h
  exact h)
 refine hca.mono ?_
 clear hca
 rintro _ u3 ⟨rfl,hs',hp,hh3,hst3,hk3⟩
 have hfin := hide (show HuPost bw hs (x,y) T w (.returned (.tuple #[])) u3 from ⟨rfl,hs',hp,by rw [hp.length_eq, ← unhide hn1']; exact hh3,T1,⟨A1,n1,c1,by rw [hp.length_eq]; exact unhide hn1',hst3,by rw [unhide hT1']; rfl⟩,((unhide hk1').trans ((unhide hx2').keep T)).via hk3 (unhide hin1'),unhide hin1'⟩)
 clear hp hh3 hst3 hk3
 refine ⟨_,rfl, ?_⟩
 refine wpO_done ?_
 try go_frame
 go_wp2_with fail
 refine Sp.leaves0 ?_
 exact ⟨_,results_none rfl _ _ _,unhide hfin⟩
set_option maxRecDepth 100000 in
set_option maxHeartbeats 16000000 in
theorem hpop_any (bw : Nat) (hs : List (Int × Int)) (m : Nat) (T : List Nat) (w : World) (hj : HpJ bw hs T w) (hh : HeapN hs hs.length) (hb : hs.length ≤ 1500000) (hm : hs.length = m + 1) :
  Calls Tryz.prog 173 #[.iface 209 (.pointer (some ⟨bw,0,none⟩))] w (HoPost25 bw hs T w) := by
 obtain ⟨A,n,c,hn0,hst0,hT0⟩ := hj
 have hh' := hide hh
 have hb' := hide hb
 have hm' := hide hm
 have hnm : n = m + 1 := by omega
 have hP0 := Sp.bare hst0
 rw [← hT0] at hP0
 have hP := hide hP0
 unfold hpL hpR at hP
 have hn' := hide hn0
 have hT' := hide hT0
 have hnm' := hide hnm
 obtain ⟨wf,hwf⟩ : ∃ wf,wf = bare w := ⟨_,rfl⟩
 rw [← hwf] at hP
 have hw : IntKind.i64.wrap ((n : Int) - 1) = (m : Int) := by rw [IntWalk.i64_in _ (by omega)]; omega
 clear hn0 hst0 hT0 hP0 hh hb hwf hm hnm
 refine callsIn_wide.1 (callsIn_of_wp_marks (n := 0) Tryz.func173 rfl trivial (wpIn_wide.2 ?_))
 simp only [Tryz.ntmps173,List.size_toArray,List.length_cons,List.length_nil,Nat.reduceAdd,Nat.reduceSub,Array.replicate_succ,Array.replicate_zero,List.push_toArray,List.append_toArray,List.nil_append,List.cons_append]
 try dsimp only
 repeat ((fail_if_success (with_reducible refine wp_reg (id := 0) ?_)); (first | go_values | go_skip | go_step | go_guarded | go_upon | go_in | go_back | fail))
 with_reducible refine wp_reg (id := 0) ?_
 refine wpO_want rfl ?_
 go_simp
 refine wpO_done ?_
 try go_frame
 try dsimp only
 repeat ((fail_if_success (with_reducible refine wp_reg (id := 1) ?_)); (first | go_values | go_skip | go_step | go_guarded | go_upon | go_in | go_back | fail))
 with_reducible refine wp_reg (id := 1) ?_
 refine wpO_want rfl ?_
 go_simp
 refine wpO_want rfl ?_
 go_simp
 rw [meth_way (name := "Len") (f := 172) (by kernel_rfl) (((unhide hP).get 0 rfl).cells 0 (v := .slice A n c) rfl _ (Ext.refl _))]
 go_simp
 refine (wlen_any A n c w).mono ?_
 rintro _ y1 ⟨rfl,hxc⟩
 replace hP : Hid (Sp wf T w [] [(bw,211, #[.slice A n c])] [(214,2, .slice A n c,n,hs.flatMap encP2)] y1) := hide ((unhide hP).ext hxc)
 clear hxc
 refine ⟨_,rfl, ?_⟩
 try go_frame
 iterate 2
  refine wpO_want rfl ?_
  go_simp
 refine wpO_done ?_
 try go_frame
 clear hw
 try dsimp only
 repeat ((fail_if_success (with_reducible refine wp_reg (id := 2) ?_)); (first | go_values | go_skip | go_step | go_guarded | go_upon | go_in | go_back | fail))
 with_reducible refine wp_reg (id := 2) ?_
 iterate 2
  refine wpO_want rfl ?_
  go_simp
 refine wpO_want rfl ?_
 go_simp
 rw [meth_way (name := "Swap") (f := 236) (by kernel_rfl) (((unhide hP).get 0 rfl).cells 0 (v := .slice A n c) rfl _ (Ext.refl _))]
 go_simp
 have hca := wswap_any wf.heap.size A hs n c 0 m y1 ((unhide hP).row 0 rfl) (unhide hn') (by have := unhide hnm'; omega) (by have := unhide hnm'; omega) (by have := unhide hn'; have := unhide hb'; omega)
 refine hca.mono ?_
 clear hca
 rintro _ y2 ⟨rfl,hown,hgr⟩
 replace hP : Hid (Sp wf T w [] [(bw,211, #[.slice A n c])] [(214,2, .slice A n c,n,(swpL hs 0 m).flatMap encP2)] y2) := hide ((unhide hP).push 0 (by decide) rfl (Ext.refl _) hown hgr (.inl rfl))
 clear hown hgr
 refine ⟨_,rfl, ?_⟩
 try go_frame
 refine wpO_done ?_
 try go_frame
 try dsimp only
 repeat ((fail_if_success (with_reducible refine wp_reg (id := 3) ?_)); (first | go_values | go_skip | go_step | go_guarded | go_upon | go_in | go_back | fail))
 with_reducible refine wp_reg (id := 3) ?_
 iterate 2
  refine wpO_want rfl ?_
  go_simp
 refine wpO_want rfl ?_
 go_simp
 have hca := hdown_any bw (swpL hs 0 m) m T y2 A n c (by rw [swp_len]; exact unhide hn') (unhide hP).st.down (unhide hT') (by have := unhide hn'; have := unhide hb'; omega) (by have := unhide hnm'; omega) (HeapN.pop (unhide hm') (unhide hh'))
 refine hca.mono ?_
 clear hca
 rintro _ u4 ⟨⟨q,rfl⟩,h2,hp2,hh2,htl2,hst4,hk4⟩
 have hk9 := hide ((unhide hP).keep.trans hk4)
 have hl2 : h2.length = m + 1 := by rw [hp2.length_eq,swp_len]; exact unhide hm'
 have hlast : h2.getD m (0,0) = hs.getD 0 (0,0) := by rw [htl2 m (Nat.le_refl m),swp_get (by have := unhide hm'; omega) (by have := unhide hm'; omega),if_pos rfl]
 have hcut := take_last hl2
 rw [hlast] at hcut
 obtain ⟨⟨x,y⟩,hxy⟩ : ∃ p,p = hs.getD 0 (0,0) := ⟨_,rfl⟩
 rw [← hxy] at hcut
 obtain ⟨h3,hh3⟩ : ∃ l,l = h2.take m := ⟨_,rfl⟩
 rw [← hh3] at hcut
 have hperm := hide (show ((x,y) :: h3).Perm hs from by
  have e1 : ((x,y) :: h3).Perm (h3 ++ [(x,y)]) := (List.perm_append_singleton (x,y) h3).symm
  rw [← hcut] at e1
  exact e1.trans (hp2.trans (swp_perm (by have := unhide hm'; omega) (by have := unhide hm'; omega))))
 have hhp := hide (show HeapN h3 h3.length by rw [hh3]; exact HeapN.take hh2 (by omega))
 have hmn := hide (show ∀ p ∈ h3,x ≤ p.1 from fun p hp => by
  have hpm : p ∈ hs := (unhide hperm).mem_iff.1 (List.mem_cons_of_mem _ hp)
  obtain ⟨k,hk,rfl⟩ := List.mem_iff_getElem.1 hpm
  have h5 := HeapN.min (unhide hh') k hk
  unfold hc at h5
  rw [← hxy,List.getD_eq_getElem?_getD,List.getElem?_eq_getElem hk] at h5
  exact h5)
 subst hcut
 have hca := hide (wpop_any bw h3 x y T u4 A n c (by rw [hl2]; exact unhide hnm') hst4 (by rw [unhide hT']; rfl) (by rw [hl2]; have := unhide hm'; have := unhide hb'; omega))
 clear hp2 hh2 htl2 hst4 hk4 hl2 hlast hxy hh3
 refine ⟨_,rfl, ?_⟩
 try go_frame
 refine wpO_done ?_
 try go_frame
 try dsimp only
 repeat ((fail_if_success (with_reducible refine wp_reg (id := 4) ?_)); (first | go_values | go_skip | go_step | go_guarded | go_upon | go_in | go_back | fail))
 with_reducible refine wp_reg (id := 4) ?_
 refine wpO_want rfl ?_
 go_simp
 refine wpO_want rfl ?_
 go_simp
 rw [meth_ptr (name := "Pop") (f := 234) (by kernel_rfl)]
 go_simp
 refine (unhide hca).mono ?_
 rintro _ u5 ⟨rfl,T5,hj5,hk5,hin5⟩
 have hfin := hide (show HoPost25 bw hs T w (.returned (.iface 214 (.agg #[.int .i64 x, .int .i64 y]))) u5 from ⟨x,y,h3,unhide hperm,unhide hhp,unhide hmn,rfl,T5,hj5,(unhide hk9).trans hk5,fun z hz => (hin5 z hz).imp id fun h => Nat.le_trans (unhide hk9).size h⟩)
 clear hj5 hk5 hin5 hca
 refine ⟨_,rfl, ?_⟩
 try go_frame
 refine wpO_want rfl ?_
 go_simp
 refine wpO_done ?_
 try go_frame
 go_wp2_with fail
 refine Sp.leaves0 ?_
 exact ⟨_,results_tmp (t := 2) rfl _ _ _,unhide hfin⟩
end Go.Proofs.YtmokciekndllpaaGreatDoor
namespace Go.Proofs.YtmokciekndllpaaGreatDoor
open Go Go.RowKit Go.Shelf
section
variable {wf w W W' : World} {T0 : List Nat} {ds : List Deferred} {L L' L2 : List Cl} {Rs Rs' R2 : List Rw} {b : Nat}
theorem stT_perm (hL : L'.Perm L) (hR : Rs'.Perm Rs) : (stT L' Rs').Perm (stT L Rs) := by
 unfold stT rwT
 exact (hL.map _).append (hR.flatMap_right _)
theorem St.perm (h : St b L Rs W) (hL : L'.Perm L) (hR : Rs'.Perm Rs) : St b L' Rs' W :=
 ⟨fun e he => h.cells e (hL.mem_iff.1 he),fun r hr => h.rows r (hR.mem_iff.1 hr),(stT_perm hL hR).nodup_iff.2 h.nd,fun x hx => h.ge x ((stT_perm hL hR).mem_iff.1 hx)⟩
theorem Sp.perm (h : Sp wf T0 w ds L Rs W) (hL : L'.Perm L) (hR : Rs'.Perm Rs) : Sp wf T0 w ds L' Rs' W :=
 h.step (Keep.refl [] W) (by simp) (h.st.perm hL hR) (fun x hx => .inl ((stT_perm hL hR).mem_iff.1 hx))
theorem stT_app : (stT (L ++ L2) (Rs ++ R2)).Perm (stT L Rs ++ stT L2 R2) := by
 unfold stT rwT
 rw [List.map_append,List.flatMap_append]
 generalize L.map (·.1) = a
 generalize L2.map (·.1) = c
 generalize Rs.flatMap _ = d
 generalize R2.flatMap _ = e
 simp only [List.append_assoc]
 refine List.Perm.append_left a ?_
 rw [← List.append_assoc, ← List.append_assoc d c e]
 exact List.perm_append_comm.append_right e
theorem Sp.frame (h : Sp wf T0 w ds (L ++ L2) (Rs ++ R2) W) (hs : St wf.heap.size L' Rs' W') (hk : Keep (stT L Rs) W W') (ht : tIn (stT L Rs) W.heap.size (stT L' Rs')) : Sp wf T0 w ds (L' ++ L2) (Rs' ++ R2) W' := by
 have hp := stT_app (L := L) (L2 := L2) (Rs := Rs) (R2 := R2)
 have hp' := stT_app (L := L') (L2 := L2) (Rs := Rs') (R2 := R2)
 have hnd := hp.nodup_iff.1 h.st.nd
 obtain ⟨_,hn2,hdis⟩ := List.nodup_append.1 hnd
 have h2 : St wf.heap.size L2 R2 W := h.st.sub (List.sublist_append_right _ _) (List.sublist_append_right _ _)
 have h2' : St wf.heap.size L2 R2 W' := h2.keep hk fun x hx hx2 => hdis x hx x hx2 rfl
 have hlt := h2.lt
 refine h.step hk (fun x hx => .inl (hp.mem_iff.2 (List.mem_append_left _ hx))) ⟨fun e he => ?_,fun r hr => ?_, ?_,fun x hx => ?_⟩ fun x hx => ?_
 ·rcases List.mem_append.1 he with he | he
  ·exact hs.cells e he
  ·exact h2'.cells e he
 ·rcases List.mem_append.1 hr with hr | hr
  ·exact hs.rows r hr
  ·exact h2'.rows r hr
 ·refine hp'.nodup_iff.2 (List.nodup_append.2 ⟨hs.nd,hn2,fun x hx y hy e => ?_⟩)
  subst e
  rcases ht x hx with h9 | h9
  ·exact hdis x h9 x hy rfl
  ·have := hlt x hy
   omega
 ·rcases List.mem_append.1 (hp'.mem_iff.1 hx) with h9 | h9
  ·exact hs.ge x h9
  ·exact h2'.ge x h9
 ·rcases List.mem_append.1 (hp'.mem_iff.1 hx) with h9 | h9
  ·exact (ht x h9).imp (fun h8 => hp.mem_iff.2 (List.mem_append_left _ h8)) id
  ·exact .inl (hp.mem_iff.2 (List.mem_append_right _ h9))
theorem RowIs.up {r : Rw} (h : RowIs 0 W r) (hb : ∀ g,rwB r = some g → b ≤ g) : RowIs b W r := by
 unfold RowIs rwB at *
 split
 ·rename_i hz
  rw [if_pos hz] at h
  obtain ⟨mb,e,h1,h2⟩ := h
  refine ⟨mb,e,hb mb ?_,h2⟩
  rw [if_pos hz,e]
  rfl
 ·rename_i hz
  rw [if_neg hz] at h
  obtain ⟨h0,h1 | ⟨g,cap,cur,hv,_,hr⟩⟩ := h
  ·exact ⟨h0, .inl h1⟩
  ·refine ⟨h0, .inr ⟨g,cap,cur,hv,hb g ?_,hr⟩⟩
   rw [if_neg hz,hv]
   rfl
theorem St.up (h : St 0 L Rs W) (hb : ∀ x ∈ stT L Rs,b ≤ x) : St b L Rs W := ⟨h.cells,fun r hr => (h.rows r hr).up fun g hg => hb g (List.mem_append.2 (.inr (mem_rwT.2 ⟨r,hr,hg⟩))),h.nd,hb⟩
theorem Sp.ofS (h : St wf.heap.size L Rs W) (hx : Ext wf W) : Sp wf (stT L Rs) W [] L Rs W := ⟨h,hx,Keep.refl _ _, .refl _ _, .nil _,by simp⟩
theorem Marks.upD {B B' D : Nat} (h : Marks B [{ target := .collected D,args := #[] }] W) (hB : B' ≤ D) : Marks B' [{ target := .collected D,args := #[] }] W := by
 cases h with
 | cons _ hD hne h => exact .cons hB hD hne (.nil _)
theorem Sp.leavesG {P : Program} {fn : Func} {tmps : Array Value} {R : Ending → World → Prop} (h : Sp wf T0 w ds L Rs W) (h2 : Marks w.heap.size ds W) (hR : ∀ w',Keep T0 w w' → St wf.heap.size L Rs w' → LeavesIn Fence.wide 0 P fn tmps R [] .returning w') : LeavesInM Fence.wide 0 P fn tmps R ds .returning W := by
 refine leaves_marks (B := w.heap.size) ds W h2 ?_
 rintro w' ⟨S,hS,hkS⟩
 have hS' : ∀ x ∈ S,x ∉ stT L Rs := fun x hx hm => by
  obtain ⟨d,hd,e⟩ := hS x hx
  exact h.nd x hm d hd e
 refine hR w' ?_ (h.st.keep hkS hS')
 refine h.keep.of_new hkS fun x hx => ?_
 obtain ⟨d,hd,e⟩ := hS x hx
 obtain ⟨D,e1,h3,_⟩ := h2.lt d hd
 rw [e1] at e
 injection e with e
 exact .inr (by omega)
end
end Go.Proofs.YtmokciekndllpaaGreatDoor
namespace Go.Proofs.YtmokciekndllpaaGreatDoor
open Go Go.RowKit
attribute [local go_sem] qUpon lUpon
def nearF (id : Int) (a : Nat) (e : (Int × Int) × Thing) : Nat := if id = e.1.1 then withS a e.1.2 else if id = e.1.2 then withS a e.1.1 else a
def nearS (id : Int) (E : List ((Int × Int) × Thing)) : Nat := E.foldl (nearF id) 0
theorem nearS_next (id : Int) (E : List ((Int × Int) × Thing)) (k : Nat) (h : k < E.length) : nearS id (E.take (k + 1)) = nearF id (nearS id (E.take k)) E[k] := by
 unfold nearS
 rw [List.take_succ_eq_append_getElem h,List.foldl_append,List.foldl_cons,List.foldl_nil]
set_option maxRecDepth 100000 in
set_option maxHeartbeats 8000000 in
theorem near_gen (g : Value) (id : Int) (E : List ((Int × Int) × Thing)) (w : World) (hl : E.length ≤ 4096) (hL : ∀ W,Ext w W → Calls Tryz.prog 96 #[g] W fun e w' => ∃ A c,e = .returned (.slice A E.length c) ∧ SlAt encE 4 w' A E ∧ Ext W w') :
  Calls Tryz.prog 55 #[g, .int .i64 id] w fun e w' => e = .returned (.agg (setC (nearS id E))) ∧ Ext w w' := by
 have hB0 := hide (Blk.new w 25 (setC 0))
 have hL' := hide hL
 clear hL
 go_enter Tryz.func55,Tryz.ntmps55
 go_wp2_with fail
 have hx1 := hide ((ext_self1 w (.cells (setC 0) 25)).trans (ext_self1 _ (.cells (setC 0) 25)))
 have hB2 := hide ((unhide hB0).ext (ext_self1 (w.alloc (.cells (setC 0) 25)) (.cells (setC 0) 25)))
 have hB4 := hide (Blk.new (w.alloc (.cells (setC 0) 25)) 25 (setC 0))
 have hs : (w.alloc (.cells (setC 0) 25)).heap.size = w.heap.size + 1 := World.size_alloc _ _
 rw [hs] at hB4
 clear hs hB0
 have hz : setC 0 = #[.int .u64 0, .int .u64 0, .int .u64 0, .int .u64 0, .int .u64 0, .int .u64 0, .int .u64 0, .int .u64 0, .int .u64 0, .int .u64 0, .int .u64 0, .int .u64 0, .int .u64 0, .int .u64 0, .int .u64 0, .int .u64 0] := rfl
 rw [hz] at hx1 hB2 hB4
 generalize (w.alloc (.cells #[.int .u64 0, .int .u64 0, .int .u64 0, .int .u64 0, .int .u64 0, .int .u64 0, .int .u64 0, .int .u64 0, .int .u64 0, .int .u64 0, .int .u64 0, .int .u64 0, .int .u64 0, .int .u64 0, .int .u64 0, .int .u64 0] 25)).alloc (.cells #[.int .u64 0, .int .u64 0, .int .u64 0, .int .u64 0, .int .u64 0, .int .u64 0, .int .u64 0, .int .u64 0, .int .u64 0, .int .u64 0, .int .u64 0, .int .u64 0, .int .u64 0, .int .u64 0, .int .u64 0, .int .u64 0] 25) = W1 at *
 rw [← hz] at hB4 hB2
 clear hz
 generalize hb4e : w.heap.size + 1 = b4 at *
 generalize hb2e : w.heap.size = b2 at *
 refine (unhide hL' _ (unhide hx1)).mono ?_
 rintro e w2 ⟨A,c,rfl,hs2,hx2⟩
 have hB2' := hide ((unhide hB2).ext hx2)
 have hB4' := hide ((unhide hB4).ext hx2)
 have hx2' := hide ((unhide hx1).trans hx2)
 have hs2' := hide hs2
 clear hx1 hx2 hB2 hB4 hs2 hL'
 go_wp2_with fail
 go_loopw [11] (fun i wr => ∃ k : Nat,k ≤ E.length ∧ i = .int .i64 k ∧ Blk wr b4 25 (setC (nearS id (E.take k))) ∧ Blk wr b2 25 (setC 0) ∧ SlAt encE 4 wr A E ∧ Ext w wr) (fun i _ => E.length - (intOf i).toNat)
 case atStart => exact ⟨0,Nat.zero_le _,rfl,unhide hB4',unhide hB2',unhide hs2',unhide hx2'⟩
 case round =>
  obtain ⟨k,hk,rfl,hB,hA,hs,hx⟩ := hrel
  have hB' := hide hB
  have hA' := hide hA
  have hs' := hide hs
  have hx' := hide hx
  clear hB4' hB2' hx2' hs2' hB hA hs hx
  by_cases hlt : k < E.length
  ·have hB := unhide hB'
   obtain ⟨bb,off,rfl,c0,c1,c2,c3⟩ := atE (unhide hs') hlt
   have hn' := hide (nearS_next id E k hlt)
   generalize E[k] = y at c0 c1 c2 c3 hn'
   obtain ⟨⟨u,v⟩,⟨lab,wt⟩⟩ := y
   generalize nearS id (E.take k) = N at hB hB' hn'
   simp only at c0 c1 c2 c3
   have hself := Ext.refl wr
   have e0 := hB.cells 0 (v := .int .u64 (wd N 0)) rfl
   have e1 := hB.cells 1 (v := .int .u64 (wd N 1)) rfl
   have e2 := hB.cells 2 (v := .int .u64 (wd N 2)) rfl
   have e3 := hB.cells 3 (v := .int .u64 (wd N 3)) rfl
   have e4 := hB.cells 4 (v := .int .u64 (wd N 4)) rfl
   have e5 := hB.cells 5 (v := .int .u64 (wd N 5)) rfl
   have e6 := hB.cells 6 (v := .int .u64 (wd N 6)) rfl
   have e7 := hB.cells 7 (v := .int .u64 (wd N 7)) rfl
   have e8 := hB.cells 8 (v := .int .u64 (wd N 8)) rfl
   have e9 := hB.cells 9 (v := .int .u64 (wd N 9)) rfl
   have e10 := hB.cells 10 (v := .int .u64 (wd N 10)) rfl
   have e11 := hB.cells 11 (v := .int .u64 (wd N 11)) rfl
   have e12 := hB.cells 12 (v := .int .u64 (wd N 12)) rfl
   have e13 := hB.cells 13 (v := .int .u64 (wd N 13)) rfl
   have e14 := hB.cells 14 (v := .int .u64 (wd N 14)) rfl
   have e15 := hB.cells 15 (v := .int .u64 (wd N 15)) rfl
   clear hB
   by_cases h1 : id = u
   ·subst h1
    have hn2 := hide (show nearF id N ((id,v),(lab,wt)) = withS N v by simp [nearF])
    go_wp2_with fail
    refine (with_any N v _).mono ?_
    rintro e w5 ⟨rfl,hx5⟩
    have hxx := hide ((ext_self1 wr (.cells #[.int .i64 id, .int .i64 v, .int .u8 lab, .int .i64 wt] 61)).trans hx5)
    have hB5 := (unhide hB').ext (unhide hxx)
    have hA5 := hide ((unhide hA').ext (unhide hxx))
    have hs5 := hide ((unhide hs').ext (unhide hxx))
    have hx6 := hide ((unhide hx').trans (unhide hxx))
    have hself5 := Ext.refl w5
    clear hx5 hB' hA' hs' hx' e0 e1 e2 e3 e4 e5 e6 e7 e8 e9 e10 e11 e12 e13 e14 e15 hself hxx c0 c1 c2 c3
    have hst := store_Set (withS N v) hB5
    have hB5' := hide hB5
    clear hB5
    go_wp2_with fail
    go_roundw
    case rel => exact ⟨k + 1,by omega,by go_num,by rw [unhide hn',unhide hn2]; exact Blk.putS _ (unhide hB5'),(unhide hA5).keep (Keep.putS w5 b4 _) (by simp; omega),(unhide hs5).keep_S (unhide hB5') encE_nu encE0 (Keep.putS w5 b4 _),(unhide hx6).of_new (Keep.putS w5 b4 _) (by simp; omega)⟩
    case measure => simp [intOf]; omega
   ·have h1b : (id == u) = false := by simpa using h1
    by_cases h2 : id = v
    ·subst h2
     have hn2 := hide (show nearF id N ((u,id),(lab,wt)) = withS N u by simp [nearF,h1])
     go_wp2_with fail
     refine (with_any N u _).mono ?_
     rintro e w5 ⟨rfl,hx5⟩
     have hxx := hide ((ext_self1 wr (.cells #[.int .i64 u, .int .i64 id, .int .u8 lab, .int .i64 wt] 61)).trans hx5)
     have hB5 := (unhide hB').ext (unhide hxx)
     have hA5 := hide ((unhide hA').ext (unhide hxx))
     have hs5 := hide ((unhide hs').ext (unhide hxx))
     have hx6 := hide ((unhide hx').trans (unhide hxx))
     have hself5 := Ext.refl w5
     clear hx5 hB' hA' hs' hx' e0 e1 e2 e3 e4 e5 e6 e7 e8 e9 e10 e11 e12 e13 e14 e15 hself hxx c0 c1 c2 c3
     have hst := store_Set (withS N u) hB5
     have hB5' := hide hB5
     clear hB5
     go_wp2_with fail
     go_roundw
     case rel => exact ⟨k + 1,by omega,by go_num,by rw [unhide hn',unhide hn2]; exact Blk.putS _ (unhide hB5'),(unhide hA5).keep (Keep.putS w5 b4 _) (by simp; omega),(unhide hs5).keep_S (unhide hB5') encE_nu encE0 (Keep.putS w5 b4 _),(unhide hx6).of_new (Keep.putS w5 b4 _) (by simp; omega)⟩
     case measure => simp [intOf]; omega
    ·have h2b : (id == v) = false := by simpa using h2
     have hn2 := hide (show nearF id N ((u,v),(lab,wt)) = N by simp [nearF,h1,h2])
     clear e0 e1 e2 e3 e4 e5 e6 e7 e8 e9 e10 e11 e12 e13 e14 e15
     have hxx := hide (ext_self1 wr (.cells #[.int .i64 u, .int .i64 v, .int .u8 lab, .int .i64 wt] 61))
     go_wp2_with fail
     go_roundw
     case rel => exact ⟨k + 1,by omega,by go_num,by rw [unhide hn',unhide hn2]; exact (unhide hB').ext (unhide hxx),(unhide hA').ext (unhide hxx),(unhide hs').ext (unhide hxx),(unhide hx').trans (unhide hxx)⟩
     case measure => simp [intOf]; omega
  ·have hke : k = E.length := by omega
   have hB := unhide hB'
   have hA := unhide hA'
   rw [hke,List.take_length] at hB hB'
   have hself := Ext.refl wr
   clear hlt
   obtain ⟨N,hN⟩ : ∃ N,nearS id E = N := ⟨_,rfl⟩
   rw [hN] at hB hB'
   have hN' := hide hN
   clear hN
   have e0 := hB.cells 0 (v := .int .u64 (wd N 0)) rfl
   have e1 := hB.cells 1 (v := .int .u64 (wd N 1)) rfl
   have e2 := hB.cells 2 (v := .int .u64 (wd N 2)) rfl
   have e3 := hB.cells 3 (v := .int .u64 (wd N 3)) rfl
   have e4 := hB.cells 4 (v := .int .u64 (wd N 4)) rfl
   have e5 := hB.cells 5 (v := .int .u64 (wd N 5)) rfl
   have e6 := hB.cells 6 (v := .int .u64 (wd N 6)) rfl
   have e7 := hB.cells 7 (v := .int .u64 (wd N 7)) rfl
   have e8 := hB.cells 8 (v := .int .u64 (wd N 8)) rfl
   have e9 := hB.cells 9 (v := .int .u64 (wd N 9)) rfl
   have e10 := hB.cells 10 (v := .int .u64 (wd N 10)) rfl
   have e11 := hB.cells 11 (v := .int .u64 (wd N 11)) rfl
   have e12 := hB.cells 12 (v := .int .u64 (wd N 12)) rfl
   have e13 := hB.cells 13 (v := .int .u64 (wd N 13)) rfl
   have e14 := hB.cells 14 (v := .int .u64 (wd N 14)) rfl
   have e15 := hB.cells 15 (v := .int .u64 (wd N 15)) rfl
   have g0 := hA.frozen 0
   have g1 := hA.frozen 1
   have g2 := hA.frozen 2
   have g3 := hA.frozen 3
   have g4 := hA.frozen 4
   have g5 := hA.frozen 5
   have g6 := hA.frozen 6
   have g7 := hA.frozen 7
   have g8 := hA.frozen 8
   have g9 := hA.frozen 9
   have g10 := hA.frozen 10
   have g11 := hA.frozen 11
   have g12 := hA.frozen 12
   have g13 := hA.frozen 13
   have g14 := hA.frozen 14
   have g15 := hA.frozen 15
   have z0 := hA.cells 0 (v := .int .u64 (wd 0 0)) rfl
   have z1 := hA.cells 1 (v := .int .u64 (wd 0 1)) rfl
   have z2 := hA.cells 2 (v := .int .u64 (wd 0 2)) rfl
   have z3 := hA.cells 3 (v := .int .u64 (wd 0 3)) rfl
   have z4 := hA.cells 4 (v := .int .u64 (wd 0 4)) rfl
   have z5 := hA.cells 5 (v := .int .u64 (wd 0 5)) rfl
   have z6 := hA.cells 6 (v := .int .u64 (wd 0 6)) rfl
   have z7 := hA.cells 7 (v := .int .u64 (wd 0 7)) rfl
   have z8 := hA.cells 8 (v := .int .u64 (wd 0 8)) rfl
   have z9 := hA.cells 9 (v := .int .u64 (wd 0 9)) rfl
   have z10 := hA.cells 10 (v := .int .u64 (wd 0 10)) rfl
   have z11 := hA.cells 11 (v := .int .u64 (wd 0 11)) rfl
   have z12 := hA.cells 12 (v := .int .u64 (wd 0 12)) rfl
   have z13 := hA.cells 13 (v := .int .u64 (wd 0 13)) rfl
   have z14 := hA.cells 14 (v := .int .u64 (wd 0 14)) rfl
   have z15 := hA.cells 15 (v := .int .u64 (wd 0 15)) rfl
   clear hB hA
   go_wp2_with fail
   refine bodyPost_ret (ret_cell1 rfl rfl (load_Set _ b2 N (Blk.set16 N (unhide hA')))) rfl ?_
   exact ⟨by rw [unhide hN'],(unhide hx').of_new (Keep.set16 wr b2 N) (by simp; omega)⟩
end Go.Proofs.YtmokciekndllpaaGreatDoor
namespace Go.Proofs.YtmokciekndllpaaGreatDoor
open Go Go.RowKit
def nearL (id : Int) (E : List ((Int × Int) × Thing)) : List Int := E.flatMap fun e => if id = e.1.1 then [e.1.2] else if id = e.1.2 then [e.1.1] else []
theorem nearS_fold (id : Int) (E : List ((Int × Int) × Thing)) : ∀ a,E.foldl (nearF id) a = (nearL id E).foldl withS a := by
 induction E with
 | nil => intro a; rfl
 | cons e r ih =>
  intro a
  have h : nearL id (e :: r) = (if id = e.1.1 then [e.1.2] else if id = e.1.2 then [e.1.1] else []) ++ nearL id r := by unfold nearL; rw [List.flatMap_cons]
  rw [List.foldl_cons,ih,h,List.foldl_append]
  congr 1
  unfold nearF
  split
  ·rfl
  ·split <;> rfl
theorem nearS_eq (id : Int) (E : List ((Int × Int) × Thing)) : nearS id E = fromS (nearL id E) := nearS_fold id E 0
theorem mem_nearL {id x : Int} {E : List ((Int × Int) × Thing)} (hlo : ∀ e ∈ E,e.1.1 < e.1.2) : x ∈ nearL id E ↔ ∃ e ∈ E,e.1 = (min id x,max id x) := by
 unfold nearL
 rw [List.mem_flatMap]
 constructor
 ·rintro ⟨e,he,h⟩
  have := hlo e he
  refine ⟨e,he, ?_⟩
  split at h
  ·simp at h; apply Prod.ext <;> simp <;> omega
  ·split at h
   ·simp at h; apply Prod.ext <;> simp <;> omega
   ·simp at h
 ·rintro ⟨e,he,h⟩
  have hl := hlo e he
  rw [h] at hl
  simp at hl
  refine ⟨e,he, ?_⟩
  rw [h]
  simp
  by_cases h1 : id = min id x
  ·rw [if_pos h1]; simp; omega
  ·rw [if_neg h1,if_pos (by omega)]; simp; omega
def rnear (id : Int) (V : List (Int × Thing)) (E : List ((Int × Int) × Thing)) : List Int := (V.filter fun p => decide (0 ≤ posI (isE p.1 id) E)).map (·.1)
theorem rnear_eq {id : Int} {V : List (Int × Thing)} {E : List ((Int × Int) × Thing)} (hi : GInv V E) : fromS (rnear id V E) = nearS id E := by
 rw [nearS_eq]
 apply fromS_congr
 intro x
 rw [mem_nearL hi.lo]
 unfold rnear
 rw [List.mem_map]
 constructor
 ·rintro ⟨p,hp,rfl⟩
  rw [List.mem_filter,decide_eq_true_eq,posI_nonneg] at hp
  obtain ⟨_,e,he,h⟩ := hp
  rw [isE_iff (hi.lo e he)] at h
  exact ⟨e,he,by rw [h]; apply Prod.ext <;> simp <;> omega⟩
 ·rintro ⟨e,he,h⟩
  have hv : ∃ t,(x,t) ∈ V := by
   have h2 := hi.ends e he
   have hl := hi.lo e he
   rw [h] at h2 hl
   simp at hl
   by_cases hx : x = min id x
   ·rw [← hx] at h2; exact h2.1
   ·have : x = max id x := by omega
    rw [← this] at h2; exact h2.2
  obtain ⟨t,ht⟩ := hv
  refine ⟨(x,t), ?_,rfl⟩
  rw [List.mem_filter,decide_eq_true_eq,posI_nonneg]
  exact ⟨ht,e,he,by rw [isE_iff (hi.lo e he),h]; apply Prod.ext <;> simp <;> omega⟩
end Go.Proofs.YtmokciekndllpaaGreatDoor
namespace Go.Proofs.YtmokciekndllpaaGreatDoor
open Go Go.RowKit
def eqW (N M : Nat) (is : List Nat) : Bool := is.all fun i => decide (wdN N i = wdN M i)
def eqS (N M : Nat) : Bool := eqW N M (List.range 16)
theorem eqS_iff {N M : Nat} : eqS N M = true ↔ ∀ k,k < 1024 → N.testBit k = M.testBit k := by
 unfold eqS eqW
 rw [List.all_eq_true]
 simp only [List.mem_range,decide_eq_true_eq]
 constructor
 ·intro h k hk
  have h1 := h (k / 64) (by omega)
  have h2 := congrArg (fun x => x.testBit (k % 64)) h1
  simp only [wdN_bit] at h2
  rw [show 64 * (k / 64) + k % 64 = k by omega] at h2
  have h3 : decide (k % 64 < 64) = true := by simp; omega
  simpa [h3] using h2
 ·intro h i hi
  apply Nat.eq_of_testBit_eq
  intro k
  rw [wdN_bit,wdN_bit]
  by_cases hk : k < 64
  ·rw [h (64 * i + k) (by omega)]
  ·simp [hk]
theorem items_words {P : Program} (w : World) (d : Nat) (e : TypeId) (he : P.underlying e = some (.int .u64)) (N M : Nat) :
  ∀ is : List Nat,(∀ i ∈ is,i < 16) → (Op.eqItems (d + 1) e 1 (setC N) (setC M) is).run P w = .ok (eqW N M is) w
 | [],_ => by simp [Op.eqItems,eqW]
 | i :: is,hi => by
  have hN := setC_get N (hi i (by simp))
  have hM := setC_get M (hi i (by simp))
  have px : (part e (setC N) (i * 1)).run P w = .ok (.int .u64 (wd N i)) w := by
   simp [part,isAgg,run_underlying he,hN]
  have py : (part e (setC M) (i * 1)).run P w = .ok (.int .u64 (wd M i)) w := by
   simp [part,isAgg,run_underlying he,hM]
  have pe : (Op.equalIn (d + 1) e (.int .u64 (wd N i)) (.int .u64 (wd M i))).run P w = .ok (decide (wdN N i = wdN M i)) w := by
   rw [run_equalIn_int w d e .u64 .u64 _ _ he]
   unfold wd
   congr 1
   rw [Bool.eq_iff_iff]
   simp [Int.ofNat_inj]
  have ih := items_words w d e he N M is (fun j hj => hi j (by simp [hj]))
  simp only [Op.eqItems,Sem.run_bind,px,py,pe,Result.andThen_ok]
  by_cases hd : wdN N i = wdN M i
  ·simp [hd,eqW,ih]
  ·simp [hd,eqW]
set_option maxRecDepth 100000 in
theorem cmp_Set (w : World) (N M : Nat) : (Op.equalIn 10000 25 (.agg (setC N)) (.agg (setC M))).run Tryz.prog w = .ok (eqS N M) w := by
 have hc : Tryz.prog.cellsOf 23 = 1 := by kernel_rfl
 obtain ⟨i,hi⟩ : ∃ i,Tryz.prog.info? 23 = some i := ⟨_,rfl⟩
 have h := run_equalIn_array w 9999 (setC N) (setC M) Tryz.underlying25 hi
 rw [hc] at h
 exact h.trans (items_words w 9998 23 Tryz.underlying23 N M (List.range 16) (fun i hi => List.mem_range.1 hi))
theorem run_eql_Set {ρ : Operand → Value} {o : Oper} {x y : Operand} {w : World} {N M : Nat} {t : TypeId} (ho : o.op = .binOp .eql 25 x y t) (hx : ρ x = .agg (setC N)) (hy : ρ y = .agg (setC M)) : (execOp ρ o).run Tryz.prog w = .ok (.value (.bool (eqS N M))) w := by
 have h := cmp_Set w N M
 generalize setC N = C at *
 generalize setC M = D at *
 unfold execOp
 simp only [ho,hx,hy]
 simp [go_sem,h]
end Go.Proofs.YtmokciekndllpaaGreatDoor
