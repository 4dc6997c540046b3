/- Parts of a proof, laid together. Each part says its own conditions. -/
import Derived.Test.YtmfkkkhddigkfaaGreatDoorR37
namespace Go.Proofs.YtmfkkkhddigkfaaGreatDoor
open Go Go.RowKit Go.Shelf
attribute [local go_sem] qUpon lUpon
attribute [local irreducible] wpO wpX wpQL
theorem run_build2W {ρ : Operand → Value} {o : Oper} {x y : Operand} {w : World} {u z : Int} (ho : o.op = .buildSlice 92 2 #[(0,x),(1,y)]) (hx : ρ x = .int .i64 u) (hy : ρ y = .int .i64 z) : (execOp ρ o).run Tryz.prog w = .ok (.value (.slice (some ⟨w.heap.size,0,none⟩) 2 2)) (w.alloc (.cells #[.int .i64 u, .int .i64 z] 3)) := by
 unfold execOp
 simp only [ho]
 simp [go_sem,hx,hy]
theorem shortF_le {E : List ((Int × Int) × Thing)} {may last : Nat} : ∀ (f at_ seen : Nat) (n : Int),0 ≤ n → 0 ≤ shortF E may last f at_ seen n ∧ shortF E may last f at_ seen n ≤ n + f
 | 0,_,_,n,h => by rw [shortF]; omega
 | f + 1,at_,seen,n,h => by
  rw [shortF]
  split
  ·split
   ·omega
   ·have := shortF_le (E := E) (may := may) (last := last) f (minusS (nearU E at_ &&& may) (seen ||| at_)) (seen ||| at_) (n + 1) (by omega)
    omega
  ·omega
theorem short_bound (V : List (Int × Thing)) (E : List ((Int × Int) × Thing)) (s a : Int) : 0 ≤ shortS V E [s,a] ∧ shortS V E [s,a] ≤ 1100 := by
 have := shortF_le (E := E) (may := nextW V E [s,a]) (last := lastW V E [s,a]) 1025 (fromS [List.getLastD [s,a] 0]) 0 ((List.length [s,a] : Int) + 1) (by simp)
 unfold shortS
 simp only [List.length_cons,List.length_nil] at this ⊢
 omega
structure FstOk (st : List Int × Int) : Prop where
 lo : 0 ≤ st.2
 hi : st.2 ≤ 1100
 z : st.2 = 0 → st.1 = []
 l : st.1.length ≤ 2
 two : 0 < st.2 → st.1.length = 2
 rng : ∀ x ∈ st.1,0 ≤ x ∧ x < 1024
theorem FstOk.start : FstOk ([],0) := ⟨by simp,by simp,fun _ => rfl,by simp,by simp,by simp⟩
theorem FstOk.next {V : List (Int × Thing)} {E : List ((Int × Int) × Thing)} {st : List Int × Int} {s a : Int} (h : FstOk st) (hs : 0 ≤ s ∧ s < 1024) (ha : 0 ≤ a ∧ a < 1024) : FstOk (firstF V E s st a) := by
 unfold firstF
 have hb := short_bound V E s a
 generalize shortS V E [s,a] = z at hb ⊢
 split
 ·rename_i hc
  simp only [Bool.and_eq_true,decide_eq_true_eq] at hc
  exact ⟨hb.1,hb.2,fun h0 => by simp only at h0; omega,by simp,fun _ => rfl,fun x hx => by
   rcases List.mem_cons.1 hx with rfl | hx
   ·exact hs
   ·rw [List.mem_singleton] at hx; subst hx; exact ha⟩
 ·exact h
theorem FstOk.fold {V : List (Int × Thing)} {E : List ((Int × Int) × Thing)} {s : Int} (hs : 0 ≤ s ∧ s < 1024) (l : List Int) : ∀ (st : List Int × Int),FstOk st → (∀ a ∈ l,0 ≤ a ∧ a < 1024) → FstOk (l.foldl (firstF V E s) st) := by
 induction l with
 | nil => intro _ h _; exact h
 | cons a l ih => intro st h hl; rw [List.foldl_cons]; exact ih (firstF V E s st a) (h.next hs (hl a (by simp))) (fun x hx => hl x (by simp [hx]))
def outF (V : List (Int × Thing)) (E : List ((Int × Int) × Thing)) (st : List Int × Int) (s : Int) : List Int × Int := (toL (minusS (nearS s E) (belS (s + 1)))).foldl (firstF V E s) st
theorem toL_rng {N : Nat} {x : Int} (h : x ∈ toL N) : 0 ≤ x ∧ x < 1024 := ⟨(mem_toL'.1 h).1,(mem_toL'.1 h).2.1⟩
theorem FstOk.outN {V : List (Int × Thing)} {E : List ((Int × Int) × Thing)} {st : List Int × Int} {s : Int} (h : FstOk st) (hs : 0 ≤ s ∧ s < 1024) : FstOk (outF V E st s) := by
 unfold outF
 have hr := fun (x : Int) (hx : x ∈ toL (minusS (nearS s E) (belS (s + 1)))) => toL_rng hx
 generalize toL (minusS (nearS s E) (belS (s + 1))) = l at *
 exact FstOk.fold hs l st h hr
theorem FstOk.out {V : List (Int × Thing)} {E : List ((Int × Int) × Thing)} (l : List Int) : ∀ (st : List Int × Int),FstOk st → (∀ s ∈ l,0 ≤ s ∧ s < 1024) → FstOk (l.foldl (outF V E) st) := by
 induction l with
 | nil => intro _ h _; exact h
 | cons s l ih => intro st h hl; rw [List.foldl_cons]; exact ih (outF V E st s) (h.outN (hl s (by simp))) (fun x hx => hl x (by simp [hx]))
theorem firstS_out (V : List (Int × Thing)) (E : List ((Int × Int) × Thing)) : firstS V E = (toL (vS V)).foldl (outF V E) ([],0) := rfl
theorem longer_ok {V : List (Int × Thing)} {E : List ((Int × Int) × Thing)} {l l2 : List Int} {few : Int} (h : longerS V E l few = some l2) (hr : ∀ x ∈ l,0 ≤ x ∧ x < 1024) : l2.length = l.length + 1 ∧ ∀ x ∈ l2,0 ≤ x ∧ x < 1024 := by
 have key : ∀ v : Int,(0 ≤ v ∧ v < 1024) → (l ++ [v]).length = l.length + 1 ∧ ∀ x ∈ l ++ [v],0 ≤ x ∧ x < 1024 := fun v hv => ⟨by simp,fun x hx => by
  rcases List.mem_append.1 hx with hx | hx
  ·exact hr x hx
  ·rw [List.mem_singleton] at hx; rw [hx]; exact hv⟩
 unfold longerS at h
 split at h
 ·split at h
  ·rename_i hm
   cases h
   exact key _ (toL_rng (min_least hm).1)
  ·cases h
 ·obtain ⟨v,hv,rfl⟩ := Option.map_eq_some_iff.1 h
  exact key v (toL_rng (List.mem_of_find?_eq_some hv))
theorem extend_stop {V : List (Int × Thing)} {E : List ((Int × Int) × Thing)} {few : Int} {f : Nat} {l : List Int} (h : ¬ (l.length : Int) < few) : extendS V E few f l = some l := by
 cases f with
 | zero => rfl
 | succ f => rw [extendS,if_neg h]
theorem fc_pos1 {z fw : Int} (h : 0 < z) (h1 : fw = 0) : (decide (0 < z) && (decide (fw = 0) || decide (z < fw))) = true := by simp [h,h1]
theorem fc_pos2 {z fw : Int} (h : 0 < z) (h1 : z < fw) : (decide (0 < z) && (decide (fw = 0) || decide (z < fw))) = true := by simp [h,h1]
theorem fc_neg2 {z fw : Int} (h : ¬ fw = 0) (h1 : ¬ z < fw) : ¬ (decide (0 < z) && (decide (fw = 0) || decide (z < fw))) = true := by simp [h,h1]
theorem fc_neg0 {z fw : Int} (h : ¬ 0 < z) : ¬ (decide (0 < z) && (decide (fw = 0) || decide (z < fw))) = true := by simp [h]
def TwPost (w : World) (l : List Int) (b : Bool) (e : Ending) (w' : World) : Prop := ∃ A c,e = .returned (.tuple #[.slice A l.length c, .bool b]) ∧ SlAt encI 1 w' A l ∧ Ext w w'
theorem TwPost.mk {w w' : World} {l : List Int} {b : Bool} {A : Option Addr} {n c : Nat} (hn : n = l.length) (h : SlAt encI 1 w' A l) (hx : Ext w w') : TwPost w l b (.returned (.tuple #[.slice A n c, .bool b])) w' := ⟨A,c,by rw [hn],h,hx⟩
set_option maxRecDepth 100000 in
set_option maxHeartbeats 16000000 in
theorem hole_any (og : Option Addr) (V : List (Int × Thing)) (E : List ((Int × Int) × Thing)) (w : World) (hg : GL w og V E) (hT : Tab w) :
  Calls Tryz.prog 17 #[.pointer og] w (TwPost w (holeS V E).1 (holeS V E).2) := by
 have hg' := hide hg
 have hT' := hide hT
 obtain ⟨po,hpo⟩ : ∃ po,po = peoS V E := ⟨_,rfl⟩
 have hpc := hide (fun (W : World) (hW : Ext w W) => perfect_any og V E W (hg.ext hW) (hT.ext hW))
 have hdef : holeS V E = if (peoS V E).isSome = true then ([],false) else match extendS V E (firstS V E).2 (firstS V E).2.toNat (firstS V E).1 with
  | none => ([],false)
  | some w => (w,true) := rfl
 rw [← hpo] at hpc hdef
 generalize holeS V E = res at hdef ⊢
 have hdef' := hide hdef
 clear hg hT hpo hdef
 have hP := hide (Sp.new w)
 refine callsIn_wide.1 (callsIn_of_wp_marks (n := 0) Tryz.func17 rfl trivial (wpIn_wide.2 ?_))
 simp only [Tryz.ntmps17,List.size_toArray,List.length_cons,List.length_nil,Nat.reduceAdd,Nat.reduceSub,Array.replicate_succ,Array.replicate_zero,List.push_toArray,List.append_toArray,List.nil_append,List.cons_append]
 try dsimp only
 repeat ((fail_if_success (with_reducible refine wp_reg (id := 0) ?_)); (first | go_values | go_skip | go_step | go_guarded | go_upon | go_in | go_back | fail))
 with_reducible refine wp_reg (id := 0) ?_
 refine (unhide hP).allocO 24 #[.pointer og] rfl (run_box (v := .pointer og) rfl rfl) ?_
 intro bg y1 hQ
 replace hP : Hid (Sp w [] w [] [(bg,24, #[.pointer og])] [] y1) := hide hQ
 clear hQ
 iterate 2
  refine wpO_want rfl ?_
  go_simp
 refine wpO_done ?_
 try go_frame
 try dsimp only
 repeat ((fail_if_success (with_reducible refine wp_reg (id := 1) ?_)); (first | go_values | go_skip | go_step | go_guarded | go_upon | go_in | go_back | fail))
 with_reducible refine wp_reg (id := 1) ?_
 refine wpO_val rfl (load_V (v := .pointer og) rfl rfl (by simp [go_sem]) (((unhide hP).get 0 rfl).cell 0)) ?_
 go_frame
 refine wpO_want rfl ?_
 go_simp
 refine (unhide hpc _ (unhide hP).extf).mono ?_
 rintro _ y2 ⟨A0,c0,rfl,hs0,hxc⟩
 refine ⟨_,rfl, ?_⟩
 replace hP : Hid (Sp w [] w [] [(bg,24, #[.pointer og])] [] y2) := hide ((unhide hP).ext hxc)
 clear hxc hs0
 generalize htu0 : Value.tuple _ = tu
 have htu := hide htu0
 clear htu0
 obtain ⟨pb,hpb⟩ : ∃ pb,pb = po.isSome := ⟨_,rfl⟩
 rw [← hpb] at htu hdef'
 obtain ⟨pn,hpn⟩ : ∃ pn,pn = (po.getD []).length := ⟨_,rfl⟩
 rw [← hpn] at htu
 clear hpb hpn hpc
 refine wpO_val rfl (run_move rfl rfl) ?_
 go_frame
 refine wpO_val rfl (run_extract (i := 0) (v := .slice A0 pn c0) rfl (unhide htu).symm rfl) ?_
 go_frame
 refine wpO_val rfl (run_extract (i := 1) (v := .bool pb) rfl (unhide htu).symm rfl) ?_
 go_frame
 iterate 2
  refine wpO_want rfl ?_
  go_simp
 refine wpO_done ?_
 try go_frame
 cases pb
 ·-- not chordal
  have hd2 := unhide hdef'
  rw [if_neg (by simp),firstS_out] at hd2
  have hdf := hide hd2
  clear hd2 hdef' htu
  try dsimp only
  repeat ((fail_if_success (with_reducible refine wp_reg (id := 4) ?_)); (first | go_values | go_skip | go_step | go_guarded | go_upon | go_in | go_back | fail))
  with_reducible refine wp_reg (id := 4) ?_
  refine (unhide hP).allocO 92 #[.slice none 0 0] rfl (by go_simp) ?_
  intro b6 y3 hQ
  replace hP : Hid (Sp w [] w [] [(bg,24, #[.pointer og]),(b6,92, #[.slice none 0 0])] [] y3) := hide hQ
  clear hQ
  refine wpO_done ?_
  try go_frame
  try dsimp only
  repeat ((fail_if_success (with_reducible refine wp_reg (id := 5) ?_)); (first | go_values | go_skip | go_step | go_guarded | go_upon | go_in | go_back | fail))
  with_reducible refine wp_reg (id := 5) ?_
  refine (unhide hP).allocO 3 #[.int .i64 0] rfl (by go_simp) ?_
  intro b7 y4 hQ
  replace hP : Hid (Sp w [] w [] [(bg,24, #[.pointer og]),(b6,92, #[.slice none 0 0]),(b7,3, #[.int .i64 0])] [] y4) := hide hQ
  clear hQ
  refine (unhide hP).setO 2 #[.int .i64 0] rfl rfl (fun hb => run_store_row (v := .int .i64 0) rfl rfl rfl (by simp [go_sem]) hb rfl (by simp [Value.cells,Value.oneCell'])) ?_
  intro y5 hQ
  replace hP : Hid (Sp w [] w [] [(bg,24, #[.pointer og]),(b6,92, #[.slice none 0 0]),(b7,3, #[.int .i64 0])] [] y5) := hide hQ
  clear hQ
  refine wpO_done ?_
  try go_frame
  replace hP : Hid (Sp w [] w [] [(bg,24, #[.pointer og]),(b6,92, #[.slice none 0 0]),(b7,3, #[.int .i64 0])] [(3,1, .slice none 0 0,0,[])] y5) := hide ((unhide hP).nil 3 1)
  try dsimp only
  repeat ((fail_if_success (with_reducible refine wp_reg (id := 6) ?_)); (first | go_values | go_skip | go_step | go_guarded | go_upon | go_in | go_back | fail))
  with_reducible refine wp_reg (id := 6) ?_
  refine wpO_val rfl (load_V (v := .pointer og) rfl rfl (by simp [go_sem]) (((unhide hP).get 0 rfl).cell 0)) ?_
  go_frame
  refine wpO_want rfl ?_
  go_simp
  refine (vsetG og V E _ ((unhide hg').ext (unhide hP).extf)).mono ?_
  rintro _ y6 ⟨rfl,hxc⟩
  refine ⟨_,rfl, ?_⟩
  replace hP : Hid (Sp w [] w [] [(bg,24, #[.pointer og]),(b6,92, #[.slice none 0 0]),(b7,3, #[.int .i64 0])] [(3,1, .slice none 0 0,0,[])] y6) := hide ((unhide hP).ext hxc)
  clear hxc
  refine wpO_want rfl ?_
  go_simp
  refine (all_ext (vS V) _).mono ?_
  rintro _ y7 ⟨bi,rfl,hBa0,hxc⟩
  refine ⟨_,rfl, ?_⟩
  replace hP : Hid (Sp w [] w [] [(bg,24, #[.pointer og]),(b6,92, #[.slice none 0 0]),(b7,3, #[.int .i64 0])] [(3,1, .slice none 0 0,0,[])] y7) := hide ((unhide hP).ext hxc)
  have hBa := hide hBa0
  clear hxc hBa0
  refine wpO_done ?_
  try go_frame
  go_wp2_with fail
  refine wp_rngS (gf := 78) (lb := #[.pointer (some ⟨bi,0,none⟩)]) (unhide hP) rfl (enters_of Tryz.func78 (by kernel_rfl) rfl) (ex := [0]) ((unhide hP).tab (unhide hT')) (all_iter (vS V) bi y7 (unhide hBa) ((unhide hT').ext (unhide hP).extf)) (fun _ => rfl)
   (fun pre L' Rs' => ∃ v6,L' = [(bg,24, #[.pointer og]),(b6,92, #[v6]),(b7,3, #[.int .i64 (pre.foldl (outF V E) ([],0)).2])] ∧ Rs' = [(3,1,v6,(pre.foldl (outF V E) ([],0)).1.length,(pre.foldl (outF V E) ([],0)).1.flatMap encI)])
   (fun _ _ _ => False)
   (fun tm T' s a1 W' => ∃ bu,Blk W' bu 3 #[.int .i64 s] ∧ bu ∉ T' ∧ y7.heap.size + (2 + 1) ≤ bu ∧ a1 = ⟨(tm.setIfInBounds 20 (.int .i64 s)).setIfInBounds 8 (.pointer (some ⟨bu,0,none⟩)),[]⟩)
   (fun T' x a1 A B ⟨bu,h1,h2,h3,h4⟩ k => ⟨bu,h1.keep k (by rw [mem_privs]; omega),h2,h3,h4⟩) ⟨.slice none 0 0,rfl,rfl⟩ ?_ ?_ ?_ ?_
  ·intro T' s W' K hlt' hsz hK
   have hK' := hide hK
   have hlt2 := hide hlt'
   have hsz2 := hide hsz
   clear hK hlt' hsz
   rw [zip1]
   simp only [List.setIfInBounds_toArray,List.set_cons_succ,List.set_cons_zero]
   try dsimp only
   repeat ((fail_if_success (with_reducible refine wpI_reg (id := 7) (by kernel_rfl) ?_)); (first | go_values | gi_step | gi_guarded | gi_upon | gi_in | gi_back | fail))
   with_reducible refine wpI_reg (id := 7) (by kernel_rfl) ?_
   iterate 2
    refine wpO_want rfl ?_
    go_simp
   refine wpO_done ?_
   try go_frame
   exact unhide hK' _ _ ⟨W'.heap.size,Blk.new W' _ _,fun hm => Nat.lt_irrefl _ (unhide hlt2 _ hm),unhide hsz2,rfl⟩ (ext_self1 W' _)
  ·rintro l pre s a1 L' Rs' W' ⟨v6,rfl,rfl⟩ hB0 ⟨bu,hBu,hbu,hbu2,rfl⟩ hpx hl hkW htW
   simp only [List.setIfInBounds_toArray,List.set_cons_succ,List.set_cons_zero]
   have hs0 := hide (toL_rng (hpx.subset (by simp) : s ∈ toL (vS V)))
   have hok := hide (FstOk.out (V := V) (E := E) pre ([],0) FstOk.start (fun x hx => toL_rng (hpx.subset (by simp [hx]))))
   obtain ⟨st,hst⟩ : ∃ st,st = (pre.foldl (outF V E) ([],0)) := ⟨_,rfl⟩
   rw [← hst] at hB0 hok
   have hst' := hide hst
   have hBu' := hide hBu
   have hbu' := hide hbu
   have hl' := hide hl
   have hB : Hid (Sp w (stT [(bg,24, #[.pointer og]),(b6,92, #[v6]),(b7,3, #[.int .i64 st.2])] [(3,1,v6,st.1.length,st.1.flatMap encI)]) W' [] [(bg,24, #[.pointer og]),(b6,92, #[v6]),(b7,3, #[.int .i64 st.2])] [(3,1,v6,st.1.length,st.1.flatMap encI)] W') := hide hB0
   have hw1 : IntKind.i64.wrap (s + 1) = s + 1 := IntWalk.i64_in _ (by have := unhide hs0; omega)
   have hsW := hide hB0.st
   clear hB0 hst hBu hbu hbu2 hpx hl hkW htW
   have qu := fun (W : World) (hW : Keep [] W' W) => ((unhide hBu').keep hW (by simp)).cell 0
   simp only [List.getElem?_toArray,List.getElem?_cons_zero] at qu
   have hself := Keep.refl [] W'
   gi_wp2_with fail
   refine wpI_regionK (P := Tryz.prog) [] [0,1,2,3,4,5,6] [7] 1 #[true,true,true,true,true,true,true,false] (by kernel_rfl) (by kernel_rfl) (by kernel_rfl) rfl (by rfl) ?_
   refine ql_want (v := .pointer og) rfl (by rfl) (fun W hW => qUpon_ofX (load_V rfl rfl (by simp [go_sem]) ((unhide hB).cellK 0 0 rfl rfl (by simp) W hW))) ?_
   go_frame
   iterate 1
    refine ql_want (v := ?_) rfl (by rfl) (fun W hW => ?_) ?_
    rotate_left
    ·go_simp
     first | done | rfl
    go_frame
   refine ql_want (v := .agg (setC (nearS s E))) rfl (by rfl) (fun W hW => ?_) ?_
   ·go_simp
    refine (nearG og V E s W ((unhide hg').ext ((unhide hB).extf.trans ((Ext.refl _).of_new hW (by simp))))).mono ?_
    rintro _ _ ⟨h1,h2⟩
    exact ⟨_,h1,rfl,h2⟩
   go_frame
   iterate 2
    refine ql_want (v := ?_) rfl (by rfl) (fun W hW => ?_) ?_
    rotate_left
    ·go_simp
     first | done | rfl
    go_frame
   refine ql_want (v := .agg (setC (belS (s + 1)))) rfl (by rfl) (fun W hW => ?_) ?_
   ·go_simp
    refine (below_any (s + 1) W).mono ?_
    rintro _ _ ⟨h1,h2⟩
    exact ⟨_,h1,rfl,h2⟩
   go_frame
   refine ql_want (v := .agg (setC (minusS (nearS s E) (belS (s + 1))))) rfl (by rfl) (fun W hW => ?_) ?_
   ·go_simp
    refine (minus_any _ _ W).mono ?_
    rintro _ _ ⟨h1,h2⟩
    exact ⟨_,h1,rfl,h2⟩
   go_frame
   refine wpQL_nil (fun y8 hxq => ?_)
   replace hB : Hid (Sp w (stT [(bg,24, #[.pointer og]),(b6,92, #[v6]),(b7,3, #[.int .i64 st.2])] [(3,1,v6,st.1.length,st.1.flatMap encI)]) W' [] [(bg,24, #[.pointer og]),(b6,92, #[v6]),(b7,3, #[.int .i64 st.2])] [(3,1,v6,st.1.length,st.1.flatMap encI)] y8) := hide ((unhide hB).ext hxq)
   clear hxq
   clear qu hself
   refine lx_one (i := 7) (by kernel_rfl) rfl (by rfl) #[true,true,true,true,true,true,true,true] (by rfl) ?_
   go_simp
   refine (all_ext (minusS (nearS s E) (belS (s + 1))) _).mono ?_
   rintro _ zy9 ⟨bi2,rfl,hBa0,hxc⟩
   refine ⟨_,rfl,fun y9 hxd => ?_⟩
   replace hB : Hid (Sp w (stT [(bg,24, #[.pointer og]),(b6,92, #[v6]),(b7,3, #[.int .i64 st.2])] [(3,1,v6,st.1.length,st.1.flatMap encI)]) W' [] [(bg,24, #[.pointer og]),(b6,92, #[v6]),(b7,3, #[.int .i64 st.2])] [(3,1,v6,st.1.length,st.1.flatMap encI)] y9) := hide ((unhide hB).ext (hxc.trans hxd))
   have hBa := hide (hBa0.ext hxd)
   clear hxc hxd hBa0
   try go_frame
   refine wpX_done (by kernel_rfl) ?_
   try go_frame
   gi_wp2_with fail
   refine wpI_rngS ((unhide hB).loop (unhide hsW) (unhide hl')) (gf := 78) (lb := #[.pointer (some ⟨bi2,0,none⟩)]) (unhide hB) rfl (enters_of Tryz.func78 (by kernel_rfl) rfl) (ex := [0]) ((unhide hB).tab (unhide hT')) (all_iter (minusS (nearS s E) (belS (s + 1))) bi2 y9 (unhide hBa) ((unhide hT').ext (unhide hB).extf)) (fun _ => rfl)
    (fun pre2 L' Rs' => ∃ v6,L' = [(bg,24, #[.pointer og]),(b6,92, #[v6]),(b7,3, #[.int .i64 (pre2.foldl (firstF V E s) st).2])] ∧ Rs' = [(3,1,v6,(pre2.foldl (firstF V E s) st).1.length,(pre2.foldl (firstF V E s) st).1.flatMap encI)])
    (fun _ _ _ => False)
    (fun tm _ a a1 _ => a1 = ⟨(tm.setIfInBounds 29 (.int .i64 a)).setIfInBounds 9 (.int .i64 a),[]⟩)
    (fun _ _ _ _ _ h _ => h) ⟨v6,rfl,rfl⟩ ?_ ?_ ?_ ?_
   ·intro T' a W' K hlt' hsz hK
    have hK' := hide hK
    have hlt2 := hide hlt'
    have hsz2 := hide hsz
    clear hK hlt' hsz
    rw [zip1]
    simp only [List.setIfInBounds_toArray,List.set_cons_succ,List.set_cons_zero]
    try dsimp only
    repeat ((fail_if_success (with_reducible refine wpI_reg (id := 9) (by kernel_rfl) ?_)); (first | go_values | gi_step | gi_guarded | gi_upon | gi_in | gi_back | fail))
    with_reducible refine wpI_reg (id := 9) (by kernel_rfl) ?_
    refine wpO_want rfl ?_
    go_simp
    refine wpO_done ?_
    try go_frame
    exact unhide hK' _ _ rfl (Ext.refl _)
   ·rintro l2 pre2 a a1 L' Rs' W2 ⟨v7,rfl,rfl⟩ hC0 rfl hpx hl2 hkW htW
    simp only [List.setIfInBounds_toArray,List.set_cons_succ,List.set_cons_zero]
    have ha0 := hide (toL_rng (hpx.subset (by simp) : a ∈ toL (minusS (nearS s E) (belS (s + 1)))))
    have hok2 := hide (FstOk.fold (V := V) (E := E) (unhide hs0) pre2 st (unhide hok) (fun x hx => toL_rng (hpx.subset (by simp [hx]))))
    obtain ⟨st2,hst2⟩ : ∃ st2,st2 = (pre2.foldl (firstF V E s) st) := ⟨_,rfl⟩
    rw [← hst2] at hC0 hok2 htW
    have hst2' := hide hst2
    obtain ⟨fw,hfw⟩ : ∃ fw,fw = st2.2 := ⟨_,rfl⟩
    rw [← hfw] at hC0 htW
    have hfw' := hide hfw
    have hC : Hid (Sp w (stT [(bg,24, #[.pointer og]),(b6,92, #[v7]),(b7,3, #[.int .i64 fw])] [(3,1,v7,st2.1.length,st2.1.flatMap encI)]) W2 [] [(bg,24, #[.pointer og]),(b6,92, #[v7]),(b7,3, #[.int .i64 fw])] [(3,1,v7,st2.1.length,st2.1.flatMap encI)] W2) := hide hC0
    have hBy := ((unhide hBu').keep (unhide hB).keep (unhide hbu'))
    have hBu2 := hide (hBy.keep hkW (unhide hbu'))
    have hbu2 := hide (show bu ∉ (stT [(bg,24, #[.pointer og]),(b6,92, #[v7]),(b7,3, #[.int .i64 fw])] [(3,1,v7,st2.1.length,st2.1.flatMap encI)]) from fun hm => by
     rcases htW bu hm with h | h
     ·exact unhide hbu' h
     ·have := hBy.lt; omega)
    clear hC0 hst2 hfw hpx hl2 hkW htW hBy
    try dsimp only
    repeat ((fail_if_success (with_reducible refine wpI_reg (id := 10) (by kernel_rfl) ?_)); (first | go_values | gi_step | gi_guarded | gi_upon | gi_in | gi_back | fail))
    with_reducible refine wpI_reg (id := 10) (by kernel_rfl) ?_
    refine wpO_val rfl (load_V (v := .int .i64 s) rfl rfl (by simp [go_sem]) (((unhide hBu2).keep (unhide hC).keep (unhide hbu2)).cell 0)) ?_
    go_frame
    refine wpO_val rfl (run_move rfl rfl) ?_
    go_frame
    refine (unhide hC).build2O 3 #[.int .i64 s, .int .i64 a] rfl (run_build2W rfl rfl rfl) ?_
    intro bb y15 hQ
    replace hC : Hid (Sp w (stT [(bg,24, #[.pointer og]),(b6,92, #[v7]),(b7,3, #[.int .i64 fw])] [(3,1,v7,st2.1.length,st2.1.flatMap encI)]) W2 [] [(bg,24, #[.pointer og]),(b6,92, #[v7]),(b7,3, #[.int .i64 fw]),(bb,3, #[.int .i64 s, .int .i64 a])] [(3,1,v7,st2.1.length,st2.1.flatMap encI)] y15) := hide hQ
    clear hQ
    go_frame
    refine wpO_val rfl (load_V (v := .pointer og) rfl rfl (by simp [go_sem]) (((unhide hC).get 0 rfl).cell 0)) ?_
    go_frame
    refine wpO_want rfl ?_
    go_simp
    obtain ⟨z,hz⟩ : ∃ z,z = shortS V E [s,a] := ⟨_,rfl⟩
    have hsv := short_any (some ⟨bb,0,none⟩) [s,a] 2 og V E _ (slat_two ((unhide hC).get 3 rfl)) (by simp) (by simp) (by simp) (fun x hx => by
     rcases List.mem_cons.1 hx with rfl | hx
     ·exact unhide hs0
     ·rw [List.mem_singleton] at hx; subst hx; exact unhide ha0) ((unhide hg').ext (unhide hC).extf) ((unhide hT').ext (unhide hC).extf)
    simp only [List.length_cons,List.length_nil,Nat.zero_add,Nat.reduceAdd] at hsv
    rw [← hz] at hsv
    have hz' := hide hz
    clear hz
    refine (hsv).mono ?_
    rintro _ y16 ⟨rfl,hxc⟩
    refine ⟨_,rfl, ?_⟩
    replace hC : Hid (Sp w (stT [(bg,24, #[.pointer og]),(b6,92, #[v7]),(b7,3, #[.int .i64 fw])] [(3,1,v7,st2.1.length,st2.1.flatMap encI)]) W2 [] [(bg,24, #[.pointer og]),(b6,92, #[v7]),(b7,3, #[.int .i64 fw]),(bb,3, #[.int .i64 s, .int .i64 a])] [(3,1,v7,st2.1.length,st2.1.flatMap encI)] y16) := hide ((unhide hC).ext hxc)
    clear hxc
    clear hsv
    refine wpO_want rfl ?_
    go_simp
    refine wpO_done ?_
    try go_frame
    replace hC : Hid (Sp w (stT [(bg,24, #[.pointer og]),(b6,92, #[v7]),(b7,3, #[.int .i64 fw])] [(3,1,v7,st2.1.length,st2.1.flatMap encI)]) W2 [] [(bg,24, #[.pointer og]),(b6,92, #[v7]),(b7,3, #[.int .i64 fw])] [(3,1,v7,st2.1.length,st2.1.flatMap encI)] y16) := hide ((unhide hC).sub (List.sublist_append_left _ ([(bb,3, #[.int .i64 s, .int .i64 a])] : List Cl)) (List.Sublist.refl _))
    have hfF : firstF V E s st2 a = if (decide (0 < z) && (decide (fw = 0) || decide (z < fw))) = true then ([s,a],z) else st2 := by unfold firstF; rw [← unhide hz', ← unhide hfw']
    have hfF' := hide hfF
    clear hfF
    by_cases hz0 : 0 < z
    ·by_cases hf0 : fw = 0
     ·skip
      have hz0' := hide hz0
      clear hz0
      have hf0' := hide hf0
      clear hf0
      try dsimp only
      repeat ((fail_if_success (with_reducible refine wpI_reg (id := 11) (by kernel_rfl) ?_)); (first | go_values | gi_step | gi_guarded | gi_upon | gi_in | gi_back | fail))
      with_reducible refine wpI_reg (id := 11) (by kernel_rfl) ?_
      refine wpO_want rfl ?_
      go_simp
      refine wpO_val rfl (run_gtrB (a := z) (b := 0) true rfl rfl rfl (decide_eq_true (unhide hz0'))) ?_
      go_frame
      refine wpO_want rfl ?_
      go_simp
      refine wpO_val rfl (load_V (v := .int .i64 fw) rfl rfl (by simp [go_sem]) (((unhide hC).get 2 rfl).cell 0)) ?_
      go_frame
      refine wpO_val rfl (run_eqlP (a := fw) (b := 0) rfl rfl rfl (unhide hf0')) ?_
      go_frame
      refine wpO_want rfl ?_
      go_simp
      iterate 3
       refine wpO_out (by rfl) ?_
       go_frame
      iterate 2
       refine wpO_want rfl ?_
       go_simp
      refine wpO_done ?_
      try go_frame
      try dsimp only
      repeat ((fail_if_success (with_reducible refine wpI_reg (id := 12) (by kernel_rfl) ?_)); (first | go_values | gi_step | gi_guarded | gi_upon | gi_in | gi_back | fail))
      with_reducible refine wpI_reg (id := 12) (by kernel_rfl) ?_
      refine wpO_val rfl (load_V (v := .int .i64 s) rfl rfl (by simp [go_sem]) (((unhide hBu2).keep (unhide hC).keep (unhide hbu2)).cell 0)) ?_
      go_frame
      refine wpO_val rfl (run_move rfl rfl) ?_
      go_frame
      refine (unhide hC).build2O 3 #[.int .i64 s, .int .i64 a] rfl (run_build2W rfl rfl rfl) ?_
      intro bb y17 hQ
      replace hC : Hid (Sp w (stT [(bg,24, #[.pointer og]),(b6,92, #[v7]),(b7,3, #[.int .i64 fw])] [(3,1,v7,st2.1.length,st2.1.flatMap encI)]) W2 [] [(bg,24, #[.pointer og]),(b6,92, #[v7]),(b7,3, #[.int .i64 fw]),(bb,3, #[.int .i64 s, .int .i64 a])] [(3,1,v7,st2.1.length,st2.1.flatMap encI)] y17) := hide hQ
      clear hQ
      go_frame
      refine wpO_val rfl (run_move rfl rfl) ?_
      go_frame
      refine (unhide hC).setO 1 #[.slice (some ⟨bb,0,none⟩) 2 2] rfl rfl (fun hb => run_store_row (v := .slice (some ⟨bb,0,none⟩) 2 2) rfl rfl rfl (by simp [go_sem]) hb rfl (by simp [Value.cells,Value.oneCell'])) ?_
      intro y18 hQ
      replace hC : Hid (Sp w (stT [(bg,24, #[.pointer og]),(b6,92, #[v7]),(b7,3, #[.int .i64 fw])] [(3,1,v7,st2.1.length,st2.1.flatMap encI)]) W2 [] [(bg,24, #[.pointer og]),(b6,92, #[.slice (some ⟨bb,0,none⟩) 2 2]),(b7,3, #[.int .i64 fw]),(bb,3, #[.int .i64 s, .int .i64 a])] [(3,1,v7,st2.1.length,st2.1.flatMap encI)] y18) := hide hQ
      clear hQ
      refine (unhide hC).setO 2 #[.int .i64 z] rfl rfl (fun hb => run_store_row (v := .int .i64 z) rfl rfl rfl (by simp [go_sem]) hb rfl (by simp [Value.cells,Value.oneCell'])) ?_
      intro y19 hQ
      replace hC : Hid (Sp w (stT [(bg,24, #[.pointer og]),(b6,92, #[v7]),(b7,3, #[.int .i64 fw])] [(3,1,v7,st2.1.length,st2.1.flatMap encI)]) W2 [] [(bg,24, #[.pointer og]),(b6,92, #[.slice (some ⟨bb,0,none⟩) 2 2]),(b7,3, #[.int .i64 z]),(bb,3, #[.int .i64 s, .int .i64 a])] [(3,1,v7,st2.1.length,st2.1.flatMap encI)] y19) := hide hQ
      clear hQ
      refine wpO_done ?_
      try go_frame
      replace hC : Hid (Sp w (stT [(bg,24, #[.pointer og]),(b6,92, #[v7]),(b7,3, #[.int .i64 fw])] [(3,1,v7,st2.1.length,st2.1.flatMap encI)]) W2 [] [(bg,24, #[.pointer og]),(b6,92, #[.slice (some ⟨bb,0,none⟩) 2 2]),(b7,3, #[.int .i64 z])] [(3,1,v7,st2.1.length,st2.1.flatMap encI),(3,1, .slice (some ⟨bb,0,none⟩) 2 2,2,[.int .i64 s, .int .i64 a])] y19) := hide (Sp.toRow (L := [(bg,24, #[.pointer og]),(b6,92, #[.slice (some ⟨bb,0,none⟩) 2 2]),(b7,3, #[.int .i64 z])]) (b := bb) (t := 3) (n := 2) (cs := #[.int .i64 s, .int .i64 a]) (unhide hC) rfl (by decide))
      replace hC : Hid (Sp w (stT [(bg,24, #[.pointer og]),(b6,92, #[v7]),(b7,3, #[.int .i64 fw])] [(3,1,v7,st2.1.length,st2.1.flatMap encI)]) W2 [] [(bg,24, #[.pointer og]),(b6,92, #[.slice (some ⟨bb,0,none⟩) 2 2]),(b7,3, #[.int .i64 z])] [(3,1, .slice (some ⟨bb,0,none⟩) 2 2,2,[.int .i64 s, .int .i64 a])] y19) := hide ((unhide hC).sub (List.Sublist.refl _) (List.sublist_cons_self _ _))
      gi_wp2_with fail
      have hnew : firstF V E s (pre2.foldl (firstF V E s) st) a = ([s,a],z) := by
       rw [← unhide hst2']
       exact (unhide hfF').trans (if_pos (fc_pos1 (unhide hz0') (unhide hf0')))
      have hnew2 : (pre2 ++ [a]).foldl (firstF V E s) st = ([s,a],z) := by rw [List.foldl_append]; exact hnew
      exact ⟨_,_,⟨.slice (some ⟨bb,0,none⟩) 2 2,by first | rw [hnew] | rw [hnew2],by first | (rw [hnew]; rfl) | (rw [hnew2]; rfl)⟩,unhide hC⟩
     ·by_cases hlt : z < fw
      ·skip
       have hz0' := hide hz0
       clear hz0
       have hf0' := hide hf0
       clear hf0
       have hlt' := hide hlt
       clear hlt
       try dsimp only
       repeat ((fail_if_success (with_reducible refine wpI_reg (id := 11) (by kernel_rfl) ?_)); (first | go_values | gi_step | gi_guarded | gi_upon | gi_in | gi_back | fail))
       with_reducible refine wpI_reg (id := 11) (by kernel_rfl) ?_
       refine wpO_want rfl ?_
       go_simp
       refine wpO_val rfl (run_gtrB (a := z) (b := 0) true rfl rfl rfl (decide_eq_true (unhide hz0'))) ?_
       go_frame
       refine wpO_want rfl ?_
       go_simp
       refine wpO_val rfl (load_V (v := .int .i64 fw) rfl rfl (by simp [go_sem]) (((unhide hC).get 2 rfl).cell 0)) ?_
       go_frame
       refine wpO_val rfl (run_eqlN (a := fw) (b := 0) rfl rfl rfl (unhide hf0')) ?_
       go_frame
       iterate 2
        refine wpO_want rfl ?_
        go_simp
       refine wpO_val rfl (load_V (v := .int .i64 fw) rfl rfl (by simp [go_sem]) (((unhide hC).get 2 rfl).cell 0)) ?_
       go_frame
       refine wpO_val rfl (run_lssB (a := z) (b := fw) true rfl rfl rfl (decide_eq_true (unhide hlt'))) ?_
       go_frame
       iterate 2
        refine wpO_want rfl ?_
        go_simp
       refine wpO_done ?_
       try go_frame
       try dsimp only
       repeat ((fail_if_success (with_reducible refine wpI_reg (id := 12) (by kernel_rfl) ?_)); (first | go_values | gi_step | gi_guarded | gi_upon | gi_in | gi_back | fail))
       with_reducible refine wpI_reg (id := 12) (by kernel_rfl) ?_
       refine wpO_val rfl (load_V (v := .int .i64 s) rfl rfl (by simp [go_sem]) (((unhide hBu2).keep (unhide hC).keep (unhide hbu2)).cell 0)) ?_
       go_frame
       refine wpO_val rfl (run_move rfl rfl) ?_
       go_frame
       refine (unhide hC).build2O 3 #[.int .i64 s, .int .i64 a] rfl (run_build2W rfl rfl rfl) ?_
       intro bb y17 hQ
       replace hC : Hid (Sp w (stT [(bg,24, #[.pointer og]),(b6,92, #[v7]),(b7,3, #[.int .i64 fw])] [(3,1,v7,st2.1.length,st2.1.flatMap encI)]) W2 [] [(bg,24, #[.pointer og]),(b6,92, #[v7]),(b7,3, #[.int .i64 fw]),(bb,3, #[.int .i64 s, .int .i64 a])] [(3,1,v7,st2.1.length,st2.1.flatMap encI)] y17) := hide hQ
       clear hQ
       go_frame
       refine wpO_val rfl (run_move rfl rfl) ?_
       go_frame
       refine (unhide hC).setO 1 #[.slice (some ⟨bb,0,none⟩) 2 2] rfl rfl (fun hb => run_store_row (v := .slice (some ⟨bb,0,none⟩) 2 2) rfl rfl rfl (by simp [go_sem]) hb rfl (by simp [Value.cells,Value.oneCell'])) ?_
       intro y18 hQ
       replace hC : Hid (Sp w (stT [(bg,24, #[.pointer og]),(b6,92, #[v7]),(b7,3, #[.int .i64 fw])] [(3,1,v7,st2.1.length,st2.1.flatMap encI)]) W2 [] [(bg,24, #[.pointer og]),(b6,92, #[.slice (some ⟨bb,0,none⟩) 2 2]),(b7,3, #[.int .i64 fw]),(bb,3, #[.int .i64 s, .int .i64 a])] [(3,1,v7,st2.1.length,st2.1.flatMap encI)] y18) := hide hQ
       clear hQ
       refine (unhide hC).setO 2 #[.int .i64 z] rfl rfl (fun hb => run_store_row (v := .int .i64 z) rfl rfl rfl (by simp [go_sem]) hb rfl (by simp [Value.cells,Value.oneCell'])) ?_
       intro y19 hQ
       replace hC : Hid (Sp w (stT [(bg,24, #[.pointer og]),(b6,92, #[v7]),(b7,3, #[.int .i64 fw])] [(3,1,v7,st2.1.length,st2.1.flatMap encI)]) W2 [] [(bg,24, #[.pointer og]),(b6,92, #[.slice (some ⟨bb,0,none⟩) 2 2]),(b7,3, #[.int .i64 z]),(bb,3, #[.int .i64 s, .int .i64 a])] [(3,1,v7,st2.1.length,st2.1.flatMap encI)] y19) := hide hQ
       clear hQ
       refine wpO_done ?_
       try go_frame
       replace hC : Hid (Sp w (stT [(bg,24, #[.pointer og]),(b6,92, #[v7]),(b7,3, #[.int .i64 fw])] [(3,1,v7,st2.1.length,st2.1.flatMap encI)]) W2 [] [(bg,24, #[.pointer og]),(b6,92, #[.slice (some ⟨bb,0,none⟩) 2 2]),(b7,3, #[.int .i64 z])] [(3,1,v7,st2.1.length,st2.1.flatMap encI),(3,1, .slice (some ⟨bb,0,none⟩) 2 2,2,[.int .i64 s, .int .i64 a])] y19) := hide (Sp.toRow (L := [(bg,24, #[.pointer og]),(b6,92, #[.slice (some ⟨bb,0,none⟩) 2 2]),(b7,3, #[.int .i64 z])]) (b := bb) (t := 3) (n := 2) (cs := #[.int .i64 s, .int .i64 a]) (unhide hC) rfl (by decide))
       replace hC : Hid (Sp w (stT [(bg,24, #[.pointer og]),(b6,92, #[v7]),(b7,3, #[.int .i64 fw])] [(3,1,v7,st2.1.length,st2.1.flatMap encI)]) W2 [] [(bg,24, #[.pointer og]),(b6,92, #[.slice (some ⟨bb,0,none⟩) 2 2]),(b7,3, #[.int .i64 z])] [(3,1, .slice (some ⟨bb,0,none⟩) 2 2,2,[.int .i64 s, .int .i64 a])] y19) := hide ((unhide hC).sub (List.Sublist.refl _) (List.sublist_cons_self _ _))
       gi_wp2_with fail
       have hnew : firstF V E s (pre2.foldl (firstF V E s) st) a = ([s,a],z) := by
        rw [← unhide hst2']
        exact (unhide hfF').trans (if_pos (fc_pos2 (unhide hz0') (unhide hlt')))
       have hnew2 : (pre2 ++ [a]).foldl (firstF V E s) st = ([s,a],z) := by rw [List.foldl_append]; exact hnew
       exact ⟨_,_,⟨.slice (some ⟨bb,0,none⟩) 2 2,by first | rw [hnew] | rw [hnew2],by first | (rw [hnew]; rfl) | (rw [hnew2]; rfl)⟩,unhide hC⟩
      ·skip
       have hz0' := hide hz0
       clear hz0
       have hf0' := hide hf0
       clear hf0
       have hlt' := hide hlt
       clear hlt
       try dsimp only
       repeat ((fail_if_success (with_reducible refine wpI_reg (id := 11) (by kernel_rfl) ?_)); (first | go_values | gi_step | gi_guarded | gi_upon | gi_in | gi_back | fail))
       with_reducible refine wpI_reg (id := 11) (by kernel_rfl) ?_
       refine wpO_want rfl ?_
       go_simp
       refine wpO_val rfl (run_gtrB (a := z) (b := 0) true rfl rfl rfl (decide_eq_true (unhide hz0'))) ?_
       go_frame
       refine wpO_want rfl ?_
       go_simp
       refine wpO_val rfl (load_V (v := .int .i64 fw) rfl rfl (by simp [go_sem]) (((unhide hC).get 2 rfl).cell 0)) ?_
       go_frame
       refine wpO_val rfl (run_eqlN (a := fw) (b := 0) rfl rfl rfl (unhide hf0')) ?_
       go_frame
       iterate 2
        refine wpO_want rfl ?_
        go_simp
       refine wpO_val rfl (load_V (v := .int .i64 fw) rfl rfl (by simp [go_sem]) (((unhide hC).get 2 rfl).cell 0)) ?_
       go_frame
       refine wpO_val rfl (run_lssB (a := z) (b := fw) false rfl rfl rfl (decide_eq_false (by first | exact unhide hlt' | exact Int.not_lt.2 (unhide hlt')))) ?_
       go_frame
       iterate 2
        refine wpO_want rfl ?_
        go_simp
       refine wpO_done ?_
       try go_frame
       gi_wp2_with fail
       have hnew : firstF V E s (pre2.foldl (firstF V E s) st) a = st2 := by
        rw [← unhide hst2']
        exact (unhide hfF').trans (if_neg (fc_neg2 (unhide hf0') (by first | exact unhide hlt' | exact Int.not_lt.2 (unhide hlt'))))
       have hnew2 : (pre2 ++ [a]).foldl (firstF V E s) st = st2 := by rw [List.foldl_append]; exact hnew
       exact ⟨_,_,⟨v7,by first | rw [hnew, ← unhide hfw'] | rw [hnew2, ← unhide hfw'],by first | rw [hnew] | rw [hnew2]⟩,unhide hC⟩
    ·skip
     have hz0' := hide hz0
     clear hz0
     try dsimp only
     repeat ((fail_if_success (with_reducible refine wpI_reg (id := 11) (by kernel_rfl) ?_)); (first | go_values | gi_step | gi_guarded | gi_upon | gi_in | gi_back | fail))
     with_reducible refine wpI_reg (id := 11) (by kernel_rfl) ?_
     refine wpO_want rfl ?_
     go_simp
     refine wpO_val rfl (run_gtrB (a := z) (b := 0) false rfl rfl rfl (decide_eq_false (by first | exact unhide hz0' | exact Int.not_lt.2 (unhide hz0')))) ?_
     go_frame
     refine wpO_want rfl ?_
     go_simp
     iterate 7
      refine wpO_out (by rfl) ?_
      go_frame
     refine wpO_want rfl ?_
     go_simp
     refine wpO_done ?_
     try go_frame
     gi_wp2_with fail
     have hnew : firstF V E s (pre2.foldl (firstF V E s) st) a = st2 := by
      rw [← unhide hst2']
      exact (unhide hfF').trans (if_neg (fc_neg0 (by first | exact unhide hz0' | exact Int.not_lt.2 (unhide hz0'))))
     have hnew2 : (pre2 ++ [a]).foldl (firstF V E s) st = st2 := by rw [List.foldl_append]; exact hnew
     exact ⟨_,_,⟨v7,by first | rw [hnew, ← unhide hfw'] | rw [hnew2, ← unhide hfw'],by first | rw [hnew] | rw [hnew2]⟩,unhide hC⟩
   ·rintro L' Rs' W2 ⟨v7,rfl,rfl⟩ hkW hP2
    gi_wp2_with fail
    exact ⟨_,_,⟨v7,by rw [List.foldl_append, ← unhide hst']; rfl,by rw [List.foldl_append, ← unhide hst']; rfl⟩,hP2⟩
   ·intro c L' Rs' W2 h
    exact h.elim
  ·rintro D L' Rs' W' ⟨v6,rfl,rfl⟩ hkW hP0
   generalize ({ target := .collected D,args := #[] } :: [] : List Deferred) = ds2 at hP0 ⊢
   clear hkW hP hBa
   have hok := FstOk.out (V := V) (E := E) (toL (vS V)) ([],0) FstOk.start (fun x hx => toL_rng hx)
   obtain ⟨st,hst⟩ : ∃ st,st = (toL (vS V)).foldl (outF V E) ([],0) := ⟨_,rfl⟩
   rw [← hst] at hP0 hdf hok
   obtain ⟨l0,few⟩ := st
   simp only at hP0 hdf hok
   clear hst
   have hok' := hide hok
   have hdf' := hide (unhide hdf)
   obtain ⟨A6,c6,rfl⟩ := own_slice (hP0.row 0 rfl)
   have hP : Hid (Sp w [] w ds2 [(bg,24, #[.pointer og]),(b6,92, #[.slice A6 l0.length c6]),(b7,3, #[.int .i64 few])] [(3,1, .slice A6 l0.length c6,l0.length,l0.flatMap encI)] W') := hide hP0
   clear hP0 hok
   go_wp2_with fail
   refine wp_loop_ix (fun f a' wr => ∃ (l : List Int) (A : Option Addr) (c : Nat),a'.tmps.size = 61 ∧ a'.tmps.getD 1 undef = .pointer (some ⟨bg,0,none⟩) ∧ a'.tmps.getD 6 undef = .pointer (some ⟨b6,0,none⟩) ∧ a'.tmps.getD 7 undef = .pointer (some ⟨b7,0,none⟩) ∧ Sp w [] w a'.defers [(bg,24, #[.pointer og]),(b6,92, #[.slice A l.length c]),(b7,3, #[.int .i64 few])] [(3,1, .slice A l.length c,l.length,l.flatMap encI)] wr ∧ few ≤ (l.length : Int) + f ∧ (0 < few → 2 ≤ l.length) ∧ l.length ≤ 1101 ∧ (∀ x ∈ l,0 ≤ x ∧ x < 1024) ∧ extendS V E few few.toNat l0 = extendS V E few f l) few.toNat ?_ ?_
   ·have hk := unhide hok'
    exact ⟨l0,A6,c6,rfl,rfl,rfl,rfl,unhide hP,by have := hk.lo; simp only at this; omega,fun h => by have := hk.two h; simp only at this; omega,by have := hk.l; simp only at this; omega,hk.rng,rfl⟩
   ·clear hP
    rintro f ⟨tm,ds⟩ wr ⟨l,A,c,hsz,e1,e6,e7,hP0,hf,h2,hl,hr,hex⟩
    obtain ⟨us,rfl⟩ : ∃ us : Nat → Value,tm = #[us 0,us 1,us 2,us 3,us 4,us 5,us 6,us 7,us 8,us 9,us 10,us 11,us 12,us 13,us 14,us 15,us 16,us 17,us 18,us 19,us 20,us 21,us 22,us 23,us 24,us 25,us 26,us 27,us 28,us 29,us 30,us 31,us 32,us 33,us 34,us 35,us 36,us 37,us 38,us 39,us 40,us 41,us 42,us 43,us 44,us 45,us 46,us 47,us 48,us 49,us 50,us 51,us 52,us 53,us 54,us 55,us 56,us 57,us 58,us 59,us 60] := ⟨fun i => tm.getD i undef,arr_fn hsz⟩
    have h1 : us 1 = .pointer (some ⟨bg,0,none⟩) := e1
    have h6 : us 6 = .pointer (some ⟨b6,0,none⟩) := e6
    have h7 : us 7 = .pointer (some ⟨b7,0,none⟩) := e7
    clear hsz e1 e6 e7
    simp only [h1,h6,h7]
    clear h1 h6 h7
    dsimp only at hP0
    have hsl := hide (own_at (hP0.row 0 rfl) (fun _ => rfl))
    have hcap := hide (own_cap (hP0.row 0 rfl))
    have hlo := hide (fun (W : World) (hW : Ext w W) (hA : SlAt encI 1 W A l) (h2 : 2 ≤ l.length) => longer_any A l c og V E few W hA h2 (by omega) (unhide hcap) hr ((unhide hg').ext hW) ((unhide hT').ext hW) (by have h1 := (unhide hok').lo; have h3 := (unhide hok').hi; simp only at h1 h3; omega))
    obtain ⟨n,hn⟩ : ∃ n,n = l.length := ⟨_,rfl⟩
    rw [← hn] at hP0 hlo h2 hl hf
    have hf' := hide hf
    have h2' := hide h2
    have hl' := hide hl
    have hr' := hide hr
    have hex' := hide hex
    have hn' := hide hn
    clear hf h2 hl hr hex hn hcap
    by_cases hlt : (n : Int) < few
    ·have hlt' := hide hlt
     clear hlt
     have hP : Hid (Sp w [] w ds [(bg,24, #[.pointer og]),(b6,92, #[.slice A n c]),(b7,3, #[.int .i64 few])] [(3,1, .slice A n c,n,l.flatMap encI)] wr) := hide hP0
     clear hP0
     try dsimp only
     repeat ((fail_if_success (with_reducible refine wp_reg (id := 13) ?_)); (first | go_values | go_skip | go_step | go_guarded | go_upon | go_in | go_back | fail))
     with_reducible refine wp_reg (id := 13) ?_
     refine wpO_val rfl (load_V (v := .slice A n c) rfl rfl (by simp [go_sem]) (((unhide hP).get 1 rfl).cell 0)) ?_
     go_frame
     refine wpO_want rfl ?_
     go_simp
     refine wpO_val rfl (load_V (v := .int .i64 few) rfl rfl (by simp [go_sem]) (((unhide hP).get 2 rfl).cell 0)) ?_
     go_frame
     refine wpO_val rfl (run_lssB (a := (n : Int)) (b := few) true rfl rfl rfl (decide_eq_true (unhide hlt'))) ?_
     go_frame
     refine wpO_done ?_
     try go_frame
     try dsimp only
     repeat ((fail_if_success (with_reducible refine wp_reg (id := 14) ?_)); (first | go_values | go_skip | go_step | go_guarded | go_upon | go_in | go_back | fail))
     with_reducible refine wp_reg (id := 14) ?_
     refine wpO_val rfl (load_V (v := .slice A n c) rfl rfl (by simp [go_sem]) (((unhide hP).get 1 rfl).cell 0)) ?_
     go_frame
     refine wpO_val rfl (load_V (v := .pointer og) rfl rfl (by simp [go_sem]) (((unhide hP).get 0 rfl).cell 0)) ?_
     go_frame
     refine wpO_val rfl (load_V (v := .int .i64 few) rfl rfl (by simp [go_sem]) (((unhide hP).get 2 rfl).cell 0)) ?_
     go_frame
     refine wpO_want rfl ?_
     go_simp
     have hll := unhide hlo _ (unhide hP).extf (own_at (by have h := (unhide hP).row 0 rfl; rw [unhide hn'] at h; exact h) (fun _ => rfl)) (unhide h2' (by have := unhide hlt'; omega))
     clear hlo
     have q := fun (w : World) (a : Option Addr) (n c n' c' : Nat) => Lib.run_eql_slice_nil (P := Tryz.prog) w 92 3 a n c n' c' Tryz.underlying92
     have hq := hide q
     clear q
     cases ho : longerS V E l few with
     | none =>
      rw [ho] at hll
      refine hll.mono ?_
      rintro _ y8 ⟨rfl,hxc⟩
      refine ⟨_,rfl, ?_⟩
      replace hP : Hid (Sp w [] w ds [(bg,24, #[.pointer og]),(b6,92, #[.slice A n c]),(b7,3, #[.int .i64 few])] [(3,1, .slice A n c,n,l.flatMap encI)] y8) := hide ((unhide hP).ext hxc)
      clear hxc hll
      refine (unhide hP).setO 1 #[.slice none 0 0] rfl rfl (fun hb => run_store_row (v := .slice none 0 0) rfl rfl rfl (by simp [go_sem]) hb rfl (by simp [Value.cells,Value.oneCell'])) ?_
      intro y9 hQ
      replace hP : Hid (Sp w [] w ds [(bg,24, #[.pointer og]),(b6,92, #[.slice none 0 0]),(b7,3, #[.int .i64 few])] [(3,1, .slice A n c,n,l.flatMap encI)] y9) := hide hQ
      clear hQ
      refine wpO_done ?_
      try go_frame
      have hres : res = ([],false) := by
       obtain ⟨f',rfl⟩ : ∃ f',f = f' + 1 := ⟨f - 1,by have := unhide hf'; have := unhide hlt'; omega⟩
       rw [unhide hdf',unhide hex',extendS,if_pos (by rw [← unhide hn']; exact unhide hlt'),ho]
       rfl
      have hres' := hide hres
      clear hres ho
      have q := unhide hq
      try dsimp only
      repeat ((fail_if_success (with_reducible refine wp_reg (id := 15) ?_)); (first | go_values | go_skip | go_step | go_guarded | go_upon | go_in | go_back | fail))
      with_reducible refine wp_reg (id := 15) ?_
      refine wpO_val rfl (load_V (v := .slice none 0 0) rfl rfl (by simp [go_sem]) (((unhide hP).get 1 rfl).cell 0)) ?_
      go_frame
      refine wpO_want rfl ?_
      go_simp
      clear q
      refine wpO_done ?_
      try go_frame
      go_wp2_with fail
      refine (unhide hP).leaves ?_
      intro w' hx hst
      refine ⟨_,results_tmp2 (t := 2) (u := 3) rfl _ _ _, ?_⟩
      rw [unhide hres']
      exact TwPost.mk rfl (fun h => absurd rfl h) hx
     | some l2 =>
      rw [ho] at hll
      refine hll.mono ?_
      rintro _ y8 ⟨A2,c2,rfl,ho2,hxc⟩
      refine ⟨_,rfl, ?_⟩
      obtain ⟨hl2,hr2⟩ := longer_ok ho (unhide hr')
      obtain ⟨n2,hn2⟩ : ∃ n2,n2 = l2.length := ⟨_,rfl⟩
      rw [← hn2] at ho2 hl2 ⊢
      have hsl2 : SlAt encI 1 y8 A2 l2 := own_at (by rw [hn2] at ho2; exact ho2) (fun _ => rfl)
      obtain ⟨b2,off2,rfl,_⟩ := hsl2 (by rintro rfl; simp at hn2; omega)
      replace hP : Hid (Sp w [] w ds [(bg,24, #[.pointer og]),(b6,92, #[.slice A n c]),(b7,3, #[.int .i64 few])] [(3,1, .slice A n c,n,l.flatMap encI),(3,1, .slice (some ⟨b2,off2,none⟩) n2 c2,n2,l2.flatMap encI)] y8) := hide ((unhide hP).addRow hxc ho2)
      have hn2' := hide hn2
      have hl2' := hide hl2
      have hr2' := hide hr2
      clear hxc hll ho2 hsl2 hn2 hl2 hr2
      replace hP : Hid (Sp w [] w ds [(bg,24, #[.pointer og]),(b6,92, #[.slice A n c]),(b7,3, #[.int .i64 few])] [(3,1, .slice (some ⟨b2,off2,none⟩) n2 c2,n2,l2.flatMap encI)] y8) := hide ((unhide hP).sub (List.Sublist.refl _) (List.sublist_cons_self _ _))
      refine (unhide hP).setO 1 #[.slice (some ⟨b2,off2,none⟩) n2 c2] rfl rfl (fun hb => run_store_row (v := .slice (some ⟨b2,off2,none⟩) n2 c2) rfl rfl rfl (by simp [go_sem]) hb rfl (by simp [Value.cells,Value.oneCell'])) ?_
      intro y9 hQ
      replace hP : Hid (Sp w [] w ds [(bg,24, #[.pointer og]),(b6,92, #[.slice (some ⟨b2,off2,none⟩) n2 c2]),(b7,3, #[.int .i64 few])] [(3,1, .slice (some ⟨b2,off2,none⟩) n2 c2,n2,l2.flatMap encI)] y9) := hide hQ
      clear hQ
      refine wpO_done ?_
      try go_frame
      have q := unhide hq
      try dsimp only
      repeat ((fail_if_success (with_reducible refine wp_reg (id := 15) ?_)); (first | go_values | go_skip | go_step | go_guarded | go_upon | go_in | go_back | fail))
      with_reducible refine wp_reg (id := 15) ?_
      refine wpO_val rfl (load_V (v := .slice (some ⟨b2,off2,none⟩) n2 c2) rfl rfl (by simp [go_sem]) (((unhide hP).get 1 rfl).cell 0)) ?_
      go_frame
      refine wpO_want rfl ?_
      go_simp
      clear q
      refine wpO_done ?_
      try go_frame
      go_wp2_with fail
      obtain ⟨f',hf3⟩ : ∃ f',f = f' + 1 := ⟨f - 1,by have := unhide hf'; have := unhide hlt'; omega⟩
      have h1 := unhide hl2'
      have h3 := unhide hn'
      have h4 := unhide hf'
      have h5 := unhide hlt'
      have h6 := (unhide hok').hi
      have h7 := unhide hn2'
      simp only at h6
      refine ⟨f',⟨l2,some ⟨b2,off2,none⟩,c2,rfl,rfl,rfl,rfl,by have h := unhide hP; rw [h7] at h; exact h,by omega,fun _ => by have := unhide h2' (by omega); omega,by omega,unhide hr2', ?_⟩,by omega⟩
      rw [unhide hex',hf3,extendS,if_pos (by omega),ho]
      rfl
    ·have hlt' := hide hlt
     clear hlt
     have hP : Hid (Sp w [] w ds [(bg,24, #[.pointer og]),(b6,92, #[.slice A n c]),(b7,3, #[.int .i64 few])] [(3,1, .slice A n c,n,l.flatMap encI)] wr) := hide hP0
     clear hP0 hlo
     try dsimp only
     repeat ((fail_if_success (with_reducible refine wp_reg (id := 13) ?_)); (first | go_values | go_skip | go_step | go_guarded | go_upon | go_in | go_back | fail))
     with_reducible refine wp_reg (id := 13) ?_
     refine wpO_val rfl (load_V (v := .slice A n c) rfl rfl (by simp [go_sem]) (((unhide hP).get 1 rfl).cell 0)) ?_
     go_frame
     refine wpO_want rfl ?_
     go_simp
     refine wpO_val rfl (load_V (v := .int .i64 few) rfl rfl (by simp [go_sem]) (((unhide hP).get 2 rfl).cell 0)) ?_
     go_frame
     refine wpO_val rfl (run_lssB (a := (n : Int)) (b := few) false rfl rfl rfl (decide_eq_false (unhide hlt'))) ?_
     go_frame
     refine wpO_done ?_
     try go_frame
     try dsimp only
     repeat ((fail_if_success (with_reducible refine wp_reg (id := 17) ?_)); (first | go_values | go_skip | go_step | go_guarded | go_upon | go_in | go_back | fail))
     with_reducible refine wp_reg (id := 17) ?_
     refine wpO_val rfl (load_V (v := .slice A n c) rfl rfl (by simp [go_sem]) (((unhide hP).get 1 rfl).cell 0)) ?_
     go_frame
     iterate 2
      refine wpO_want rfl ?_
      go_simp
     refine wpO_done ?_
     try go_frame
     have hres : res = (l,true) := by rw [unhide hdf',unhide hex',extend_stop (by rw [← unhide hn']; first | exact unhide hlt' | exact Int.not_lt.2 (unhide hlt'))]
     have hres' := hide hres
     clear hres
     go_wp2_with fail
     refine (unhide hP).leaves ?_
     intro w' hx hst
     refine ⟨_,results_tmp2 (t := 2) (u := 3) rfl _ _ _, ?_⟩
     rw [unhide hres']
     exact TwPost.mk (unhide hn') (own_at (by have h := hst.row 0 rfl; rw [unhide hn'] at h; exact h) (fun _ => rfl)) hx
  ·intro D c L' Rs' W' h
   exact h.elim
 ·-- chordal
  have hres : res = ([],false) := by have h := unhide hdef'; rw [if_pos rfl] at h; exact h
  have hres' := hide hres
  clear hres
  go_wp2_with fail
  refine (unhide hP).leaves ?_
  intro w' hx hst
  refine ⟨_,results_tmp2 (t := 2) (u := 3) rfl _ _ _, ?_⟩
  rw [unhide hres']
  exact TwPost.mk rfl (fun h => absurd rfl h) hx
end Go.Proofs.YtmfkkkhddigkfaaGreatDoor
