/- Parts of a proof, laid together. Each part says its own conditions. -/
import Derived.Test.YtmokciekndllpaaGreatDoorC33
import Derived.Test.YtmokciekndllpaaGreatDoorC30
import Derived.Test.YtmokciekndllpaaGreatDoorC25
namespace Go.Proofs.YtmokciekndllpaaGreatDoor
open Go Go.RowKit Go.Shelf
attribute [local go_sem] qUpon lUpon
attribute [local irreducible] wpO wpX wpQL
section
variable {V : List (Int × Thing)} {E : List ((Int × Int) × Thing)}
theorem lt_of_out {N PF : Nat} {z : Int} (hm : z ∈ toL N) (hp : z ∈ toL PF) : (toL (minusS N PF)).length < (toL N).length := by
 have h2 := len_le_sub (z :: toL (minusS N PF)) (toL N) (List.nodup_cons.2 ⟨fun h9 => (mem_minus.1 h9).2 hp,toL_nodup _⟩) (fun x hx => by
  rcases List.mem_cons.1 hx with rfl | hx
  ·exact hm
  ·exact (mem_minus.1 hx).1)
 simp only [List.length_cons] at h2
 omega
theorem comp_lt (hi : GInv V E) {N : Nat} (h : anyB N = true) : (toL (minusS N (growS E 1100 (fromS [minV N]) N))).length < (toL N).length :=
 lt_of_out (minV_mem h) ((mem_part hi h (x := minV N)).2 (.rf (minV_mem h)))
theorem comp_len (hi : GInv V E) (f : Nat) : ∀ (N k : Nat) (l : List Nat),(toL N).length = k → k < f → l = compS E f N → l.length ≤ k := by
 induction f with
 | zero => intro N k l _ h; exact absurd h (Nat.not_lt_zero _)
 | succ f ih =>
  intro N k l hk h hl
  rw [compS] at hl
  by_cases hany : anyB N = true
  ·rw [if_pos hany] at hl
   have h1 := comp_lt hi hany
   rw [hk] at h1
   generalize minusS N (growS E 1100 (fromS [minV N]) N) = M at h1 hl
   obtain ⟨m,hm⟩ : ∃ m,(toL M).length = m := ⟨_,rfl⟩
   rw [hm] at h1
   have h2 := ih M m _ hm (by omega) rfl
   rw [hl,List.length_cons]
   omega
  ·rw [if_neg hany] at hl
   rw [hl]
   exact Nat.zero_le _
def CoI (E : List ((Int × Int) × Thing)) (CS Ks : List Nat) (N : Nat) : Prop := ∃ f l,(toL N).length < f ∧ l = compS E f N ∧ Ks ++ l = CS
theorem CoI.next (hi : GInv V E) {CS Ks : List Nat} {N PF : Nat} (h : CoI E CS Ks N) (hany : anyB N = true) (hp : PF = growS E 1100 (fromS [minV N]) N) : CoI E CS (Ks ++ [PF]) (minusS N PF) ∧ (toL (minusS N PF)).length < (toL N).length := by
 obtain ⟨f,l,h1,h2,h3⟩ := h
 have hlt := comp_lt hi hany
 rw [← hp] at hlt
 cases f with
 | zero => omega
 | succ f =>
  rw [compS,if_pos hany, ← hp] at h2
  subst h2
  exact ⟨⟨f,_,by omega,rfl,by rw [List.append_assoc]; exact h3⟩,hlt⟩
theorem CoI.done {CS Ks : List Nat} {N : Nat} (h : CoI E CS Ks N) (hany : ¬ anyB N = true) : Ks = CS := by
 obtain ⟨f,l,h1,h2,h3⟩ := h
 cases f with
 | zero => omega
 | succ f =>
  rw [compS,if_neg hany] at h2
  subst h2
  rw [← h3,List.append_nil]
def GrI (E : List ((Int × Int) × Thing)) (N PF f P : Nat) : Prop := growS E f P N = PF ∧ ((toL N).filter fun y => decide (y ∉ toL P)).length < f
theorem GrI.next (hi : GInv V E) {N PF f P X : Nat} (h : GrI E N PF f P) (hX : X = besS E P &&& N) (hany : anyB X = true) : ∃ f',f = f' + 1 ∧ GrI E N PF f' (P ||| X) := by
 obtain ⟨h1,h2⟩ := h
 cases f with
 | zero => omega
 | succ f =>
  refine ⟨f,rfl, ?_, ?_⟩
  ·rw [← h1,growS, ← hX,if_pos hany]
  ·have hm := minV_mem hany
   generalize minV X = y0 at hm
   have hm2 := hm
   rw [hX] at hm2
   obtain ⟨h3,h4⟩ := mem_and.1 hm2
   have h5 := ((mem_bes hi).1 h3).1
   refine Nat.lt_of_lt_of_le (flt_lt (fun z hz => ?_) h4 (by simpa using h5) ?_) (Nat.le_of_lt_succ h2)
   ·simp only [decide_eq_true_eq] at hz ⊢
    exact fun h => hz (mem_or.2 (.inl h))
   ·simp only [decide_eq_false_iff_not,Classical.not_not]
    exact mem_or.2 (.inr hm)
theorem GrI.done {N PF f P X : Nat} (h : GrI E N PF f P) (hX : X = besS E P &&& N) (hany : ¬ anyB X = true) : P = PF := by
 obtain ⟨h1,h2⟩ := h
 cases f with
 | zero => omega
 | succ f =>
  rw [growS, ← hX,if_neg hany] at h1
  exact h1
theorem filt_len (N P : Nat) : ((toL N).filter fun y => decide (y ∉ toL P)).length < 1100 := Nat.lt_of_le_of_lt (List.length_filter_le _ _) (by have := toL_len N; omega)
end
set_option maxRecDepth 100000 in
set_option maxHeartbeats 16000000 in
theorem beside_any (og : Option Addr) (V : List (Int × Thing)) (E : List ((Int × Int) × Thing)) (N : Nat) (w : World) (hg : GL w og V E) (hT : Tab w) :
  Calls Tryz.prog 52 #[.pointer og, .agg (setC N)] w fun e w' => e = .returned (.agg (setC (besS E N))) ∧ Ext w w' := by
 have hg' := hide hg
 have hT' := hide hT
 clear hg hT
 have hP := hide (Sp.new w)
 refine callsIn_wide.1 (callsIn_of_wp_marks (n := 0) Tryz.func52 rfl trivial (wpIn_wide.2 ?_))
 simp only [Tryz.ntmps52,List.size_toArray,List.length_cons,List.length_nil,Nat.reduceAdd,Nat.reduceSub,Array.replicate_succ,Array.replicate_zero,List.push_toArray,List.append_toArray,List.nil_append,List.cons_append]
 try dsimp only
 repeat ((fail_if_success (with_reducible refine wp_reg (id := 0) ?_)); (first | go_values | go_skip | go_step | go_guarded | go_upon | go_in | go_back | fail))
 with_reducible refine wp_reg (id := 0) ?_
 refine (unhide hP).allocO 26 #[.pointer og] rfl (run_box (v := .pointer og) rfl rfl) ?_
 intro bg y1 hQ
 replace hP : Hid (Sp w [] w [] [(bg,26, #[.pointer og])] [] y1) := hide hQ
 clear hQ
 refine (unhide hP).allocO 25 (setC N) rfl (run_box (v := .agg (setC N)) rfl rfl) ?_
 intro bs y2 hQ
 replace hP : Hid (Sp w [] w [] [(bg,26, #[.pointer og]),(bs,25,setC N)] [] y2) := hide hQ
 clear hQ
 refine (unhide hP).allocO 25 (setC 0) rfl (run_alloc_set rfl) ?_
 intro r4 y3 hQ
 replace hP : Hid (Sp w [] w [] [(bg,26, #[.pointer og]),(bs,25,setC N),(r4,25,setC 0)] [] y3) := hide hQ
 clear hQ
 refine wpO_done ?_
 try go_frame
 try dsimp only
 repeat ((fail_if_success (with_reducible refine wp_reg (id := 1) ?_)); (first | go_values | go_skip | go_step | go_guarded | go_upon | go_in | go_back | fail))
 with_reducible refine wp_reg (id := 1) ?_
 refine (unhide hP).allocO 25 (setC 0) rfl (run_alloc_set rfl) ?_
 intro r5 y4 hQ
 replace hP : Hid (Sp w [] w [] [(bg,26, #[.pointer og]),(bs,25,setC N),(r4,25,setC 0),(r5,25,setC 0)] [] y4) := hide hQ
 clear hQ
 refine wpO_done ?_
 try go_frame
 try dsimp only
 repeat ((fail_if_success (with_reducible refine wp_reg (id := 2) ?_)); (first | go_values | go_skip | go_step | go_guarded | go_upon | go_in | go_back | fail))
 with_reducible refine wp_reg (id := 2) ?_
 refine wpO_val rfl (load_SetR (N := N) rfl rfl ((unhide hP).get 1 rfl).whole) ?_
 refine wpO_want rfl ?_
 go_simp
 refine (all_ext N _).mono ?_
 rintro _ y5 ⟨ba,rfl,hBa0,hxc⟩
 refine ⟨_,rfl, ?_⟩
 replace hP : Hid (Sp w [] w [] [(bg,26, #[.pointer og]),(bs,25,setC N),(r4,25,setC 0),(r5,25,setC 0)] [] y5) := hide ((unhide hP).ext hxc)
 have hBa := hide hBa0
 clear hxc hBa0
 refine wpO_done ?_
 try go_frame
 go_wp2_with fail
 refine wp_rngS (gf := 109) (lb := #[.pointer (some ⟨ba,0,none⟩)]) (unhide hP) rfl (enters_of Tryz.func109 (by kernel_rfl) rfl) (ex := [0]) ((unhide hP).tab (unhide hT')) (all_iter N ba y5 (unhide hBa) ((unhide hT').ext (unhide hP).extf)) (fun _ => rfl)
  (fun pre L' Rs' => L' = [(bg,26, #[.pointer og]),(bs,25,setC N),(r4,25,setC 0),(r5,25,setC (pre.foldl (fun a id => a ||| nearS id E) 0))] ∧ Rs' = [])
  (fun _ _ _ => False)
  (fun tm _ v a1 _ => a1 = ⟨(tm.setIfInBounds 9 (.int .i64 v)).setIfInBounds 6 (.int .i64 v),[]⟩)
  (fun _ _ _ _ _ h _ => h) ⟨rfl,rfl⟩ ?_ ?_ ?_ ?_
 ·intro T' v W' K hlt' hsz hK
  have hK' := hide hK
  have hlt2 := hide hlt'
  have hsz2 := hide hsz
  clear hK hlt' hsz
  rw [zip1]
  simp only [List.setIfInBounds_toArray,List.set_cons_succ,List.set_cons_zero]
  try dsimp only
  repeat ((fail_if_success (with_reducible refine wpI_reg (id := 3) (by kernel_rfl) ?_)); (first | go_values | gi_step | gi_guarded | gi_upon | gi_in | gi_back | fail))
  with_reducible refine wpI_reg (id := 3) (by kernel_rfl) ?_
  refine wpO_want rfl ?_
  go_simp
  refine wpO_done ?_
  try go_frame
  exact unhide hK' _ _ rfl (Ext.refl _)
 ·rintro l pre v a1 L' Rs' W' ⟨rfl,rfl⟩ hB0 rfl hpx hl hkW htW
  simp only [List.setIfInBounds_toArray,List.set_cons_succ,List.set_cons_zero]
  obtain ⟨X,hX⟩ : ∃ X,X = (pre.foldl (fun a id => a ||| nearS id E) 0) := ⟨_,rfl⟩
  rw [← hX] at hB0
  have hsn := hide (show ((pre ++ [v]).foldl (fun a id => a ||| nearS id E) 0) = X ||| nearS v E by rw [hX,List.foldl_append]; rfl)
  have hB : Hid (Sp w (stT [(bg,26, #[.pointer og]),(bs,25,setC N),(r4,25,setC 0),(r5,25,setC X)] []) W' [] [(bg,26, #[.pointer og]),(bs,25,setC N),(r4,25,setC 0),(r5,25,setC X)] [] W') := hide hB0
  clear hB0 hX hpx hl hkW htW
  gi_wp2_with fail
  have hself := Keep.refl [] W'
  refine wpI_regionK (P := Tryz.prog) [] [0,1,2,3,4] [5] 1 #[true,true,true,true,true,false] (by kernel_rfl) (by kernel_rfl) (by kernel_rfl) rfl (by rfl) ?_
  refine ql_want (v := .agg (setC X)) rfl (by rfl) (fun W hW => qUpon_ofX (load_SetR rfl rfl ((unhide hB).wholeK 3 rfl hW (by simp)))) ?_
  go_frame
  refine ql_want (v := .pointer og) rfl (by rfl) (fun W hW => qUpon_ofX (load_V rfl rfl (by simp [go_sem]) ((unhide hB).cellK 0 0 rfl rfl (by simp) W hW))) ?_
  go_frame
  iterate 1
   refine ql_want (v := ?_) rfl (by rfl) (fun W hW => ?_) ?_
   rotate_left
   ·go_simp
    first | done | rfl
   go_frame
  refine ql_want (v := .agg (setC (nearS v E))) rfl (by rfl) (fun W hW => ?_) ?_
  ·go_simp
   refine (nearG og V E v W ((unhide hg').ext ((unhide hB).extf.trans ((Ext.refl _).of_new hW (by simp))))).mono ?_
   rintro _ _ ⟨h1,h2⟩
   exact ⟨_,h1,rfl,h2⟩
  go_frame
  refine ql_want (v := .agg (setC (X ||| nearS v E))) rfl (by rfl) (fun W hW => ?_) ?_
  ·go_simp
   refine (union_any X (nearS v E) W).mono ?_
   rintro _ _ ⟨h1,h2⟩
   exact ⟨_,h1,rfl,h2⟩
  go_frame
  refine wpQL_nil (fun y6 hxq => ?_)
  replace hB : Hid (Sp w (stT [(bg,26, #[.pointer og]),(bs,25,setC N),(r4,25,setC 0),(r5,25,setC X)] []) W' [] [(bg,26, #[.pointer og]),(bs,25,setC N),(r4,25,setC 0),(r5,25,setC X)] [] y6) := hide ((unhide hB).ext hxq)
  clear hxq
  clear hself
  refine (unhide hB).setX 3 (setC (X ||| nearS v E)) rfl (j := 5) (by kernel_rfl) rfl (by rfl) #[true,true,true,true,true,true] (by rfl) rfl (fun hb => store_SetR (N := X ||| nearS v E) rfl (by rfl) (by rfl) hb) ?_
  intro y7 hQ
  replace hB : Hid (Sp w (stT [(bg,26, #[.pointer og]),(bs,25,setC N),(r4,25,setC 0),(r5,25,setC X)] []) W' [] [(bg,26, #[.pointer og]),(bs,25,setC N),(r4,25,setC 0),(r5,25,setC (X ||| nearS v E))] [] y7) := hide hQ
  clear hQ
  try go_frame
  refine wpX_done (by kernel_rfl) ?_
  try go_frame
  gi_wp2_with fail
  exact ⟨_,_,⟨rfl,rfl⟩,by rw [unhide hsn]; exact unhide hB⟩
 ·rintro D L' Rs' W' ⟨rfl,rfl⟩ hkW hP0
  generalize ({ target := .collected D,args := #[] } :: [] : List Deferred) = ds2 at hP0 ⊢
  obtain ⟨X,hX⟩ : ∃ X,X = ((toL N).foldl (fun a id => a ||| nearS id E) 0) := ⟨_,rfl⟩
  rw [← hX] at hP0
  have hbe := hide (show besS E N = minusS X N by rw [hX]; rfl)
  clear hkW hP hBa hX
  have hP : Hid (Sp w [] w ds2 [(bg,26, #[.pointer og]),(bs,25,setC N),(r4,25,setC 0),(r5,25,setC X)] [] W') := hide hP0
  clear hP0
  try dsimp only
  repeat ((fail_if_success (with_reducible refine wp_reg (id := 5) ?_)); (first | go_values | go_skip | go_step | go_guarded | go_upon | go_in | go_back | fail))
  with_reducible refine wp_reg (id := 5) ?_
  refine wpO_val rfl (load_SetR (N := X) rfl rfl ((unhide hP).get 3 rfl).whole) ?_
  try go_frame
  refine wpO_val rfl (load_SetR (N := N) rfl rfl ((unhide hP).get 1 rfl).whole) ?_
  refine wpO_want rfl ?_
  go_simp
  refine (minus_any X N _).mono ?_
  rintro _ y13 ⟨rfl,hxc⟩
  refine ⟨_,rfl, ?_⟩
  replace hP : Hid (Sp w [] w ds2 [(bg,26, #[.pointer og]),(bs,25,setC N),(r4,25,setC 0),(r5,25,setC X)] [] y13) := hide ((unhide hP).ext hxc)
  clear hxc
  refine (unhide hP).setO 2 (setC (minusS X N)) rfl rfl (fun hb => store_SetR (N := minusS X N) rfl rfl rfl hb) ?_
  intro y14 hQ
  replace hP : Hid (Sp w [] w ds2 [(bg,26, #[.pointer og]),(bs,25,setC N),(r4,25,setC (minusS X N)),(r5,25,setC X)] [] y14) := hide hQ
  clear hQ
  refine wpO_done ?_
  try go_frame
  go_wp2_with fail
  refine (unhide hP).leaves ?_
  intro w' hx hst
  refine ⟨_,ret_cell1 rfl rfl (load_Set _ _ _ (hst.get 2 rfl)), ?_⟩
  rw [unhide hbe]
  exact ⟨rfl,hx⟩
 ·intro D c L' Rs' W' h
  exact h.elim
def CoPost (CS : List Nat) (w : World) (e : Ending) (w' : World) : Prop := ∃ A n c,e = .returned (.slice A n c) ∧ n = CS.length ∧ w'.ownsRow w.heap.size 25 16 (.slice A n c) n (CS.flatMap encS) ∧ Ext w w'
set_option maxRecDepth 100000 in
set_option maxHeartbeats 16000000 in
theorem components_any (og : Option Addr) (V : List (Int × Thing)) (E : List ((Int × Int) × Thing)) (S : Nat) (w : World) (hi : GInv V E) (hg : GL w og V E) (hT : Tab w) :
  Calls Tryz.prog 24 #[.pointer og, .agg (setC S)] w (CoPost (partS V E S) w) := by
 have hi' := hide hi
 have hg' := hide hg
 have hT' := hide hT
 obtain ⟨NX,hNX⟩ : ∃ N,N = minusS (vS V) S := ⟨_,rfl⟩
 obtain ⟨CS,hCS0⟩ : ∃ C,C = partS V E S := ⟨_,rfl⟩
 rw [← hCS0]
 have hlx := hide (show (toL NX).length ≤ 1024 from toL_len NX)
 have hCI := hide (show CoI E CS [] NX from ⟨1100,_,by have := toL_len NX; omega,rfl,by rw [hCS0,hNX]; rfl⟩)
 have hCl := hide (show CS.length ≤ 1024 by
  have h2 : CS = compS E 1100 NX := by rw [hCS0,hNX]; rfl
  have h1 := comp_len hi 1100 NX _ CS rfl (by have := toL_len NX; omega) h2
  have := toL_len NX
  omega)
 have hNX' := hide hNX
 clear hi hg hT hNX hCS0
 have hP := hide (Sp.new w)
 refine callsIn_wide.1 (callsIn_of_wp_marks (n := 0) Tryz.func24 rfl trivial (wpIn_wide.2 ?_))
 simp only [Tryz.ntmps24,List.size_toArray,List.length_cons,List.length_nil,Nat.reduceAdd,Nat.reduceSub,Array.replicate_succ,Array.replicate_zero,List.push_toArray,List.append_toArray,List.nil_append,List.cons_append]
 try dsimp only
 repeat ((fail_if_success (with_reducible refine wp_reg (id := 0) ?_)); (first | go_values | go_skip | go_step | go_guarded | go_upon | go_in | go_back | fail))
 with_reducible refine wp_reg (id := 0) ?_
 refine (unhide hP).allocO 25 (setC S) rfl (run_box (v := .agg (setC S)) rfl rfl) ?_
 intro r3 y1 hQ
 replace hP : Hid (Sp w [] w [] [(r3,25,setC S)] [] y1) := hide hQ
 clear hQ
 refine wpO_want rfl ?_
 go_simp
 refine wpO_done ?_
 try go_frame
 try dsimp only
 repeat ((fail_if_success (with_reducible refine wp_reg (id := 1) ?_)); (first | go_values | go_skip | go_step | go_guarded | go_upon | go_in | go_back | fail))
 with_reducible refine wp_reg (id := 1) ?_
 refine wpO_want rfl ?_
 go_simp
 refine wpO_done ?_
 try go_frame
 go_wp2_with fail
 refine wp_regionK (P := Tryz.prog) [] [0,1,2,3] [5] 2 #[true,true,true,true,false,false] (by kernel_rfl) (by kernel_rfl) rfl (by rfl) ?_
 iterate 1
  refine ql_want (v := ?_) rfl (by rfl) (fun W hW => ?_) ?_
  rotate_left
  ·go_simp
   first | done | rfl
  go_frame
 refine ql_want (v := .agg (setC (vS V))) rfl (by rfl) (fun W hW => ?_) ?_
 ·go_simp
  refine (vsetG og V E W ((unhide hg').ext ((unhide hP).extf.trans (Ext.of_keep0 hW)))).mono ?_
  rintro _ _ ⟨h1,h2⟩
  exact ⟨_,h1,rfl,h2⟩
 go_frame
 refine ql_want (v := .agg (setC S)) rfl (by rfl) (fun W hW => qUpon_ofX (load_SetR rfl rfl ((unhide hP).wholeK 0 rfl hW (by simp)))) ?_
 go_frame
 refine ql_want (v := .agg (setC NX)) rfl (by rfl) (fun W hW => ?_) ?_
 ·go_simp
  refine (minus_any (vS V) S W).mono ?_
  rw [← unhide hNX']
  rintro _ _ ⟨h1,h2⟩
  exact ⟨_,h1,rfl,h2⟩
 go_frame
 refine wpQL_nil (fun y2 hxq => ?_)
 have hK := hide (hxq.keep [])
 replace hP : Hid (Sp w [] w [] [(r3,25,setC S)] [] y2) := hide ((unhide hP).ext hxq)
 clear hxq
 refine (unhide hP).allocX (unhide hK) 25 (setC 0) (j := 4) (by kernel_rfl) rfl (by rfl) #[true,true,true,true,true,false] (by rfl) (run_alloc_set rfl) ?_
 intro r6 y3 hQ hK2
 replace hP : Hid (Sp w [] w [] [(r3,25,setC S),(r6,25,setC 0)] [] y3) := hide hQ
 replace hK := hide hK2
 clear hQ hK2
 try go_frame
 refine (unhide hP).setX 1 (setC NX) rfl (j := 5) (by kernel_rfl) rfl (by rfl) #[true,true,true,true,true,true] (by rfl) rfl (fun hb => store_SetR (N := NX) rfl (by rfl) (by rfl) hb) ?_
 intro y4 hQ
 replace hP : Hid (Sp w [] w [] [(r3,25,setC S),(r6,25,setC NX)] [] y4) := hide hQ
 clear hQ
 try go_frame
 refine wpX_done (by kernel_rfl) ?_
 try go_frame
 clear hK
 try dsimp only
 repeat ((fail_if_success (with_reducible refine wp_reg (id := 3) ?_)); (first | go_values | go_skip | go_step | go_guarded | go_upon | go_in | go_back | fail))
 with_reducible refine wp_reg (id := 3) ?_
 refine wpO_val rfl (load_SetR (N := NX) rfl rfl ((unhide hP).get 1 rfl).whole) ?_
 refine wpO_want rfl ?_
 go_simp
 refine (min_any NX y4 ((unhide hT').ext (unhide hP).extf)).mono ?_
 rintro _ y5 ⟨rfl,hxc⟩
 replace hP : Hid (Sp w [] w [] [(r3,25,setC S),(r6,25,setC NX)] [] y5) := hide ((unhide hP).ext hxc)
 clear hxc
 refine ⟨_,rfl, ?_⟩
 try go_frame
 generalize htu0 : Value.tuple _ = tu
 have htu := hide htu0
 clear htu0
 refine wpO_val rfl (run_move rfl rfl) ?_
 go_frame
 refine wpO_val rfl (run_extract (i := 0) (v := .int .i64 (minV NX)) rfl (unhide htu).symm rfl) ?_
 go_frame
 refine wpO_val rfl (run_extract (i := 1) (v := .bool (anyB NX)) rfl (unhide htu).symm rfl) ?_
 go_frame
 iterate 2
  refine wpO_want rfl ?_
  go_simp
 refine wpO_done ?_
 try go_frame
 clear htu
 go_wp2_with fail
 replace hP : Hid (Sp w [] w [] [(r3,25,setC S),(r6,25,setC NX)] [(25,16, .slice none 0 0,0,([] : List Nat).flatMap encS)] y5) := hide ((unhide hP).nil 25 16)
 obtain ⟨I5_2,hI5_20⟩ : ∃ I : Nat → Act → World → Prop,I = fun fi a' wr => ∃ (N : Nat), ∃ (A : Option Addr), ∃ (n : Nat), ∃ (c : Nat), ∃ (Ks : List Nat),a'.tmps.size = 54 ∧ a'.tmps.getD 0 undef = .pointer og ∧ a'.tmps.getD 5 undef = .slice A n c ∧ a'.tmps.getD 6 undef = .pointer (some ⟨r6,0,none⟩) ∧ a'.tmps.getD 7 undef = .int .i64 (minV N) ∧ a'.tmps.getD 8 undef = .bool (anyB N) ∧ a'.defers = [] ∧ n = Ks.length ∧ CoI E CS Ks N ∧ Sp w [] w [] [(r3,25,setC S),(r6,25,setC N)] [(25,16, .slice A n c,n,Ks.flatMap encS)] wr ∧ fi = (toL N).length := ⟨_,rfl⟩
 have hI5_2 := hide hI5_20
 clear hI5_20
 refine wp_loop_ix I5_2 ((toL NX).length) ?_ ?_
 ·rw [unhide hI5_2]; exact ⟨NX,none,0,0,[],rfl,rfl,rfl,rfl,rfl,rfl,rfl,rfl,unhide hCI,unhide hP,rfl⟩
 ·rintro fi ⟨tm,dfs⟩ wr hrel
  rw [unhide hI5_2] at hrel
  obtain ⟨N,A,n,c,Ks,hsz,e0,e5,e6,e7,e8,hdf,hn0,hC0,hPr,hfm⟩ := hrel
  obtain ⟨us,rfl⟩ : ∃ us : Nat → Value,tm = #[us 0,us 1,us 2,us 3,us 4,us 5,us 6,us 7,us 8,us 9,us 10,us 11,us 12,us 13,us 14,us 15,us 16,us 17,us 18,us 19,us 20,us 21,us 22,us 23,us 24,us 25,us 26,us 27,us 28,us 29,us 30,us 31,us 32,us 33,us 34,us 35,us 36,us 37,us 38,us 39,us 40,us 41,us 42,us 43,us 44,us 45,us 46,us 47,us 48,us 49,us 50,us 51,us 52,us 53] := ⟨fun i => tm.getD i undef,arr_fn hsz⟩
  have h0 : us 0 = .pointer og := e0
  have h5 : us 5 = .slice A n c := e5
  have h6 : us 6 = .pointer (some ⟨r6,0,none⟩) := e6
  have h7 : us 7 = .int .i64 (minV N) := e7
  have h8 : us 8 = .bool (anyB N) := e8
  have hdf2 : dfs = [] := hdf
  subst hdf2
  clear hdf hsz e0 e5 e6 e7 e8
  simp only [h0,h5,h6,h7,h8]
  clear h0 h5 h6 h7 h8
  clear hP hCI
  have hP := hide hPr
  have hfm' := hide hfm
  have hn' := hide hn0
  have hC := hide hC0
  have hnb := hide (show n ≤ 1024 by
   obtain ⟨_,l9,_,_,h9⟩ := hC0
   have h8 := congrArg List.length h9
   rw [List.length_append] at h8
   have := unhide hCl
   omega)
  clear hPr hfm hn0 hC0
  obtain ⟨q,hq0⟩ : ∃ q,q = anyB N := ⟨_,rfl⟩
  obtain ⟨z,hz0⟩ : ∃ z,z = minV N := ⟨_,rfl⟩
  rw [← hq0, ← hz0]
  have hq := hide hq0
  have hz := hide hz0
  clear hq0 hz0
  try dsimp only
  repeat ((fail_if_success (with_reducible refine wp_reg (id := 4) ?_)); (first | go_values | go_skip | go_step | go_guarded | go_upon | go_in | go_back | fail))
  with_reducible refine wp_reg (id := 4) ?_
  refine wpO_want rfl ?_
  go_simp
  refine wpO_done ?_
  try go_frame
  cases q
  ·skip
   try dsimp only
   repeat ((fail_if_success (with_reducible refine wp_reg (id := 15) ?_)); (first | go_values | go_skip | go_step | go_guarded | go_upon | go_in | go_back | fail))
   with_reducible refine wp_reg (id := 15) ?_
   iterate 2
    refine wpO_want rfl ?_
    go_simp
   refine wpO_done ?_
   try go_frame
   go_wp2_with fail
   have htd := (unhide hC).done (by rw [← unhide hq]; simp)
   refine Sp.leaves0 ?_
   refine ⟨_,results_tmp (t := 4) rfl _ _ _,A,n,c,rfl,by rw [← htd]; exact unhide hn',by rw [← htd]; exact (unhide hP).row 0 rfl,(unhide hP).extf⟩
  ·skip
   have hany := hide (unhide hq).symm
   clear hq
   obtain ⟨PF,hPF0⟩ : ∃ P,P = growS E 1100 (fromS [minV N]) N := ⟨_,rfl⟩
   obtain ⟨hCn,hltn⟩ := (unhide hC).next (unhide hi') (unhide hany) hPF0
   have hCn' := hide hCn
   have hltn' := hide hltn
   have hG := hide (show GrI E N PF 1100 (fromS [z]) from ⟨by rw [unhide hz]; exact hPF0.symm,filt_len _ _⟩)
   clear hCn hltn hPF0 hC
   try dsimp only
   repeat ((fail_if_success (with_reducible refine wp_reg (id := 6) ?_)); (first | go_values | go_skip | go_step | go_guarded | go_upon | go_in | go_back | fail))
   with_reducible refine wp_reg (id := 6) ?_
   refine wpO_want rfl ?_
   go_simp
   refine (unhide hP).build1O 3 #[.int .i64 z] rfl (by go_simp) ?_
   intro bz y6 hQ
   replace hP : Hid (Sp w [] w [] [(r3,25,setC S),(r6,25,setC N),(bz,3, #[.int .i64 z])] [(25,16, .slice A n c,n,Ks.flatMap encS)] y6) := hide hQ
   clear hQ
   try go_frame
   refine wpO_want rfl ?_
   go_simp
   have hca := of_any (some ⟨bz,0,none⟩) [z] 1 y6 (slat_one ((unhide hP).get 2 rfl)) (by simp)
   refine hca.mono ?_
   clear hca
   rintro _ y7 ⟨rfl,hxc⟩
   replace hP : Hid (Sp w [] w [] [(r3,25,setC S),(r6,25,setC N),(bz,3, #[.int .i64 z])] [(25,16, .slice A n c,n,Ks.flatMap encS)] y7) := hide ((unhide hP).ext hxc)
   clear hxc
   refine ⟨_,rfl, ?_⟩
   try go_frame
   replace hP : Hid (Sp w [] w [] [(r3,25,setC S),(r6,25,setC N)] [(25,16, .slice A n c,n,Ks.flatMap encS)] y7) := hide ((unhide hP).sub (List.sublist_append_left _ ([(bz,3, #[.int .i64 z])] : List Cl)) (List.Sublist.refl _))
   obtain ⟨P0,hP00⟩ : ∃ P,P = fromS [z] := ⟨_,rfl⟩
   rw [← hP00]
   rw [← hP00] at hG
   clear hP00
   refine (unhide hP).allocO 25 (setC 0) rfl (run_alloc_set rfl) ?_
   intro r9 y8 hQ
   replace hP : Hid (Sp w [] w [] [(r3,25,setC S),(r6,25,setC N),(r9,25,setC 0)] [(25,16, .slice A n c,n,Ks.flatMap encS)] y8) := hide hQ
   clear hQ
   refine (unhide hP).setO 2 (setC P0) rfl rfl (fun hb => store_SetR (N := P0) rfl rfl rfl hb) ?_
   intro y9 hQ
   replace hP : Hid (Sp w [] w [] [(r3,25,setC S),(r6,25,setC N),(r9,25,setC P0)] [(25,16, .slice A n c,n,Ks.flatMap encS)] y9) := hide hQ
   clear hQ
   refine wpO_done ?_
   try go_frame
   go_wp2_with fail
   obtain ⟨X0,hX0⟩ : ∃ X,X = besS E P0 &&& N := ⟨_,rfl⟩
   have hX0' := hide hX0
   clear hX0
   refine wp_regionK (P := Tryz.prog) [] [0,1,2,3,4] [6] 2 #[true,true,true,true,true,false,false] (by kernel_rfl) (by kernel_rfl) rfl (by rfl) ?_
   iterate 1
    refine ql_want (v := ?_) rfl (by rfl) (fun W hW => ?_) ?_
    rotate_left
    ·go_simp
     first | done | rfl
    go_frame
   refine ql_want (v := .agg (setC P0)) rfl (by rfl) (fun W hW => qUpon_ofX (load_SetR rfl rfl ((unhide hP).wholeK 2 rfl hW (by simp)))) ?_
   go_frame
   refine ql_want (v := .agg (setC (besS E P0))) rfl (by rfl) (fun W hW => ?_) ?_
   ·go_simp
    refine (beside_any og V E P0 W ((unhide hg').ext ((unhide hP).extf.trans (Ext.of_keep0 hW))) ((unhide hT').ext ((unhide hP).extf.trans (Ext.of_keep0 hW)))).mono ?_
    rintro _ _ ⟨h1,h2⟩
    exact ⟨_,h1,rfl,h2⟩
   go_frame
   refine ql_want (v := .agg (setC N)) rfl (by rfl) (fun W hW => qUpon_ofX (load_SetR rfl rfl ((unhide hP).wholeK 1 rfl hW (by simp)))) ?_
   go_frame
   refine ql_want (v := .agg (setC X0)) rfl (by rfl) (fun W hW => ?_) ?_
   ·go_simp
    refine (inter_any (besS E P0) N W).mono ?_
    rw [← unhide hX0']
    rintro _ _ ⟨h1,h2⟩
    exact ⟨_,h1,rfl,h2⟩
   go_frame
   refine wpQL_nil (fun y10 hxq => ?_)
   have hK := hide (hxq.keep [])
   replace hP : Hid (Sp w [] w [] [(r3,25,setC S),(r6,25,setC N),(r9,25,setC P0)] [(25,16, .slice A n c,n,Ks.flatMap encS)] y10) := hide ((unhide hP).ext hxq)
   clear hxq
   refine (unhide hP).allocX (unhide hK) 25 (setC 0) (j := 5) (by kernel_rfl) rfl (by rfl) #[true,true,true,true,true,true,false] (by rfl) (run_alloc_set rfl) ?_
   intro b10 y11 hQ hK2
   replace hP : Hid (Sp w [] w [] [(r3,25,setC S),(r6,25,setC N),(r9,25,setC P0),(b10,25,setC 0)] [(25,16, .slice A n c,n,Ks.flatMap encS)] y11) := hide hQ
   replace hK := hide hK2
   clear hQ hK2
   try go_frame
   refine (unhide hP).setX 3 (setC X0) rfl (j := 6) (by kernel_rfl) rfl (by rfl) #[true,true,true,true,true,true,true] (by rfl) rfl (fun hb => store_SetR (N := X0) rfl (by rfl) (by rfl) hb) ?_
   intro y12 hQ
   replace hP : Hid (Sp w [] w [] [(r3,25,setC S),(r6,25,setC N),(r9,25,setC P0),(b10,25,setC X0)] [(25,16, .slice A n c,n,Ks.flatMap encS)] y12) := hide hQ
   clear hQ
   try go_frame
   refine wpX_done (by kernel_rfl) ?_
   try go_frame
   clear hK
   go_wp2_with fail
   obtain ⟨I12_6,hI12_60⟩ : ∃ I : Nat → Act → World → Prop,I = fun fk a' wr => ∃ (P : Nat), ∃ (X : Nat), ∃ (bx : Nat),a'.tmps.size = 54 ∧ a'.tmps.getD 0 undef = .pointer og ∧ a'.tmps.getD 5 undef = .slice A n c ∧ a'.tmps.getD 6 undef = .pointer (some ⟨r6,0,none⟩) ∧ a'.tmps.getD 7 undef = .int .i64 z ∧ a'.tmps.getD 8 undef = .bool true ∧ a'.tmps.getD 9 undef = .pointer (some ⟨r9,0,none⟩) ∧ a'.tmps.getD 10 undef = .pointer (some ⟨bx,0,none⟩) ∧ a'.defers = [] ∧ GrI E N PF fk P ∧ X = besS E P &&& N ∧ Sp w [] w [] [(r3,25,setC S),(r6,25,setC N),(r9,25,setC P),(bx,25,setC X)] [(25,16, .slice A n c,n,Ks.flatMap encS)] wr := ⟨_,rfl⟩
   have hI12_6 := hide hI12_60
   clear hI12_60
   refine wp_loop_ix I12_6 (1100) ?_ ?_
   ·rw [unhide hI12_6]; exact ⟨P0,X0,b10,rfl,rfl,rfl,rfl,rfl,rfl,rfl,rfl,rfl,unhide hG,unhide hX0',unhide hP⟩
   ·rintro fk ⟨tm,dfs⟩ wr hrel
    rw [unhide hI12_6] at hrel
    obtain ⟨P,X,bx,hsz,e0,e5,e6,e7,e8,e9,e10,hdf,hGr,hX0,hPs⟩ := hrel
    obtain ⟨us,rfl⟩ : ∃ us : Nat → Value,tm = #[us 0,us 1,us 2,us 3,us 4,us 5,us 6,us 7,us 8,us 9,us 10,us 11,us 12,us 13,us 14,us 15,us 16,us 17,us 18,us 19,us 20,us 21,us 22,us 23,us 24,us 25,us 26,us 27,us 28,us 29,us 30,us 31,us 32,us 33,us 34,us 35,us 36,us 37,us 38,us 39,us 40,us 41,us 42,us 43,us 44,us 45,us 46,us 47,us 48,us 49,us 50,us 51,us 52,us 53] := ⟨fun i => tm.getD i undef,arr_fn hsz⟩
    have h0 : us 0 = .pointer og := e0
    have h5 : us 5 = .slice A n c := e5
    have h6 : us 6 = .pointer (some ⟨r6,0,none⟩) := e6
    have h7 : us 7 = .int .i64 z := e7
    have h8 : us 8 = .bool true := e8
    have h9 : us 9 = .pointer (some ⟨r9,0,none⟩) := e9
    have h10 : us 10 = .pointer (some ⟨bx,0,none⟩) := e10
    have hdf2 : dfs = [] := hdf
    subst hdf2
    clear hdf hsz e0 e5 e6 e7 e8 e9 e10
    simp only [h0,h5,h6,h7,h8,h9,h10]
    clear h0 h5 h6 h7 h8 h9 h10
    clear hP hG hX0'
    have hP := hide hPs
    have hGr' := hide hGr
    have hX := hide hX0
    clear hPs hGr hX0
    try dsimp only
    repeat ((fail_if_success (with_reducible refine wp_reg (id := 8) ?_)); (first | go_values | go_skip | go_step | go_guarded | go_upon | go_in | go_back | fail))
    with_reducible refine wp_reg (id := 8) ?_
    refine wpO_val rfl (load_SetR (N := X) rfl rfl ((unhide hP).get 3 rfl).whole) ?_
    refine wpO_want rfl ?_
    go_simp
    have hca := empty_any X wr
    rw [eqS_anyZ] at hca
    refine hca.mono ?_
    clear hca
    rintro _ y13 ⟨rfl,hxc⟩
    replace hP : Hid (Sp w [] w [] [(r3,25,setC S),(r6,25,setC N),(r9,25,setC P),(bx,25,setC X)] [(25,16, .slice A n c,n,Ks.flatMap encS)] y13) := hide ((unhide hP).ext hxc)
    clear hxc
    obtain ⟨q2,hq20⟩ : ∃ q,q = anyB X := ⟨_,rfl⟩
    rw [← hq20]
    have hq2 := hide hq20
    clear hq20
    refine ⟨_,rfl, ?_⟩
    try go_frame
    cases q2
    ·skip
     refine wpO_want rfl ?_
     go_simp
     refine wpO_done ?_
     try go_frame
     obtain rfl : P = PF := (unhide hGr').done (unhide hX) (by rw [← unhide hq2]; simp)
     try dsimp only
     repeat ((fail_if_success (with_reducible refine wp_reg (id := 13) ?_)); (first | go_values | go_skip | go_step | go_guarded | go_upon | go_in | go_back | fail))
     with_reducible refine wp_reg (id := 13) ?_
     refine wpO_want rfl ?_
     go_simp
     refine wpO_val rfl (load_SetR (N := P) rfl rfl ((unhide hP).get 2 rfl).whole) ?_
     try go_frame
     refine (unhide hP).build1O 25 (setC P) rfl (run_buildS rfl rfl) ?_
     intro bn y14 hQ
     replace hP : Hid (Sp w [] w [] [(r3,25,setC S),(r6,25,setC N),(r9,25,setC P),(bx,25,setC X),(bn,25,setC P)] [(25,16, .slice A n c,n,Ks.flatMap encS)] y14) := hide hQ
     clear hQ
     try go_frame
     refine (unhide hP).ap1O (enc := encS) (T := 25) (ST := 34) 0 (v := .slice A n c) (m := n) (xs := Ks) rfl rfl infoS Tryz.underlying34 one_encS encS_len (by decide) (by decide) rfl P rfl rfl ((unhide hP).get 4 rfl) (by have := unhide hnb; omega) ?_
     intro A4 cA4 y15 hQ
     replace hP : Hid (Sp w [] w [] [(r3,25,setC S),(r6,25,setC N),(r9,25,setC P),(bx,25,setC X),(bn,25,setC P)] [(25,16, .slice A4 (n + 1) cA4,n + 1,(Ks ++ [P]).flatMap encS)] y15) := hide hQ
     clear hQ
     try go_frame
     replace hP : Hid (Sp w [] w [] [(r3,25,setC S),(r6,25,setC N),(r9,25,setC P),(bx,25,setC X)] [(25,16, .slice A4 (n + 1) cA4,n + 1,(Ks ++ [P]).flatMap encS)] y15) := hide ((unhide hP).sub (List.sublist_append_left _ ([(bn,25,setC P)] : List Cl)) (List.Sublist.refl _))
     refine wpO_want rfl ?_
     go_simp
     refine wpO_done ?_
     try go_frame
     try dsimp only
     repeat ((fail_if_success (with_reducible refine wp_reg (id := 14) ?_)); (first | go_values | go_skip | go_step | go_guarded | go_upon | go_in | go_back | fail))
     with_reducible refine wp_reg (id := 14) ?_
     refine wpO_val rfl (load_SetR (N := N) rfl rfl ((unhide hP).get 1 rfl).whole) ?_
     try go_frame
     refine wpO_val rfl (load_SetR (N := P) rfl rfl ((unhide hP).get 2 rfl).whole) ?_
     refine wpO_want rfl ?_
     go_simp
     refine (minus_any N P _).mono ?_
     rintro _ y16 ⟨rfl,hxc⟩
     refine ⟨_,rfl, ?_⟩
     replace hP : Hid (Sp w [] w [] [(r3,25,setC S),(r6,25,setC N),(r9,25,setC P),(bx,25,setC X)] [(25,16, .slice A4 (n + 1) cA4,n + 1,(Ks ++ [P]).flatMap encS)] y16) := hide ((unhide hP).ext hxc)
     clear hxc
     refine (unhide hP).setO 1 (setC (minusS N P)) rfl rfl (fun hb => store_SetR (N := minusS N P) rfl rfl rfl hb) ?_
     intro y17 hQ
     replace hP : Hid (Sp w [] w [] [(r3,25,setC S),(r6,25,setC (minusS N P)),(r9,25,setC P),(bx,25,setC X)] [(25,16, .slice A4 (n + 1) cA4,n + 1,(Ks ++ [P]).flatMap encS)] y17) := hide hQ
     clear hQ
     refine wpO_done ?_
     try go_frame
     obtain ⟨N2,hN2⟩ : ∃ N2,N2 = minusS N P := ⟨_,rfl⟩
     rw [← hN2] at hP hCn' hltn'
     replace hP : Hid (Sp w [] w [] [(r3,25,setC S),(r6,25,setC N2),(r9,25,setC P),(bx,25,setC X)] [(25,16, .slice A4 (n + 1) cA4,n + 1,(Ks ++ [P]).flatMap encS)] y17) := hP
     clear hN2
     try dsimp only
     repeat ((fail_if_success (with_reducible refine wp_reg (id := 5) ?_)); (first | go_values | go_skip | go_step | go_guarded | go_upon | go_in | go_back | fail))
     with_reducible refine wp_reg (id := 5) ?_
     refine wpO_val rfl (load_SetR (N := N2) rfl rfl ((unhide hP).get 1 rfl).whole) ?_
     refine wpO_want rfl ?_
     go_simp
     refine (min_any N2 y17 ((unhide hT').ext (unhide hP).extf)).mono ?_
     rintro _ y18 ⟨rfl,hxc⟩
     replace hP : Hid (Sp w [] w [] [(r3,25,setC S),(r6,25,setC N2),(r9,25,setC P),(bx,25,setC X)] [(25,16, .slice A4 (n + 1) cA4,n + 1,(Ks ++ [P]).flatMap encS)] y18) := hide ((unhide hP).ext hxc)
     clear hxc
     refine ⟨_,rfl, ?_⟩
     try go_frame
     generalize htu0 : Value.tuple _ = tu
     have htu := hide htu0
     clear htu0
     refine wpO_val rfl (run_move rfl rfl) ?_
     go_frame
     refine wpO_val rfl (run_extract (i := 0) (v := .int .i64 (minV N2)) rfl (unhide htu).symm rfl) ?_
     go_frame
     refine wpO_val rfl (run_extract (i := 1) (v := .bool (anyB N2)) rfl (unhide htu).symm rfl) ?_
     go_frame
     iterate 2
      refine wpO_want rfl ?_
      go_simp
     refine wpO_done ?_
     try go_frame
     clear htu
     replace hP : Hid (Sp w [] w [] [(r3,25,setC S),(r6,25,setC N2),(r9,25,setC P)] [(25,16, .slice A4 (n + 1) cA4,n + 1,(Ks ++ [P]).flatMap encS)] y18) := hide ((unhide hP).sub (List.sublist_append_left _ ([(bx,25,setC X)] : List Cl)) (List.Sublist.refl _))
     replace hP : Hid (Sp w [] w [] [(r3,25,setC S),(r6,25,setC N2)] [(25,16, .slice A4 (n + 1) cA4,n + 1,(Ks ++ [P]).flatMap encS)] y18) := hide ((unhide hP).sub (List.sublist_append_left _ ([(r9,25,setC P)] : List Cl)) (List.Sublist.refl _))
     go_wp2_with fail
     refine ⟨(toL N2).length, ?_,by have := unhide hltn'; have := unhide hfm'; omega⟩
     rw [unhide hI5_2]
     exact ⟨N2,A4,n + 1,cA4,Ks ++ [P],(by first | rfl | trivial),(by first | rfl | trivial),(by first | rfl | trivial),(by first | rfl | trivial),(by first | rfl | trivial),(by first | rfl | trivial),(by first | rfl | trivial),(by rw [List.length_append, ← unhide hn']; rfl),unhide hCn',unhide hP,rfl⟩
    ·skip
     obtain ⟨f',rfl,hG2⟩ := (unhide hGr').next (unhide hi') (unhide hX) (unhide hq2).symm
     have hG2' := hide hG2
     clear hG2 hq2
     refine wpO_want rfl ?_
     go_simp
     refine wpO_done ?_
     try go_frame
     try dsimp only
     repeat ((fail_if_success (with_reducible refine wp_reg (id := 10) ?_)); (first | go_values | go_skip | go_step | go_guarded | go_upon | go_in | go_back | fail))
     with_reducible refine wp_reg (id := 10) ?_
     refine wpO_val rfl (load_SetR (N := P) rfl rfl ((unhide hP).get 2 rfl).whole) ?_
     try go_frame
     refine wpO_val rfl (load_SetR (N := X) rfl rfl ((unhide hP).get 3 rfl).whole) ?_
     refine wpO_want rfl ?_
     go_simp
     refine (union_any P X _).mono ?_
     rintro _ y14 ⟨rfl,hxc⟩
     refine ⟨_,rfl, ?_⟩
     replace hP : Hid (Sp w [] w [] [(r3,25,setC S),(r6,25,setC N),(r9,25,setC P),(bx,25,setC X)] [(25,16, .slice A n c,n,Ks.flatMap encS)] y14) := hide ((unhide hP).ext hxc)
     clear hxc
     refine (unhide hP).setO 2 (setC (P ||| X)) rfl rfl (fun hb => store_SetR (N := P ||| X) rfl rfl rfl hb) ?_
     intro y15 hQ
     replace hP : Hid (Sp w [] w [] [(r3,25,setC S),(r6,25,setC N),(r9,25,setC (P ||| X)),(bx,25,setC X)] [(25,16, .slice A n c,n,Ks.flatMap encS)] y15) := hide hQ
     clear hQ
     refine wpO_done ?_
     try go_frame
     obtain ⟨P2,hP2⟩ : ∃ P2,P2 = P ||| X := ⟨_,rfl⟩
     rw [← hP2] at hP hG2'
     replace hP : Hid (Sp w [] w [] [(r3,25,setC S),(r6,25,setC N),(r9,25,setC P2),(bx,25,setC X)] [(25,16, .slice A n c,n,Ks.flatMap encS)] y15) := hP
     clear hP2
     try dsimp only
     repeat ((fail_if_success (with_reducible refine wp_reg (id := 11) ?_)); (first | go_values | go_skip | go_step | go_guarded | go_upon | go_in | go_back | fail))
     with_reducible refine wp_reg (id := 11) ?_
     refine wpO_val rfl (load_SetR (N := X) rfl rfl ((unhide hP).get 3 rfl).whole) ?_
     refine wpO_done ?_
     try go_frame
     try dsimp only
     repeat ((fail_if_success (with_reducible refine wp_reg (id := 12) ?_)); (first | go_values | go_skip | go_step | go_guarded | go_upon | go_in | go_back | fail))
     with_reducible refine wp_reg (id := 12) ?_
     refine (unhide hP).allocO 25 (setC 0) rfl (run_alloc_set rfl) ?_
     intro b11 y16 hQ
     replace hP : Hid (Sp w [] w [] [(r3,25,setC S),(r6,25,setC N),(r9,25,setC P2),(bx,25,setC X),(b11,25,setC 0)] [(25,16, .slice A n c,n,Ks.flatMap encS)] y16) := hide hQ
     clear hQ
     refine (unhide hP).setO 4 (setC X) rfl rfl (fun hb => store_SetR (N := X) rfl rfl rfl hb) ?_
     intro y17 hQ
     replace hP : Hid (Sp w [] w [] [(r3,25,setC S),(r6,25,setC N),(r9,25,setC P2),(bx,25,setC X),(b11,25,setC X)] [(25,16, .slice A n c,n,Ks.flatMap encS)] y17) := hide hQ
     clear hQ
     refine wpO_done ?_
     try go_frame
     replace hP : Hid (Sp w [] w [] [(r3,25,setC S),(r6,25,setC N),(r9,25,setC P2),(b11,25,setC X)] [(25,16, .slice A n c,n,Ks.flatMap encS)] y17) := hide ((unhide hP).sub (.cons_cons _ (.cons_cons _ (.cons_cons _ (.cons _ (.refl _))))) (.refl _))
     go_wp2_with fail
     obtain ⟨X2,hX2⟩ : ∃ X,X = besS E P2 &&& N := ⟨_,rfl⟩
     have hX2' := hide hX2
     clear hX2
     refine wp_regionK (P := Tryz.prog) [] [0,1,2,3,4] [5] 1 #[true,true,true,true,true,false] (by kernel_rfl) (by kernel_rfl) rfl (by rfl) ?_
     iterate 1
      refine ql_want (v := ?_) rfl (by rfl) (fun W hW => ?_) ?_
      rotate_left
      ·go_simp
       first | done | rfl
      go_frame
     refine ql_want (v := .agg (setC P2)) rfl (by rfl) (fun W hW => qUpon_ofX (load_SetR rfl rfl ((unhide hP).wholeK 2 rfl hW (by simp)))) ?_
     go_frame
     refine ql_want (v := .agg (setC (besS E P2))) rfl (by rfl) (fun W hW => ?_) ?_
     ·go_simp
      refine (beside_any og V E P2 W ((unhide hg').ext ((unhide hP).extf.trans (Ext.of_keep0 hW))) ((unhide hT').ext ((unhide hP).extf.trans (Ext.of_keep0 hW)))).mono ?_
      rintro _ _ ⟨h1,h2⟩
      exact ⟨_,h1,rfl,h2⟩
     go_frame
     refine ql_want (v := .agg (setC N)) rfl (by rfl) (fun W hW => qUpon_ofX (load_SetR rfl rfl ((unhide hP).wholeK 1 rfl hW (by simp)))) ?_
     go_frame
     refine ql_want (v := .agg (setC X2)) rfl (by rfl) (fun W hW => ?_) ?_
     ·go_simp
      refine (inter_any (besS E P2) N W).mono ?_
      rw [← unhide hX2']
      rintro _ _ ⟨h1,h2⟩
      exact ⟨_,h1,rfl,h2⟩
     go_frame
     refine wpQL_nil (fun y18 hxq => ?_)
     replace hP : Hid (Sp w [] w [] [(r3,25,setC S),(r6,25,setC N),(r9,25,setC P2),(b11,25,setC X)] [(25,16, .slice A n c,n,Ks.flatMap encS)] y18) := hide ((unhide hP).ext hxq)
     clear hxq
     refine (unhide hP).setX 3 (setC X2) rfl (j := 5) (by kernel_rfl) rfl (by rfl) #[true,true,true,true,true,true] (by rfl) rfl (fun hb => store_SetR (N := X2) rfl (by rfl) (by rfl) hb) ?_
     intro y19 hQ
     replace hP : Hid (Sp w [] w [] [(r3,25,setC S),(r6,25,setC N),(r9,25,setC P2),(b11,25,setC X2)] [(25,16, .slice A n c,n,Ks.flatMap encS)] y19) := hide hQ
     clear hQ
     try go_frame
     refine wpX_done (by kernel_rfl) ?_
     try go_frame
     go_wp2_with fail
     refine ⟨f', ?_,Nat.lt_succ_self _⟩
     rw [unhide hI12_6]
     exact ⟨P2,X2,b11,(by first | rfl | trivial),(by first | rfl | trivial),(by first | rfl | trivial),(by first | rfl | trivial),(by first | rfl | trivial),(by first | rfl | trivial),(by first | rfl | trivial),(by first | rfl | trivial),(by first | rfl | trivial),unhide hG2',unhide hX2',unhide hP⟩
end Go.Proofs.YtmokciekndllpaaGreatDoor
