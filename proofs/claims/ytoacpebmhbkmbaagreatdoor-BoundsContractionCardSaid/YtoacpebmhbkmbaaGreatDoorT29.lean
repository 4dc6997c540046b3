/- Parts of a proof, laid together. Each part says its own conditions. -/
import Derived.Test.YtoacpebmhbkmbaaGreatDoorT27
import Derived.Test.YtoacpebmhbkmbaaGreatDoorT23
import Derived.Test.YtoacpebmhbkmbaaGreatDoorT28
namespace Go.Proofs.YtoacpebmhbkmbaaGreatDoor
open Go Go.RowKit Go.Shelf
attribute [local go_sem] qUpon lUpon
attribute [local irreducible] wpO wpX wpQL
def cliM (m : List (Int × Nat)) : Nat → Nat → List Int
 | 0,_ => []
 | f + 1,N => if anyB N = true then minV N :: cliM m f (N &&& nrM m (minV N)) else []
theorem cliM_nil {m : List (Int × Nat)} {f N : Nat} (h : toL N = []) : cliM m f N = [] := by
 cases f with
 | zero => rfl
 | succ f =>
  have h1 := (min_nil h).2
  rw [cliM,if_neg (by rw [h1]; simp)]
theorem cliM_cons {m : List (Int × Nat)} {f N : Nat} {x : Int} {r : List Int} (h : toL N = x :: r) : cliM m (f + 1) N = x :: cliM m f (N &&& nrM m x) := by
 obtain ⟨h1,h2⟩ := min_cons h
 rw [cliM,if_pos h2,h1]
theorem Rep.irrM {m : List (Int × Nat)} {L : List Int} {near : Int → Int → Bool} (h : Rep m L near) (o : Int) : o ∉ toL (nrM m o) := fun hm => by
 by_cases ho : o ∈ L
 ·rw [h.mem_nb ho,h.irr] at hm
  cases hm.2
 ·have hz : nrM m o = 0 := by
   unfold nrM
   have : lookM m o = none := lookM_none.2 fun p hp e => ho (h.mem.1 (List.mem_map.2 ⟨p,hp,e⟩))
   rw [this]
   rfl
  rw [hz] at hm
  have := (mem_toL'.1 hm).2.2
  rw [Nat.zero_testBit] at this
  cases this
theorem Rep.cli {m : List (Int × Nat)} {L : List Int} {near : Int → Int → Bool} (h : Rep m L near) (f : Nat) : ∀ (N : Nat) (l : List Int),toL N = l → (∀ x ∈ l,x ∈ L) → cliM m f N = cliS near f l := by
 induction f with
 | zero => intro N l _ _; rfl
 | succ f ih =>
  intro N l hN hl
  cases l with
  | nil => rw [cliM_nil hN]; rfl
  | cons o r =>
   rw [cliM_cons hN]
   have h1 : toL (N &&& nrM m o) = r.filter (near o) := by
    rw [and_nb hN (p := near o) fun x hx => ?_,List.filter_cons,h.irr]
    ·rfl
    ·rw [h.mem_nb (hl o (by simp))]
     exact ⟨fun h => h.2,fun h2 => ⟨hl x hx,h2⟩⟩
   rw [ih _ _ h1 (fun x hx => hl x (by simp [(List.mem_filter.1 hx).1]))]
   rfl
theorem and_lt {N M : Nat} {x : Int} {r : List Int} (h : toL N = x :: r) (hx : x ∉ toL M) : (toL (N &&& M)).length < (toL N).length := by
 rw [h]
 have h2 : ∀ y ∈ toL (N &&& M),y ∈ r := fun y hy => by
  rw [mem_and,h] at hy
  rcases List.mem_cons.1 hy.1 with rfl | h3
  ·exact absurd hy.2 hx
  ·exact h3
 have := len_sub _ _ (toL_nodup (N &&& M)) h2
 simp only [List.length_cons]
 omega
theorem sum_next (g : Int → Nat) (l : List Int) (x : Int) : ((l ++ [x]).map g).sum = (l.map g).sum + g x := by
 rw [List.map_append,List.sum_append]; simp
theorem sum_le (g : Int → Nat) (c : Nat) (h : ∀ x,g x ≤ c) : ∀ l : List Int,(l.map g).sum ≤ l.length * c
 | [] => by simp
 | x :: l => by
  rw [List.map_cons,List.sum_cons,List.length_cons,Nat.succ_mul]
  have := sum_le g c h l
  have := h x
  omega
theorem cnt_le (N : Nat) : cntF N 1024 ≤ 1024 := by rw [cnt_toL]; exact toL_len_le N
theorem m0_ok (E : List ((Int × Int) × Thing)) (l : List Int) (h : ∀ x ∈ l,i64ok x) : ∀ p ∈ m0 E l,i64ok p.1 := by
 have key : ∀ (l : List Int) (m : List (Int × Nat)),(∀ p ∈ m,i64ok p.1) → (∀ x ∈ l,i64ok x) → ∀ p ∈ l.foldl (fun M id => putM M id (nearS id E)) m,i64ok p.1 := by
  intro l
  induction l with
  | nil => intro m h _; exact h
  | cons o l ih => intro m h hl; exact ih _ (putM_ok h (hl o (by simp))) (fun x hx => hl x (by simp [hx]))
 exact key l [] (by simp) h
theorem del_ok {m : List (Int × Nat)} (h : ∀ p ∈ m,i64ok p.1) (x : Int) : ∀ p ∈ delM m x,i64ok p.1 := fun p hp => h p (List.mem_filter.1 hp).1
theorem St.mapAt {κ τ : Type} {ek : κ → Value} {ev : τ → Value} {ok : κ → Prop} {b : Nat} {L : List Cl} {Rs : List Rw} {W : World} (h : St b L Rs W) (i : Nat) {T n mb : Nat} {m : List (κ × τ)} (hi : Rs[i]? = some (T,0, .map (some mb),n,mapXs ek ev m)) (ho : ∀ p ∈ m,ok p.1) : MapIs ek ev ok W mb m := by
 have h1 := h.rows _ (List.mem_of_getElem? hi)
 unfold RowIs at h1
 rw [if_pos rfl] at h1
 obtain ⟨b,e,_,h2⟩ := h1
 injection e with e
 injection e with e
 subst e
 exact h2.is ho
theorem anyB_nil {N : Nat} (h : false = anyB N) : toL N = [] := by
 unfold anyB at h
 cases hl : toL N with
 | nil => rfl
 | cons x r => rw [hl] at h; cases h
theorem anyB_cons {N : Nat} (h : anyB N = true) : ∃ r,toL N = minV N :: r := by
 unfold anyB at h
 unfold minV
 cases hl : toL N with
 | nil => rw [hl] at h; cases h
 | cons x r => exact ⟨r,rfl⟩
set_option maxRecDepth 100000 in
set_option maxHeartbeats 16000000 in
theorem degree_any (mb : Nat) (m : List (Int × Nat)) (x : Int) (w : World) (hM : MapIs ekV evS i64ok w mb m) (hx : i64ok x) :
  Calls Tryz.prog 57 #[.map (some mb), .int .i64 x] w fun e w' => e = .returned (.int .i64 (cntF (nrM m x) 1024)) ∧ Ext w w' := by
 have hM' := hide hM
 have hx' := hide hx
 obtain ⟨N,hN⟩ : ∃ N,N = nrM m x := ⟨_,rfl⟩
 rw [← hN]
 have hN' := hide hN
 clear hM hx hN
 have hP := hide (Sp.new w)
 refine callsIn_wide.1 (callsIn_of_wp_marks (n := 0) Tryz.func57 rfl trivial (wpIn_wide.2 ?_))
 simp only [Tryz.ntmps57,List.size_toArray,List.length_cons,List.length_nil,Nat.reduceAdd,Nat.reduceSub,Array.replicate_succ,Array.replicate_zero,List.push_toArray,List.append_toArray,List.nil_append,List.cons_append]
 try dsimp only
 repeat ((fail_if_success (with_reducible refine wp_reg (id := 1) ?_)); (first | go_values | go_skip | go_step | go_guarded | go_upon | go_in | go_back | fail))
 with_reducible refine wp_reg (id := 1) ?_
 iterate 2
  refine wpO_want rfl ?_
  go_simp
 refine wpO_val rfl (run_lookup1_op (z0 := 0) keV Tryz.underlying98 ((unhide hM').ext (unhide hP).extf) (zeroS _) (unhide hx') rfl rfl rfl) ?_
 rw [show (lookM m x).getD 0 = N from (unhide hN').symm]
 simp only [evS]
 go_frame
 refine wpO_want rfl ?_
 go_simp
 have hca := slen_any N w
 refine (hca).mono ?_
 rintro _ y1 ⟨rfl,hxc⟩
 clear hca
 refine ⟨_,rfl, ?_⟩
 replace hP : Hid (Sp w [] w [] [] [] y1) := hide ((unhide hP).ext hxc)
 clear hxc
 refine wpO_want rfl ?_
 go_simp
 refine wpO_done ?_
 try go_frame
 go_wp2_with fail
 refine Sp.leaves0 ?_
 exact ⟨_,results_tmp (t := 4) rfl _ _ _,rfl,(unhide hP).extf⟩
set_option maxRecDepth 100000 in
set_option maxHeartbeats 16000000 in
theorem of_adj (og : Option Addr) (V : List (Int × Thing)) (E : List ((Int × Int) × Thing)) (w : World) (hg : GL w og V E) (hT : Tab w) :
  Calls Tryz.prog 54 #[.pointer og] w fun e w' => ∃ b,e = .returned (.map (some b)) ∧ w.heap.size ≤ b ∧ MapIs ekV evS i64ok w' b (m0 E (toL (vS V))) ∧ Ext w w' := by
 have hg' := hide hg
 have hT' := hide hT
 clear hg hT
 have hP := hide (Sp.new w)
 refine callsIn_wide.1 (callsIn_of_wp_marks (n := 0) Tryz.func54 rfl trivial (wpIn_wide.2 ?_))
 simp only [Tryz.ntmps54,List.size_toArray,List.length_cons,List.length_nil,Nat.reduceAdd,Nat.reduceSub,Array.replicate_succ,Array.replicate_zero,List.push_toArray,List.append_toArray,List.nil_append,List.cons_append]
 try dsimp only
 repeat ((fail_if_success (with_reducible refine wp_reg (id := 0) ?_)); (first | go_values | go_skip | go_step | go_guarded | go_upon | go_in | go_back | fail))
 with_reducible refine wp_reg (id := 0) ?_
 refine (unhide hP).allocO 24 #[.pointer og] rfl (run_box (v := .pointer og) rfl rfl) ?_
 intro bg y1 hQ
 replace hP : Hid (Sp w [] w [] [(bg,24, #[.pointer og])] [] y1) := hide hQ
 clear hQ
 refine wpO_want rfl ?_
 go_simp
 refine wpO_done ?_
 try go_frame
 try dsimp only
 repeat ((fail_if_success (with_reducible refine wp_reg (id := 1) ?_)); (first | go_values | go_skip | go_step | go_guarded | go_upon | go_in | go_back | fail))
 with_reducible refine wp_reg (id := 1) ?_
 refine (unhide hP).mapNewO 98 0 rfl (run_makeMapO rfl) ?_
 intro mb y2 hQ
 replace hP : Hid (Sp w [] w [] [(bg,24, #[.pointer og])] [(98,0, .map (some mb),0,[])] y2) := hide hQ
 clear hQ
 go_frame
 refine (unhide hP).allocO 98 #[.map none] rfl (by go_simp) ?_
 intro b3 y3 hQ
 replace hP : Hid (Sp w [] w [] [(bg,24, #[.pointer og]),(b3,98, #[.map none])] [(98,0, .map (some mb),0,[])] y3) := hide hQ
 clear hQ
 refine (unhide hP).setO 1 #[.map (some mb)] rfl rfl (fun hb => run_store_row (v := .map (some mb)) rfl rfl rfl (by simp [go_sem]) hb rfl (by simp [Value.cells,Value.oneCell'])) ?_
 intro y4 hQ
 replace hP : Hid (Sp w [] w [] [(bg,24, #[.pointer og]),(b3,98, #[.map (some mb)])] [(98,0, .map (some mb),0,[])] y4) := hide hQ
 clear hQ
 refine wpO_done ?_
 try go_frame
 try dsimp only
 repeat ((fail_if_success (with_reducible refine wp_reg (id := 2) ?_)); (first | go_values | go_skip | go_step | go_guarded | go_upon | go_in | go_back | fail))
 with_reducible refine wp_reg (id := 2) ?_
 refine wpO_val rfl (load_V (v := .pointer og) rfl rfl (by simp [go_sem]) (((unhide hP).get 0 rfl).cell 0)) ?_
 go_frame
 refine wpO_want rfl ?_
 go_simp
 refine (vsetG og V E _ ((unhide hg').ext (unhide hP).extf)).mono ?_
 rintro _ y5 ⟨rfl,hxc⟩
 refine ⟨_,rfl, ?_⟩
 replace hP : Hid (Sp w [] w [] [(bg,24, #[.pointer og]),(b3,98, #[.map (some mb)])] [(98,0, .map (some mb),0,[])] y5) := hide ((unhide hP).ext hxc)
 clear hxc
 refine wpO_want rfl ?_
 go_simp
 refine (all_ext (vS V) _).mono ?_
 rintro _ y6 ⟨bi,rfl,hBa0,hxc⟩
 refine ⟨_,rfl, ?_⟩
 replace hP : Hid (Sp w [] w [] [(bg,24, #[.pointer og]),(b3,98, #[.map (some mb)])] [(98,0, .map (some mb),0,[])] y6) := hide ((unhide hP).ext hxc)
 have hBa := hide hBa0
 clear hxc hBa0
 refine wpO_done ?_
 try go_frame
 go_wp2_with fail
 refine wp_rngS (gf := 112) (lb := #[.pointer (some ⟨bi,0,none⟩)]) (unhide hP) rfl (enters_of Tryz.func112 (by kernel_rfl) rfl) (ex := [0]) ((unhide hP).tab (unhide hT')) (all_iter (vS V) bi y6 (unhide hBa) ((unhide hT').ext (unhide hP).extf)) (fun _ => rfl)
  (fun pre L' Rs' => L' = [(bg,24, #[.pointer og]),(b3,98, #[.map (some mb)])] ∧ Rs' = [(98,0, .map (some mb),0,mapXs ekV evS (m0 E pre))])
  (fun _ _ _ => False)
  (fun tm _ v a1 _ => a1 = ⟨(tm.setIfInBounds 9 (.int .i64 v)).setIfInBounds 4 (.int .i64 v),[]⟩)
  (fun _ _ _ _ _ h _ => h) ⟨rfl,rfl⟩ ?_ ?_ ?_ ?_
 ·intro T' v W' K hlt' hsz hK
  have hK' := hide hK
  have hlt2 := hide hlt'
  have hsz2 := hide hsz
  clear hK hlt' hsz
  rw [zip1]
  simp only [List.setIfInBounds_toArray,List.set_cons_succ,List.set_cons_zero]
  try dsimp only
  repeat ((fail_if_success (with_reducible refine wpI_reg (id := 3) (by kernel_rfl) ?_)); (first | go_values | gi_step | gi_guarded | gi_upon | gi_in | gi_back | fail))
  with_reducible refine wpI_reg (id := 3) (by kernel_rfl) ?_
  refine wpO_want rfl ?_
  go_simp
  refine wpO_done ?_
  try go_frame
  exact unhide hK' _ _ rfl (Ext.refl _)
 ·rintro l pre v a1 L' Rs' W' ⟨rfl,rfl⟩ hB0 rfl hpx hl hkW htW
  simp only [List.setIfInBounds_toArray,List.set_cons_succ,List.set_cons_zero]
  have hv0' := hide (toL_ok (hpx.subset (by simp) : v ∈ toL (vS V)))
  have hok := hide (show ∀ p ∈ m0 E pre,i64ok p.1 from m0_ok E pre (fun x hx => toL_ok (hpx.subset (by simp [hx]) : x ∈ toL (vS V))))
  obtain ⟨M,hM⟩ : ∃ M,M = m0 E pre := ⟨_,rfl⟩
  rw [← hM] at hB0 hok
  have hM' := hide hM
  have hB : Hid (Sp w (stT [(bg,24, #[.pointer og]),(b3,98, #[.map (some mb)])] [(98,0, .map (some mb),0,mapXs ekV evS M)]) W' [] [(bg,24, #[.pointer og]),(b3,98, #[.map (some mb)])] [(98,0, .map (some mb),0,mapXs ekV evS M)] W') := hide hB0
  clear hB0 hM hpx hl hkW htW
  gi_wp2_with fail
  have hself := Keep.refl [] W'
  refine wpI_regionK (P := Tryz.prog) [] [0,1,2,3,4] [5] 1 #[true,true,true,true,true,false] (by kernel_rfl) (by kernel_rfl) (by kernel_rfl) rfl (by rfl) ?_
  refine ql_want (v := .map (some mb)) rfl (by rfl) (fun W hW => qUpon_ofX (load_V rfl rfl (by simp [go_sem]) ((unhide hB).cellK 1 0 rfl rfl (by simp) W hW))) ?_
  go_frame
  iterate 1
   refine ql_want (v := ?_) rfl (by rfl) (fun W hW => ?_) ?_
   rotate_left
   ·go_simp
    first | done | rfl
   go_frame
  refine ql_want (v := .pointer og) rfl (by rfl) (fun W hW => qUpon_ofX (load_V rfl rfl (by simp [go_sem]) ((unhide hB).cellK 0 0 rfl rfl (by simp) W hW))) ?_
  go_frame
  iterate 1
   refine ql_want (v := ?_) rfl (by rfl) (fun W hW => ?_) ?_
   rotate_left
   ·go_simp
    first | done | rfl
   go_frame
  refine ql_want (v := .agg (setC (nearS v E))) rfl (by rfl) (fun W hW => ?_) ?_
  ·go_simp
   refine (nearG og V E v W ((unhide hg').ext ((unhide hB).extf.trans ((Ext.refl _).of_new hW (by simp))))).mono ?_
   rintro _ _ ⟨h1,h2⟩
   exact ⟨_,h1,rfl,h2⟩
  go_frame
  refine wpQL_nil (fun y7 hxq => ?_)
  replace hB : Hid (Sp w (stT [(bg,24, #[.pointer og]),(b3,98, #[.map (some mb)])] [(98,0, .map (some mb),0,mapXs ekV evS M)]) W' [] [(bg,24, #[.pointer og]),(b3,98, #[.map (some mb)])] [(98,0, .map (some mb),0,mapXs ekV evS M)] y7) := hide ((unhide hB).ext hxq)
  clear hxq
  clear hself
  refine (unhide hB).mapPutX 0 (m := M) (ek := ekV) (ev := evS) rfl (unhide hok) (j := 5) (by kernel_rfl) rfl (by rfl) #[true,true,true,true,true,true] (by rfl) (by rfl) keV Tryz.underlying98 (x := v) (unhide hv0') (nearS v E) rfl rfl rfl rfl 0 ?_
  intro y8 hQ
  replace hB : Hid (Sp w (stT [(bg,24, #[.pointer og]),(b3,98, #[.map (some mb)])] [(98,0, .map (some mb),0,mapXs ekV evS M)]) W' [] [(bg,24, #[.pointer og]),(b3,98, #[.map (some mb)])] [(98,0, .map (some mb),0,mapXs ekV evS (putM M v (nearS v E)))] y8) := hide hQ
  clear hQ
  try go_frame
  refine wpX_done (by kernel_rfl) ?_
  try go_frame
  gi_wp2_with fail
  exact ⟨_,_,⟨rfl,by unfold m0 at *; rw [List.foldl_append]; rw [unhide hM']; rfl⟩,unhide hB⟩
 ·rintro D L' Rs' W' ⟨rfl,rfl⟩ hkW hP0
  generalize ({ target := .collected D,args := #[] } :: [] : List Deferred) = ds2 at hP0 ⊢
  have hok := hide (m0_ok E (toL (vS V)) (fun x hx => toL_ok hx))
  obtain ⟨M,hM⟩ : ∃ M,M = m0 E (toL (vS V)) := ⟨_,rfl⟩
  rw [← hM] at hP0 hok
  have hM' := hide hM
  clear hkW hP hBa hM
  have hP : Hid (Sp w [] w ds2 [(bg,24, #[.pointer og]),(b3,98, #[.map (some mb)])] [(98,0, .map (some mb),0,mapXs ekV evS M)] W') := hide hP0
  clear hP0
  try dsimp only
  repeat ((fail_if_success (with_reducible refine wp_reg (id := 5) ?_)); (first | go_values | go_skip | go_step | go_guarded | go_upon | go_in | go_back | fail))
  with_reducible refine wp_reg (id := 5) ?_
  refine wpO_val rfl (load_V (v := .map (some mb)) rfl rfl (by simp [go_sem]) (((unhide hP).get 1 rfl).cell 0)) ?_
  go_frame
  refine wpO_want rfl ?_
  go_simp
  refine wpO_done ?_
  try go_frame
  go_wp2_with fail
  have hge := (unhide hP).map_ge 0 rfl
  refine (unhide hP).leaves ?_
  intro w' hx hst
  refine ⟨_,results_tmp (t := 2) rfl _ _ _,mb,rfl,hge.1, ?_,hx⟩
  rw [← unhide hM']
  exact hst.mapAt 0 rfl (unhide hok)
 ·intro D c L' Rs' W' h
  exact h.elim
set_option maxRecDepth 100000 in
set_option maxHeartbeats 16000000 in
theorem away_any (mb : Nat) (m : List (Int × Nat)) (x : Int) (w : World) (hM : MapIs ekV evS i64ok w mb m) (hx : i64ok x) (hT : Tab w) (hb : 0 < mb) :
  Calls Tryz.prog 60 #[.map (some mb), .int .i64 x] w fun e w' => (∃ v,e = .returned v) ∧ MapIs ekV evS i64ok w' mb (awayM m x) ∧ Keep [mb] w w' := by
 have hok := hide hM.okk
 have hx' := hide hx
 have hbl := hM.lt
 obtain ⟨wf,hwf⟩ : ∃ wf,wf = cutW w mb := ⟨_,rfl⟩
 have hP0 := Sp.cut hM 98 0
 have hT0 := Tab.cut hT hb (by omega)
 rw [← hwf] at hP0 hT0
 have hT' := hide hT0
 have hP := hide hP0
 obtain ⟨N,hN⟩ : ∃ N,N = nrM m x := ⟨_,rfl⟩
 have hN' := hide hN
 clear hM hx hT hb hbl hP0 hT0 hN hwf
 refine callsIn_wide.1 (callsIn_of_wp_marks (n := 0) Tryz.func60 rfl trivial (wpIn_wide.2 ?_))
 simp only [Tryz.ntmps60,List.size_toArray,List.length_cons,List.length_nil,Nat.reduceAdd,Nat.reduceSub,Array.replicate_succ,Array.replicate_zero,List.push_toArray,List.append_toArray,List.nil_append,List.cons_append]
 try dsimp only
 repeat ((fail_if_success (with_reducible refine wp_reg (id := 0) ?_)); (first | go_values | go_skip | go_step | go_guarded | go_upon | go_in | go_back | fail))
 with_reducible refine wp_reg (id := 0) ?_
 refine (unhide hP).allocO 98 #[.map (some mb)] rfl (run_box (v := .map (some mb)) rfl rfl) ?_
 intro b2 y1 hQ
 replace hP : Hid (Sp wf [mb] w [] [(b2,98, #[.map (some mb)])] [(98,0, .map (some mb),0,mapXs ekV evS m)] y1) := hide hQ
 clear hQ
 refine (unhide hP).allocO 3 #[.int .i64 x] rfl (run_box (v := .int .i64 x) rfl rfl) ?_
 intro b3 y2 hQ
 replace hP : Hid (Sp wf [mb] w [] [(b2,98, #[.map (some mb)]),(b3,3, #[.int .i64 x])] [(98,0, .map (some mb),0,mapXs ekV evS m)] y2) := hide hQ
 clear hQ
 refine wpO_done ?_
 try go_frame
 try dsimp only
 repeat ((fail_if_success (with_reducible refine wp_reg (id := 1) ?_)); (first | go_values | go_skip | go_step | go_guarded | go_upon | go_in | go_back | fail))
 with_reducible refine wp_reg (id := 1) ?_
 refine wpO_val rfl (load_V (v := .map (some mb)) rfl rfl (by simp [go_sem]) (((unhide hP).get 0 rfl).cell 0)) ?_
 go_frame
 refine wpO_val rfl (load_V (v := .int .i64 x) rfl rfl (by simp [go_sem]) (((unhide hP).get 1 rfl).cell 0)) ?_
 go_frame
 refine (unhide hP).look1O 0 (m := m) (ek := ekV) (ev := evS) rfl (unhide hok) rfl keV Tryz.underlying98 (zeroS _) (unhide hx') rfl rfl rfl ?_
 rw [show (lookM m x).getD 0 = N from (unhide hN').symm]
 simp only [evS]
 go_frame
 refine wpO_want rfl ?_
 go_simp
 refine (all_ext N _).mono ?_
 rintro _ y3 ⟨ba,rfl,hBa0,hxc⟩
 refine ⟨_,rfl, ?_⟩
 replace hP : Hid (Sp wf [mb] w [] [(b2,98, #[.map (some mb)]),(b3,3, #[.int .i64 x])] [(98,0, .map (some mb),0,mapXs ekV evS m)] y3) := hide ((unhide hP).ext hxc)
 have hBa := hide hBa0
 clear hxc hBa0
 refine wpO_done ?_
 try go_frame
 go_wp2_with fail
 have hfn := hide (show ∀ pre : List Int,turnM (fun v _ => withoutS v x) pre m = turnM (fun v _ => withoutS v x) pre m from fun _ => rfl)
 have hsz := hide (unhide hP).keep.size
 refine wp_rngM (gf := 112) (lb := #[.pointer (some ⟨ba,0,none⟩)]) (unhide hP) rfl (enters_of Tryz.func112 (by kernel_rfl) rfl) (ex := [0]) ((unhide hP).tab (unhide hT')) (all_iter N ba y3 (unhide hBa) ((unhide hT').ext (unhide hP).extf)) (fun _ => rfl)
  (fun pre L' Rs' => L' = [(b2,98, #[.map (some mb)]),(b3,3, #[.int .i64 x])] ∧ Rs' = [(98,0, .map (some mb),0,mapXs ekV evS (turnM (fun v _ => withoutS v x) pre m))])
  (fun _ _ _ => False)
  (fun tm _ x a1 _ => a1 = ⟨(tm.setIfInBounds 9 (.int .i64 x)).setIfInBounds 4 (.int .i64 x),[]⟩)
  (fun _ _ _ _ _ h _ => h) ⟨rfl,rfl⟩ ?_ ?_ ?_ ?_
 ·intro T' v W' K hlt' hsz hK
  have hK' := hide hK
  have hlt2 := hide hlt'
  have hsz2 := hide hsz
  clear hK hlt' hsz
  rw [zip1]
  simp only [List.setIfInBounds_toArray,List.set_cons_succ,List.set_cons_zero]
  try dsimp only
  repeat ((fail_if_success (with_reducible refine wpI_reg (id := 2) (by kernel_rfl) ?_)); (first | go_values | gi_step | gi_guarded | gi_upon | gi_in | gi_back | fail))
  with_reducible refine wpI_reg (id := 2) (by kernel_rfl) ?_
  refine wpO_want rfl ?_
  go_simp
  refine wpO_done ?_
  try go_frame
  exact unhide hK' _ _ rfl (Ext.refl _)
 ·rintro l pre v a1 L' Rs' W' ⟨rfl,rfl⟩ hB0 rfl hpx hl hkW htW
  simp only [List.setIfInBounds_toArray,List.set_cons_succ,List.set_cons_zero]
  have hv0' := hide (toL_ok (hpx.subset (by simp) : v ∈ toL N))
  have hokM := hide (turn_ok (fun v _ => withoutS v x) pre m (unhide hok) (fun x hx => toL_ok (hpx.subset (by simp [hx]) : x ∈ toL N)))
  have hsn := hide (turn_snoc (fun v _ => withoutS v x) pre m v)
  obtain ⟨M,hM⟩ : ∃ M,M = turnM (fun v _ => withoutS v x) pre m := ⟨_,rfl⟩
  rw [← hM] at hB0 hokM hsn
  obtain ⟨N1,hN1⟩ : ∃ N1,N1 = nrM M v := ⟨_,rfl⟩
  rw [← hN1] at hsn
  have hN1' := hide hN1
  have hB : Hid (Sp wf (stT [(b2,98, #[.map (some mb)]),(b3,3, #[.int .i64 x])] [(98,0, .map (some mb),0,mapXs ekV evS M)]) W' [] [(b2,98, #[.map (some mb)]),(b3,3, #[.int .i64 x])] [(98,0, .map (some mb),0,mapXs ekV evS M)] W') := hide hB0
  clear hB0 hM hN1 hpx hl hkW htW
  gi_wp2_with fail
  have hself := Keep.refl [] W'
  refine wpI_regionK (P := Tryz.prog) [] [0,1,2,3,4,5,6] [7] 1 #[true,true,true,true,true,true,true,false] (by kernel_rfl) (by kernel_rfl) (by kernel_rfl) rfl (by rfl) ?_
  refine ql_want (v := .map (some mb)) rfl (by rfl) (fun W hW => qUpon_ofX (load_V rfl rfl (by simp [go_sem]) ((unhide hB).cellK 0 0 rfl rfl (by simp) W hW))) ?_
  go_frame
  iterate 1
   refine ql_want (v := ?_) rfl (by rfl) (fun W hW => ?_) ?_
   rotate_left
   ·go_simp
    first | done | rfl
   go_frame
  refine ql_want (v := .map (some mb)) rfl (by rfl) (fun W hW => qUpon_ofX (load_V rfl rfl (by simp [go_sem]) ((unhide hB).cellK 0 0 rfl rfl (by simp) W hW))) ?_
  go_frame
  iterate 1
   refine ql_want (v := ?_) rfl (by rfl) (fun W hW => ?_) ?_
   rotate_left
   ·go_simp
    first | done | rfl
   go_frame
  refine ql_want (v := .agg (setC N1)) rfl (by rfl) (fun W hW => qUpon_ofX ?_) ?_
  ·rw [unhide hN1']
   exact run_lookup1_op (z0 := 0) keV Tryz.underlying98 ((unhide hB).mapK 0 (m := M) (ek := ekV) (ev := evS) rfl (unhide hokM) hW (by simp)) (zeroS _) (unhide hv0') rfl rfl rfl
  go_frame
  refine ql_want (v := .int .i64 x) rfl (by rfl) (fun W hW => qUpon_ofX (load_V rfl rfl (by simp [go_sem]) ((unhide hB).cellK 1 0 rfl rfl (by simp) W hW))) ?_
  go_frame
  refine ql_want (v := .agg (setC (withoutS N1 x))) rfl (by rfl) (fun W hW => ?_) ?_
  ·go_simp
   refine (without_S N1 x W).mono ?_
   rintro _ _ ⟨h1,h2⟩
   exact ⟨_,h1,rfl,h2⟩
  go_frame
  refine wpQL_nil (fun y4 hxq => ?_)
  replace hB : Hid (Sp wf (stT [(b2,98, #[.map (some mb)]),(b3,3, #[.int .i64 x])] [(98,0, .map (some mb),0,mapXs ekV evS M)]) W' [] [(b2,98, #[.map (some mb)]),(b3,3, #[.int .i64 x])] [(98,0, .map (some mb),0,mapXs ekV evS M)] y4) := hide ((unhide hB).ext hxq)
  clear hxq
  clear hself
  refine (unhide hB).mapPutX 0 (m := M) (ek := ekV) (ev := evS) rfl (unhide hokM) (j := 7) (by kernel_rfl) rfl (by rfl) #[true,true,true,true,true,true,true,true] (by rfl) (by rfl) keV Tryz.underlying98 (x := v) (unhide hv0') (withoutS N1 x) rfl rfl rfl rfl 0 ?_
  intro y5 hQ
  replace hB : Hid (Sp wf (stT [(b2,98, #[.map (some mb)]),(b3,3, #[.int .i64 x])] [(98,0, .map (some mb),0,mapXs ekV evS M)]) W' [] [(b2,98, #[.map (some mb)]),(b3,3, #[.int .i64 x])] [(98,0, .map (some mb),0,mapXs ekV evS (putM M v (withoutS N1 x)))] y5) := hide hQ
  clear hQ
  try go_frame
  refine wpX_done (by kernel_rfl) ?_
  try go_frame
  gi_wp2_with fail
  exact ⟨_,_,⟨rfl,by rw [unhide hsn]⟩,unhide hB⟩
 ·rintro D L' Rs' W' hD0 ⟨rfl,rfl⟩ hkW hP0
  have hDD : w.heap.size ≤ D := Nat.le_trans (unhide hsz) hD0
  obtain ⟨ds2,hds2⟩ : ∃ ds2,ds2 = ({ target := .collected D,args := #[] } :: [] : List Deferred) := ⟨_,rfl⟩
  rw [← hds2] at hP0 ⊢
  have hds := hide (And.intro hds2 hDD)
  have hokM := hide (turn_ok (fun v _ => withoutS v x) (toL N) m (unhide hok) (fun x hx => toL_ok hx))
  obtain ⟨M,hM⟩ : ∃ M,M = turnM (fun v _ => withoutS v x) (toL N) m := ⟨_,rfl⟩
  rw [← hM] at hP0 hokM
  have hM' := hide hM
  clear hkW hP hBa hM hD0 hDD hds2
  have hP : Hid (Sp wf [mb] w ds2 [(b2,98, #[.map (some mb)]),(b3,3, #[.int .i64 x])] [(98,0, .map (some mb),0,mapXs ekV evS M)] W') := hide hP0
  clear hP0
  try dsimp only
  repeat ((fail_if_success (with_reducible refine wp_reg (id := 4) ?_)); (first | go_values | go_skip | go_step | go_guarded | go_upon | go_in | go_back | fail))
  with_reducible refine wp_reg (id := 4) ?_
  refine wpO_val rfl (load_V (v := .map (some mb)) rfl rfl (by simp [go_sem]) (((unhide hP).get 0 rfl).cell 0)) ?_
  go_frame
  refine wpO_val rfl (load_V (v := .int .i64 x) rfl rfl (by simp [go_sem]) (((unhide hP).get 1 rfl).cell 0)) ?_
  go_frame
  refine (unhide hP).mapDelO 0 (m := M) (ek := ekV) (ev := evS) rfl (unhide hokM) rfl keV Tryz.underlying98 (x := x) (unhide hx') rfl rfl rfl 0 ?_
  intro y11 hQ
  replace hP : Hid (Sp wf [mb] w ds2 [(b2,98, #[.map (some mb)]),(b3,3, #[.int .i64 x])] [(98,0, .map (some mb),0,mapXs ekV evS (delM M x))] y11) := hide hQ
  clear hQ
  go_frame
  refine wpO_done ?_
  try go_frame
  go_wp2_with fail
  have hmk : Marks w.heap.size ds2 y11 := by
   have h := (unhide hP).marks
   have h2 := (unhide hds).2
   rw [(unhide hds).1] at h ⊢
   exact h.up h2
  refine (unhide hP).leavesM hmk ?_
  intro w' hx hst
  refine ⟨_,results_none rfl _ _ _,⟨_,rfl⟩, ?_,hx⟩
  have h := hst.mapAt 0 rfl (del_ok (unhide hokM) x)
  unfold awayM
  rw [← unhide hN', ← unhide hM']
  exact h
 ·intro D c L' Rs' W' h
  exact h.elim
set_option maxRecDepth 100000 in
set_option maxHeartbeats 16000000 in
theorem together_any (mb : Nat) (m : List (Int × Nat)) (x : Int) (w : World) (hM : MapIs ekV evS i64ok w mb m) (hx : i64ok x) (hT : Tab w) (hb : 0 < mb) :
  Calls Tryz.prog 120 #[.map (some mb), .int .i64 x] w fun e w' => (∃ v,e = .returned v) ∧ MapIs ekV evS i64ok w' mb (togM m x) ∧ Keep [mb] w w' := by
 have hok := hide hM.okk
 have hx' := hide hx
 have hbl := hM.lt
 obtain ⟨wf,hwf⟩ : ∃ wf,wf = cutW w mb := ⟨_,rfl⟩
 have hP0 := Sp.cut hM 98 0
 have hT0 := Tab.cut hT hb (by omega)
 rw [← hwf] at hP0 hT0
 have hT' := hide hT0
 have hP := hide hP0
 obtain ⟨N,hN⟩ : ∃ N,N = nrM m x := ⟨_,rfl⟩
 have hN' := hide hN
 clear hM hx hT hb hbl hP0 hT0 hN hwf
 refine callsIn_wide.1 (callsIn_of_wp_marks (n := 0) Tryz.func120 rfl trivial (wpIn_wide.2 ?_))
 simp only [Tryz.ntmps120,List.size_toArray,List.length_cons,List.length_nil,Nat.reduceAdd,Nat.reduceSub,Array.replicate_succ,Array.replicate_zero,List.push_toArray,List.append_toArray,List.nil_append,List.cons_append]
 try dsimp only
 repeat ((fail_if_success (with_reducible refine wp_reg (id := 0) ?_)); (first | go_values | go_skip | go_step | go_guarded | go_upon | go_in | go_back | fail))
 with_reducible refine wp_reg (id := 0) ?_
 refine (unhide hP).allocO 98 #[.map (some mb)] rfl (run_box (v := .map (some mb)) rfl rfl) ?_
 intro b2 y1 hQ
 replace hP : Hid (Sp wf [mb] w [] [(b2,98, #[.map (some mb)])] [(98,0, .map (some mb),0,mapXs ekV evS m)] y1) := hide hQ
 clear hQ
 refine wpO_done ?_
 try go_frame
 try dsimp only
 repeat ((fail_if_success (with_reducible refine wp_reg (id := 1) ?_)); (first | go_values | go_skip | go_step | go_guarded | go_upon | go_in | go_back | fail))
 with_reducible refine wp_reg (id := 1) ?_
 refine wpO_val rfl (load_V (v := .map (some mb)) rfl rfl (by simp [go_sem]) (((unhide hP).get 0 rfl).cell 0)) ?_
 go_frame
 refine wpO_val rfl (run_move rfl rfl) ?_
 go_frame
 refine (unhide hP).look1O 0 (m := m) (ek := ekV) (ev := evS) rfl (unhide hok) rfl keV Tryz.underlying98 (zeroS _) (unhide hx') rfl rfl rfl ?_
 rw [show (lookM m x).getD 0 = N from (unhide hN').symm]
 simp only [evS]
 go_frame
 refine (unhide hP).allocO 76 (setC 0) rfl (run_alloc_set rfl) ?_
 intro b4 y2 hQ
 replace hP : Hid (Sp wf [mb] w [] [(b2,98, #[.map (some mb)]),(b4,76,setC 0)] [(98,0, .map (some mb),0,mapXs ekV evS m)] y2) := hide hQ
 clear hQ
 refine (unhide hP).setO 1 (setC N) rfl rfl (fun hb => store_SetR (N := N) rfl rfl rfl hb) ?_
 intro y3 hQ
 replace hP : Hid (Sp wf [mb] w [] [(b2,98, #[.map (some mb)]),(b4,76,setC N)] [(98,0, .map (some mb),0,mapXs ekV evS m)] y3) := hide hQ
 clear hQ
 refine wpO_done ?_
 try go_frame
 try dsimp only
 repeat ((fail_if_success (with_reducible refine wp_reg (id := 2) ?_)); (first | go_values | go_skip | go_step | go_guarded | go_upon | go_in | go_back | fail))
 with_reducible refine wp_reg (id := 2) ?_
 refine wpO_val rfl (load_SetR (N := N) rfl rfl ((unhide hP).get 1 rfl).whole) ?_
 try go_frame
 refine wpO_want rfl ?_
 go_simp
 refine (all_ext N _).mono ?_
 rintro _ y4 ⟨ba,rfl,hBa0,hxc⟩
 refine ⟨_,rfl, ?_⟩
 replace hP : Hid (Sp wf [mb] w [] [(b2,98, #[.map (some mb)]),(b4,76,setC N)] [(98,0, .map (some mb),0,mapXs ekV evS m)] y4) := hide ((unhide hP).ext hxc)
 have hBa := hide hBa0
 clear hxc hBa0
 refine wpO_done ?_
 try go_frame
 go_wp2_with fail
 have hfn := hide (show ∀ pre : List Int,turnM (fun v o => withoutS (v ||| N) o) pre m = turnM (fun v o => withoutS (v ||| N) o) pre m from fun _ => rfl)
 have hsz := hide (unhide hP).keep.size
 refine wp_rngM (gf := 112) (lb := #[.pointer (some ⟨ba,0,none⟩)]) (unhide hP) rfl (enters_of Tryz.func112 (by kernel_rfl) rfl) (ex := [0]) ((unhide hP).tab (unhide hT')) (all_iter N ba y4 (unhide hBa) ((unhide hT').ext (unhide hP).extf)) (fun _ => rfl)
  (fun pre L' Rs' => L' = [(b2,98, #[.map (some mb)]),(b4,76,setC N)] ∧ Rs' = [(98,0, .map (some mb),0,mapXs ekV evS (turnM (fun v o => withoutS (v ||| N) o) pre m))])
  (fun _ _ _ => False)
  (fun tm _ x a1 _ => a1 = ⟨(tm.setIfInBounds 11 (.int .i64 x)).setIfInBounds 5 (.int .i64 x),[]⟩)
  (fun _ _ _ _ _ h _ => h) ⟨rfl,rfl⟩ ?_ ?_ ?_ ?_
 ·intro T' v W' K hlt' hsz hK
  have hK' := hide hK
  have hlt2 := hide hlt'
  have hsz2 := hide hsz
  clear hK hlt' hsz
  rw [zip1]
  simp only [List.setIfInBounds_toArray,List.set_cons_succ,List.set_cons_zero]
  try dsimp only
  repeat ((fail_if_success (with_reducible refine wpI_reg (id := 3) (by kernel_rfl) ?_)); (first | go_values | gi_step | gi_guarded | gi_upon | gi_in | gi_back | fail))
  with_reducible refine wpI_reg (id := 3) (by kernel_rfl) ?_
  refine wpO_want rfl ?_
  go_simp
  refine wpO_done ?_
  try go_frame
  exact unhide hK' _ _ rfl (Ext.refl _)
 ·rintro l pre v a1 L' Rs' W' ⟨rfl,rfl⟩ hB0 rfl hpx hl hkW htW
  simp only [List.setIfInBounds_toArray,List.set_cons_succ,List.set_cons_zero]
  have hv0' := hide (toL_ok (hpx.subset (by simp) : v ∈ toL N))
  have hokM := hide (turn_ok (fun v o => withoutS (v ||| N) o) pre m (unhide hok) (fun x hx => toL_ok (hpx.subset (by simp [hx]) : x ∈ toL N)))
  have hsn := hide (turn_snoc (fun v o => withoutS (v ||| N) o) pre m v)
  obtain ⟨M,hM⟩ : ∃ M,M = turnM (fun v o => withoutS (v ||| N) o) pre m := ⟨_,rfl⟩
  rw [← hM] at hB0 hokM hsn
  obtain ⟨N1,hN1⟩ : ∃ N1,N1 = nrM M v := ⟨_,rfl⟩
  rw [← hN1] at hsn
  have hN1' := hide hN1
  have hB : Hid (Sp wf (stT [(b2,98, #[.map (some mb)]),(b4,76,setC N)] [(98,0, .map (some mb),0,mapXs ekV evS M)]) W' [] [(b2,98, #[.map (some mb)]),(b4,76,setC N)] [(98,0, .map (some mb),0,mapXs ekV evS M)] W') := hide hB0
  clear hB0 hM hN1 hpx hl hkW htW
  gi_wp2_with fail
  have hself := Keep.refl [] W'
  refine wpI_regionK (P := Tryz.prog) [] [0,1,2,3,4,5,6,7,8] [9] 1 #[true,true,true,true,true,true,true,true,true,false] (by kernel_rfl) (by kernel_rfl) (by kernel_rfl) rfl (by rfl) ?_
  refine ql_want (v := .map (some mb)) rfl (by rfl) (fun W hW => qUpon_ofX (load_V rfl rfl (by simp [go_sem]) ((unhide hB).cellK 0 0 rfl rfl (by simp) W hW))) ?_
  go_frame
  iterate 1
   refine ql_want (v := ?_) rfl (by rfl) (fun W hW => ?_) ?_
   rotate_left
   ·go_simp
    first | done | rfl
   go_frame
  refine ql_want (v := .map (some mb)) rfl (by rfl) (fun W hW => qUpon_ofX (load_V rfl rfl (by simp [go_sem]) ((unhide hB).cellK 0 0 rfl rfl (by simp) W hW))) ?_
  go_frame
  iterate 1
   refine ql_want (v := ?_) rfl (by rfl) (fun W hW => ?_) ?_
   rotate_left
   ·go_simp
    first | done | rfl
   go_frame
  refine ql_want (v := .agg (setC N1)) rfl (by rfl) (fun W hW => qUpon_ofX ?_) ?_
  ·rw [unhide hN1']
   exact run_lookup1_op (z0 := 0) keV Tryz.underlying98 ((unhide hB).mapK 0 (m := M) (ek := ekV) (ev := evS) rfl (unhide hokM) hW (by simp)) (zeroS _) (unhide hv0') rfl rfl rfl
  go_frame
  refine ql_want (v := .agg (setC N)) rfl (by rfl) (fun W hW => qUpon_ofX (load_SetR rfl rfl ((unhide hB).wholeK 1 rfl hW (by simp)))) ?_
  go_frame
  refine ql_want (v := .agg (setC (N1 ||| N))) rfl (by rfl) (fun W hW => ?_) ?_
  ·go_simp
   refine (union_any N1 N W).mono ?_
   rintro _ _ ⟨h1,h2⟩
   exact ⟨_,h1,rfl,h2⟩
  go_frame
  iterate 1
   refine ql_want (v := ?_) rfl (by rfl) (fun W hW => ?_) ?_
   rotate_left
   ·go_simp
    first | done | rfl
   go_frame
  refine ql_want (v := .agg (setC (withoutS (N1 ||| N) v))) rfl (by rfl) (fun W hW => ?_) ?_
  ·go_simp
   refine (without_S (N1 ||| N) v W).mono ?_
   rintro _ _ ⟨h1,h2⟩
   exact ⟨_,h1,rfl,h2⟩
  go_frame
  refine wpQL_nil (fun y5 hxq => ?_)
  replace hB : Hid (Sp wf (stT [(b2,98, #[.map (some mb)]),(b4,76,setC N)] [(98,0, .map (some mb),0,mapXs ekV evS M)]) W' [] [(b2,98, #[.map (some mb)]),(b4,76,setC N)] [(98,0, .map (some mb),0,mapXs ekV evS M)] y5) := hide ((unhide hB).ext hxq)
  clear hxq
  clear hself
  refine (unhide hB).mapPutX 0 (m := M) (ek := ekV) (ev := evS) rfl (unhide hokM) (j := 9) (by kernel_rfl) rfl (by rfl) #[true,true,true,true,true,true,true,true,true,true] (by rfl) (by rfl) keV Tryz.underlying98 (x := v) (unhide hv0') (withoutS (N1 ||| N) v) rfl rfl rfl rfl 0 ?_
  intro y6 hQ
  replace hB : Hid (Sp wf (stT [(b2,98, #[.map (some mb)]),(b4,76,setC N)] [(98,0, .map (some mb),0,mapXs ekV evS M)]) W' [] [(b2,98, #[.map (some mb)]),(b4,76,setC N)] [(98,0, .map (some mb),0,mapXs ekV evS (putM M v (withoutS (N1 ||| N) v)))] y6) := hide hQ
  clear hQ
  try go_frame
  refine wpX_done (by kernel_rfl) ?_
  try go_frame
  gi_wp2_with fail
  exact ⟨_,_,⟨rfl,by rw [unhide hsn]⟩,unhide hB⟩
 ·rintro D L' Rs' W' hD0 ⟨rfl,rfl⟩ hkW hP0
  have hDD : w.heap.size ≤ D := Nat.le_trans (unhide hsz) hD0
  obtain ⟨ds2,hds2⟩ : ∃ ds2,ds2 = ({ target := .collected D,args := #[] } :: [] : List Deferred) := ⟨_,rfl⟩
  rw [← hds2] at hP0 ⊢
  have hds := hide (And.intro hds2 hDD)
  have hokM := hide (turn_ok (fun v o => withoutS (v ||| N) o) (toL N) m (unhide hok) (fun x hx => toL_ok hx))
  obtain ⟨M,hM⟩ : ∃ M,M = turnM (fun v o => withoutS (v ||| N) o) (toL N) m := ⟨_,rfl⟩
  rw [← hM] at hP0 hokM
  have hM' := hide hM
  clear hkW hP hBa hM hD0 hDD hds2
  have hP : Hid (Sp wf [mb] w ds2 [(b2,98, #[.map (some mb)]),(b4,76,setC N)] [(98,0, .map (some mb),0,mapXs ekV evS M)] W') := hide hP0
  clear hP0
  go_wp2_with fail
  have hmk : Marks w.heap.size ds2 W' := by
   have h := (unhide hP).marks
   have h2 := (unhide hds).2
   rw [(unhide hds).1] at h ⊢
   exact h.up h2
  refine (unhide hP).leavesM hmk ?_
  intro w' hx hst
  refine ⟨_,results_none rfl _ _ _,⟨_,rfl⟩, ?_,hx⟩
  have h := hst.mapAt 0 rfl (unhide hokM)
  unfold togM
  rw [← unhide hN', ← unhide hM']
  exact h
 ·intro D c L' Rs' W' h
  exact h.elim
set_option maxRecDepth 100000 in
set_option maxHeartbeats 16000000 in
theorem fill_any (mb : Nat) (m : List (Int × Nat)) (x : Int) (w : World) (hM : MapIs ekV evS i64ok w mb m) (hx : i64ok x) (hT : Tab w) :
  Calls Tryz.prog 72 #[.map (some mb), .int .i64 x] w fun e w' => e = .returned (.int .i64 (fillM m x)) ∧ Ext w w' := by
 have hok := hide hM.okk
 have hM' := hide hM
 have hx' := hide hx
 have hT' := hide hT
 obtain ⟨N,hN⟩ : ∃ N,N = nrM m x := ⟨_,rfl⟩
 obtain ⟨g,hg⟩ : ∃ g : Int → Nat,g = fun o => cntF (withoutS (minusS N (nrM m o)) o) 1024 := ⟨_,rfl⟩
 have hfi := hide (show fillM m x = ((toL N).map g).sum / 2 by rw [hg,hN]; rfl)
 have hgo := hide (fun o => show g o = cntF (withoutS (minusS N (nrM m o)) o) 1024 by rw [hg])
 have hgb := hide (fun o => show g o ≤ 1024 by rw [hg]; exact cnt_le _)
 have hN' := hide hN
 clear hM hx hT hN hg
 have hP := hide (Sp.new w)
 refine callsIn_wide.1 (callsIn_of_wp_marks (n := 0) Tryz.func72 rfl trivial (wpIn_wide.2 ?_))
 simp only [Tryz.ntmps72,List.size_toArray,List.length_cons,List.length_nil,Nat.reduceAdd,Nat.reduceSub,Array.replicate_succ,Array.replicate_zero,List.push_toArray,List.append_toArray,List.nil_append,List.cons_append]
 try dsimp only
 repeat ((fail_if_success (with_reducible refine wp_reg (id := 0) ?_)); (first | go_values | go_skip | go_step | go_guarded | go_upon | go_in | go_back | fail))
 with_reducible refine wp_reg (id := 0) ?_
 refine (unhide hP).allocO 98 #[.map (some mb)] rfl (run_box (v := .map (some mb)) rfl rfl) ?_
 intro b2 y1 hQ
 replace hP : Hid (Sp w [] w [] [(b2,98, #[.map (some mb)])] [] y1) := hide hQ
 clear hQ
 refine wpO_want rfl ?_
 go_simp
 refine wpO_done ?_
 try go_frame
 try dsimp only
 repeat ((fail_if_success (with_reducible refine wp_reg (id := 1) ?_)); (first | go_values | go_skip | go_step | go_guarded | go_upon | go_in | go_back | fail))
 with_reducible refine wp_reg (id := 1) ?_
 refine wpO_val rfl (load_V (v := .map (some mb)) rfl rfl (by simp [go_sem]) (((unhide hP).get 0 rfl).cell 0)) ?_
 go_frame
 refine wpO_val rfl (run_move rfl rfl) ?_
 go_frame
 refine wpO_val rfl (run_lookup1_op (z0 := 0) keV Tryz.underlying98 ((unhide hM').ext (unhide hP).extf) (zeroS _) (unhide hx') rfl rfl rfl) ?_
 rw [show (lookM m x).getD 0 = N from (unhide hN').symm]
 simp only [evS]
 go_frame
 refine (unhide hP).allocO 76 (setC 0) rfl (run_alloc_set rfl) ?_
 intro b5 y2 hQ
 replace hP : Hid (Sp w [] w [] [(b2,98, #[.map (some mb)]),(b5,76,setC 0)] [] y2) := hide hQ
 clear hQ
 refine (unhide hP).setO 1 (setC N) rfl rfl (fun hb => store_SetR (N := N) rfl rfl rfl hb) ?_
 intro y3 hQ
 replace hP : Hid (Sp w [] w [] [(b2,98, #[.map (some mb)]),(b5,76,setC N)] [] y3) := hide hQ
 clear hQ
 refine wpO_done ?_
 try go_frame
 try dsimp only
 repeat ((fail_if_success (with_reducible refine wp_reg (id := 2) ?_)); (first | go_values | go_skip | go_step | go_guarded | go_upon | go_in | go_back | fail))
 with_reducible refine wp_reg (id := 2) ?_
 refine (unhide hP).allocO 3 #[.int .i64 0] rfl (by go_simp) ?_
 intro b6 y4 hQ
 replace hP : Hid (Sp w [] w [] [(b2,98, #[.map (some mb)]),(b5,76,setC N),(b6,3, #[.int .i64 0])] [] y4) := hide hQ
 clear hQ
 refine (unhide hP).setO 2 #[.int .i64 0] rfl rfl (fun hb => run_store_row (v := .int .i64 0) rfl rfl rfl (by simp [go_sem]) hb rfl (by simp [Value.cells,Value.oneCell'])) ?_
 intro y5 hQ
 replace hP : Hid (Sp w [] w [] [(b2,98, #[.map (some mb)]),(b5,76,setC N),(b6,3, #[.int .i64 0])] [] y5) := hide hQ
 clear hQ
 refine wpO_done ?_
 try go_frame
 try dsimp only
 repeat ((fail_if_success (with_reducible refine wp_reg (id := 3) ?_)); (first | go_values | go_skip | go_step | go_guarded | go_upon | go_in | go_back | fail))
 with_reducible refine wp_reg (id := 3) ?_
 refine wpO_val rfl (load_SetR (N := N) rfl rfl ((unhide hP).get 1 rfl).whole) ?_
 try go_frame
 refine wpO_want rfl ?_
 go_simp
 refine (all_ext N _).mono ?_
 rintro _ y6 ⟨ba,rfl,hBa0,hxc⟩
 refine ⟨_,rfl, ?_⟩
 replace hP : Hid (Sp w [] w [] [(b2,98, #[.map (some mb)]),(b5,76,setC N),(b6,3, #[.int .i64 0])] [] y6) := hide ((unhide hP).ext hxc)
 have hBa := hide hBa0
 clear hxc hBa0
 refine wpO_done ?_
 try go_frame
 go_wp2_with fail
 refine wp_rngS (gf := 112) (lb := #[.pointer (some ⟨ba,0,none⟩)]) (unhide hP) rfl (enters_of Tryz.func112 (by kernel_rfl) rfl) (ex := [0]) ((unhide hP).tab (unhide hT')) (all_iter N ba y6 (unhide hBa) ((unhide hT').ext (unhide hP).extf)) (fun _ => rfl)
  (fun pre L' Rs' => L' = [(b2,98, #[.map (some mb)]),(b5,76,setC N),(b6,3, #[.int .i64 ((pre.map g).sum : Nat)])] ∧ Rs' = [])
  (fun _ _ _ => False)
  (fun tm _ v a1 _ => a1 = ⟨(tm.setIfInBounds 13 (.int .i64 v)).setIfInBounds 7 (.int .i64 v),[]⟩)
  (fun _ _ _ _ _ h _ => h) ⟨rfl,rfl⟩ ?_ ?_ ?_ ?_
 ·intro T' v W' K hlt' hsz hK
  have hK' := hide hK
  have hlt2 := hide hlt'
  have hsz2 := hide hsz
  clear hK hlt' hsz
  rw [zip1]
  simp only [List.setIfInBounds_toArray,List.set_cons_succ,List.set_cons_zero]
  try dsimp only
  repeat ((fail_if_success (with_reducible refine wpI_reg (id := 4) (by kernel_rfl) ?_)); (first | go_values | gi_step | gi_guarded | gi_upon | gi_in | gi_back | fail))
  with_reducible refine wpI_reg (id := 4) (by kernel_rfl) ?_
  refine wpO_want rfl ?_
  go_simp
  refine wpO_done ?_
  try go_frame
  exact unhide hK' _ _ rfl (Ext.refl _)
 ·rintro l pre v a1 L' Rs' W' ⟨rfl,rfl⟩ hB0 rfl hpx hl hkW htW
  simp only [List.setIfInBounds_toArray,List.set_cons_succ,List.set_cons_zero]
  have hv0' := hide (toL_ok (hpx.subset (by simp) : v ∈ toL N))
  have hsn := hide (sum_next g pre v)
  have hzb := hide (show (pre.map g).sum ≤ 1048576 by
   have h1 := sum_le g 1024 (unhide hgb) pre
   have h2 := hpx.length_le
   have h3 := toL_len_le N
   rw [List.length_append] at h2
   omega)
  obtain ⟨z,hz⟩ : ∃ z,z = (pre.map g).sum := ⟨_,rfl⟩
  rw [← hz] at hB0 hsn hzb
  obtain ⟨N1,hN1⟩ : ∃ N1,N1 = nrM m v := ⟨_,rfl⟩
  obtain ⟨c,hc⟩ : ∃ c,c = g v := ⟨_,rfl⟩
  have hcb := hide (show c ≤ 1024 by rw [hc]; exact unhide hgb v)
  have hcc := hide (show c = cntF (withoutS (minusS N N1) v) 1024 by rw [hc,unhide hgo,hN1])
  rw [← hc] at hsn
  have hN1' := hide hN1
  have hB : Hid (Sp w (stT [(b2,98, #[.map (some mb)]),(b5,76,setC N),(b6,3, #[.int .i64 (z : Nat)])] []) W' [] [(b2,98, #[.map (some mb)]),(b5,76,setC N),(b6,3, #[.int .i64 (z : Nat)])] [] W') := hide hB0
  clear hB0 hz hN1 hpx hl hkW htW hc
  gi_wp2_with fail
  have hself := Keep.refl [] W'
  have hw1 : IntKind.i64.wrap ((z : Int) + (c : Int)) = ((z + c : Nat) : Int) := by rw [IntWalk.i64_in _ (by have := unhide hzb; have := unhide hcb; omega)]; omega
  refine wpI_regionK (P := Tryz.prog) [] [0,1,2,3,4,5,6,7,8,9] [10] 1 #[true,true,true,true,true,true,true,true,true,true,false] (by kernel_rfl) (by kernel_rfl) (by kernel_rfl) rfl (by rfl) ?_
  refine ql_want (v := .int .i64 (z : Nat)) rfl (by rfl) (fun W hW => qUpon_ofX (load_V rfl rfl (by simp [go_sem]) ((unhide hB).cellK 2 0 rfl rfl (by simp) W hW))) ?_
  go_frame
  refine ql_want (v := .agg (setC N)) rfl (by rfl) (fun W hW => qUpon_ofX (load_SetR rfl rfl ((unhide hB).wholeK 1 rfl hW (by simp)))) ?_
  go_frame
  refine ql_want (v := .map (some mb)) rfl (by rfl) (fun W hW => qUpon_ofX (load_V rfl rfl (by simp [go_sem]) ((unhide hB).cellK 0 0 rfl rfl (by simp) W hW))) ?_
  go_frame
  iterate 1
   refine ql_want (v := ?_) rfl (by rfl) (fun W hW => ?_) ?_
   rotate_left
   ·go_simp
    first | done | rfl
   go_frame
  refine ql_want (v := .agg (setC N1)) rfl (by rfl) (fun W hW => qUpon_ofX ?_) ?_
  ·rw [unhide hN1']
   exact run_lookup1_op (z0 := 0) keV Tryz.underlying98 ((unhide hM').ext ((unhide hB).extf.trans ((Ext.refl _).of_new hW (by simp)))) (zeroS _) (unhide hv0') rfl rfl rfl
  go_frame
  refine ql_want (v := .agg (setC (minusS N N1))) rfl (by rfl) (fun W hW => ?_) ?_
  ·go_simp
   refine (minus_any N N1 W).mono ?_
   rintro _ _ ⟨h1,h2⟩
   exact ⟨_,h1,rfl,h2⟩
  go_frame
  iterate 1
   refine ql_want (v := ?_) rfl (by rfl) (fun W hW => ?_) ?_
   rotate_left
   ·go_simp
    first | done | rfl
   go_frame
  refine ql_want (v := .agg (setC (withoutS (minusS N N1) v))) rfl (by rfl) (fun W hW => ?_) ?_
  ·go_simp
   refine (without_S (minusS N N1) v W).mono ?_
   rintro _ _ ⟨h1,h2⟩
   exact ⟨_,h1,rfl,h2⟩
  go_frame
  refine ql_want (v := .int .i64 (c : Nat)) rfl (by rfl) (fun W hW => ?_) ?_
  ·go_simp
   refine (slen_any (withoutS (minusS N N1) v) W).mono ?_
   rw [← unhide hcc]
   rintro _ _ ⟨h1,h2⟩
   exact ⟨_,h1,rfl,h2⟩
  go_frame
  iterate 1
   refine ql_want (v := ?_) rfl (by rfl) (fun W hW => ?_) ?_
   rotate_left
   ·go_simp
    first | done | rfl
   go_frame
  refine wpQL_nil (fun y7 hxq => ?_)
  replace hB : Hid (Sp w (stT [(b2,98, #[.map (some mb)]),(b5,76,setC N),(b6,3, #[.int .i64 (z : Nat)])] []) W' [] [(b2,98, #[.map (some mb)]),(b5,76,setC N),(b6,3, #[.int .i64 (z : Nat)])] [] y7) := hide ((unhide hB).ext hxq)
  clear hxq
  clear hself
  refine (unhide hB).setX 2 #[.int .i64 (z + c : Nat)] rfl (j := 10) (by kernel_rfl) rfl (by rfl) #[true,true,true,true,true,true,true,true,true,true,true] (by rfl) rfl (fun hb => run_store_row (v := .int .i64 (z + c : Nat)) rfl (by rfl) (by rfl) (by simp [go_sem]) hb rfl (by simp [Value.cells,Value.oneCell'])) ?_
  intro y8 hQ
  replace hB : Hid (Sp w (stT [(b2,98, #[.map (some mb)]),(b5,76,setC N),(b6,3, #[.int .i64 (z : Nat)])] []) W' [] [(b2,98, #[.map (some mb)]),(b5,76,setC N),(b6,3, #[.int .i64 (z + c : Nat)])] [] y8) := hide hQ
  clear hQ
  try go_frame
  refine wpX_done (by kernel_rfl) ?_
  try go_frame
  clear hw1
  gi_wp2_with fail
  exact ⟨_,_,⟨by rw [unhide hsn],rfl⟩,unhide hB⟩
 ·rintro D L' Rs' W' ⟨rfl,rfl⟩ hkW hP0
  generalize ({ target := .collected D,args := #[] } :: [] : List Deferred) = ds2 at hP0 ⊢
  have hzb := hide (show ((toL N).map g).sum ≤ 1048576 by
   have h1 := sum_le g 1024 (unhide hgb) (toL N)
   have h3 := toL_len_le N
   omega)
  obtain ⟨z,hz⟩ : ∃ z,z = ((toL N).map g).sum := ⟨_,rfl⟩
  rw [← hz] at hP0 hzb
  have hz' := hide hz
  clear hkW hP hBa hz
  have hP : Hid (Sp w [] w ds2 [(b2,98, #[.map (some mb)]),(b5,76,setC N),(b6,3, #[.int .i64 (z : Nat)])] [] W') := hide hP0
  clear hP0
  have hw1 : IntKind.i64.wrap ((z : Int) / 2) = ((z / 2 : Nat) : Int) := by
   rw [show (z : Int) / 2 = ((z / 2 : Nat) : Int) by omega]
   exact IntWalk.i64_in _ (by have := unhide hzb; omega)
  have hne : ¬ (2 : Int) = 0 := by decide
  try dsimp only
  repeat ((fail_if_success (with_reducible refine wp_reg (id := 6) ?_)); (first | go_values | go_skip | go_step | go_guarded | go_upon | go_in | go_back | fail))
  with_reducible refine wp_reg (id := 6) ?_
  refine wpO_val rfl (load_V (v := .int .i64 (z : Nat)) rfl rfl (by simp [go_sem]) (((unhide hP).get 2 rfl).cell 0)) ?_
  go_frame
  iterate 2
   refine wpO_want rfl ?_
   go_simp
  refine wpO_done ?_
  try go_frame
  clear hw1 hne
  go_wp2_with fail
  refine (unhide hP).leaves ?_
  intro w' hx hst
  refine ⟨_,results_tmp (t := 4) rfl _ _ _, ?_,hx⟩
  rw [unhide hfi, ← unhide hz']
  first | rfl | (congr 1; done) | skip
 ·intro D c L' Rs' W' h
  exact h.elim
set_option maxRecDepth 100000 in
set_option maxHeartbeats 16000000 in
theorem clique_adj (mb : Nat) (m : List (Int × Nat)) (x : Int) (w : World) (hM : MapIs ekV evS i64ok w mb m) (hx : i64ok x) (hT : Tab w) (hir : ∀ o : Int,o ∉ toL (nrM m o)) :
  Calls Tryz.prog 64 #[.map (some mb), .int .i64 x] w (OwL w (x :: cliM m 1025 (nrM m x))) := by
 have hok := hide hM.okk
 have hM' := hide hM
 have hx' := hide hx
 have hT' := hide hT
 have hir' := hide hir
 obtain ⟨N,hN⟩ : ∃ N,N = nrM m x := ⟨_,rfl⟩
 obtain ⟨C,hC⟩ : ∃ C,C = x :: cliM m 1025 N := ⟨_,rfl⟩
 rw [← hN, ← hC]
 have hN' := hide hN
 have hC' := hide (show C = [x] ++ cliM m 1025 N by rw [hC]; rfl)
 clear hM hx hT hN hir hC
 have hP := hide (Sp.new w)
 refine callsIn_wide.1 (callsIn_of_wp_marks (n := 0) Tryz.func64 rfl trivial (wpIn_wide.2 ?_))
 simp only [Tryz.ntmps64,List.size_toArray,List.length_cons,List.length_nil,Nat.reduceAdd,Nat.reduceSub,Array.replicate_succ,Array.replicate_zero,List.push_toArray,List.append_toArray,List.nil_append,List.cons_append]
 try dsimp only
 repeat ((fail_if_success (with_reducible refine wp_reg (id := 1) ?_)); (first | go_values | go_skip | go_step | go_guarded | go_upon | go_in | go_back | fail))
 with_reducible refine wp_reg (id := 1) ?_
 refine wpO_want rfl ?_
 go_simp
 refine (unhide hP).build1O 3 #[.int .i64 x] rfl (run_build1 rfl rfl) ?_
 intro bb y1 hQ
 replace hP : Hid (Sp w [] w [] [(bb,3, #[.int .i64 x])] [] y1) := hide hQ
 clear hQ
 go_frame
 replace hP : Hid (Sp w [] w [] [] [(3,1, .slice (some ⟨bb,0,none⟩) 1 1,1,[.int .i64 x])] y1) := hide (Sp.toRow (L := []) (b := bb) (t := 3) (n := 1) (cs := #[.int .i64 x]) (unhide hP) rfl (by decide))
 refine wpO_want rfl ?_
 go_simp
 refine wpO_done ?_
 try go_frame
 try dsimp only
 repeat ((fail_if_success (with_reducible refine wp_reg (id := 2) ?_)); (first | go_values | go_skip | go_step | go_guarded | go_upon | go_in | go_back | fail))
 with_reducible refine wp_reg (id := 2) ?_
 iterate 2
  refine wpO_want rfl ?_
  go_simp
 refine wpO_val rfl (run_lookup1_op (z0 := 0) keV Tryz.underlying98 ((unhide hM').ext (unhide hP).extf) (zeroS _) (unhide hx') rfl rfl rfl) ?_
 rw [show (lookM m x).getD 0 = N from (unhide hN').symm]
 simp only [evS]
 go_frame
 refine (unhide hP).allocO 76 (setC 0) rfl (run_alloc_set rfl) ?_
 intro b6 y2 hQ
 replace hP : Hid (Sp w [] w [] [(b6,76,setC 0)] [(3,1, .slice (some ⟨bb,0,none⟩) 1 1,1,[x].flatMap encI)] y2) := hide hQ
 clear hQ
 refine (unhide hP).setO 0 (setC N) rfl rfl (fun hb => store_SetR (N := N) rfl rfl rfl hb) ?_
 intro y3 hQ
 replace hP : Hid (Sp w [] w [] [(b6,76,setC N)] [(3,1, .slice (some ⟨bb,0,none⟩) 1 1,1,[x].flatMap encI)] y3) := hide hQ
 clear hQ
 refine wpO_done ?_
 try go_frame
 go_wp2_with fail
 obtain ⟨I3_2,hI3_20⟩ : ∃ I : Nat → Act → World → Prop,I = fun fi a' wr => ∃ (S : Nat), ∃ (A5 : Option Addr), ∃ (k : Nat), ∃ (c5 : Nat), ∃ (xs : List Int),a'.tmps.size = 31 ∧ a'.tmps.getD 0 undef = .map (some mb) ∧ a'.tmps.getD 5 undef = .slice A5 k c5 ∧ a'.tmps.getD 6 undef = .pointer (some ⟨b6,0,none⟩) ∧ a'.defers = [] ∧ k = xs.length ∧ C = xs ++ cliM m fi S ∧ (toL S).length < fi ∧ k + fi ≤ 1026 ∧ Sp w [] w [] [(b6,76,setC S)] [(3,1, .slice A5 k c5,k,xs.flatMap encI)] wr := ⟨_,rfl⟩
 have hI3_2 := hide hI3_20
 clear hI3_20
 refine wp_loop_ix I3_2 (1025) ?_ ?_
 ·rw [unhide hI3_2]; exact ⟨N,some ⟨bb,0,none⟩,1,1,[x],rfl,rfl,rfl,rfl,rfl,rfl,unhide hC',by have := toL_len_le N; omega,by omega,unhide hP⟩
 ·rintro fi ⟨tm,dfs⟩ wr hrel
  rw [unhide hI3_2] at hrel
  obtain ⟨S,A5,k,c5,xs,hsz,e0,e5,e6,hdf,hk,hCS,hlf,hkf,hPr⟩ := hrel
  obtain ⟨us,rfl⟩ : ∃ us : Nat → Value,tm = #[us 0,us 1,us 2,us 3,us 4,us 5,us 6,us 7,us 8,us 9,us 10,us 11,us 12,us 13,us 14,us 15,us 16,us 17,us 18,us 19,us 20,us 21,us 22,us 23,us 24,us 25,us 26,us 27,us 28,us 29,us 30] := ⟨fun i => tm.getD i undef,arr_fn hsz⟩
  have h0 : us 0 = .map (some mb) := e0
  have h5 : us 5 = .slice A5 k c5 := e5
  have h6 : us 6 = .pointer (some ⟨b6,0,none⟩) := e6
  have hdf2 : dfs = [] := hdf
  subst hdf2
  clear hdf hsz e0 e5 e6
  simp only [h0,h5,h6]
  clear h0 h5 h6
  clear hP hC'
  have hP := hide hPr
  have hk' := hide hk
  have hCS' := hide hCS
  have hlf' := hide hlf
  have hkf' := hide hkf
  clear hPr hk hCS hlf hkf
  try dsimp only
  repeat ((fail_if_success (with_reducible refine wp_reg (id := 3) ?_)); (first | go_values | go_skip | go_step | go_guarded | go_upon | go_in | go_back | fail))
  with_reducible refine wp_reg (id := 3) ?_
  refine wpO_val rfl (load_SetR (N := S) rfl rfl ((unhide hP).get 0 rfl).whole) ?_
  try go_frame
  refine wpO_want rfl ?_
  go_simp
  have hca := min_any S wr ((unhide hT').ext (unhide hP).extf)
  obtain ⟨y,hy⟩ : ∃ y,y = minV S := ⟨_,rfl⟩
  obtain ⟨q,hq⟩ : ∃ q,q = anyB S := ⟨_,rfl⟩
  rw [← hy, ← hq] at hca
  have hy' := hide hy
  have hq' := hide hq
  clear hy hq
  refine (hca).mono ?_
  rintro _ y4 ⟨rfl,hxc⟩
  clear hca
  refine ⟨_,rfl, ?_⟩
  replace hP : Hid (Sp w [] w [] [(b6,76,setC S)] [(3,1, .slice A5 k c5,k,xs.flatMap encI)] y4) := hide ((unhide hP).ext hxc)
  clear hxc
  generalize htu0 : Value.tuple _ = tu
  have htu := hide htu0
  clear htu0
  refine wpO_val rfl (run_move rfl rfl) ?_
  go_frame
  refine wpO_val rfl (run_extract (i := 0) (v := .int .i64 y) rfl (unhide htu).symm rfl) ?_
  go_frame
  refine wpO_val rfl (run_extract (i := 1) (v := .bool q) rfl (unhide htu).symm rfl) ?_
  go_frame
  iterate 2
   refine wpO_want rfl ?_
   go_simp
  refine wpO_done ?_
  try go_frame
  clear htu
  try dsimp only
  repeat ((fail_if_success (with_reducible refine wp_reg (id := 4) ?_)); (first | go_values | go_skip | go_step | go_guarded | go_upon | go_in | go_back | fail))
  with_reducible refine wp_reg (id := 4) ?_
  iterate 2
   refine wpO_want rfl ?_
   go_simp
  refine wpO_done ?_
  try go_frame
  cases q with
  | false =>
   have hnil := hide (show C = xs by rw [unhide hCS',cliM_nil (anyB_nil (unhide hq')),List.append_nil])
   try dsimp only
   repeat ((fail_if_success (with_reducible refine wp_reg (id := 5) ?_)); (first | go_values | go_skip | go_step | go_guarded | go_upon | go_in | go_back | fail))
   with_reducible refine wp_reg (id := 5) ?_
   iterate 2
    refine wpO_want rfl ?_
    go_simp
   refine wpO_done ?_
   try go_frame
   go_wp2_with fail
   refine Sp.leaves0 ?_
   exact ⟨_,results_tmp (t := 4) rfl _ _ _,OwL.mk (by rw [unhide hnil]; exact unhide hk') (by rw [unhide hnil]; exact (unhide hP).row 0 rfl) (unhide hP).extf⟩
  | true =>
   obtain ⟨r,hr⟩ := anyB_cons (unhide hq').symm
   rw [← unhide hy'] at hr
   have hyok := hide (toL_ok (show y ∈ toL S by rw [hr]; simp))
   obtain ⟨f',hf'⟩ : ∃ f',fi = f' + 1 := ⟨fi - 1,by have := unhide hlf'; omega⟩
   obtain ⟨M,hM⟩ : ∃ M,M = nrM m y := ⟨_,rfl⟩
   have hMy := hide hM
   have hstep := hide (show C = (xs ++ [y]) ++ cliM m f' (S &&& M) by rw [unhide hCS',hf',cliM_cons hr,hM,List.append_assoc]; rfl)
   have hlf2 := hide (show (toL (S &&& M)).length < f' by have h1 := and_lt hr (M := M) (by rw [hM]; exact unhide hir' y); have := unhide hlf'; omega)
   have hf2 := hide hf'
   have hkb := hide (show k ≤ 2000 by have := unhide hkf'; omega)
   clear hr hf' hM
   try dsimp only
   repeat ((fail_if_success (with_reducible refine wp_reg (id := 6) ?_)); (first | go_values | go_skip | go_step | go_guarded | go_upon | go_in | go_back | fail))
   with_reducible refine wp_reg (id := 6) ?_
   iterate 2
    refine wpO_want rfl ?_
    go_simp
   refine (unhide hP).build1O 3 #[.int .i64 y] rfl (run_build1 rfl rfl) ?_
   intro bb y5 hQ
   replace hP : Hid (Sp w [] w [] [(b6,76,setC S),(bb,3, #[.int .i64 y])] [(3,1, .slice A5 k c5,k,xs.flatMap encI)] y5) := hide hQ
   clear hQ
   go_frame
   refine (unhide hP).ap1O (enc := encI) (T := 3) (ST := 30) 0 (v := .slice A5 k c5) (m := k) (xs := xs) rfl rfl infoI Tryz.underlying30 one_encI (fun _ => rfl) (by decide) (by decide) rfl y rfl rfl ((unhide hP).get 1 rfl) (by have := unhide hkb; omega) ?_
   intro A7 cA7 y6 hQ
   replace hP : Hid (Sp w [] w [] [(b6,76,setC S),(bb,3, #[.int .i64 y])] [(3,1, .slice A7 (k + 1) cA7,k + 1,(xs ++ [y]).flatMap encI)] y6) := hide hQ
   clear hQ
   try go_frame
   refine wpO_want rfl ?_
   go_simp
   refine wpO_done ?_
   try go_frame
   replace hP : Hid (Sp w [] w [] [(b6,76,setC S)] [(3,1, .slice A7 (k + 1) cA7,k + 1,(xs ++ [y]).flatMap encI)] y6) := hide ((unhide hP).sub (List.sublist_append_left _ ([(bb,3, #[.int .i64 y])] : List Cl)) (List.Sublist.refl _))
   try dsimp only
   repeat ((fail_if_success (with_reducible refine wp_reg (id := 7) ?_)); (first | go_values | go_skip | go_step | go_guarded | go_upon | go_in | go_back | fail))
   with_reducible refine wp_reg (id := 7) ?_
   refine wpO_val rfl (load_SetR (N := S) rfl rfl ((unhide hP).get 0 rfl).whole) ?_
   try go_frame
   iterate 2
    refine wpO_want rfl ?_
    go_simp
   refine wpO_val rfl (run_lookup1_op (z0 := 0) keV Tryz.underlying98 ((unhide hM').ext (unhide hP).extf) (zeroS _) (unhide hyok) rfl rfl rfl) ?_
   rw [show (lookM m y).getD 0 = M from (unhide hMy).symm]
   simp only [evS]
   go_frame
   refine wpO_want rfl ?_
   go_simp
   refine (inter_any S M _).mono ?_
   rintro _ y7 ⟨rfl,hxc⟩
   refine ⟨_,rfl, ?_⟩
   replace hP : Hid (Sp w [] w [] [(b6,76,setC S)] [(3,1, .slice A7 (k + 1) cA7,k + 1,(xs ++ [y]).flatMap encI)] y7) := hide ((unhide hP).ext hxc)
   clear hxc
   refine (unhide hP).setO 0 (setC (S &&& M)) rfl rfl (fun hb => store_SetR (N := S &&& M) rfl rfl rfl hb) ?_
   intro y8 hQ
   replace hP : Hid (Sp w [] w [] [(b6,76,setC (S &&& M))] [(3,1, .slice A7 (k + 1) cA7,k + 1,(xs ++ [y]).flatMap encI)] y8) := hide hQ
   clear hQ
   refine wpO_done ?_
   try go_frame
   go_wp2_with fail
   refine ⟨f', ?_,by have := unhide hf2; omega⟩
   rw [unhide hI3_2]
   exact ⟨S &&& M,A7,k + 1,cA7,xs ++ [y],(by first | rfl | trivial),(by first | rfl | trivial),(by first | rfl | trivial),(by first | rfl | trivial),(by first | rfl | trivial),by rw [List.length_append, ← unhide hk']; rfl,unhide hstep,unhide hlf2,by have := unhide hkf'; have := unhide hf2; omega,unhide hP⟩
end Go.Proofs.YtoacpebmhbkmbaaGreatDoor
