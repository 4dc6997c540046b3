/- Parts of a proof, laid together. Each part says its own conditions. -/
import Derived.Test.YtmokciekndllpaaGreatDoorC29
import Derived.Test.YtmokciekndllpaaGreatDoorC30
import Derived.Test.YtmokciekndllpaaGreatDoorC20
namespace Go.Proofs.YtmokciekndllpaaGreatDoor
open Go Go.RowKit Go.Shelf
attribute [local go_sem] qUpon lUpon
attribute [local irreducible] wpO wpX wpQL
theorem perm_mid {α : Type} (a b c : List α) : ((a ++ c) ++ b).Perm ((a ++ b) ++ c) := by
 rw [List.append_assoc,List.append_assoc]
 exact List.Perm.append_left a List.perm_append_comm
theorem Sp.frameR {wf w W W' : World} {T0 : List Nat} {ds : List Deferred} {L L' L2 : List Cl} {Rs Rs' R2 : List Rw} (h : Sp wf T0 w ds (L2 ++ L) (R2 ++ Rs) W) (hs : St wf.heap.size L' Rs' W') (hk : Keep (stT L Rs) W W') (ht : tIn (stT L Rs) W.heap.size (stT L' Rs')) : Sp wf T0 w ds (L2 ++ L') (R2 ++ Rs') W' :=
 ((h.perm List.perm_append_comm List.perm_append_comm).frame hs hk ht).perm List.perm_append_comm List.perm_append_comm
theorem Marks.upAll {B B' : Nat} {ds : List Deferred} {W : World} (h : Marks B ds W) (hB : ∀ d ∈ ds, ∀ D,d.target = .collected D → B' ≤ D) : Marks B' ds W := by
 induction h with
 | nil => exact .nil _
 | @cons D ds w hb hD hne h ih => exact .cons (hB { target := .collected D,args := #[] } (by simp) D rfl) hD hne (ih fun d hd => hB d (by simp [hd]))
structure TellS (wf : World) (f : Nat) (lb : Array Value) (JP : List (Int × Nat) → List Cl → List Rw → Prop) (ok : Int → Prop) : Prop where
 enters : ∀ args w,(callFunc f args).run Tryz.prog w = .ok (.enter f args) w
 step : ∀ told (p : Int × Nat) L R W,JP told L R → ok p.1 → told.length ≤ 1024 → Ext wf W → St wf.heap.size L R W → Calls Tryz.prog f (#[.int .i64 p.1, .agg (setC p.2)] ++ lb) W fun e W' => e = .returned (.tuple #[]) ∧ ∃ L' R',JP (told ++ [p]) L' R' ∧ St wf.heap.size L' R' W' ∧ Keep (stT L R) W W' ∧ tIn (stT L R) W.heap.size (stT L' R')
def SrPost (wf : World) (JP : List (Int × Nat) → List Cl → List Rw → Prop) (told : List (Int × Nat)) (T : List Nat) (w : World) (e : Ending) (w' : World) : Prop := e = .returned (.tuple #[]) ∧ ∃ L R,JP told L R ∧ St wf.heap.size L R w' ∧ Keep T w w' ∧ tIn T w.heap.size (stT L R)
def upC (r : Nat) (C : List (Int × Nat)) : List (Int × Nat) := turnM (fun v _ => v + 1) (toL r) C
theorem nC_up (r : Nat) (C : List (Int × Nat)) : nC (upC r C) = fun y => if decide (y ∈ toL r) = true then nC C y + 1 else nC C y := by
 funext y
 have h := turn_nr (fun v _ => v + 1) (toL r) C (toL_nodup r) y
 show nrM (upC r C) y = _
 unfold upC
 rw [h]
 simp only [decide_eq_true_eq]
 rfl
section
variable {V : List (Int × Thing)} {E : List ((Int × Int) × Thing)}
def SrI (E : List ((Int × Int) × Thing)) (MR told : List (Int × Nat)) (N : Nat) (C : List (Int × Nat)) : Prop := ∃ f l,(toL N).length < f ∧ l = runS E f N (nC C) ∧ told ++ l = MR
theorem SrI.start (V : List (Int × Thing)) (E : List ((Int × Int) × Thing)) : SrI E (msRun V E) [] (vS V) [] := by
 have hl : (toL (vS V)).length < 1100 := by have := toL_len (vS V); omega
 refine ⟨1100,_,hl,rfl, ?_⟩
 unfold msRun
 exact List.nil_append _
theorem SrI.next {MR told : List (Int × Nat)} {N : Nat} {C : List (Int × Nat)} (h : SrI E MR told N C) (hany : anyB N = true) {z : Int} {r : Nat} (hz : z = hvS (nC C) (toL N) (minV N)) (hr : r = reaS E (withoutS N z) (nC C) z) : SrI E MR (told ++ [(z,r)]) (withoutS N z) (upC r C) ∧ (toL (withoutS N z)).length < (toL N).length ∧ z ∈ toL N := by
 obtain ⟨f,l,h1,h2,h3⟩ := h
 have hzN : z ∈ toL N := by rw [hz]; exact hv_mem _ hany
 have hlt := out_lt hzN
 rw [← show toL (withoutS N z) = outR (toL N) z from toL_without N z] at hlt
 cases f with
 | zero => omega
 | succ f =>
  rw [runS,if_pos hany, ← hz, ← hr, ← nC_up] at h2
  subst h2
  exact ⟨⟨f,_,by omega,rfl,by rw [List.append_assoc]; exact h3⟩,hlt,hzN⟩
theorem SrI.done {MR told : List (Int × Nat)} {N : Nat} {C : List (Int × Nat)} (h : SrI E MR told N C) (hany : ¬ anyB N = true) : told = MR := by
 obtain ⟨f,l,h1,h2,h3⟩ := h
 cases f with
 | zero => omega
 | succ f =>
  rw [runS,if_neg hany] at h2
  subst h2
  rw [← h3,List.append_nil]
theorem hvS_snoc (c : Int → Nat) (l : List Int) (x b : Int) : hvS c (l ++ [x]) b = if c (hvS c l b) < c x then x else hvS c l b := by
 unfold hvS
 rw [List.foldl_append]
 rfl
theorem up_ok {C : List (Int × Nat)} (r : Nat) (h : ∀ p ∈ C,i64ok p.1) : ∀ p ∈ upC r C,i64ok p.1 := turn_ok _ _ _ h fun _ hx => toL_ok hx
theorem up_le {C : List (Int × Nat)} {r k : Nat} (h : ∀ x,nC C x ≤ k) : ∀ x,nC (upC r C) x ≤ k + 1 := fun x => by
 rw [nC_up]
 show (if decide (x ∈ toL r) = true then nC C x + 1 else nC C x) ≤ k + 1
 have := h x
 split <;> omega
theorem eqS_anyZ (N : Nat) : eqS N 0 = !anyB N := by
 have h1 : eqS N 0 = true ↔ toL N = [] := by
  rw [eqS_iff]
  constructor
  ·intro h; exact toL_nil fun k hk => by rw [h k hk,Nat.zero_testBit]
  ·intro h k hk
   have h2 : (k : Int) ∉ toL N := by rw [h]; simp
   rw [Nat.zero_testBit]
   cases hb : N.testBit k
   ·rfl
   ·exact absurd (mem_toL'.2 ⟨by omega,by omega,by rw [Int.toNat_natCast]; exact hb⟩) h2
 have h2 := anyB_iff (N := N)
 generalize toL N = l at *
 cases h3 : eqS N 0 <;> cases h4 : anyB N <;> simp_all
theorem m0_okZ (E : List ((Int × Int) × Thing)) (l : List Int) (h : ∀ x ∈ l,i64ok x) : ∀ p ∈ m0 E l,i64ok p.1 := by
 have key : ∀ (l : List Int) (m : List (Int × Nat)),(∀ p ∈ m,i64ok p.1) → (∀ x ∈ l,i64ok x) → ∀ p ∈ l.foldl (fun M id => putM M id (nearS id E)) m,i64ok p.1 := by
  intro l
  induction l with
  | nil => intro m h _; exact h
  | cons o l ih => intro m h hl; exact ih _ (putM_ok h (hl o (by simp))) (fun x hx => hl x (by simp [hx]))
 exact key l [] (by simp) h
end
set_option maxRecDepth 100000 in
set_option maxHeartbeats 16000000 in
theorem search_any (wf : World) (f : Nat) (lb : Array Value) (JP : List (Int × Nat) → List Cl → List Rw → Prop) (ok : Int → Prop) (og : Option Addr) (V : List (Int × Thing)) (E : List ((Int × Int) × Thing)) (LJ : List Cl) (RJ : List Rw) (w : World) (ht : TellS wf f lb JP ok) (hok : ∀ x ∈ toL (vS V),ok x) (hi : GInv V E) (hx : Ext wf w) (hg : GL wf og V E) (hT : Tab wf) (hj : JP [] LJ RJ) (hst : St wf.heap.size LJ RJ w) :
  Calls Tryz.prog 76 #[.pointer og, .func (.func f) #[] lb] w (SrPost wf JP (msRun V E) (stT LJ RJ) w) := by
 have ht' := hide ht
 have hok' := hide hok
 have hi' := hide hi
 have hg' := hide hg
 have hT' := hide hT
 have hj' := hide hj
 have hen := ht.enters
 obtain ⟨T0,hT0⟩ : ∃ T,T = stT LJ RJ := ⟨_,rfl⟩
 have hP0 := Sp.ofS hst hx
 rw [← hT0] at hP0 ⊢
 have hP : Hid (Sp wf T0 w [] ([] ++ LJ) ([] ++ RJ) w) := hide hP0
 obtain ⟨MR,hMR0⟩ : ∃ l,l = msRun V E := ⟨_,rfl⟩
 have hS0 := SrI.start V E
 rw [← hMR0] at hS0 ⊢
 have hS0' := hide hS0
 have hmr := hide (show MR.length ≤ 1024 by
  have h1 := (run_ids (E := E) 1100 (vS V) (fun _ => 0) (by have := toL_len (vS V); omega)).length_eq
  rw [List.length_map] at h1
  rw [hMR0]
  unfold msRun
  rw [h1]
  exact toL_len _)
 clear ht hok hi hx hg hT hj hst hT0 hP0 hMR0 hS0
 refine callsIn_wide.1 (callsIn_of_wp_marks (n := 0) Tryz.func76 rfl trivial (wpIn_wide.2 ?_))
 simp only [Tryz.ntmps76,List.size_toArray,List.length_cons,List.length_nil,Nat.reduceAdd,Nat.reduceSub,Array.replicate_succ,Array.replicate_zero,List.push_toArray,List.append_toArray,List.nil_append,List.cons_append]
 try dsimp only
 repeat ((fail_if_success (with_reducible refine wp_reg (id := 0) ?_)); (first | go_values | go_skip | go_step | go_guarded | go_upon | go_in | go_back | fail))
 with_reducible refine wp_reg (id := 0) ?_
 refine (unhide hP).allocO 26 #[.pointer og] rfl (run_box (v := .pointer og) rfl rfl) ?_
 intro bg y1 hQ
 replace hP : Hid (Sp wf T0 w [] ([(bg,26, #[.pointer og])] ++ LJ) ([] ++ RJ) y1) := hide (hQ.perm (perm_mid ([] : List Cl) LJ ([(bg,26, #[.pointer og])] : List Cl)) (List.Perm.refl _))
 clear hQ
 refine wpO_done ?_
 try go_frame
 try dsimp only
 repeat ((fail_if_success (with_reducible refine wp_reg (id := 1) ?_)); (first | go_values | go_skip | go_step | go_guarded | go_upon | go_in | go_back | fail))
 with_reducible refine wp_reg (id := 1) ?_
 refine (unhide hP).mapNewO 177 0 rfl (run_makeMapO rfl) ?_
 intro mb y2 hQ
 replace hP : Hid (Sp wf T0 w [] ([(bg,26, #[.pointer og])] ++ LJ) ([(177,0, .map (some mb),0,[])] ++ RJ) y2) := hide (hQ.perm (List.Perm.refl _) (perm_mid ([] : List Rw) RJ ([(177,0, .map (some mb),0,[])] : List Rw)))
 clear hQ
 go_frame
 refine (unhide hP).mapNewO 178 0 rfl (run_makeMapO rfl) ?_
 intro cb y3 hQ
 replace hP : Hid (Sp wf T0 w [] ([(bg,26, #[.pointer og])] ++ LJ) ([(177,0, .map (some mb),0,[]),(178,0, .map (some cb),0,[])] ++ RJ) y3) := hide (hQ.perm (List.Perm.refl _) (perm_mid ([(177,0, .map (some mb),0,[])] : List Rw) RJ ([(178,0, .map (some cb),0,[])] : List Rw)))
 clear hQ
 go_frame
 refine (unhide hP).allocO 177 #[.map none] rfl (by go_simp) ?_
 intro bn y4 hQ
 replace hP : Hid (Sp wf T0 w [] ([(bg,26, #[.pointer og]),(bn,177, #[.map none])] ++ LJ) ([(177,0, .map (some mb),0,[]),(178,0, .map (some cb),0,[])] ++ RJ) y4) := hide (hQ.perm (perm_mid ([(bg,26, #[.pointer og])] : List Cl) LJ ([(bn,177, #[.map none])] : List Cl)) (List.Perm.refl _))
 clear hQ
 refine (unhide hP).allocO 178 #[.map none] rfl (by go_simp) ?_
 intro bc y5 hQ
 replace hP : Hid (Sp wf T0 w [] ([(bg,26, #[.pointer og]),(bn,177, #[.map none]),(bc,178, #[.map none])] ++ LJ) ([(177,0, .map (some mb),0,[]),(178,0, .map (some cb),0,[])] ++ RJ) y5) := hide (hQ.perm (perm_mid ([(bg,26, #[.pointer og]),(bn,177, #[.map none])] : List Cl) LJ ([(bc,178, #[.map none])] : List Cl)) (List.Perm.refl _))
 clear hQ
 refine (unhide hP).setO 1 #[.map (some mb)] rfl rfl (fun hb => run_store_row (v := .map (some mb)) rfl rfl rfl (by simp [go_sem]) hb rfl (by simp [Value.cells,Value.oneCell'])) ?_
 intro y6 hQ
 replace hP : Hid (Sp wf T0 w [] ([(bg,26, #[.pointer og]),(bn,177, #[.map (some mb)]),(bc,178, #[.map none])] ++ LJ) ([(177,0, .map (some mb),0,[]),(178,0, .map (some cb),0,[])] ++ RJ) y6) := hide hQ
 clear hQ
 refine (unhide hP).setO 2 #[.map (some cb)] rfl rfl (fun hb => run_store_row (v := .map (some cb)) rfl rfl rfl (by simp [go_sem]) hb rfl (by simp [Value.cells,Value.oneCell'])) ?_
 intro y7 hQ
 replace hP : Hid (Sp wf T0 w [] ([(bg,26, #[.pointer og]),(bn,177, #[.map (some mb)]),(bc,178, #[.map (some cb)])] ++ LJ) ([(177,0, .map (some mb),0,[]),(178,0, .map (some cb),0,[])] ++ RJ) y7) := hide hQ
 clear hQ
 refine wpO_done ?_
 try go_frame
 try dsimp only
 repeat ((fail_if_success (with_reducible refine wp_reg (id := 2) ?_)); (first | go_values | go_skip | go_step | go_guarded | go_upon | go_in | go_back | fail))
 with_reducible refine wp_reg (id := 2) ?_
 refine wpO_val rfl (load_V (v := .pointer og) rfl rfl (by simp [go_sem]) (((unhide hP).get 0 rfl).cell 0)) ?_
 go_frame
 refine wpO_want rfl ?_
 go_simp
 refine (vsetG og V E _ ((unhide hg').ext (unhide hP).extf)).mono ?_
 rintro _ y8 ⟨rfl,hxc⟩
 refine ⟨_,rfl, ?_⟩
 replace hP : Hid (Sp wf T0 w [] ([(bg,26, #[.pointer og]),(bn,177, #[.map (some mb)]),(bc,178, #[.map (some cb)])] ++ LJ) ([(177,0, .map (some mb),0,[]),(178,0, .map (some cb),0,[])] ++ RJ) y8) := hide ((unhide hP).ext hxc)
 clear hxc
 refine (unhide hP).allocO 25 (setC 0) rfl (run_alloc_set rfl) ?_
 intro bt y9 hQ
 replace hP : Hid (Sp wf T0 w [] ([(bg,26, #[.pointer og]),(bn,177, #[.map (some mb)]),(bc,178, #[.map (some cb)]),(bt,25,setC 0)] ++ LJ) ([(177,0, .map (some mb),0,[]),(178,0, .map (some cb),0,[])] ++ RJ) y9) := hide (hQ.perm (perm_mid ([(bg,26, #[.pointer og]),(bn,177, #[.map (some mb)]),(bc,178, #[.map (some cb)])] : List Cl) LJ ([(bt,25,setC 0)] : List Cl)) (List.Perm.refl _))
 clear hQ
 refine (unhide hP).setO 3 (setC (vS V)) rfl rfl (fun hb => store_SetR (N := vS V) rfl rfl rfl hb) ?_
 intro y10 hQ
 replace hP : Hid (Sp wf T0 w [] ([(bg,26, #[.pointer og]),(bn,177, #[.map (some mb)]),(bc,178, #[.map (some cb)]),(bt,25,setC (vS V))] ++ LJ) ([(177,0, .map (some mb),0,[]),(178,0, .map (some cb),0,[])] ++ RJ) y10) := hide hQ
 clear hQ
 refine wpO_done ?_
 try go_frame
 try dsimp only
 repeat ((fail_if_success (with_reducible refine wp_reg (id := 3) ?_)); (first | go_values | go_skip | go_step | go_guarded | go_upon | go_in | go_back | fail))
 with_reducible refine wp_reg (id := 3) ?_
 refine wpO_val rfl (load_SetR (N := (vS V)) rfl rfl ((unhide hP).get 3 rfl).whole) ?_
 refine wpO_want rfl ?_
 go_simp
 refine (all_ext (vS V) _).mono ?_
 rintro _ y11 ⟨bi,rfl,hBa0,hxc⟩
 refine ⟨_,rfl, ?_⟩
 replace hP : Hid (Sp wf T0 w [] ([(bg,26, #[.pointer og]),(bn,177, #[.map (some mb)]),(bc,178, #[.map (some cb)]),(bt,25,setC (vS V))] ++ LJ) ([(177,0, .map (some mb),0,[]),(178,0, .map (some cb),0,[])] ++ RJ) y11) := hide ((unhide hP).ext hxc)
 have hBa := hide hBa0
 clear hxc hBa0
 refine wpO_done ?_
 try go_frame
 go_wp2_with fail
 have hsz9 := hide (unhide hP).keep.size
 refine wp_rngM (gf := 109) (lb := #[.pointer (some ⟨bi,0,none⟩)]) (unhide hP) rfl (enters_of Tryz.func109 (by kernel_rfl) rfl) (ex := [0]) ((unhide hP).tab (unhide hT')) (all_iter (vS V) bi y11 (unhide hBa) ((unhide hT').ext (unhide hP).extf)) (fun _ => rfl)
  (fun pre L' Rs' => L' = ([(bg,26, #[.pointer og]),(bn,177, #[.map (some mb)]),(bc,178, #[.map (some cb)]),(bt,25,setC (vS V))] ++ LJ) ∧ Rs' = ([(177,0, .map (some mb),0,mapXs ekV evS (m0 E pre)),(178,0, .map (some cb),0,[])] ++ RJ))
  (fun _ _ _ => False)
  (fun tm _ v a1 _ => a1 = ⟨(tm.setIfInBounds 19 (.int .i64 v)).setIfInBounds 7 (.int .i64 v),[]⟩)
  (fun _ _ _ _ _ h _ => h) ⟨rfl,rfl⟩ ?_ ?_ ?_ ?_
 ·intro T' v W' K hlt' hsz hK
  have hK' := hide hK
  have hlt2 := hide hlt'
  have hsz2 := hide hsz
  clear hK hlt' hsz
  rw [zip1]
  simp only [List.setIfInBounds_toArray,List.set_cons_succ,List.set_cons_zero]
  try dsimp only
  repeat ((fail_if_success (with_reducible refine wpI_reg (id := 4) (by kernel_rfl) ?_)); (first | go_values | gi_step | gi_guarded | gi_upon | gi_in | gi_back | fail))
  with_reducible refine wpI_reg (id := 4) (by kernel_rfl) ?_
  refine wpO_want rfl ?_
  go_simp
  refine wpO_done ?_
  try go_frame
  exact unhide hK' _ _ rfl (Ext.refl _)
 ·rintro l pre v a1 L' Rs' W' ⟨rfl,rfl⟩ hB0 rfl hpx hl hkW htW
  simp only [List.setIfInBounds_toArray,List.set_cons_succ,List.set_cons_zero]
  have hv0' := hide (toL_ok (hpx.subset (by simp) : v ∈ toL (vS V)))
  have hokN := hide (show ∀ p ∈ m0 E pre,i64ok p.1 from m0_okZ E pre (fun x hx => toL_ok (hpx.subset (by simp [hx]) : x ∈ toL (vS V))))
  obtain ⟨M,hM⟩ : ∃ M,M = m0 E pre := ⟨_,rfl⟩
  rw [← hM] at hB0 hokN
  have hM' := hide hM
  have hB : Hid (Sp wf (stT ([(bg,26, #[.pointer og]),(bn,177, #[.map (some mb)]),(bc,178, #[.map (some cb)]),(bt,25,setC (vS V))] ++ LJ) ([(177,0, .map (some mb),0,mapXs ekV evS M),(178,0, .map (some cb),0,[])] ++ RJ)) W' [] ([(bg,26, #[.pointer og]),(bn,177, #[.map (some mb)]),(bc,178, #[.map (some cb)]),(bt,25,setC (vS V))] ++ LJ) ([(177,0, .map (some mb),0,mapXs ekV evS M),(178,0, .map (some cb),0,[])] ++ RJ) W') := hide hB0
  clear hB0 hM hpx hl hkW htW
  gi_wp2_with fail
  have hself := Keep.refl [] W'
  refine wpI_regionK (P := Tryz.prog) [] [0,1,2,3,4] [5] 1 #[true,true,true,true,true,false] (by kernel_rfl) (by kernel_rfl) (by kernel_rfl) rfl (by rfl) ?_
  refine ql_want (v := .map (some mb)) rfl (by rfl) (fun W hW => qUpon_ofX (load_V rfl rfl (by simp [go_sem]) ((unhide hB).cellK 1 0 rfl rfl (by simp) W hW))) ?_
  go_frame
  iterate 1
   refine ql_want (v := ?_) rfl (by rfl) (fun W hW => ?_) ?_
   rotate_left
   ·go_simp
    first | done | rfl
   go_frame
  refine ql_want (v := .pointer og) rfl (by rfl) (fun W hW => qUpon_ofX (load_V rfl rfl (by simp [go_sem]) ((unhide hB).cellK 0 0 rfl rfl (by simp) W hW))) ?_
  go_frame
  iterate 1
   refine ql_want (v := ?_) rfl (by rfl) (fun W hW => ?_) ?_
   rotate_left
   ·go_simp
    first | done | rfl
   go_frame
  refine ql_want (v := .agg (setC (nearS v E))) rfl (by rfl) (fun W hW => ?_) ?_
  ·go_simp
   refine (nearG og V E v W ((unhide hg').ext ((unhide hB).extf.trans ((Ext.refl _).of_new hW (by simp))))).mono ?_
   rintro _ _ ⟨h1,h2⟩
   exact ⟨_,h1,rfl,h2⟩
  go_frame
  refine wpQL_nil (fun y12 hxq => ?_)
  replace hB : Hid (Sp wf (stT ([(bg,26, #[.pointer og]),(bn,177, #[.map (some mb)]),(bc,178, #[.map (some cb)]),(bt,25,setC (vS V))] ++ LJ) ([(177,0, .map (some mb),0,mapXs ekV evS M),(178,0, .map (some cb),0,[])] ++ RJ)) W' [] ([(bg,26, #[.pointer og]),(bn,177, #[.map (some mb)]),(bc,178, #[.map (some cb)]),(bt,25,setC (vS V))] ++ LJ) ([(177,0, .map (some mb),0,mapXs ekV evS M),(178,0, .map (some cb),0,[])] ++ RJ) y12) := hide ((unhide hB).ext hxq)
  clear hxq
  clear hself
  refine (unhide hB).mapPutX 0 (m := M) (ek := ekV) (ev := evS) rfl (unhide hokN) (j := 5) (by kernel_rfl) rfl (by rfl) #[true,true,true,true,true,true] (by rfl) (by rfl) keV Tryz.underlying177 (x := v) (unhide hv0') (nearS v E) rfl rfl rfl rfl 0 ?_
  intro y13 hQ
  replace hB : Hid (Sp wf (stT ([(bg,26, #[.pointer og]),(bn,177, #[.map (some mb)]),(bc,178, #[.map (some cb)]),(bt,25,setC (vS V))] ++ LJ) ([(177,0, .map (some mb),0,mapXs ekV evS M),(178,0, .map (some cb),0,[])] ++ RJ)) W' [] ([(bg,26, #[.pointer og]),(bn,177, #[.map (some mb)]),(bc,178, #[.map (some cb)]),(bt,25,setC (vS V))] ++ LJ) ([(177,0, .map (some mb),0,mapXs ekV evS (putM M v (nearS v E))),(178,0, .map (some cb),0,[])] ++ RJ) y13) := hide hQ
  clear hQ
  try go_frame
  refine wpX_done (by kernel_rfl) ?_
  try go_frame
  gi_wp2_with fail
  exact ⟨_,_,⟨rfl,by unfold m0 at *; rw [List.foldl_append]; rw [unhide hM']; rfl⟩,unhide hB⟩
 ·rintro D L' Rs' W' hD0 ⟨rfl,rfl⟩ hkW hP0
  have hDD : w.heap.size ≤ D := Nat.le_trans (unhide hsz9) hD0
  obtain ⟨ds2,hds2⟩ : ∃ ds2,ds2 = ({ target := .collected D,args := #[] } :: [] : List Deferred) := ⟨_,rfl⟩
  rw [← hds2] at hP0 ⊢
  have hdD := hide (show ∀ d ∈ ds2, ∀ D,d.target = .collected D → w.heap.size ≤ D by
   rw [hds2]
   intro d hd D2 e
   rw [List.mem_singleton] at hd
   rw [hd] at e
   injection e with e
   rw [← e]; exact hDD)
  have hokN := hide (m0_okZ E (toL (vS V)) (fun x hx => toL_ok hx))
  have hnrM := hide (show ∀ id ∈ toL (vS V),nrM (m0 E (toL (vS V))) id = nearS id E from fun id h => m0_nr h)
  obtain ⟨M,hM⟩ : ∃ M,M = m0 E (toL (vS V)) := ⟨_,rfl⟩
  rw [← hM] at hP0 hokN hnrM
  clear hkW hP hBa hM hD0 hDD hds2 hsz9
  have hP : Hid (Sp wf T0 w ds2 ([(bg,26, #[.pointer og]),(bn,177, #[.map (some mb)]),(bc,178, #[.map (some cb)]),(bt,25,setC (vS V))] ++ LJ) ([(177,0, .map (some mb),0,mapXs ekV evS M),(178,0, .map (some cb),0,mapXs ekV evN [])] ++ RJ) W') := hide hP0
  clear hP0
  go_wp2_with fail
  obtain ⟨I18_4,hI18_40⟩ : ∃ I : Nat → Act → World → Prop,I = fun fi a' wr => ∃ (N : Nat), ∃ (C : List (Int × Nat)), ∃ (told : List (Int × Nat)), ∃ (LJ2 : List Cl), ∃ (RJ2 : List Rw),a'.tmps.size = 63 ∧ a'.tmps.getD 1 undef = .func (.func f) #[] lb ∧ a'.tmps.getD 2 undef = .pointer (some ⟨bg,0,none⟩) ∧ a'.tmps.getD 4 undef = .pointer (some ⟨bn,0,none⟩) ∧ a'.tmps.getD 5 undef = .pointer (some ⟨bc,0,none⟩) ∧ a'.tmps.getD 6 undef = .pointer (some ⟨bt,0,none⟩) ∧ SrI E MR told N C ∧ JP told LJ2 RJ2 ∧ (∀ x ∈ toL N,x ∈ toL (vS V)) ∧ (∀ p ∈ C,i64ok p.1) ∧ (∀ x,nC C x ≤ told.length) ∧ (∀ d ∈ a'.defers, ∀ D,d.target = .collected D → w.heap.size ≤ D) ∧ Sp wf T0 w a'.defers ([(bg,26, #[.pointer og]),(bn,177, #[.map (some mb)]),(bc,178, #[.map (some cb)]),(bt,25,setC N)] ++ LJ2) ([(177,0, .map (some mb),0,mapXs ekV evS M),(178,0, .map (some cb),0,mapXs ekV evN C)] ++ RJ2) wr ∧ fi = (toL N).length := ⟨_,rfl⟩
  have hI18_4 := hide hI18_40
  clear hI18_40
  refine wp_loop_ix I18_4 ((toL (vS V)).length) ?_ ?_
  ·rw [unhide hI18_4]; exact ⟨vS V,[],[],LJ,RJ,rfl,rfl,rfl,rfl,rfl,rfl,unhide hS0',unhide hj',(fun _ h => h),(fun p hp => by cases hp),(fun x => Nat.le_of_eq rfl),unhide hdD,unhide hP,rfl⟩
  ·rintro fi ⟨tm,ds⟩ wr hrel
   rw [unhide hI18_4] at hrel
   obtain ⟨N,C,told,LJ2,RJ2,hsz,e1,e2,e4,e5,e6,hSI0,hJ0,hNV0,hCk0,hCb0,hdD0,hPr,hfm⟩ := hrel
   obtain ⟨us,rfl⟩ : ∃ us : Nat → Value,tm = #[us 0,us 1,us 2,us 3,us 4,us 5,us 6,us 7,us 8,us 9,us 10,us 11,us 12,us 13,us 14,us 15,us 16,us 17,us 18,us 19,us 20,us 21,us 22,us 23,us 24,us 25,us 26,us 27,us 28,us 29,us 30,us 31,us 32,us 33,us 34,us 35,us 36,us 37,us 38,us 39,us 40,us 41,us 42,us 43,us 44,us 45,us 46,us 47,us 48,us 49,us 50,us 51,us 52,us 53,us 54,us 55,us 56,us 57,us 58,us 59,us 60,us 61,us 62] := ⟨fun i => tm.getD i undef,arr_fn hsz⟩
   have h1 : us 1 = .func (.func f) #[] lb := e1
   have h2 : us 2 = .pointer (some ⟨bg,0,none⟩) := e2
   have h4 : us 4 = .pointer (some ⟨bn,0,none⟩) := e4
   have h5 : us 5 = .pointer (some ⟨bc,0,none⟩) := e5
   have h6 : us 6 = .pointer (some ⟨bt,0,none⟩) := e6
   dsimp only at hPr
   clear hsz e1 e2 e4 e5 e6
   simp only [h1,h2,h4,h5,h6]
   clear h1 h2 h4 h5 h6
   dsimp only at hdD0
   clear hP hdD
   have hP := hide hPr
   have hfm' := hide hfm
   have hSI := hide hSI0
   have hJ := hide hJ0
   have hNV := hide hNV0
   have hCk := hide hCk0
   have hCb := hide hCb0
   have hdD := hide hdD0
   have htl := hide (show told.length ≤ 1024 by
    obtain ⟨_,l9,_,_,h9⟩ := hSI0
    have h8 := congrArg List.length h9
    rw [List.length_append] at h8
    have := unhide hmr
    omega)
   clear hPr hfm hSI0 hJ0 hNV0 hCk0 hCb0 hdD0
   try dsimp only
   repeat ((fail_if_success (with_reducible refine wp_reg (id := 6) ?_)); (first | go_values | go_skip | go_step | go_guarded | go_upon | go_in | go_back | fail))
   with_reducible refine wp_reg (id := 6) ?_
   refine wpO_val rfl (load_SetR (N := N) rfl rfl ((unhide hP).get 3 rfl).whole) ?_
   refine wpO_want rfl ?_
   go_simp
   have hca := empty_any N wr
   rw [eqS_anyZ] at hca
   refine hca.mono ?_
   clear hca
   rintro _ y19 ⟨rfl,hxc⟩
   replace hP : Hid (Sp wf T0 w ds ([(bg,26, #[.pointer og]),(bn,177, #[.map (some mb)]),(bc,178, #[.map (some cb)]),(bt,25,setC N)] ++ LJ2) ([(177,0, .map (some mb),0,mapXs ekV evS M),(178,0, .map (some cb),0,mapXs ekV evN C)] ++ RJ2) y19) := hide ((unhide hP).ext hxc)
   clear hxc
   obtain ⟨q,hq0⟩ : ∃ q,q = anyB N := ⟨_,rfl⟩
   rw [← hq0]
   have hq := hide hq0
   clear hq0
   refine ⟨_,rfl, ?_⟩
   try go_frame
   cases q
   ·skip
    refine wpO_want rfl ?_
    go_simp
    refine wpO_done ?_
    try go_frame
    go_wp2_with fail
    have htd := (unhide hSI).done (by rw [← unhide hq]; simp)
    have hmk := (unhide hP).marks.upAll (unhide hdD)
    have htin := (unhide hP).tin
    refine (unhide hP).leavesG hmk ?_
    intro w' hxw hst
    refine ⟨_,results_none rfl _ _ _,rfl,LJ2,RJ2,by rw [← htd]; exact unhide hJ,hst.sub (List.sublist_append_right _ _) (List.sublist_append_right _ _),hxw,fun x hx9 => htin x (stT_sub (List.sublist_append_right _ _) (List.sublist_append_right _ _) x hx9)⟩
   ·skip
    have hany := hide (unhide hq).symm
    clear hq
    refine wpO_want rfl ?_
    go_simp
    refine wpO_done ?_
    try go_frame
    try dsimp only
    repeat ((fail_if_success (with_reducible refine wp_reg (id := 7) ?_)); (first | go_values | go_skip | go_step | go_guarded | go_upon | go_in | go_back | fail))
    with_reducible refine wp_reg (id := 7) ?_
    refine wpO_val rfl (load_SetR (N := N) rfl rfl ((unhide hP).get 3 rfl).whole) ?_
    refine wpO_want rfl ?_
    go_simp
    refine (min_any N y19 ((unhide hT').ext (unhide hP).extf)).mono ?_
    rintro _ y20 ⟨rfl,hxc⟩
    replace hP : Hid (Sp wf T0 w ds ([(bg,26, #[.pointer og]),(bn,177, #[.map (some mb)]),(bc,178, #[.map (some cb)]),(bt,25,setC N)] ++ LJ2) ([(177,0, .map (some mb),0,mapXs ekV evS M),(178,0, .map (some cb),0,mapXs ekV evN C)] ++ RJ2) y20) := hide ((unhide hP).ext hxc)
    clear hxc
    obtain ⟨z0,hz00⟩ : ∃ z,z = minV N := ⟨_,rfl⟩
    have hz0 := hide hz00
    rw [← hz00,unhide hany]
    clear hz00
    refine ⟨_,rfl, ?_⟩
    try go_frame
    generalize htu0 : Value.tuple _ = tu
    have htu := hide htu0
    clear htu0
    refine wpO_val rfl (run_move rfl rfl) ?_
    go_frame
    refine wpO_val rfl (run_extract (i := 0) (v := .int .i64 z0) rfl (unhide htu).symm rfl) ?_
    go_frame
    refine wpO_val rfl (run_extract (i := 1) (v := .bool true) rfl (unhide htu).symm rfl) ?_
    go_frame
    refine (unhide hP).allocO 3 #[.int .i64 0] rfl (by go_simp) ?_
    intro b8 y21 hQ
    replace hP : Hid (Sp wf T0 w ds ([(bg,26, #[.pointer og]),(bn,177, #[.map (some mb)]),(bc,178, #[.map (some cb)]),(bt,25,setC N),(b8,3, #[.int .i64 0])] ++ LJ2) ([(177,0, .map (some mb),0,mapXs ekV evS M),(178,0, .map (some cb),0,mapXs ekV evN C)] ++ RJ2) y21) := hide (hQ.perm (perm_mid ([(bg,26, #[.pointer og]),(bn,177, #[.map (some mb)]),(bc,178, #[.map (some cb)]),(bt,25,setC N)] : List Cl) LJ2 ([(b8,3, #[.int .i64 0])] : List Cl)) (List.Perm.refl _))
    clear hQ
    refine (unhide hP).setO 4 #[.int .i64 z0] rfl rfl (fun hb => run_store_row (v := .int .i64 z0) rfl rfl rfl (by simp [go_sem]) hb rfl (by simp [Value.cells,Value.oneCell'])) ?_
    intro y22 hQ
    replace hP : Hid (Sp wf T0 w ds ([(bg,26, #[.pointer og]),(bn,177, #[.map (some mb)]),(bc,178, #[.map (some cb)]),(bt,25,setC N),(b8,3, #[.int .i64 z0])] ++ LJ2) ([(177,0, .map (some mb),0,mapXs ekV evS M),(178,0, .map (some cb),0,mapXs ekV evN C)] ++ RJ2) y22) := hide hQ
    clear hQ
    refine wpO_want rfl ?_
    go_simp
    refine wpO_done ?_
    try go_frame
    clear htu
    have hz0N := hide (show z0 ∈ toL N by rw [unhide hz0]; exact minV_mem (unhide hany))
    try dsimp only
    repeat ((fail_if_success (with_reducible refine wp_reg (id := 8) ?_)); (first | go_values | go_skip | go_step | go_guarded | go_upon | go_in | go_back | fail))
    with_reducible refine wp_reg (id := 8) ?_
    refine wpO_val rfl (load_SetR (N := N) rfl rfl ((unhide hP).get 3 rfl).whole) ?_
    refine wpO_want rfl ?_
    go_simp
    refine (all_ext N _).mono ?_
    rintro _ y23 ⟨bi,rfl,hBa0,hxc⟩
    refine ⟨_,rfl, ?_⟩
    replace hP : Hid (Sp wf T0 w ds ([(bg,26, #[.pointer og]),(bn,177, #[.map (some mb)]),(bc,178, #[.map (some cb)]),(bt,25,setC N),(b8,3, #[.int .i64 z0])] ++ LJ2) ([(177,0, .map (some mb),0,mapXs ekV evS M),(178,0, .map (some cb),0,mapXs ekV evN C)] ++ RJ2) y23) := hide ((unhide hP).ext hxc)
    have hBa := hide hBa0
    clear hxc hBa0
    refine wpO_done ?_
    try go_frame
    go_wp2_with fail
    have hsz9 := hide (unhide hP).keep.size
    refine wp_rngM (gf := 109) (lb := #[.pointer (some ⟨bi,0,none⟩)]) (unhide hP) rfl (enters_of Tryz.func109 (by kernel_rfl) rfl) (ex := [0]) ((unhide hP).tab (unhide hT')) (all_iter N bi y23 (unhide hBa) ((unhide hT').ext (unhide hP).extf)) (fun _ => rfl)
     (fun pre L' Rs' => L' = ([(bg,26, #[.pointer og]),(bn,177, #[.map (some mb)]),(bc,178, #[.map (some cb)]),(bt,25,setC N),(b8,3, #[.int .i64 (hvS (nC C) pre z0)])] ++ LJ2) ∧ Rs' = ([(177,0, .map (some mb),0,mapXs ekV evS M),(178,0, .map (some cb),0,mapXs ekV evN C)] ++ RJ2))
     (fun _ _ _ => False)
     (fun tm _ v a1 _ => a1 = ⟨(tm.setIfInBounds 35 (.int .i64 v)).setIfInBounds 10 (.int .i64 v),[]⟩)
     (fun _ _ _ _ _ h _ => h) ⟨rfl,rfl⟩ ?_ ?_ ?_ ?_
    ·intro T' v W' K hlt' hsz hK
     have hK' := hide hK
     have hlt2 := hide hlt'
     have hsz2 := hide hsz
     clear hK hlt' hsz
     rw [zip1]
     simp only [List.setIfInBounds_toArray,List.set_cons_succ,List.set_cons_zero]
     try dsimp only
     repeat ((fail_if_success (with_reducible refine wpI_reg (id := 9) (by kernel_rfl) ?_)); (first | go_values | gi_step | gi_guarded | gi_upon | gi_in | gi_back | fail))
     with_reducible refine wpI_reg (id := 9) (by kernel_rfl) ?_
     refine wpO_want rfl ?_
     go_simp
     refine wpO_done ?_
     try go_frame
     exact unhide hK' _ _ rfl (Ext.refl _)
    ·rintro l pre v a1 L' Rs' W' ⟨rfl,rfl⟩ hB0 rfl hpx hl hkW htW
     simp only [List.setIfInBounds_toArray,List.set_cons_succ,List.set_cons_zero]
     have hvN := hpx.subset (show v ∈ pre ++ [v] by simp)
     have hv0' := hide (toL_ok hvN)
     have hsn := hide (hvS_snoc (nC C) pre v z0)
     have hbN := hide (show i64ok (hvS (nC C) pre z0) from by
      rcases (hvS_spec (nC C) pre z0).1 with h9 | h9
      ·rw [h9]; exact toL_ok (unhide hz0N)
      ·exact toL_ok (hpx.subset (List.mem_append_left _ h9)))
     obtain ⟨bz,hbz⟩ : ∃ z,z = hvS (nC C) pre z0 := ⟨_,rfl⟩
     rw [← hbz] at hB0 hbN hsn
     obtain ⟨k1,hk10⟩ : ∃ k,k = nC C v := ⟨_,rfl⟩
     obtain ⟨k2,hk20⟩ : ∃ k,k = nC C bz := ⟨_,rfl⟩
     rw [← hk10, ← hk20] at hsn
     have hk1 := hide hk10
     have hk2 := hide hk20
     have hB : Hid (Sp wf (stT ([(bg,26, #[.pointer og]),(bn,177, #[.map (some mb)]),(bc,178, #[.map (some cb)]),(bt,25,setC N),(b8,3, #[.int .i64 bz])] ++ LJ2) ([(177,0, .map (some mb),0,mapXs ekV evS M),(178,0, .map (some cb),0,mapXs ekV evN C)] ++ RJ2)) W' [] ([(bg,26, #[.pointer og]),(bn,177, #[.map (some mb)]),(bc,178, #[.map (some cb)]),(bt,25,setC N),(b8,3, #[.int .i64 bz])] ++ LJ2) ([(177,0, .map (some mb),0,mapXs ekV evS M),(178,0, .map (some cb),0,mapXs ekV evN C)] ++ RJ2) W') := hide hB0
     clear hB0 hbz hk10 hk20 hpx hl hkW htW hvN
     try dsimp only
     repeat ((fail_if_success (with_reducible refine wpI_reg (id := 10) (by kernel_rfl) ?_)); (first | go_values | gi_step | gi_guarded | gi_upon | gi_in | gi_back | fail))
     with_reducible refine wpI_reg (id := 10) (by kernel_rfl) ?_
     refine wpO_val rfl (load_V (v := .map (some cb)) rfl rfl (by simp [go_sem]) (((unhide hB).get 2 rfl).cell 0)) ?_
     go_frame
     refine wpO_want rfl ?_
     go_simp
     refine (unhide hB).look1O 1 (m := C) (ek := ekV) (ev := evN) rfl (unhide hCk) rfl keV Tryz.underlying178 (zeroN _) (unhide hv0') rfl rfl rfl ?_
     rw [show (lookM C v).getD 0 = k1 from (unhide hk1).symm]
     simp only [evN]
     go_frame
     refine wpO_val rfl (load_V (v := .map (some cb)) rfl rfl (by simp [go_sem]) (((unhide hB).get 2 rfl).cell 0)) ?_
     go_frame
     refine wpO_val rfl (load_V (v := .int .i64 bz) rfl rfl (by simp [go_sem]) (((unhide hB).get 4 rfl).cell 0)) ?_
     go_frame
     refine (unhide hB).look1O 1 (m := C) (ek := ekV) (ev := evN) rfl (unhide hCk) rfl keV Tryz.underlying178 (zeroN _) (unhide hbN) rfl rfl rfl ?_
     rw [show (lookM C bz).getD 0 = k2 from (unhide hk2).symm]
     simp only [evN]
     go_frame
     obtain ⟨q,hq0⟩ : ∃ q,decide (k2 < k1) = q := ⟨_,rfl⟩
     have hq := hide hq0
     refine wpO_want rfl ?_
     go_simp
     try rw [hq0]
     clear hq0
     refine wpO_done ?_
     try go_frame
     cases q
     ·skip
      gi_wp2_with fail
      have hno : ¬ k2 < k1 := by have := of_decide_eq_false (unhide hq); omega
      exact ⟨_,_,⟨rfl,rfl⟩,by rw [unhide hsn,if_neg hno]; exact unhide hB⟩
     ·skip
      try dsimp only
      repeat ((fail_if_success (with_reducible refine wpI_reg (id := 11) (by kernel_rfl) ?_)); (first | go_values | gi_step | gi_guarded | gi_upon | gi_in | gi_back | fail))
      with_reducible refine wpI_reg (id := 11) (by kernel_rfl) ?_
      refine wpO_want rfl ?_
      go_simp
      refine (unhide hB).setO 4 #[.int .i64 v] rfl rfl (fun hb => run_store_row (v := .int .i64 v) rfl rfl rfl (by simp [go_sem]) hb rfl (by simp [Value.cells,Value.oneCell'])) ?_
      intro y24 hQ
      replace hB : Hid (Sp wf (stT ([(bg,26, #[.pointer og]),(bn,177, #[.map (some mb)]),(bc,178, #[.map (some cb)]),(bt,25,setC N),(b8,3, #[.int .i64 bz])] ++ LJ2) ([(177,0, .map (some mb),0,mapXs ekV evS M),(178,0, .map (some cb),0,mapXs ekV evN C)] ++ RJ2)) W' [] ([(bg,26, #[.pointer og]),(bn,177, #[.map (some mb)]),(bc,178, #[.map (some cb)]),(bt,25,setC N),(b8,3, #[.int .i64 v])] ++ LJ2) ([(177,0, .map (some mb),0,mapXs ekV evS M),(178,0, .map (some cb),0,mapXs ekV evN C)] ++ RJ2) y24) := hide hQ
      clear hQ
      refine wpO_done ?_
      try go_frame
      gi_wp2_with fail
      have hye : k2 < k1 := by have := of_decide_eq_true (unhide hq); omega
      exact ⟨_,_,⟨rfl,rfl⟩,by rw [unhide hsn,if_pos hye]; exact unhide hB⟩
    ·rintro D L' Rs' W' hD0 ⟨rfl,rfl⟩ hkW hP0
     have hDD : w.heap.size ≤ D := Nat.le_trans (unhide hsz9) hD0
     obtain ⟨ds2,hds2⟩ : ∃ dq,dq = ({ target := .collected D,args := #[] } :: ds : List Deferred) := ⟨_,rfl⟩
     rw [← hds2] at hP0 ⊢
     replace hdD := hide (show ∀ d ∈ ds2, ∀ D,d.target = .collected D → w.heap.size ≤ D by
      rw [hds2]
      intro d hd D2 e
      rcases List.mem_cons.1 hd with h9 | h9
      ·rw [h9] at e
       injection e with e
       rw [← e]; exact hDD
      ·exact unhide hdD d h9 D2 e)
     clear hD0 hDD hds2 hsz9
     obtain ⟨z,hz0'⟩ : ∃ z,z = hvS (nC C) (toL N) z0 := ⟨_,rfl⟩
     rw [← hz0'] at hP0
     have hz := hide (show z = hvS (nC C) (toL N) (minV N) by rw [hz0',unhide hz0])
     obtain ⟨r,hr0⟩ : ∃ r,r = reaS E (withoutS N z) (nC C) z := ⟨_,rfl⟩
     have hr := hide hr0
     obtain ⟨hSn,hltn,hzN⟩ := (unhide hSI).next (unhide hany) (unhide hz) hr0
     have hSn' := hide hSn
     have hltn' := hide hltn
     have hzN' := hide hzN
     have hzo := hide (toL_ok hzN)
     obtain ⟨N2,hN20⟩ : ∃ N2,N2 = withoutS N z := ⟨_,rfl⟩
     have hN2 := hide hN20
     rw [← hN20] at hr0 hSn' hltn'
     clear hkW hP hBa hz0' hr0 hSn hltn hzN hN20 hSI hany hz0N
     have hP : Hid (Sp wf T0 w ds2 ([(bg,26, #[.pointer og]),(bn,177, #[.map (some mb)]),(bc,178, #[.map (some cb)]),(bt,25,setC N),(b8,3, #[.int .i64 z])] ++ LJ2) ([(177,0, .map (some mb),0,mapXs ekV evS M),(178,0, .map (some cb),0,mapXs ekV evN C)] ++ RJ2) W') := hide hP0
     clear hP0
     try dsimp only
     repeat ((fail_if_success (with_reducible refine wp_reg (id := 12) ?_)); (first | go_values | go_skip | go_step | go_guarded | go_upon | go_in | go_back | fail))
     with_reducible refine wp_reg (id := 12) ?_
     refine wpO_val rfl (load_SetR (N := N) rfl rfl ((unhide hP).get 3 rfl).whole) ?_
     refine wpO_val rfl (load_V (v := .int .i64 z) rfl rfl (by simp [go_sem]) (((unhide hP).get 4 rfl).cell 0)) ?_
     go_frame
     refine wpO_want rfl ?_
     go_simp
     have hca := without_S N z W'
     rw [← unhide hN2] at hca
     refine hca.mono ?_
     clear hca
     rintro _ y33 ⟨rfl,hxc⟩
     replace hP : Hid (Sp wf T0 w ds2 ([(bg,26, #[.pointer og]),(bn,177, #[.map (some mb)]),(bc,178, #[.map (some cb)]),(bt,25,setC N),(b8,3, #[.int .i64 z])] ++ LJ2) ([(177,0, .map (some mb),0,mapXs ekV evS M),(178,0, .map (some cb),0,mapXs ekV evN C)] ++ RJ2) y33) := hide ((unhide hP).ext hxc)
     clear hxc
     refine ⟨_,rfl, ?_⟩
     try go_frame
     refine (unhide hP).setO 3 (setC N2) rfl rfl (fun hb => store_SetR (N := N2) rfl rfl rfl hb) ?_
     intro y34 hQ
     replace hP : Hid (Sp wf T0 w ds2 ([(bg,26, #[.pointer og]),(bn,177, #[.map (some mb)]),(bc,178, #[.map (some cb)]),(bt,25,setC N2),(b8,3, #[.int .i64 z])] ++ LJ2) ([(177,0, .map (some mb),0,mapXs ekV evS M),(178,0, .map (some cb),0,mapXs ekV evN C)] ++ RJ2) y34) := hide hQ
     clear hQ
     refine wpO_done ?_
     try go_frame
     try dsimp only
     repeat ((fail_if_success (with_reducible refine wp_reg (id := 13) ?_)); (first | go_values | go_skip | go_step | go_guarded | go_upon | go_in | go_back | fail))
     with_reducible refine wp_reg (id := 13) ?_
     refine wpO_val rfl (load_V (v := .map (some mb)) rfl rfl (by simp [go_sem]) (((unhide hP).get 1 rfl).cell 0)) ?_
     go_frame
     refine wpO_val rfl (load_V (v := .map (some cb)) rfl rfl (by simp [go_sem]) (((unhide hP).get 2 rfl).cell 0)) ?_
     go_frame
     refine wpO_val rfl (load_SetR (N := N2) rfl rfl ((unhide hP).get 3 rfl).whole) ?_
     try go_frame
     refine wpO_val rfl (load_V (v := .int .i64 z) rfl rfl (by simp [go_sem]) (((unhide hP).get 4 rfl).cell 0)) ?_
     go_frame
     refine wpO_want rfl ?_
     go_simp
     have hca := reach_any mb cb M C N2 z V E y34 (unhide hi') ((unhide hP).map 0 rfl (unhide hokN)) ((unhide hP).map 1 rfl (unhide hCk)) (toL_rng (unhide hzN')) (fun id hid u hu => by
      have hidV : id ∈ toL (vS V) := by
       rcases hid with rfl | h9
       ·exact unhide hNV _ (unhide hzN')
       ·rw [unhide hN2] at h9
        exact unhide hNV _ (mem_without.1 h9).1
      rw [unhide hnrM id hidV]
      exact mem_near (unhide hi')) ((unhide hT').ext (unhide hP).extf)
     rw [unhide hN2, ← unhide hr] at hca
     rw [← unhide hN2] at hca
     refine hca.mono ?_
     clear hca
     rintro _ y35 ⟨rfl,hxc⟩
     replace hP : Hid (Sp wf T0 w ds2 ([(bg,26, #[.pointer og]),(bn,177, #[.map (some mb)]),(bc,178, #[.map (some cb)]),(bt,25,setC N2),(b8,3, #[.int .i64 z])] ++ LJ2) ([(177,0, .map (some mb),0,mapXs ekV evS M),(178,0, .map (some cb),0,mapXs ekV evN C)] ++ RJ2) y35) := hide ((unhide hP).ext hxc)
     clear hxc
     refine ⟨_,rfl, ?_⟩
     try go_frame
     refine (unhide hP).allocO 25 (setC 0) rfl (run_alloc_set rfl) ?_
     intro b11 y36 hQ
     replace hP : Hid (Sp wf T0 w ds2 ([(bg,26, #[.pointer og]),(bn,177, #[.map (some mb)]),(bc,178, #[.map (some cb)]),(bt,25,setC N2),(b8,3, #[.int .i64 z]),(b11,25,setC 0)] ++ LJ2) ([(177,0, .map (some mb),0,mapXs ekV evS M),(178,0, .map (some cb),0,mapXs ekV evN C)] ++ RJ2) y36) := hide (hQ.perm (perm_mid ([(bg,26, #[.pointer og]),(bn,177, #[.map (some mb)]),(bc,178, #[.map (some cb)]),(bt,25,setC N2),(b8,3, #[.int .i64 z])] : List Cl) LJ2 ([(b11,25,setC 0)] : List Cl)) (List.Perm.refl _))
     clear hQ
     refine (unhide hP).setO 5 (setC r) rfl rfl (fun hb => store_SetR (N := r) rfl rfl rfl hb) ?_
     intro y37 hQ
     replace hP : Hid (Sp wf T0 w ds2 ([(bg,26, #[.pointer og]),(bn,177, #[.map (some mb)]),(bc,178, #[.map (some cb)]),(bt,25,setC N2),(b8,3, #[.int .i64 z]),(b11,25,setC r)] ++ LJ2) ([(177,0, .map (some mb),0,mapXs ekV evS M),(178,0, .map (some cb),0,mapXs ekV evN C)] ++ RJ2) y37) := hide hQ
     clear hQ
     refine wpO_done ?_
     try go_frame
     try dsimp only
     repeat ((fail_if_success (with_reducible refine wp_reg (id := 14) ?_)); (first | go_values | go_skip | go_step | go_guarded | go_upon | go_in | go_back | fail))
     with_reducible refine wp_reg (id := 14) ?_
     refine wpO_val rfl (load_SetR (N := r) rfl rfl ((unhide hP).get 5 rfl).whole) ?_
     refine wpO_want rfl ?_
     go_simp
     refine (all_ext r _).mono ?_
     rintro _ y38 ⟨bi,rfl,hBa0,hxc⟩
     refine ⟨_,rfl, ?_⟩
     replace hP : Hid (Sp wf T0 w ds2 ([(bg,26, #[.pointer og]),(bn,177, #[.map (some mb)]),(bc,178, #[.map (some cb)]),(bt,25,setC N2),(b8,3, #[.int .i64 z]),(b11,25,setC r)] ++ LJ2) ([(177,0, .map (some mb),0,mapXs ekV evS M),(178,0, .map (some cb),0,mapXs ekV evN C)] ++ RJ2) y38) := hide ((unhide hP).ext hxc)
     have hBa := hide hBa0
     clear hxc hBa0
     refine wpO_done ?_
     try go_frame
     go_wp2_with fail
     have hsz9 := hide (unhide hP).keep.size
     refine wp_rngM (gf := 109) (lb := #[.pointer (some ⟨bi,0,none⟩)]) (unhide hP) rfl (enters_of Tryz.func109 (by kernel_rfl) rfl) (ex := [0]) ((unhide hP).tab (unhide hT')) (all_iter r bi y38 (unhide hBa) ((unhide hT').ext (unhide hP).extf)) (fun _ => rfl)
      (fun pre L' Rs' => L' = ([(bg,26, #[.pointer og]),(bn,177, #[.map (some mb)]),(bc,178, #[.map (some cb)]),(bt,25,setC N2),(b8,3, #[.int .i64 z]),(b11,25,setC r)] ++ LJ2) ∧ Rs' = ([(177,0, .map (some mb),0,mapXs ekV evS M),(178,0, .map (some cb),0,mapXs ekV evN (turnM (fun v _ => v + 1) pre C))] ++ RJ2))
      (fun _ _ _ => False)
      (fun tm _ v a1 _ => a1 = ⟨(tm.setIfInBounds 54 (.int .i64 v)).setIfInBounds 12 (.int .i64 v),[]⟩)
      (fun _ _ _ _ _ h _ => h) ⟨rfl,rfl⟩ ?_ ?_ ?_ ?_
     ·intro T' v W' K hlt' hsz hK
      have hK' := hide hK
      have hlt2 := hide hlt'
      have hsz2 := hide hsz
      clear hK hlt' hsz
      rw [zip1]
      simp only [List.setIfInBounds_toArray,List.set_cons_succ,List.set_cons_zero]
      try dsimp only
      repeat ((fail_if_success (with_reducible refine wpI_reg (id := 15) (by kernel_rfl) ?_)); (first | go_values | gi_step | gi_guarded | gi_upon | gi_in | gi_back | fail))
      with_reducible refine wpI_reg (id := 15) (by kernel_rfl) ?_
      refine wpO_want rfl ?_
      go_simp
      refine wpO_done ?_
      try go_frame
      exact unhide hK' _ _ rfl (Ext.refl _)
     ·rintro l pre v a1 L' Rs' W' ⟨rfl,rfl⟩ hB0 rfl hpx hl hkW htW
      simp only [List.setIfInBounds_toArray,List.set_cons_succ,List.set_cons_zero]
      have hvN := hpx.subset (show v ∈ pre ++ [v] by simp)
      have hv0' := hide (toL_ok hvN)
      have hsn := hide (turn_snoc (fun v _ => v + 1) pre C v)
      have hokC := hide (turn_ok (fun v _ => v + 1) pre C (unhide hCk) (fun x hx => toL_ok (hpx.subset (by simp [hx]) : x ∈ toL r)))
      have hpn : (pre ++ [v]).Nodup := hpx.sublist.nodup (toL_nodup r)
      have hkv := turn_nr (fun v _ => v + 1) pre C ((List.nodup_append.1 hpn).1) v
      rw [if_neg (fun h9 => (List.nodup_append.1 hpn).2.2 v h9 v (by simp) rfl)] at hkv
      have hkb := hide (show nrM C v ≤ 1024 from Nat.le_trans (unhide hCb v) (unhide htl))
      obtain ⟨CC,hCC⟩ : ∃ CC,CC = turnM (fun v _ => v + 1) pre C := ⟨_,rfl⟩
      rw [← hCC] at hB0 hsn hokC hkv
      obtain ⟨k1,hk10⟩ : ∃ k,k = nrM CC v := ⟨_,rfl⟩
      have hk1 := hide (show k1 = nC CC v from hk10)
      rw [← hk10] at hsn
      have hk1b := hide (show k1 ≤ 1024 by rw [hk10,hkv]; exact unhide hkb)
      have hw1 : IntKind.i64.wrap ((k1 : Int) + 1) = ((k1 + 1 : Nat) : Int) := by have := unhide hk1b; rw [IntWalk.i64_in _ (by omega)]; omega
      have hB : Hid (Sp wf (stT ([(bg,26, #[.pointer og]),(bn,177, #[.map (some mb)]),(bc,178, #[.map (some cb)]),(bt,25,setC N2),(b8,3, #[.int .i64 z]),(b11,25,setC r)] ++ LJ2) ([(177,0, .map (some mb),0,mapXs ekV evS M),(178,0, .map (some cb),0,mapXs ekV evN CC)] ++ RJ2)) W' [] ([(bg,26, #[.pointer og]),(bn,177, #[.map (some mb)]),(bc,178, #[.map (some cb)]),(bt,25,setC N2),(b8,3, #[.int .i64 z]),(b11,25,setC r)] ++ LJ2) ([(177,0, .map (some mb),0,mapXs ekV evS M),(178,0, .map (some cb),0,mapXs ekV evN CC)] ++ RJ2) W') := hide hB0
      clear hB0 hCC hk10 hkv hpn hkb hpx hl hkW htW hvN
      try dsimp only
      repeat ((fail_if_success (with_reducible refine wpI_reg (id := 16) (by kernel_rfl) ?_)); (first | go_values | gi_step | gi_guarded | gi_upon | gi_in | gi_back | fail))
      with_reducible refine wpI_reg (id := 16) (by kernel_rfl) ?_
      refine wpO_val rfl (load_V (v := .map (some cb)) rfl rfl (by simp [go_sem]) (((unhide hB).get 2 rfl).cell 0)) ?_
      go_frame
      refine wpO_want rfl ?_
      go_simp
      refine (unhide hB).look1O 1 (m := CC) (ek := ekV) (ev := evN) rfl (unhide hokC) rfl keV Tryz.underlying178 (zeroN _) (unhide hv0') rfl rfl rfl ?_
      rw [show (lookM CC v).getD 0 = k1 from (unhide hk1).symm]
      simp only [evN]
      go_frame
      refine wpO_want rfl ?_
      go_simp
      clear hw1
      refine (unhide hB).mapPutO 1 (m := CC) (ek := ekV) (ev := evN) rfl (unhide hokC) rfl keV Tryz.underlying178 (x := v) (unhide hv0') (k1 + 1) rfl rfl rfl rfl 0 ?_
      intro y39 hQ
      replace hB : Hid (Sp wf (stT ([(bg,26, #[.pointer og]),(bn,177, #[.map (some mb)]),(bc,178, #[.map (some cb)]),(bt,25,setC N2),(b8,3, #[.int .i64 z]),(b11,25,setC r)] ++ LJ2) ([(177,0, .map (some mb),0,mapXs ekV evS M),(178,0, .map (some cb),0,mapXs ekV evN CC)] ++ RJ2)) W' [] ([(bg,26, #[.pointer og]),(bn,177, #[.map (some mb)]),(bc,178, #[.map (some cb)]),(bt,25,setC N2),(b8,3, #[.int .i64 z]),(b11,25,setC r)] ++ LJ2) ([(177,0, .map (some mb),0,mapXs ekV evS M),(178,0, .map (some cb),0,mapXs ekV evN (putM CC v (k1 + 1)))] ++ RJ2) y39) := hide hQ
      clear hQ
      try go_frame
      refine wpO_done ?_
      try go_frame
      gi_wp2_with fail
      exact ⟨_,_,⟨rfl,rfl⟩,by rw [unhide hsn]; exact unhide hB⟩
     ·rintro D L' Rs' W' hD0 ⟨rfl,rfl⟩ hkW hP0
      have hDD : w.heap.size ≤ D := Nat.le_trans (unhide hsz9) hD0
      obtain ⟨ds3,hds2⟩ : ∃ dq,dq = ({ target := .collected D,args := #[] } :: ds2 : List Deferred) := ⟨_,rfl⟩
      rw [← hds2] at hP0 ⊢
      replace hdD := hide (show ∀ d ∈ ds3, ∀ D,d.target = .collected D → w.heap.size ≤ D by
       rw [hds2]
       intro d hd D2 e
       rcases List.mem_cons.1 hd with h9 | h9
       ·rw [h9] at e
        injection e with e
        rw [← e]; exact hDD
       ·exact unhide hdD d h9 D2 e)
      clear hD0 hDD hds2 hsz9
      have hC2k := hide (up_ok r (unhide hCk))
      have hC2b := hide (up_le (r := r) (unhide hCb))
      obtain ⟨C2,hC20⟩ : ∃ C2,C2 = upC r C := ⟨_,rfl⟩
      rw [← hC20] at hC2k hC2b
      rw [show turnM (fun v _ => v + 1) (toL r) C = C2 from hC20.symm] at hP0
      rw [← hC20] at hSn'
      clear hkW hP hBa hC20
      have hP : Hid (Sp wf T0 w ds3 ([(bg,26, #[.pointer og]),(bn,177, #[.map (some mb)]),(bc,178, #[.map (some cb)]),(bt,25,setC N2),(b8,3, #[.int .i64 z]),(b11,25,setC r)] ++ LJ2) ([(177,0, .map (some mb),0,mapXs ekV evS M),(178,0, .map (some cb),0,mapXs ekV evN C2)] ++ RJ2) W') := hide hP0
      clear hP0
      try dsimp only
      repeat ((fail_if_success (with_reducible refine wp_reg (id := 17) ?_)); (first | go_values | go_skip | go_step | go_guarded | go_upon | go_in | go_back | fail))
      with_reducible refine wp_reg (id := 17) ?_
      refine wpO_want rfl ?_
      go_simp
      refine wpO_val rfl (load_V (v := .int .i64 z) rfl rfl (by simp [go_sem]) (((unhide hP).get 4 rfl).cell 0)) ?_
      go_frame
      refine wpO_val rfl (load_SetR (N := r) rfl rfl ((unhide hP).get 5 rfl).whole) ?_
      try go_frame
      refine wpO_want rfl ?_
      go_simp
      have hca := (unhide ht').step told (z,r) LJ2 RJ2 W' (unhide hJ) ((unhide hok') z (unhide hNV z (unhide hzN'))) (unhide htl) (unhide hP).extf ((unhide hP).st.sub (List.sublist_append_right _ _) (List.sublist_append_right _ _))
      refine hca.mono ?_
      clear hca
      rintro _ y49 ⟨rfl,LJ3,RJ3,hJ3,hs9,hk9,ht9⟩
      replace hP : Hid (Sp wf T0 w ds3 ([(bg,26, #[.pointer og]),(bn,177, #[.map (some mb)]),(bc,178, #[.map (some cb)]),(bt,25,setC N2),(b8,3, #[.int .i64 z]),(b11,25,setC r)] ++ LJ3) ([(177,0, .map (some mb),0,mapXs ekV evS M),(178,0, .map (some cb),0,mapXs ekV evN C2)] ++ RJ3) y49) := hide (Sp.frameR (L2 := ([(bg,26, #[.pointer og]),(bn,177, #[.map (some mb)]),(bc,178, #[.map (some cb)]),(bt,25,setC N2),(b8,3, #[.int .i64 z]),(b11,25,setC r)] : List Cl)) (R2 := ([(177,0, .map (some mb),0,mapXs ekV evS M),(178,0, .map (some cb),0,mapXs ekV evN C2)] : List Rw)) (unhide hP) hs9 hk9 ht9)
      have hJ3' := hide hJ3
      clear hs9 hk9 ht9 hJ3
      refine ⟨_,rfl, ?_⟩
      try go_frame
      refine wpO_done ?_
      try go_frame
      replace hP : Hid (Sp wf T0 w ds3 ([(bg,26, #[.pointer og]),(bn,177, #[.map (some mb)]),(bc,178, #[.map (some cb)]),(bt,25,setC N2),(b8,3, #[.int .i64 z])] ++ LJ3) ([(177,0, .map (some mb),0,mapXs ekV evS M),(178,0, .map (some cb),0,mapXs ekV evN C2)] ++ RJ3) y49) := hide ((unhide hP).sub ((List.sublist_append_left ([(bg,26, #[.pointer og]),(bn,177, #[.map (some mb)]),(bc,178, #[.map (some cb)]),(bt,25,setC N2),(b8,3, #[.int .i64 z])] : List Cl) ([(b11,25,setC r)] : List Cl)).append (List.Sublist.refl _)) (List.Sublist.refl _))
      replace hP : Hid (Sp wf T0 w ds3 ([(bg,26, #[.pointer og]),(bn,177, #[.map (some mb)]),(bc,178, #[.map (some cb)]),(bt,25,setC N2)] ++ LJ3) ([(177,0, .map (some mb),0,mapXs ekV evS M),(178,0, .map (some cb),0,mapXs ekV evN C2)] ++ RJ3) y49) := hide ((unhide hP).sub ((List.sublist_append_left ([(bg,26, #[.pointer og]),(bn,177, #[.map (some mb)]),(bc,178, #[.map (some cb)]),(bt,25,setC N2)] : List Cl) ([(b8,3, #[.int .i64 z])] : List Cl)).append (List.Sublist.refl _)) (List.Sublist.refl _))
      go_wp2_with fail
      refine ⟨(toL N2).length, ?_,by rw [unhide hfm']; exact unhide hltn'⟩
      rw [unhide hI18_4]
      exact ⟨N2,C2,told ++ [(z,r)],LJ3,RJ3,(by first | rfl | trivial),(by first | rfl | trivial),(by first | rfl | trivial),(by first | rfl | trivial),(by first | rfl | trivial),(by first | rfl | trivial),unhide hSn',unhide hJ3',(fun x hx => unhide hNV x (by rw [unhide hN2] at hx; exact (mem_without.1 hx).1)),unhide hC2k,(fun x => by rw [List.length_append]; exact unhide hC2b x),unhide hdD,unhide hP,rfl⟩
     ·intro D c L' Rs' W' h
      exact h.elim
    ·intro D c L' Rs' W' h
     exact h.elim
 ·intro D c L' Rs' W' h
  exact h.elim
end Go.Proofs.YtmokciekndllpaaGreatDoor
