/- Parts of a proof, laid together. Each part says its own conditions. -/
import Derived.Test.YtoacpebmhbkmbaaGreatDoorT27
import Derived.Test.YtoacpebmhbkmbaaGreatDoorT31
import Derived.Test.YtoacpebmhbkmbaaGreatDoorT32
namespace Go.Proofs.YtoacpebmhbkmbaaGreatDoor
open Go Go.RowKit Go.Shelf
abbrev Sl := Option Addr × Nat × Nat
def slV (p : Sl) : Value := .slice p.1 p.2.1 p.2.2
def encSl (p : Sl) : List Value := [.slice p.1 p.2.1 p.2.2]
theorem one_encSl (p : Sl) : ∀ v ∈ encSl p,v.oneCell' = true := by intro v hv; simp [encSl] at hv; subst hv; rfl
def rowJ (p : Sl × List Int) : Rw := (3,1, .slice p.1.1 p.1.2.1 p.1.2.2,p.1.2.1,p.2.flatMap encI)
theorem Sp.rowsJ {wf w W : World} {T0 : List Nat} {ds : List Deferred} {L : List Cl} {J : List (Sl × List Int)} (h : Sp wf T0 w ds L (J.map rowJ) W) {p : Sl × List Int} (hp : p ∈ J) (hl : p.1.2.1 = p.2.length) : SlAt encI 1 W p.1.1 p.2 := by
 obtain ⟨k,hk,rfl⟩ := List.getElem_of_mem hp
 have h1 := h.row k (T := 3) (k := 1) (v := .slice J[k].1.1 J[k].1.2.1 J[k].1.2.2) (n := J[k].1.2.1) (xs := J[k].2.flatMap encI) (by rw [List.getElem?_map,List.getElem?_eq_getElem hk]; rfl)
 rw [hl] at h1
 exact own_at (enc := encI) h1 (fun _ => rfl)
theorem flat_hdr {α : Type} (J : List (Sl × α)) : (J.map (·.1)).flatMap encSl = J.flatMap fun p => [slV p.1] := by
 induction J with
 | nil => rfl
 | cons p J ih => rw [List.map_cons,List.flatMap_cons,List.flatMap_cons,ih]; rfl
theorem joinRow (J : List (Sl × List Int)) (p : Sl × List Int) : J.map rowJ ++ [rowJ p] = (J ++ [p]).map rowJ := by rw [List.map_append]; rfl
theorem joinHdr {α : Type} (J : List (Sl × α)) (p : Sl × α) : (J.map (·.1)) ++ [p.1] = (J ++ [p]).map (·.1) := by rw [List.map_append]; rfl
end Go.Proofs.YtoacpebmhbkmbaaGreatDoor
namespace Go.Proofs.YtoacpebmhbkmbaaGreatDoor
open Go Go.RowKit Go.Shelf
attribute [local go_sem] qUpon lUpon
attribute [local irreducible] wpO wpX wpQL
def clqS (near : Int → Int → Bool) (L : List Int) (x : Int) : List Int := x :: cliS near 1025 (L.filter (near x))
def longS (KK : List (List Int)) : List Int := match KK with
 | [] => []
 | a :: l => l.foldl (fun m x => if m.length < x.length then x else m) a
def grcS (near : Int → Int → Bool) (L : List Int) : List Int := longS (L.map (clqS near L))
def grcL (near : Int → Int → Bool) (L : List Int) : List Int := L.filter fun x => decide (x ∈ grcS near L)
theorem fold_mem {α : Type} (f : α → α → α) (hf : ∀ a b,f a b = a ∨ f a b = b) : ∀ (l : List α) (a : α),l.foldl f a ∈ a :: l
 | [],a => by simp
 | x :: l,a => by
  rw [List.foldl_cons]
  have h := fold_mem f hf l (f a x)
  rcases List.mem_cons.1 h with h | h
  ·rw [h]
   rcases hf a x with e | e <;> rw [e] <;> simp
  ·simp [h]
theorem longS_mem {KK : List (List Int)} (h : KK ≠ []) : longS KK ∈ KK := by
 cases KK with
 | nil => exact absurd rfl h
 | cons a l => exact fold_mem _ (fun a b => by split <;> simp) l a
theorem clqS_nodup {m : List (Int × Nat)} {L : List Int} {near : Int → Int → Bool} (h : Rep m L near) {x : Int} : (clqS near L x).Nodup := by
 unfold clqS
 refine List.nodup_cons.2 ⟨fun hm => ?_, ?_⟩
 ·have := (List.mem_filter.1 (cliS_mem _ _ x hm)).2
  rw [h.irr] at this
  cases this
 ·exact (cliS_pair _ _).imp fun {a b} hab e => by rw [e,h.irr] at hab; cases hab
theorem clqS_sub {near : Int → Int → Bool} {L : List Int} {x : Int} (hx : x ∈ L) : ∀ y ∈ clqS near L x,y ∈ L := fun y hy => by
 unfold clqS at hy
 rcases List.mem_cons.1 hy with rfl | hy
 ·exact hx
 ·exact (List.mem_filter.1 (cliS_mem _ _ y hy)).1
theorem grcS_in {near : Int → Int → Bool} {L : List Int} (h : L ≠ []) : ∃ x ∈ L,grcS near L = clqS near L x := by
 have h1 := longS_mem (KK := L.map (clqS near L)) (by simpa using h)
 obtain ⟨x,hx,e⟩ := List.mem_map.1 h1
 exact ⟨x,hx,e.symm⟩
theorem grc_perm {m : List (Int × Nat)} {L : List Int} {near : Int → Int → Bool} (h : Rep m L near) (hne : L ≠ []) : (grcS near L).Perm (grcL near L) := by
 obtain ⟨x,hx,e⟩ := grcS_in (near := near) hne
 refine (List.perm_ext_iff_of_nodup (by rw [e]; exact clqS_nodup h) (h.nodup.filter _)).2 fun y => ?_
 rw [List.mem_filter,decide_eq_true_eq]
 exact ⟨fun hy => ⟨by rw [e] at hy; exact clqS_sub hx y hy,hy⟩,fun hy => hy.2⟩
theorem LeastIs.long {J : List (Sl × List Int)} {p : Sl × List Int} (hl : ∀ q ∈ J,q.1.2.1 = q.2.length) (h : LeastIs (fun q : Sl × List Int => -((q.1.2.1 : Nat) : Int)) J p) : p.2 = longS (J.map (·.2)) := by
 obtain ⟨a,h1,rfl⟩ := h
 cases J with
 | nil => cases h1
 | cons b l =>
  injection h1 with h1
  subst h1
  have h0 : pf (fun q : Sl × List Int => -((q.1.2.1 : Nat) : Int)) b b = b := by unfold pf; split <;> rfl
  rw [List.foldl_cons,h0]
  have key : ∀ (l : List (Sl × List Int)) (a : Sl × List Int),a.1.2.1 = a.2.length → (∀ q ∈ l,q.1.2.1 = q.2.length) → (l.foldl (pf fun q : Sl × List Int => -((q.1.2.1 : Nat) : Int)) a).2 = (l.map (·.2)).foldl (fun m x => if m.length < x.length then x else m) a.2 := by
   intro l
   induction l with
   | nil => intro a _ _; rfl
   | cons x l ih =>
    intro a ha hx
    rw [List.foldl_cons,List.map_cons,List.foldl_cons]
    have hxl := hx x (by simp)
    have e : pf (fun q : Sl × List Int => -((q.1.2.1 : Nat) : Int)) a x = if a.2.length < x.2.length then x else a := by
     unfold pf
     rw [← ha, ← hxl]
     by_cases h : a.1.2.1 < x.1.2.1
     ·rw [if_pos h,if_pos (show -((x.1.2.1 : Nat) : Int) < -((a.1.2.1 : Nat) : Int) by omega)]
     ·rw [if_neg h,if_neg (show ¬ -((x.1.2.1 : Nat) : Int) < -((a.1.2.1 : Nat) : Int) by omega)]
    rw [e]
    by_cases h : a.2.length < x.2.length
    ·rw [if_pos h,if_pos h]
     exact ih x hxl (fun q hq => hx q (by simp [hq]))
    ·rw [if_neg h,if_neg h]
     exact ih a ha (fun q hq => hx q (by simp [hq]))
  exact key l b (hl b (by simp)) (fun q hq => hl q (by simp [hq]))
theorem infoSl : (Tryz.prog.info? 30).map (fun i => (i.zero.map (·.cells.size),i.size,i.bytes)) = some (some 1,1,24) := by kernel_rfl
theorem run_buildSl {ρ : Operand → Value} {o : Oper} {x : Operand} {w : World} {a : Option Addr} {n c : Nat} (ho : o.op = .buildSlice 111 1 #[(0,x)]) (hx : ρ x = .slice a n c) : (execOp ρ o).run Tryz.prog w = .ok (.value (.slice (some ⟨w.heap.size,0,none⟩) 1 1)) (w.alloc (.cells #[.slice a n c] 30)) := by
 unfold execOp
 simp only [ho]
 simp [go_sem,hx]
theorem neglen_key (J : List (Sl × List Int)) (hl : ∀ q ∈ J,q.1.2.1 ≤ 100000) (w : World) : KeyF (fun p : Sl × List Int => slV p.1) (fun p : Sl × List Int => -((p.1.2.1 : Nat) : Int)) J 68 #[] #[] w :=
 ⟨Go.Proofs.enters_of Tryz.func68 (by kernel_rfl) rfl,fun W hW p hp args ha => by
  obtain ⟨⟨A,n,c⟩,xs⟩ := p
  have hn := hl _ hp
  simp only at hn
  rw [ha]
  show Calls Tryz.prog 68 #[.slice A n c] W _
  have hw1 : IntKind.i64.wrap (-(n : Int)) = -(n : Int) := IntWalk.i64_in _ (by omega)
  go_enter Tryz.func68,Tryz.ntmps68
  go_wp2_with fail
  go_ret
  exact ⟨by first | rfl | (rw [hw1]) | simp [hw1],Ext.refl _⟩⟩
theorem cliM_rep {m : List (Int × Nat)} {L : List Int} {near : Int → Int → Bool} (h : Rep m L near) {x : Int} (hx : x ∈ L) : x :: cliM m 1025 (nrM m x) = clqS near L x := by
 unfold clqS
 rw [h.cli 1025 (nrM m x) _ (h.nb x hx) (fun y hy => (List.mem_filter.1 hy).1)]
theorem clqS_len {m : List (Int × Nat)} {L : List Int} {near : Int → Int → Bool} (h : Rep m L near) {x : Int} (hx : x ∈ L) : (clqS near L x).length ≤ 1024 := Nat.le_trans (len_sub _ _ (clqS_nodup h) (clqS_sub hx)) h.le
set_option maxRecDepth 100000 in
set_option maxHeartbeats 16000000 in
theorem greedy_any (og : Option Addr) (V : List (Int × Thing)) (E : List ((Int × Int) × Thing)) (w : World) (hg : GL w og V E) (hi : GInv V E) (hT : Tab w) :
  Calls Tryz.prog 22 #[.pointer og] w (OwL w (grcL (nr0 E) (toL (vS V)))) := by
 have hg' := hide hg
 have hT' := hide hT
 have hR0 := rep_of hi
 obtain ⟨L,hL00⟩ : ∃ L,L = toL (vS V) := ⟨_,rfl⟩
 obtain ⟨near,hnear⟩ : ∃ near,near = nr0 E := ⟨_,rfl⟩
 obtain ⟨m,hm00⟩ : ∃ m,m = m0 E L := ⟨_,rfl⟩
 rw [← hL00, ← hnear, ← hm00] at hR0
 rw [← hL00, ← hnear]
 have hMe := hide (show m0 E (toL (vS V)) = m by rw [hm00,hL00])
 have hR0' := hide hR0
 clear hg hT hi hL00 hnear hm00 hR0
 obtain ⟨R,hRR⟩ : ∃ R,R = grcL near L := ⟨_,rfl⟩
 rw [← hRR]
 have hRR' := hide hRR
 clear hRR
 have hP := hide (Sp.new w)
 refine callsIn_wide.1 (callsIn_of_wp_marks (n := 0) Tryz.func22 rfl trivial (wpIn_wide.2 ?_))
 simp only [Tryz.ntmps22,List.size_toArray,List.length_cons,List.length_nil,Nat.reduceAdd,Nat.reduceSub,Array.replicate_succ,Array.replicate_zero,List.push_toArray,List.append_toArray,List.nil_append,List.cons_append]
 try dsimp only
 repeat ((fail_if_success (with_reducible refine wp_reg (id := 1) ?_)); (first | go_values | go_skip | go_step | go_guarded | go_upon | go_in | go_back | fail))
 with_reducible refine wp_reg (id := 1) ?_
 refine wpO_want rfl ?_
 go_simp
 refine wpO_want rfl ?_
 go_simp
 have hca := of_adj og V E w ((unhide hg').ext (unhide hP).extf) ((unhide hT').ext (unhide hP).extf)
 rw [unhide hMe] at hca
 have htl := ((unhide hT').ext (unhide hP).extf).lt
 refine hca.mono ?_
 clear hca
 rintro _ y1 ⟨mb,rfl,hge,hm,hxc⟩
 have htb := hide (show 0 < mb from Nat.lt_of_lt_of_le htl hge)
 refine ⟨_,rfl, ?_⟩
 replace hP : Hid (Sp w [] w [] [] [(98,0, .map (some mb),0,mapXs ekV evS m)] y1) := hide ((unhide hP).addMap hxc hge hm.raw 98 0)
 clear htl hge hm hxc
 refine wpO_want rfl ?_
 go_simp
 refine wpO_done ?_
 try go_frame
 have hR := hR0'
 obtain ⟨nL,hnL0⟩ : ∃ nL,nL = L.length := ⟨_,rfl⟩
 have hnL := hide hnL0.symm
 have hml := hide (show m.length = nL by rw [hnL0]; exact (unhide hR).len)
 clear hnL0
 by_cases hl0 : 0 < nL
 ·have hil : ((nL : Int) == 0) = false := by simp; omega
  have hl0' := hide hl0
  have hne := hide (show L ≠ [] by rintro rfl; have := unhide hnL; simp at this; omega)
  have hlb := hide (show nL ≤ 1024 by have := (unhide hR).le; have := unhide hnL; omega)
  clear hl0
  try dsimp only
  repeat ((fail_if_success (with_reducible refine wp_reg (id := 2) ?_)); (first | go_values | go_skip | go_step | go_guarded | go_upon | go_in | go_back | fail))
  with_reducible refine wp_reg (id := 2) ?_
  refine wpO_want rfl ?_
  go_simp
  refine wpO_val rfl (run_mlen_op Tryz.underlying98 ((unhide hP).map 0 (m := m) (ek := ekV) (ev := evS) (ok := i64ok) rfl ((unhide hR).ok)) rfl rfl) ?_
  rw [unhide hml]
  go_frame
  refine wpO_want rfl ?_
  go_simp
  refine wpO_done ?_
  try go_frame
  try dsimp only
  repeat ((fail_if_success (with_reducible refine wp_reg (id := 4) ?_)); (first | go_values | go_skip | go_step | go_guarded | go_upon | go_in | go_back | fail))
  with_reducible refine wp_reg (id := 4) ?_
  refine wpO_want rfl ?_
  go_simp
  refine wpO_done ?_
  try go_frame
  clear hil
  replace hP : Hid (Sp w [] w [] [] [(98,0, .map (some mb),0,mapXs ekV evS m),(30,1, .slice none 0 0,0,(([] : List (Sl × List Int)).map (·.1)).flatMap encSl)] y1) := hide ((unhide hP).nil 30 1)
  try dsimp only
  repeat ((fail_if_success (with_reducible refine wp_reg (id := 5) ?_)); (first | go_values | go_skip | go_step | go_guarded | go_upon | go_in | go_back | fail))
  with_reducible refine wp_reg (id := 5) ?_
  refine wpO_want rfl ?_
  go_simp
  refine wpO_want rfl ?_
  go_simp
  have hca := left_any mb m L y1 ((unhide hP).map 0 rfl (unhide hR).ok) (unhide hR).keys (unhide hR).sorted (by have := (unhide hR).le; omega)
  refine hca.mono ?_
  clear hca
  rintro _ y2 ⟨AL,cL,rfl,ho,hxc⟩
  rw [unhide hnL] at ho
  rw [unhide hnL]
  refine ⟨_,rfl, ?_⟩
  replace hP : Hid (Sp w [] w [] [] [(98,0, .map (some mb),0,mapXs ekV evS m),(30,1, .slice none 0 0,0,(([] : List (Sl × List Int)).map (·.1)).flatMap encSl),(3,1, .slice AL nL cL,nL,L.flatMap encI)] y2) := hide ((unhide hP).addRow hxc ho)
  clear ho hxc
  obtain ⟨bL,oL,rfl,_⟩ := sl1_some (own_at (enc := encI) (A := AL) (c := cL) (xs := L) (by have h := (unhide hP).row 2 rfl; rw [← unhide hnL] at h; exact h) (fun _ => rfl)) (by have := unhide hl0'; have := unhide hnL; omega)
  iterate 2
   refine wpO_want rfl ?_
   go_simp
  refine wpO_done ?_
  try go_frame
  go_wp2_with fail
  obtain ⟨I2_4,hI2_40⟩ : ∃ I : Nat → Act → World → Prop,I = fun fi a' wr => ∃ (i : Nat), ∃ (A4 : Option Addr), ∃ (c4 : Nat), ∃ (J : List (Sl × List Int)),a'.tmps.size = 30 ∧ a'.tmps.getD 3 undef = .map (some mb) ∧ a'.tmps.getD 4 undef = .slice A4 i c4 ∧ a'.tmps.getD 13 undef = .slice (some ⟨bL,oL,none⟩) nL cL ∧ a'.tmps.getD 14 undef = .int .i64 (nL : Nat) ∧ a'.tmps.getD 15 undef = .int .i64 (i : Nat) ∧ a'.defers = [] ∧ i ≤ nL ∧ J.length = i ∧ J.map (·.2) = (L.take i).map (clqS near L) ∧ (∀ p ∈ J,p.1.2.1 = p.2.length) ∧ Sp w [] w [] [] ([(98,0, .map (some mb),0,mapXs ekV evS m),(30,1, .slice A4 i c4,i,(J.map (·.1)).flatMap encSl),(3,1, .slice (some ⟨bL,oL,none⟩) nL cL,nL,L.flatMap encI)] ++ (J.map rowJ)) wr ∧ fi = nL - i := ⟨_,rfl⟩
  have hI2_4 := hide hI2_40
  clear hI2_40
  refine wp_loop_ix I2_4 (nL - 0) ?_ ?_
  ·rw [unhide hI2_4]; exact ⟨0,none,0,[],rfl,rfl,rfl,rfl,rfl,rfl,rfl,Nat.zero_le _,rfl,rfl,by simp,unhide hP,rfl⟩
  ·rintro fi ⟨tm,dfs⟩ wr hrel
   rw [unhide hI2_4] at hrel
   obtain ⟨i,A4,c4,J,hsz,e3,e4,e13,e14,e15,hdf,hin,hJl,hJ2,hJ3,hPr,hfm⟩ := hrel
   obtain ⟨us,rfl⟩ : ∃ us : Nat → Value,tm = #[us 0,us 1,us 2,us 3,us 4,us 5,us 6,us 7,us 8,us 9,us 10,us 11,us 12,us 13,us 14,us 15,us 16,us 17,us 18,us 19,us 20,us 21,us 22,us 23,us 24,us 25,us 26,us 27,us 28,us 29] := ⟨fun i => tm.getD i undef,arr_fn hsz⟩
   have h3 : us 3 = .map (some mb) := e3
   have h4 : us 4 = .slice A4 i c4 := e4
   have h13 : us 13 = .slice (some ⟨bL,oL,none⟩) nL cL := e13
   have h14 : us 14 = .int .i64 (nL : Nat) := e14
   have h15 : us 15 = .int .i64 (i : Nat) := e15
   have hdf2 : dfs = [] := hdf
   subst hdf2
   clear hdf hsz e3 e4 e13 e14 e15
   simp only [h3,h4,h13,h14,h15]
   clear h3 h4 h13 h14 h15
   clear hP
   have hP := hide hPr
   have hJl' := hide hJl
   have hJ2' := hide hJ2
   have hJ3' := hide hJ3
   have hfm' := hide hfm
   clear hPr hJl hJ2 hJ3 hfm
   by_cases hlt : i < nL
   ·have hil : (i : Int) < (nL : Int) := by omega
    have hk2 := hide hlt
    have hkL : i < L.length := by have := unhide hnL; omega
    have hkb : (i : Int) ≤ 1024 := by have := unhide hlb; omega
    have hst : (L.take (i + 1)).map (clqS near L) = (L.take i).map (clqS near L) ++ [clqS near L L[i]] := by rw [List.take_succ_eq_append_getElem hkL,List.map_append]; rfl
    have hyL := hide (show L[i] ∈ L from List.getElem_mem _)
    have c0 := slE (own_at (enc := encI) (A := some ⟨bL,oL,none⟩) (c := cL) (xs := L) (by have h := (unhide hP).row 2 rfl; rw [← unhide hnL] at h; exact h) (fun _ => rfl)) hkL
    obtain ⟨y,hy⟩ : ∃ y,y = L[i] := ⟨_,rfl⟩
    rw [← hy] at c0 hst hyL
    obtain ⟨K,hK⟩ : ∃ K,K = clqS near L y := ⟨_,rfl⟩
    rw [← hK] at hst
    obtain ⟨nC,hnC⟩ : ∃ nC,nC = K.length := ⟨_,rfl⟩
    have hK' := hide hK
    have hnC' := hide hnC
    have hst' := hide hst
    have hcm := hide (show y :: cliM m 1025 (nrM m y) = K by rw [hK]; exact cliM_rep (unhide hR) (unhide hyL))
    clear hlt hin hst hy hK hnC hkL
    have hself := Ext.refl wr
    try dsimp only
    repeat ((fail_if_success (with_reducible refine wp_reg (id := 6) ?_)); (first | go_values | go_skip | go_step | go_guarded | go_upon | go_in | go_back | fail))
    with_reducible refine wp_reg (id := 6) ?_
    refine wpO_want rfl ?_
    go_simp
    refine wpO_done ?_
    try go_frame
    try dsimp only
    repeat ((fail_if_success (with_reducible refine wp_reg (id := 7) ?_)); (first | go_values | go_skip | go_step | go_guarded | go_upon | go_in | go_back | fail))
    with_reducible refine wp_reg (id := 7) ?_
    iterate 3
     refine wpO_want rfl ?_
     go_simp
    clear c0 hself
    refine wpO_done ?_
    try go_frame
    try dsimp only
    repeat ((fail_if_success (with_reducible refine wp_reg (id := 8) ?_)); (first | go_values | go_skip | go_step | go_guarded | go_upon | go_in | go_back | fail))
    with_reducible refine wp_reg (id := 8) ?_
    iterate 3
     refine wpO_want rfl ?_
     go_simp
    refine wpO_want rfl ?_
    go_simp
    have hca := clique_adj mb m y wr ((unhide hP).map 0 rfl (unhide hR).ok) ((unhide hR).okx (unhide hyL)) ((unhide hT').ext (unhide hP).extf) (unhide hR).irrM
    rw [unhide hcm] at hca
    refine hca.mono ?_
    clear hca
    rintro _ y3 ⟨AC,cC,rfl,ho,hxc⟩
    rw [← unhide hnC'] at ho
    rw [← unhide hnC']
    refine ⟨_,rfl, ?_⟩
    replace hP : Hid (Sp w [] w [] [] ([(98,0, .map (some mb),0,mapXs ekV evS m),(30,1, .slice A4 i c4,i,(J.map (·.1)).flatMap encSl),(3,1, .slice (some ⟨bL,oL,none⟩) nL cL,nL,L.flatMap encI)] ++ (J.map rowJ ++ [rowJ ((AC,nC,cC),K)])) y3) := hide (by have h := (unhide hP).addRow hxc ho; simp only [List.append_assoc] at h; exact h)
    clear ho hxc
    refine (unhide hP).build1O 30 #[.slice AC nC cC] rfl (run_buildSl rfl rfl) ?_
    intro bb y4 hQ
    replace hP : Hid (Sp w [] w [] [(bb,30, #[.slice AC nC cC])] ([(98,0, .map (some mb),0,mapXs ekV evS m),(30,1, .slice A4 i c4,i,(J.map (·.1)).flatMap encSl),(3,1, .slice (some ⟨bL,oL,none⟩) nL cL,nL,L.flatMap encI)] ++ (J.map rowJ ++ [rowJ ((AC,nC,cC),K)])) y4) := hide hQ
    clear hQ
    go_frame
    refine (unhide hP).ap1O (enc := encSl) (T := 30) (ST := 111) 1 (v := .slice A4 i c4) (m := i) (xs := J.map (·.1)) rfl rfl infoSl Tryz.underlying111 one_encSl (fun _ => rfl) (by decide) (by decide) rfl (AC,nC,cC) rfl rfl ((unhide hP).get 0 rfl) (by omega) ?_
    intro A7 cA7 y5 hQ
    replace hP : Hid (Sp w [] w [] [(bb,30, #[.slice AC nC cC])] ([(98,0, .map (some mb),0,mapXs ekV evS m),(30,1, .slice A7 (i + 1) cA7,i + 1,(J.map (·.1) ++ [(AC,nC,cC)]).flatMap encSl),(3,1, .slice (some ⟨bL,oL,none⟩) nL cL,nL,L.flatMap encI)] ++ (J.map rowJ ++ [rowJ ((AC,nC,cC),K)])) y5) := hide hQ
    clear hQ
    try go_frame
    refine wpO_want rfl ?_
    go_simp
    refine wpO_done ?_
    try go_frame
    replace hP : Hid (Sp w [] w [] [] ([(98,0, .map (some mb),0,mapXs ekV evS m),(30,1, .slice A7 (i + 1) cA7,i + 1,(J.map (·.1) ++ [(AC,nC,cC)]).flatMap encSl),(3,1, .slice (some ⟨bL,oL,none⟩) nL cL,nL,L.flatMap encI)] ++ (J.map rowJ ++ [rowJ ((AC,nC,cC),K)])) y5) := hide ((unhide hP).sub (List.sublist_append_left _ ([(bb,30, #[.slice AC nC cC])] : List Cl)) (List.Sublist.refl _))
    replace hP : Hid (Sp w [] w [] [] ([(98,0, .map (some mb),0,mapXs ekV evS m),(30,1, .slice A7 (i + 1) cA7,i + 1,((J ++ [((AC,nC,cC),K)]).map (·.1)).flatMap encSl),(3,1, .slice (some ⟨bL,oL,none⟩) nL cL,nL,L.flatMap encI)] ++ ((J ++ [((AC,nC,cC),K)]).map rowJ)) y5) := hide (by have h := unhide hP; rw [← joinHdr, ← joinRow]; exact h)
    have hw1 : IntKind.i64.wrap ((i : Int) + 1) = (i : Int) + 1 := IntWalk.i64_in _ (by omega)
    go_wp2_with fail
    have h1 := unhide hk2
    refine ⟨nL - (i + 1), ?_,by have := unhide hfm'; omega⟩
    rw [unhide hI2_4]
    exact ⟨i + 1,A7,cA7,J ++ [((AC,nC,cC),K)],(by first | rfl | trivial),(by first | rfl | trivial),(by first | rfl | trivial),(by first | rfl | trivial),(by first | rfl | trivial),(by first | rfl | (show _ = Value.int _ _; go_num) | go_num),(by first | rfl | trivial),by omega,by rw [List.length_append,unhide hJl']; rfl,by rw [List.map_append,unhide hJ2',unhide hst']; rfl,(fun p hp => by rcases List.mem_append.1 hp with hp | hp; exact unhide hJ3' p hp; rw [List.mem_singleton] at hp; subst hp; exact unhide hnC'),unhide hP,rfl⟩
   ·have hil : ¬ (i : Int) < (nL : Int) := by omega
    obtain rfl : i = nL := by omega
    have hJ4 := hide (show J.map (·.2) = L.map (clqS near L) by rw [unhide hJ2',List.take_of_length_le (by have := unhide hnL; omega)])
    have hJ5 := hide (show ∀ q ∈ J,q.1.2.1 ≤ 100000 from fun q hq => by
     rw [unhide hJ3' q hq]
     have hm : q.2 ∈ J.map (·.2) := List.mem_map.2 ⟨q,hq,rfl⟩
     rw [unhide hJ4] at hm
     obtain ⟨x,hx,e⟩ := List.mem_map.1 hm
     rw [← e]
     have := clqS_len (unhide hR) hx
     omega)
    clear hlt hin hJ2' hfm'
    try dsimp only
    repeat ((fail_if_success (with_reducible refine wp_reg (id := 6) ?_)); (first | go_values | go_skip | go_step | go_guarded | go_upon | go_in | go_back | fail))
    with_reducible refine wp_reg (id := 6) ?_
    refine wpO_want rfl ?_
    go_simp
    refine wpO_done ?_
    try go_frame
    clear hil
    try dsimp only
    repeat ((fail_if_success (with_reducible refine wp_reg (id := 10) ?_)); (first | go_values | go_skip | go_step | go_guarded | go_upon | go_in | go_back | fail))
    with_reducible refine wp_reg (id := 10) ?_
    refine wpO_want rfl ?_
    go_simp
    refine wpO_want rfl ?_
    go_simp
    have hls := hide (show SlAt (fun p : Sl × List Int => [slV p.1]) 1 wr A4 J from own_at (enc := fun p : Sl × List Int => [slV p.1]) (c := c4) (by have h := (unhide hP).row 1 rfl; rw [flat_hdr, ← unhide hJl'] at h; exact h) (fun _ => rfl))
    have hca := least2_any (fun p : Sl × List Int => slV p.1) (fun p : Sl × List Int => -((p.1.2.1 : Nat) : Int)) A4 J i c4 68 #[] #[] wr (unhide hls) (unhide hJl').symm (unhide hl0') (by have := unhide hlb; omega) (neglen_key J (unhide hJ5) _)
    refine hca.mono ?_
    clear hca hls
    rintro _ y3 ⟨p,hp,rfl,hxc⟩
    have hpJ := hide hp.mem
    have hpl := hide (hp.long (unhide hJ3'))
    have hpn := hide (unhide hJ3' p hp.mem)
    refine ⟨_,rfl, ?_⟩
    replace hP : Hid (Sp w [] w [] [] ([(98,0, .map (some mb),0,mapXs ekV evS m),(30,1, .slice A4 i c4,i,(J.map (·.1)).flatMap encSl),(3,1, .slice (some ⟨bL,oL,none⟩) i cL,i,L.flatMap encI)] ++ (J.map rowJ)) y3) := hide ((unhide hP).ext hxc)
    obtain ⟨⟨Ap,np,cp⟩,xs⟩ := p
    try simp only [slV]
    try simp only at hpl
    try simp only at hpn
    clear hp hxc
    refine wpO_want rfl ?_
    go_simp
    refine (values_any Ap np cp y3).mono ?_
    rintro _ yv ⟨rfl,rfl⟩
    refine ⟨_,rfl, ?_⟩
    try go_frame
    obtain ⟨bv,hbv⟩ : ∃ b,b = y3.heap.size := ⟨_,rfl⟩
    have hQ := (unhide hP).alloc 30 #[.slice Ap np cp]
    rw [← hbv] at hQ ⊢
    generalize y3.alloc (.cells #[.slice Ap np cp] 30) = y4 at hQ ⊢
    replace hP : Hid (Sp w [] w [] [(bv,30, #[.slice Ap np cp])] ([(98,0, .map (some mb),0,mapXs ekV evS m),(30,1, .slice A4 i c4,i,(J.map (·.1)).flatMap encSl),(3,1, .slice (some ⟨bL,oL,none⟩) i cL,i,L.flatMap encI)] ++ (J.map rowJ)) y4) := hide hQ
    clear hQ hbv
    refine wpO_want rfl ?_
    go_simp
    have hxs := hide (((unhide hP).sub (L' := []) (List.nil_sublist _) (List.sublist_append_right _ (J.map rowJ))).rowsJ (unhide hpJ) (unhide hpn))
    have hxl : xs.length ≤ 100000 := by have h := unhide hJ5 _ (unhide hpJ); have h2 := unhide hpn; simp only at h h2; omega
    have hxe : xs = grcS near L := by rw [unhide hpl,unhide hJ4]; rfl
    have hpe : xs.Perm R := by rw [hxe,unhide hRR']; exact grc_perm (unhide hR) (unhide hne)
    have hRs : R.Pairwise (· < ·) := by rw [unhide hRR']; exact filter_sorted (unhide hR).sorted
    have hxs1 : SlAt encI 1 y4 Ap xs := unhide hxs
    have hbv1 := (unhide hP).get 0 rfl
    have hca := sorted_any 115 #[.pointer (some ⟨bv,0,none⟩)] xs 0 (bv :: exV Ap xs) y4 (vals_iter Ap xs np cp bv y4 hbv1 hxs1 (unhide hpn) (by have := unhide hpn; omega)) (fun b hb => by
     rcases List.mem_cons.1 hb with rfl | hb
     ·exact hbv1.lt
     ·exact exV_lt hxs1 b hb) (enters_of Tryz.func115 (by kernel_rfl) rfl) hxl R hpe hRs
    clear hxs hxl hxe hpe hRs hxs1 hbv1
    obtain ⟨nR,hnR⟩ : ∃ nR,nR = R.length := ⟨_,rfl⟩
    have hnR' := hide hnR
    refine hca.mono ?_
    clear hca hnR
    replace hP := hide ((unhide hP).sub (L' := []) (Rs' := []) (List.nil_sublist _) (List.nil_sublist _))
    rintro _ y5 ⟨AR,cR,rfl,ho,hxc⟩
    rw [← unhide hnR'] at ho
    rw [← unhide hnR']
    refine ⟨_,rfl, ?_⟩
    replace hP : Hid (Sp w [] w [] [] [(3,1, .slice AR nR cR,nR,R.flatMap encI)] y5) := hide ((unhide hP).addRow hxc ho)
    clear ho hxc
    refine wpO_want rfl ?_
    go_simp
    refine wpO_done ?_
    try go_frame
    go_wp2_with fail
    refine Sp.leaves0 ?_
    exact ⟨_,results_tmp (t := 2) rfl _ _ _,OwL.mk (unhide hnR') ((unhide hP).row 0 rfl) (unhide hP).extf⟩
 ·have hil : ((nL : Int) == 0) = true := by simp; omega
  have hRn := hide (show R = [] by rw [unhide hRR',List.eq_nil_of_length_eq_zero (l := L) (by have := unhide hnL; omega)]; rfl)
  clear hl0
  try dsimp only
  repeat ((fail_if_success (with_reducible refine wp_reg (id := 2) ?_)); (first | go_values | go_skip | go_step | go_guarded | go_upon | go_in | go_back | fail))
  with_reducible refine wp_reg (id := 2) ?_
  refine wpO_want rfl ?_
  go_simp
  refine wpO_val rfl (run_mlen_op Tryz.underlying98 ((unhide hP).map 0 (m := m) (ek := ekV) (ev := evS) (ok := i64ok) rfl ((unhide hR).ok)) rfl rfl) ?_
  rw [unhide hml]
  go_frame
  refine wpO_want rfl ?_
  go_simp
  refine wpO_done ?_
  try go_frame
  try dsimp only
  repeat ((fail_if_success (with_reducible refine wp_reg (id := 3) ?_)); (first | go_values | go_skip | go_step | go_guarded | go_upon | go_in | go_back | fail))
  with_reducible refine wp_reg (id := 3) ?_
  refine wpO_want rfl ?_
  go_simp
  refine wpO_done ?_
  try go_frame
  go_wp2_with fail
  refine Sp.leaves0 ?_
  exact ⟨_,results_tmp (t := 2) rfl _ _ _,OwL.mk (by rw [unhide hRn]; rfl) (by rw [unhide hRn]; exact World.ownsRow_nil _ _ _ _) (unhide hP).extf⟩
end Go.Proofs.YtoacpebmhbkmbaaGreatDoor
