/- Parts of a proof, laid together. Each part says its own conditions. -/
import Derived.Test.YtmfkkkhddigkfaaGreatDoorR6
import Derived.Test.YtmfkkkhddigkfaaGreatDoorR13
import Derived.Test.YtmfkkkhddigkfaaGreatDoorR21
import Derived.Test.YtmfkkkhddigkfaaGreatDoorR28
import Derived.Test.YtmfkkkhddigkfaaGreatDoorR26
namespace Go.Proofs.YtmfkkkhddigkfaaGreatDoor
open Go Go.RowKit
attribute [local go_sem] qUpon lUpon
def OwI (w : World) (xs : List Int) (e : Ending) (w' : World) : Prop := ∃ A' c',e = .returned (.slice A' xs.length c') ∧ w'.ownsRow w.heap.size 3 1 (.slice A' xs.length c') xs.length (xs.flatMap encI) ∧ Ext w w'
theorem OwI.mk {w w' : World} {xs : List Int} {A' : Option Addr} {n c' b : Nat} (hn : n = xs.length) (h1 : w'.ownsRow b 3 1 (.slice A' xs.length c') xs.length (xs.flatMap encI)) (hb : w.heap.size ≤ b) (h2 : Ext w w') : OwI w xs (.returned (.slice A' n c')) w' := ⟨A',c',by rw [hn],own_base_le h1 hb,h2⟩
theorem own_n {w : World} {base T k n m : Nat} {v : Value} {xs : List Value} (h : w.ownsRow base T k v n xs) (e : m = n) : w.ownsRow base T k v m xs := by
 subst e
 exact h
theorem atI_at {w : World} {b off : Nat} {L : List Int} (h : SlAt encI 1 w (some ⟨b,off,none⟩) L) {i : Nat} (hi : i < L.length) : ∀ W,Ext w W → W.cell? ⟨b,off + i,none⟩ = some (.int .i64 L[i]) := by
 obtain ⟨b',off',e,hc⟩ := atI h hi
 injection e with e
 injection e with e1 e2
 subst e1
 subst e2
 exact hc
set_option maxRecDepth 100000 in
theorem joinedR_any (A B : Option Addr) (V : List (Int × Thing)) (E : List ((Int × Int) × Thing)) (cA cB : Nat) (u v : Int) (w : World) (hE : SlAt encE 4 w B E) (hl : E.length ≤ 4096) :
  Calls Tryz.prog 57 #[.agg #[.slice A V.length cA, .slice B E.length cB], .int .i64 u, .int .i64 v] w fun e w' => e = .returned (.bool (hasE u v E)) ∧ Ext w w' := by
 have hx1 := hide (ext_self1 w (.cells #[.slice A V.length cA, .slice B E.length cB] 28))
 have hE' := hide hE
 clear hE
 go_enter Tryz.func57,Tryz.ntmps57
 go_wp2_with fail
 refine (redge_any A B E V.length cA cB u v _ ((unhide hE').ext (unhide hx1)) hl).mono ?_
 rintro e w2 ⟨rfl,hx2⟩
 have hq : hasE u v E = decide (0 ≤ posI (isE u v) E) := rfl
 generalize posI (isE u v) E = p at *
 have hq' := hide hq
 have hx3 := hide ((unhide hx1).trans hx2)
 clear hx2 hq
 go_wp2_with fail
 go_ret
 exact ⟨by rw [unhide hq']; rfl,unhide hx3⟩
set_option maxRecDepth 100000 in
set_option maxHeartbeats 4000000 in
theorem ids_any (A B : Option Addr) (V : List (Int × Thing)) (E : List ((Int × Int) × Thing)) (cA cB : Nat) (w : World) (hV : SlAt encV 3 w A V) (hl : V.length ≤ 4096) :
  Calls Tryz.prog 34 #[.agg #[.slice A V.length cA, .slice B E.length cB]] w (OwI w (V.map (·.1))) := by
 have hx1 := hide (ext_self1 w (.cells #[.slice A V.length cA, .slice B E.length cB] 28))
 have hB1 := hide (Blk.new w 28 #[.slice A V.length cA, .slice B E.length cB])
 have hV1 := hide (hV.ext (unhide hx1))
 clear hV
 go_enter Tryz.func34,Tryz.ntmps34
 go_wp2_with fail
 generalize w.alloc (.cells #[.slice A V.length cA, .slice B E.length cB] 28) = w1 at *
 generalize w.heap.size = gw at *
 go_loopw [3,4] (fun ov iv wr => ∃ (k : Nat) (vo : Value),k ≤ V.length ∧ iv = .int .i64 k ∧ vo = ov ∧ wr.ownsRow w1.heap.size 3 1 vo ((V.map (·.1)).take k).length (((V.map (·.1)).take k).flatMap encI) ∧ Ext w1 wr) (fun _ iv _ => V.length - (intOf iv).toNat)
 case atStart => exact ⟨0,_,Nat.zero_le _,rfl,rfl,World.ownsRow_nil _ _ _ _,Ext.refl _⟩
 case round =>
  obtain ⟨k,vo,hk,rfl,hv,hown,hx⟩ := hrel
  subst hv
  have hx' := hide hx
  have hown' := hide hown
  have q0 := ((unhide hB1).ext hx).cells 0 (v := .slice A V.length cA) rfl
  have hself := Ext.refl wr
  have hb1 := hide (Below.size hx)
  clear hx hown
  by_cases hlt : k < V.length
  ·obtain ⟨b,off,rfl,c0,c1,c2⟩ := atV ((unhide hV1).ext (unhide hx')) hlt
   have hst := hide (List.take_succ_eq_append_getElem (l := V.map (·.1)) (by rw [List.length_map]; exact hlt))
   have hg : (V.map (·.1))[k]'(by rw [List.length_map]; exact hlt) = V[k].1 := by simp
   rw [hg] at hst
   generalize V[k].1 = y at *
   have hll := hide (show ((V.map (·.1)).take k).length ≤ 10000000 by rw [List.length_take,List.length_map]; omega)
   generalize (V.map (·.1)).take k = xs at *
   clear hg c1 c2
   try dsimp only
   repeat ((fail_if_success (with_reducible refine wp_reg (id := 5) ?_)); (first | go_values | go_skip | go_step | go_guarded | go_upon | go_in | go_back | fail))
   with_reducible refine wp_reg (id := 5) ?_
   iterate 8
    refine wpO_want rfl ?_
    go_simp
   refine wpO_ap1 (enc := _) rfl infoI Tryz.underlying31 one_encI (fun _ => rfl) (by decide) (by decide) rfl (v := vo) (xs := xs) y rfl rfl (Blk.new wr 3 #[.int .i64 y]) (own_ext (unhide hown') (ext_self1 wr (.cells #[.int .i64 y] 3))) (unhide hll) (Nat.le_trans (unhide hb1) (Below.size (ext_self1 wr (.cells #[.int .i64 y] 3)))) ?_
   intro A_w6 c_w6 w6 ho6 hg6 _
   obtain ⟨n_w6,hlen6⟩ : ∃ n_w6,n_w6 = (xs).length + 1 := ⟨_,rfl⟩
   rw [← hlen6] at ho6 ⊢
   have hx_w6 := hide (((unhide hx').trans (ext_self1 wr (.cells #[.int .i64 y] 3))).of_new (Keep.of_grown hg6) (fun z hz => Nat.le_trans (Nat.le_refl _) (own_base (unhide hown') (by simpa using hz)).1))
   have hown_w6 := hide (own_n ho6 (m := (xs ++ [y]).length) (by rw [hlen6,List.length_append (bs := [_])]; rfl))
   have hn_w6 := hide hlen6
   clear ho6 hg6 hlen6
   try go_frame
   refine wpO_want rfl ?_
   go_simp
   refine wpO_done ?_
   try go_frame
   rw [← unhide hst] at hown_w6
   go_wp2_with fail
   go_roundw
   case rel => exact ⟨k + 1,_,by omega,by go_num,rfl,unhide hown_w6,unhide hx_w6⟩
   case measure => simp [intOf]; omega
  ·have hke : k = V.length := by omega
   subst hke
   have htk : (V.map (·.1)).take V.length = V.map (·.1) := List.take_of_length_le (by simp)
   rw [htk] at hown'
   obtain ⟨A',c',rfl⟩ := own_slice (unhide hown')
   clear hlt
   go_wp2_with fail
   go_ret
   exact OwI.mk (by simp) (unhide hown') (Below.size (unhide hx1)) ((unhide hx1).trans (unhide hx'))
set_option maxRecDepth 100000 in
set_option maxHeartbeats 4000000 in
theorem outR_any (A : Option Addr) (L : List Int) (cL : Nat) (n : Int) (w : World) (hL : SlAt encI 1 w A L) (hl : L.length ≤ 4096) :
  Calls Tryz.prog 80 #[.slice A L.length cL, .int .i64 n] w (OwI w (outR L n)) := by
 have hL1 := hide hL
 clear hL
 go_enter Tryz.func80,Tryz.ntmps80
 go_wp2_with fail
 go_loopw [5,6] (fun ov iv wr => ∃ (k : Nat) (vo : Value),k ≤ L.length ∧ iv = .int .i64 k ∧ vo = ov ∧ wr.ownsRow w.heap.size 3 1 vo (outR (L.take k) n).length ((outR (L.take k) n).flatMap encI) ∧ Ext w wr) (fun _ iv _ => L.length - (intOf iv).toNat)
 case atStart => exact ⟨0,_,Nat.zero_le _,rfl,rfl,World.ownsRow_nil _ _ _ _,Ext.refl _⟩
 case round =>
  obtain ⟨k,vo,hk,rfl,hv,hown,hx⟩ := hrel
  subst hv
  have hx' := hide hx
  have hown' := hide hown
  have hself := Ext.refl wr
  have hb1 := hide (Below.size hx)
  clear hown
  by_cases hlt : k < L.length
  ·obtain ⟨b,off,rfl,c0⟩ := atI ((unhide hL1).ext hx) hlt
   have hst := hide (List.take_succ_eq_append_getElem hlt)
   have hll := hide (show (outR (L.take k) n).length ≤ 10000000 from Nat.le_trans (List.length_filter_le _ _) (by rw [List.length_take]; omega))
   have hout : outR (L.take (k + 1)) n = outR (L.take k) n ++ (if decide (L[k] ≠ n) = true then [L[k]] else []) := by
    rw [unhide hst]
    unfold outR
    rw [List.filter_append,List.filter_cons,List.filter_nil]
   generalize L[k] = y at *
   generalize outR (L.take k) n = xs at *
   clear hx hst
   by_cases hyn : y = n
   ·have hg : (y != n) = false := by simp [hyn]
    rw [if_neg (by simp [hyn]),List.append_nil] at hout
    have hout' := hide hout
    clear hout hyn
    go_wp2_with fail
    go_roundw
    case rel => exact ⟨k + 1,_,by omega,by go_num,rfl,by rw [unhide hout']; exact unhide hown',unhide hx'⟩
    case measure => simp [intOf]; omega
   ·have hg : (y != n) = true := by simp [hyn]
    rw [if_pos (by simp [hyn])] at hout
    have hout' := hide hout
    clear hout hyn
    try dsimp only
    repeat ((fail_if_success (with_reducible refine wp_reg (id := 6) ?_)); (first | go_values | go_skip | go_step | go_guarded | go_upon | go_in | go_back | fail))
    with_reducible refine wp_reg (id := 6) ?_
    iterate 6
     refine wpO_want rfl ?_
     go_simp
    refine wpO_ap1 (enc := _) rfl infoI Tryz.underlying31 one_encI (fun _ => rfl) (by decide) (by decide) rfl (v := vo) (xs := xs) y rfl rfl (Blk.new wr 3 #[.int .i64 y]) (own_ext (unhide hown') (ext_self1 wr (.cells #[.int .i64 y] 3))) (unhide hll) (Nat.le_trans (unhide hb1) (Below.size (ext_self1 wr (.cells #[.int .i64 y] 3)))) ?_
    intro A_w6 c_w6 w6 ho6 hg6 _
    obtain ⟨n_w6,hlen6⟩ : ∃ n_w6,n_w6 = (xs).length + 1 := ⟨_,rfl⟩
    rw [← hlen6] at ho6 ⊢
    have hx_w6 := hide (((unhide hx').trans (ext_self1 wr (.cells #[.int .i64 y] 3))).of_new (Keep.of_grown hg6) (fun z hz => Nat.le_trans (Nat.le_refl _) (own_base (unhide hown') (by simpa using hz)).1))
    have hown_w6 := hide (own_n ho6 (m := (xs ++ [y]).length) (by rw [hlen6,List.length_append (bs := [_])]; rfl))
    have hn_w6 := hide hlen6
    clear ho6 hg6 hlen6
    try go_frame
    refine wpO_want rfl ?_
    go_simp
    refine wpO_done ?_
    try go_frame
    go_wp2_with fail
    go_roundw
    case rel => exact ⟨k + 1,_,by omega,by go_num,rfl,by rw [unhide hout']; exact unhide hown_w6,unhide hx_w6⟩
    case measure => simp [intOf]; omega
  ·have hke : k = L.length := by omega
   subst hke
   rw [List.take_length] at hown'
   obtain ⟨A',c',rfl⟩ := own_slice (unhide hown')
   clear hlt hx
   go_wp2_with fail
   go_ret
   exact OwI.mk (by simp) (unhide hown') (Nat.le_refl _) (unhide hx')
set_option maxRecDepth 100000 in
set_option maxHeartbeats 8000000 in
theorem nearR_any (A B : Option Addr) (V : List (Int × Thing)) (E : List ((Int × Int) × Thing)) (cA cB : Nat) (C : Option Addr) (L : List Int) (cL : Nat) (v : Int) (w : World) (hE : SlAt encE 4 w B E) (hnE : E.length ≤ 4096) (hL : SlAt encI 1 w C L) (hl : L.length ≤ 4096) :
  Calls Tryz.prog 61 #[.agg #[.slice A V.length cA, .slice B E.length cB], .int .i64 v, .slice C L.length cL] w (OwI w (nbrR E v L)) := by
 have hx1 := hide (ext_self1 w (.cells #[.slice A V.length cA, .slice B E.length cB] 28))
 have hB1 := hide (Blk.new w 28 #[.slice A V.length cA, .slice B E.length cB])
 have hE1 := hide (hE.ext (unhide hx1))
 have hL1 := hide (hL.ext (unhide hx1))
 clear hE hL
 go_enter Tryz.func61,Tryz.ntmps61
 go_wp2_with fail
 generalize w.alloc (.cells #[.slice A V.length cA, .slice B E.length cB] 28) = w1 at *
 generalize w.heap.size = gw at *
 go_loopw [7,8] (fun ov iv wr => ∃ (k : Nat) (vo : Value),k ≤ L.length ∧ iv = .int .i64 k ∧ vo = ov ∧ wr.ownsRow w1.heap.size 3 1 vo (nbrR E v (L.take k)).length ((nbrR E v (L.take k)).flatMap encI) ∧ Ext w1 wr) (fun _ iv _ => L.length - (intOf iv).toNat)
 case atStart => exact ⟨0,_,Nat.zero_le _,rfl,rfl,World.ownsRow_nil _ _ _ _,Ext.refl _⟩
 case round =>
  obtain ⟨k,vo,hk,rfl,hv,hown,hx⟩ := hrel
  subst hv
  have hx' := hide hx
  have hown' := hide hown
  have hself := Ext.refl wr
  clear hown
  by_cases hlt : k < L.length
  ·obtain ⟨b,off,rfl,c0⟩ := atI ((unhide hL1).ext hx) hlt
   have hat := hide (fun W (hW : Ext wr W) => c0 W hW)
   have q0 := ((unhide hB1).ext hx).cells 0 (v := .slice A V.length cA) rfl
   have q1 := ((unhide hB1).ext hx).cells 1 (v := .slice B E.length cB) rfl
   have hst := hide (List.take_succ_eq_append_getElem hlt)
   have hll := hide (show (nbrR E v (L.take k)).length ≤ 10000000 from Nat.le_trans (List.length_filter_le _ _) (by rw [List.length_take]; omega))
   have hout : nbrR E v (L.take (k + 1)) = nbrR E v (L.take k) ++ (if (decide (L[k] ≠ v) && hasE v L[k] E) = true then [L[k]] else []) := by
    rw [unhide hst]
    unfold nbrR
    rw [List.filter_append,List.filter_cons,List.filter_nil]
   generalize L[k] = y at *
   generalize nbrR E v (L.take k) = xs at *
   obtain ⟨j,hj⟩ : ∃ j,hasE v y E = j := ⟨_,rfl⟩
   rw [hj] at hout
   have hj' := hide hj
   clear hx hst hj
   by_cases hyn : y = v
   ·have hg : (y != v) = false := by simp [hyn]
    rw [if_neg (by simp [hyn]),List.append_nil] at hout
    have hout' := hide hout
    clear hout hyn
    go_wp2_with fail
    refine wp_region_ext (P := Tryz.prog) [0,1,2,3,4,5,6,7,8,9,10,11,12,13,14] [] 0 #[true,true,true,true,true,true,true,true,true,true,true,true,true,true,true] (by kernel_rfl) (by kernel_rfl) rfl (by rfl) ?_
    iterate 15
     first
     | (refine ql_skip rfl (by rfl) ?_)
     | (refine ql_want (v := ?_) rfl (by rfl) (fun W hW => ?_) ?_; rotate_left; (go_simp; (first | done | rfl)))
     try go_frame
    refine wpQL_nil (fun w3 hx3 => ?_)
    refine wpX_done (by kernel_rfl) ?_
    try go_frame
    have hx3' := hide ((unhide hx').trans hx3)
    have hown3 := hide (own_ext (unhide hown') hx3)
    clear hx3 c0 q0 q1 hself
    go_wp2_with fail
    go_roundw
    case rel => exact ⟨k + 1,_,by omega,by go_num,rfl,by rw [unhide hout']; exact unhide hown3,unhide hx3'⟩
    case measure => simp [intOf]; omega
   ·have hg : (y != v) = true := by simp [hyn]
    have hd : decide (y ≠ v) = true := by simp [hyn]
    rw [hd,Bool.true_and] at hout
    have hout' := hide hout
    clear hout hyn hd
    go_wp2_with fail
    refine wp_region_ext (P := Tryz.prog) [0,1,2,3,4,5,6,7,8,9,10,11,12,13,14] [] 0 #[true,true,true,true,true,true,true,true,true,true,true,true,true,true,true] (by kernel_rfl) (by kernel_rfl) rfl (by rfl) ?_
    iterate 13
     refine ql_want (v := ?_) rfl (by rfl) (fun W hW => ?_) ?_
     rotate_left
     ·go_simp
      first | done | rfl
     go_frame
    refine ql_want (v := .bool j) rfl (by rfl) (fun W hW => ?_) ?_
    ·go_simp
     refine (joinedR_any A B V E cA cB v y W ((unhide hE1).ext ((unhide hx').trans hW)) hnE).mono ?_
     rw [unhide hj']
     rintro _ _ ⟨h1,h2⟩
     exact ⟨_,h1,rfl,h2⟩
    go_frame
    iterate 1
     refine ql_want (v := ?_) rfl (by rfl) (fun W hW => ?_) ?_
     rotate_left
     ·go_simp
      first | done | rfl
     go_frame
    refine wpQL_nil (fun w3 hx3 => ?_)
    refine wpX_done (by kernel_rfl) ?_
    try go_frame
    have hx3' := hide ((unhide hx').trans hx3)
    have hown3 := hide (own_ext (unhide hown') hx3)
    have c3 := fun W (hW : Ext w3 W) => unhide hat W (hx3.trans hW)
    have hb3 := hide (Below.size ((unhide hx').trans hx3))
    clear hx3 c0 q0 q1 hself
    have hself := Ext.refl w3
    cases j
    ·rw [if_neg (by simp),List.append_nil] at hout'
     go_wp2_with fail
     go_roundw
     case rel => exact ⟨k + 1,_,by omega,by go_num,rfl,by rw [unhide hout']; exact unhide hown3,unhide hx3'⟩
     case measure => simp [intOf]; omega
    ·rw [if_pos rfl] at hout'
     try dsimp only
     repeat ((fail_if_success (with_reducible refine wp_reg (id := 6) ?_)); (first | go_values | go_skip | go_step | go_guarded | go_upon | go_in | go_back | fail))
     with_reducible refine wp_reg (id := 6) ?_
     iterate 6
      refine wpO_want rfl ?_
      go_simp
     refine wpO_ap1 (enc := _) rfl infoI Tryz.underlying31 one_encI (fun _ => rfl) (by decide) (by decide) rfl (v := vo) (xs := xs) y rfl rfl (Blk.new w3 3 #[.int .i64 y]) (own_ext (unhide hown3) (ext_self1 w3 (.cells #[.int .i64 y] 3))) (unhide hll) (Nat.le_trans (unhide hb3) (Below.size (ext_self1 w3 (.cells #[.int .i64 y] 3)))) ?_
     intro A_w6 c_w6 w6 ho6 hg6 _
     obtain ⟨n_w6,hlen6⟩ : ∃ n_w6,n_w6 = (xs).length + 1 := ⟨_,rfl⟩
     rw [← hlen6] at ho6 ⊢
     have hx_w6 := hide (((unhide hx3').trans (ext_self1 w3 (.cells #[.int .i64 y] 3))).of_new (Keep.of_grown hg6) (fun z hz => Nat.le_trans (Nat.le_refl _) (own_base (unhide hown3) (by simpa using hz)).1))
     have hown_w6 := hide (own_n ho6 (m := (xs ++ [y]).length) (by rw [hlen6,List.length_append (bs := [_])]; rfl))
     have hn_w6 := hide hlen6
     clear ho6 hg6 hlen6
     try go_frame
     refine wpO_want rfl ?_
     go_simp
     refine wpO_done ?_
     try go_frame
     go_wp2_with fail
     go_roundw
     case rel => exact ⟨k + 1,_,by omega,by go_num,rfl,by rw [unhide hout']; exact unhide hown_w6,unhide hx_w6⟩
     case measure => simp [intOf]; omega
  ·have hke : k = L.length := by omega
   subst hke
   rw [List.take_length] at hown'
   obtain ⟨A',c',rfl⟩ := own_slice (unhide hown')
   clear hlt hx
   go_wp2_with fail
   go_ret
   exact OwI.mk (by simp) (unhide hown') (Below.size (unhide hx1)) ((unhide hx1).trans (unhide hx'))
open Classical in
noncomputable def clqB (V : List (Int × Thing)) (E : List ((Int × Int) × Thing)) (l : List Int) : Bool := decide (ClqR V E l)
open Classical in
theorem clqB_true {V : List (Int × Thing)} {E : List ((Int × Int) × Thing)} {l : List Int} : clqB V E l = true ↔ ClqR V E l := by unfold clqB; rw [decide_eq_true_eq]
open Classical in
theorem clqB_false {V : List (Int × Thing)} {E : List ((Int × Int) × Thing)} {l : List Int} (h : ¬ ClqR V E l) : clqB V E l = false := by unfold clqB; rw [decide_eq_false_iff_not]; exact h
set_option maxRecDepth 100000 in
set_option maxHeartbeats 8000000 in
theorem clqR_walk (A B : Option Addr) (V : List (Int × Thing)) (E : List ((Int × Int) × Thing)) (cA cB : Nat) (C : Option Addr) (L : List Int) (cL : Nat) (w : World) (hV : SlAt encV 3 w A V) (hnV : V.length ≤ 4096) (hE : SlAt encE 4 w B E) (hnE : E.length ≤ 4096) (hL : SlAt encI 1 w C L) (hl : L.length ≤ 4096) :
  Calls Tryz.prog 28 #[.agg #[.slice A V.length cA, .slice B E.length cB], .slice C L.length cL] w fun e w' => e = .returned (.bool (clqB V E L)) ∧ Ext w w' := by
 have hx1 := hide (ext_self1 w (.cells #[.slice A V.length cA, .slice B E.length cB] 28))
 have hB1 := hide (Blk.new w 28 #[.slice A V.length cA, .slice B E.length cB])
 have hV1 := hide (hV.ext (unhide hx1))
 have hE1 := hide (hE.ext (unhide hx1))
 have hL1 := hide (hL.ext (unhide hx1))
 clear hV hE hL
 go_enter Tryz.func28,Tryz.ntmps28
 go_wp2_with fail
 generalize w.alloc (.cells #[.slice A V.length cA, .slice B E.length cB] 28) = w1 at *
 generalize w.heap.size = gw at *
 go_loopw [5] (fun iv wr => ∃ k : Nat,k ≤ L.length ∧ iv = .int .i64 k ∧ (∀ i (_ : i < k) (hi : i < L.length),hasV L[i] V = true ∧ ∀ j (hj : j < i),hasE L[i] (L[j]'(Nat.lt_trans hj hi)) E = true) ∧ Ext w1 wr) (fun iv _ => L.length - (intOf iv).toNat)
 case atStart => exact ⟨0,Nat.zero_le _,rfl,fun i hi => by omega,Ext.refl _⟩
 case round =>
  obtain ⟨k,hk,rfl,hok,hx⟩ := hrel
  have hx' := hide hx
  have hok' := hide hok
  clear hx hok
  by_cases hlt : k < L.length
  ·obtain ⟨b,off,rfl,c0⟩ := atI ((unhide hL1).ext (unhide hx')) hlt
   have hat := hide (fun (j : Nat) (hj : j < L.length) => atI_at ((unhide hL1).ext (unhide hx')) hj)
   have q0 := ((unhide hB1).ext (unhide hx')).cells 0 (v := .slice A V.length cA) rfl
   have q1 := ((unhide hB1).ext (unhide hx')).cells 1 (v := .slice B E.length cB) rfl
   have hself := Ext.refl wr
   obtain ⟨x,hxe⟩ : ∃ x,x = L[k] := ⟨_,rfl⟩
   rw [← hxe] at c0
   have hxe' := hide hxe
   obtain ⟨p,hp⟩ : ∃ p,p = posI (fun p => p.1 == x) V := ⟨_,rfl⟩
   have hp' := hide hp
   clear hxe hp
   go_wp2_with fail
   refine wp_region_ext (P := Tryz.prog) [0,1,2,3,4,5,6] [] 0 #[true,true,true,true,true,true,true] (by kernel_rfl) (by kernel_rfl) rfl (by rfl) ?_
   iterate 5
    refine ql_want (v := ?_) rfl (by rfl) (fun W hW => ?_) ?_
    rotate_left
    ·go_simp
     first | done | rfl
    go_frame
   refine ql_want (v := .int .i64 p) rfl (by rfl) (fun W hW => ?_) ?_
   ·go_simp
    refine (find_any A B V cA E.length cB x W ((unhide hV1).ext ((unhide hx').trans hW)) hnV).mono ?_
    rw [← unhide hp']
    rintro _ _ ⟨h1,h2⟩
    exact ⟨_,h1,rfl,h2⟩
   go_frame
   iterate 1
    refine ql_want (v := ?_) rfl (by rfl) (fun W hW => ?_) ?_
    rotate_left
    ·go_simp
     first | done | rfl
    go_frame
   refine wpQL_nil (fun w3 hx3 => ?_)
   refine wpX_done (by kernel_rfl) ?_
   try go_frame
   have hx3' := hide ((unhide hx').trans hx3)
   have hx3s := hide hx3
   clear q0 q1 c0 hself hx3
   by_cases hneg : p < 0
   ·have hres : clqB V E L = false := clqB_false fun h => by
     have := (h k hlt).1
     rw [← unhide hxe'] at this
     unfold hasV at this
     rw [← unhide hp',decide_eq_true_eq] at this
     omega
    have hres' := hide hres
    clear hres
    go_wp2_with fail
    go_ret
    exact ⟨by rw [unhide hres']; rfl,(unhide hx1).trans (unhide hx3')⟩
   ·have hhas : hasV x V = true := by unfold hasV; rw [← unhide hp',decide_eq_true_eq]; omega
    have hhas' := hide hhas
    clear hhas
    generalize wr = wo at *
    go_wp2_with fail
    go_loopw [6] (fun jv wr => ∃ j : Nat,j ≤ k ∧ jv = .int .i64 j ∧ (∀ j' (_ : j' < j) (hl : j' < L.length),hasE x L[j'] E = true) ∧ Ext w3 wr) (fun jv _ => k - (intOf jv).toNat)
    case atStart => exact ⟨0,Nat.zero_le _,rfl,fun j hj => by omega,Ext.refl _⟩
    case round =>
     obtain ⟨j,hj,rfl,hno,hy⟩ := hrel
     have hy' := hide hy
     have hno' := hide hno
     clear hy hno
     by_cases hjk : j < k
     ·have hjl : j < L.length := by omega
      have c1 := fun W (hW : Ext wr W) => unhide hat j hjl W (((unhide hx3s).trans (unhide hy')).trans hW)
      have c2 := fun W (hW : Ext wr W) => unhide hat k hlt W (((unhide hx3s).trans (unhide hy')).trans hW)
      rw [← unhide hxe'] at c2
      obtain ⟨y,hye⟩ : ∃ y,y = L[j] := ⟨_,rfl⟩
      rw [← hye] at c1
      have hye' := hide hye
      obtain ⟨q,hq⟩ : ∃ q,hasE x y E = q := ⟨_,rfl⟩
      have hq' := hide hq
      have q0 := ((unhide hB1).ext ((unhide hx3').trans (unhide hy'))).cells 0 (v := .slice A V.length cA) rfl
      have q1 := ((unhide hB1).ext ((unhide hx3').trans (unhide hy'))).cells 1 (v := .slice B E.length cB) rfl
      have hself := Ext.refl wr
      clear hye hq
      go_wp2_with fail
      refine wp_region_ext (P := Tryz.prog) [0,1,2,3,4,5,6,7,8,9,10] [] 0 #[true,true,true,true,true,true,true,true,true,true,true] (by kernel_rfl) (by kernel_rfl) rfl (by rfl) ?_
      iterate 9
       refine ql_want (v := ?_) rfl (by rfl) (fun W hW => ?_) ?_
       rotate_left
       ·go_simp
        first | done | rfl
       go_frame
      refine ql_want (v := .bool q) rfl (by rfl) (fun W hW => ?_) ?_
      ·go_simp
       refine (joinedR_any A B V E cA cB x y W ((unhide hE1).ext (((unhide hx3').trans (unhide hy')).trans hW)) hnE).mono ?_
       rw [unhide hq']
       rintro _ _ ⟨h1,h2⟩
       exact ⟨_,h1,rfl,h2⟩
      go_frame
      iterate 1
       refine ql_want (v := ?_) rfl (by rfl) (fun W hW => ?_) ?_
       rotate_left
       ·go_simp
        first | done | rfl
       go_frame
      refine wpQL_nil (fun w4 hx4 => ?_)
      refine wpX_done (by kernel_rfl) ?_
      try go_frame
      have hx4' := hide ((unhide hy').trans hx4)
      clear c1 c2 q0 q1 hself hx4
      cases q
      ·have hres : clqB V E L = false := clqB_false fun h => by
        have := (h k hlt).2 j hjk
        rw [← unhide hxe', ← unhide hye',unhide hq'] at this
        cases this
       have hres' := hide hres
       clear hres
       go_wp2_with fail
       go_ret
       exact ⟨by rw [unhide hres']; rfl,((unhide hx1).trans (unhide hx3')).trans (unhide hx4')⟩
      ·have hnx : ∀ j' (_ : j' < j + 1) (hl : j' < L.length),hasE x L[j'] E = true := fun j' h hl => by
        rcases Nat.lt_or_ge j' j with h1 | h1
        ·exact unhide hno' j' h1 hl
        ·have : j' = j := by omega
         subst this
         rw [← unhide hye']
         exact unhide hq'
       have hnx' := hide hnx
       clear hnx
       go_wp2_with fail
       go_roundw
       case rel => exact ⟨j + 1,by omega,by go_num,unhide hnx',unhide hx4'⟩
       case measure => simp [intOf]; omega
     ·have hje : j = k := by omega
      subst hje
      have hok2 : ∀ i (_ : i < j + 1) (hi : i < L.length),hasV L[i] V = true ∧ ∀ j' (hj : j' < i),hasE L[i] (L[j']'(Nat.lt_trans hj hi)) E = true := fun i h1 h2 => by
       rcases Nat.lt_or_ge i j with h3 | h3
       ·exact unhide hok' i h3 h2
       ·have : i = j := by omega
        subst this
        rw [← unhide hxe']
        exact ⟨unhide hhas',fun j' hj' => unhide hno' j' hj' _⟩
      have hok2' := hide hok2
      clear hok2
      go_wp2_with fail
      go_roundw
      case rel => exact ⟨j + 1,by omega,by go_num,unhide hok2',(unhide hx3').trans (unhide hy')⟩
      case measure => simp [intOf]; omega
  ·have hres : clqB V E L = true := clqB_true.2 fun i hi => unhide hok' i (by omega) hi
   have hres' := hide hres
   have hself := Ext.refl wr
   clear hres
   go_wp2_with fail
   go_ret
   exact ⟨by rw [unhide hres']; rfl,(unhide hx1).trans (unhide hx')⟩
end Go.Proofs.YtmfkkkhddigkfaaGreatDoor
namespace Go.Proofs.YtmfkkkhddigkfaaGreatDoor
open Go Go.RowKit Go.Shelf
attribute [local go_sem] qUpon lUpon
def vI (C : List Int) : Array Value := (C.map (Value.int .i64 ·)).toArray
theorem vI_size (C : List Int) : (vI C).size = C.length := by simp [vI]
theorem vI_get {C : List Int} {k : Nat} (h : k < C.length) : (vI C)[k]? = some (.int .i64 C[k]) := by simp [vI,h]
theorem vI_set (C : List Int) (k : Nat) (v : Int) : (vI C).setIfInBounds k (.int .i64 v) = vI (C.set k v) := by
 unfold vI
 simp
theorem vI_list (C : List Int) : (vI C).toList = C.flatMap encI := by
 unfold vI
 induction C with
 | nil => rfl
 | cons x C ih => simp only [List.map_cons,List.flatMap_cons] at ih ⊢; rw [← ih]; rfl
theorem run_store_int {P : Program} {ρ : Operand → Value} {o : Oper} {t : TypeId} {p x : Operand} {w : World} {b k : Nat} {C : List Int} {v : Int} {t0 : TypeId} (ho : o.op = .store t p x) (hp : ρ p = .pointer (some ⟨b,k,none⟩)) (hx : ρ x = .int .i64 v)
  (hs : (sizeOf t).run P w = .ok 1 w) (hb : Blk w b t0 (vI C)) (hk : k < C.length) :
  (execOp ρ o).run P w = .ok .skip (w.setRow b (vI (C.set k v))) := by
 have hc : w.cell? ⟨b,k,none⟩ = some (.int .i64 C[k]) := (hb.cell k).trans (vI_get hk)
 have hf := hb.frozen k
 have hset : w.setCell ⟨b,k,none⟩ (.int .i64 v) = w.setRow b (vI (C.set k v)) := by rw [setCell_eq_setRow w b k _ t0 (0,0) _ hb,vI_set]
 have hst : (store ((⟨b,k,none⟩ : Addr).add 0) (.int .i64 v)).run P w = .ok () (w.setRow b (vI (C.set k v))) := by
  rw [show ((⟨b,k,none⟩ : Addr).add 0) = ⟨b,k,none⟩ by unfold Addr.add; split <;> simp_all,run_store P w _ _ _ rfl,hc]
  simp [hf,hset]
 unfold execOp
 simp only [ho,hp,hx]
 simp [Instr.storeAt,Instr.sureAddr,storeVar,hs,storeCells,Value.cells,Result.andThen,hst]
set_option maxRecDepth 100000 in
theorem run_mkI {ρ : Operand → Value} {o : Oper} {x y : Operand} {n : Nat} (ho : o.op = .makeSlice 31 x y) (hx : ρ x = .int .i64 n) (hy : ρ y = .int .i64 n) (hn : n ≤ 100000) (w : World) : (execOp ρ o).run Tryz.prog w = .ok (.value (.slice (some ⟨w.heap.size,0,none⟩) n n)) (w.alloc (.cells (vI (List.replicate n 0)) 3)) := by
 obtain ⟨i0,hi,hi1⟩ := Option.map_eq_some_iff.1 infoI
 simp only [Prod.mk.injEq] at hi1
 obtain ⟨hz1,hz2,hz3⟩ := hi1
 obtain ⟨z0,hz,hz4⟩ := Option.map_eq_some_iff.1 hz1
 have hzc : z0 = .int .i64 0 := by
  have h1 : Tryz.prog.info? 3 = some i0 := hi
  have h2 : (Tryz.prog.info? 3).bind (·.zero) = some (.int .i64 0) := by kernel_rfl
  rw [h1] at h2
  simp only [Option.bind_some] at h2
  rw [hz] at h2
  exact Option.some.inj h2
 subst hzc
 have h := run_make (P := Tryz.prog) w 31 3 i0 (.int .i64 0) Tryz.underlying31 hi hz .i64 .i64 n n (by omega) (Int.le_refl _) (by rw [hz3]; omega) (by omega)
 rw [hz2] at h
 simp only [Int.toNat_natCast,Nat.mul_one] at h
 have e : madeCells (Value.int .i64 0).cells n = vI (List.replicate n 0) := by
  apply Array.ext_getElem?
  intro j
  by_cases hj : j < n
  ·simp [madeCells,vI,Value.cells,hj,Nat.mod_one]
  ·rw [Array.getElem?_eq_none (by simp [madeCells]; omega),Array.getElem?_eq_none (by rw [vI_size,List.length_replicate]; omega)]
 rw [e] at h
 unfold execOp
 simp only [ho,hx,hy]
 simp [h,Result.andThen]
section
variable {P : Program} {wf : World} {T0 : List Nat} {w W : World} {ds : List Deferred} {L : List Cl} {Rs : List Rw} {l : List Oper} {K : Act → World → Prop} {r : List Oper} {o : Oper} {a : Act}
theorem Sp.allocVO (h : Sp wf T0 w ds L Rs W) {v : Nat → Value} (t : TypeId) (cs : Array Value) (hw : Region.wanted o (yielded l.toArray a.tmps) = true) (hrun : (execOp a.eval o).run P W = .ok (.value (v W.heap.size)) (W.alloc (.cells cs t)))
  (hk : ∀ b W',Sp wf T0 w ds (L ++ [(b,t,cs)]) Rs W' → wpO P l K r (a.put o.dst (v b)) W') : wpO P l K (o :: r) a W := wpO_val hw hrun (hk _ _ (h.alloc t cs))
end
end Go.Proofs.YtmfkkkhddigkfaaGreatDoor
