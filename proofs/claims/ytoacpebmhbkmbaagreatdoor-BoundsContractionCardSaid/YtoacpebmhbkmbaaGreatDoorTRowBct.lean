/- Every input makes the law BoundsContraction answer true, and each argument reads behind the call as it read before: the given card, tied to the program's text. No condition. -/
import Derived.Below
import Derived.Test.YtoacpebmhbkmbaaGreatDoorT26
import Derived.Test.YtoacpebmhbkmbaaGreatDoorT39
import Derived.Test.YtoacpebmhbkmbaaGreatDoorT41
import Derived.Test.YtoacpebmhbkmbaaGreatDoorT31
import Derived.Test.YtoacpebmhbkmbaaGreatDoorT38
import Derived.Test.YtoacpebmhbkmbaaGreatDoorT12
import Derived.Test.YtoacpebmhbkmbaaGreatDoorT34
import Derived.Test.YtoacpebmhbkmbaaGreatDoorCards
import Derived.Test.YtoacpebmhbkmbaaGreatDoorTie
import Derived.WalkKit
import Derived.ProofKit
import Derived.OpenShut
import Derived.ShutString
import Derived.ChangeOld
import Derived.SevenTiedAt
namespace Go.Proofs.YtoacpebmhbkmbaaGreatDoor
section
variable {A B : Int → Int → Prop} {S T : Int → Prop}
end
section
variable {A B : Int → Int → Prop} {o : List Int} {w : Nat}
end
def mrg (A : Int → Int → Prop) (x y u v : Int) : Prop := A u v ∨ (u = y ∧ A x v ∧ v ≠ y) ∨ (v = y ∧ A x u ∧ u ≠ y)
section
variable {A : Int → Int → Prop} {o : List Int} {w : Nat}
end
end Go.Proofs.YtoacpebmhbkmbaaGreatDoor
namespace Go.Proofs.YtoacpebmhbkmbaaGreatDoor
section
variable {near : Int → Int → Bool}
theorem mrgB_iff {x y u v : Int} : mrgB near x y u v = true ↔ mrg (fun a b => near a b = true) x y u v := by
 unfold mrgB mrg
 simp [and_assoc,or_assoc]
end
end Go.Proofs.YtoacpebmhbkmbaaGreatDoor
namespace Go.Proofs.YtoacpebmhbkmbaaGreatDoor
open Go Go.RowKit Go.Shelf
attribute [local go_sem] qUpon lUpon
attribute [local irreducible] wpO wpX wpQL
def lstB (th : List Bool) (nb : List (List Bool)) (n : Nat) : Nat → Int
 | 0 => -1
 | i + 1 => if (th.getD i false && (decide (lstB th nb n i < 0) || decide (degB th nb n i < degB th nb n (lstB th nb n i).toNat))) = true then (i : Int) else lstB th nb n i
theorem lstB_bd (th : List Bool) (nb : List (List Bool)) (n : Nat) : ∀ i : Nat, -1 ≤ lstB th nb n i ∧ lstB th nb n i < (i : Int)
 | 0 => by unfold lstB; omega
 | i + 1 => by
  have h := lstB_bd th nb n i
  unfold lstB
  split <;> omega
theorem lstB_yes {th : List Bool} {nb : List (List Bool)} {n i : Nat} (h : (th.getD i false && (decide (lstB th nb n i < 0) || decide (degB th nb n i < degB th nb n (lstB th nb n i).toNat))) = true) : lstB th nb n (i + 1) = (i : Int) := by
 conv => lhs; rw [lstB]
 rw [if_pos h]
theorem lstB_no {th : List Bool} {nb : List (List Bool)} {n i : Nat} (h : (th.getD i false && (decide (lstB th nb n i < 0) || decide (degB th nb n i < degB th nb n (lstB th nb n i).toNat))) = false) : lstB th nb n (i + 1) = lstB th nb n i := by
 conv => lhs; rw [lstB]
 rw [if_neg (by rw [h]; simp)]
set_option maxRecDepth 100000 in
set_option maxHeartbeats 16000000 in
theorem least22_any (Ai At An : Option Addr) (n ci ct cn : Nat) (ids : List Int) (th : List Bool) (nb : List (List Bool)) (hs : List Sl) (w : World) (hp : PAt w Ai At An n ids th nb hs) :
  Calls Tryz.prog 62 #[.agg #[.slice Ai n ci, .slice At n ct, .slice An n cn]] w fun e w' => e = .returned (.int .i64 (lstB th nb n n)) ∧ Ext w w' := by
 have hp' := hide hp
 have hnb := hide hp.le
 clear hp
 have hP := hide (Sp.new w)
 refine callsIn_wide.1 (callsIn_of_wp_marks (n := 0) Tryz.func62 rfl trivial (wpIn_wide.2 ?_))
 simp only [Tryz.ntmps62,List.size_toArray,List.length_cons,List.length_nil,Nat.reduceAdd,Nat.reduceSub,Array.replicate_succ,Array.replicate_zero,List.push_toArray,List.append_toArray,List.nil_append,List.cons_append]
 try dsimp only
 repeat ((fail_if_success (with_reducible refine wp_reg (id := 0) ?_)); (first | go_values | go_skip | go_step | go_guarded | go_upon | go_in | go_back | fail))
 with_reducible refine wp_reg (id := 0) ?_
 refine (unhide hP).allocO 109 #[.slice Ai n ci, .slice At n ct, .slice An n cn] rfl (run_box (v := .agg #[.slice Ai n ci, .slice At n ct, .slice An n cn]) rfl rfl) ?_
 intro r1 y1 hQ
 replace hP : Hid (Sp w [] w [] [(r1,109, #[.slice Ai n ci, .slice At n ct, .slice An n cn])] [] y1) := hide hQ
 clear hQ
 refine wpO_want rfl ?_
 go_simp
 refine wpO_done ?_
 try go_frame
 go_wp2_with fail
 obtain ⟨I1_2,hI1_20⟩ : ∃ I : Nat → Act → World → Prop,I = fun fi a' wr => ∃ (k : Nat), ∃ (z : Int),a'.tmps.size = 32 ∧ a'.tmps.getD 1 undef = .pointer (some ⟨r1,0,none⟩) ∧ a'.tmps.getD 3 undef = .int .i64 z ∧ a'.tmps.getD 4 undef = .int .i64 (k : Nat) ∧ a'.defers = [] ∧ k ≤ n ∧ z = lstB th nb n k ∧ Sp w [] w [] [(r1,109, #[.slice Ai n ci, .slice At n ct, .slice An n cn])] [] wr ∧ fi = n - k := ⟨_,rfl⟩
 have hI1_2 := hide hI1_20
 clear hI1_20
 refine wp_loop_ix I1_2 (n - 0) ?_ ?_
 ·rw [unhide hI1_2]; exact ⟨0, -1,rfl,rfl,rfl,rfl,rfl,Nat.zero_le _,rfl,unhide hP,rfl⟩
 ·rintro fi ⟨tm,dfs⟩ wr hrel
  rw [unhide hI1_2] at hrel
  obtain ⟨k,z,hsz,e1,e3,e4,hdf,hkn,hz,hPr,hfm⟩ := hrel
  obtain ⟨us,rfl⟩ : ∃ us : Nat → Value,tm = #[us 0,us 1,us 2,us 3,us 4,us 5,us 6,us 7,us 8,us 9,us 10,us 11,us 12,us 13,us 14,us 15,us 16,us 17,us 18,us 19,us 20,us 21,us 22,us 23,us 24,us 25,us 26,us 27,us 28,us 29,us 30,us 31] := ⟨fun i => tm.getD i undef,arr_fn hsz⟩
  have h1 : us 1 = .pointer (some ⟨r1,0,none⟩) := e1
  have h3 : us 3 = .int .i64 z := e3
  have h4 : us 4 = .int .i64 (k : Nat) := e4
  have hdf2 : dfs = [] := hdf
  subst hdf2
  clear hdf hsz e1 e3 e4
  simp only [h1,h3,h4]
  clear h1 h3 h4
  clear hP
  have hP := hide hPr
  have hfm' := hide hfm
  have hz' := hide hz
  have hzb := hide (show -1 ≤ z ∧ z < (k : Int) by rw [hz]; exact lstB_bd th nb n k)
  clear hPr hfm hz
  by_cases hlt : k < n
  ·have hil : (k : Int) < (n : Int) := by omega
   have hk2 := hide hlt
   have hkb : (k : Int) ≤ 4096 := by have := unhide hnb; omega
   obtain ⟨x,hx⟩ : ∃ x,x = th.getD k false := ⟨_,rfl⟩
   obtain ⟨bt,ot,hAt,c0⟩ := ((unhide hp').ext (unhide hP).extf).thc hlt
   subst hAt
   rw [← hx] at c0
   have hx' := hide hx
   have c0' := hide c0
   clear hlt hkn hx c0
   have q0 := (unhide hP).cell 0 0 (v := .slice Ai n ci) rfl rfl
   have hself := Ext.refl wr
   try dsimp only
   repeat ((fail_if_success (with_reducible refine wp_reg (id := 3) ?_)); (first | go_values | go_skip | go_step | go_guarded | go_upon | go_in | go_back | fail))
   with_reducible refine wp_reg (id := 3) ?_
   iterate 5
    refine wpO_want rfl ?_
    go_simp
   refine wpO_done ?_
   try go_frame
   clear q0 hself
   go_wp2_with fail
   have c0 := fun (W : World) (hW : Keep [] wr W) => unhide c0' W ((Ext.refl wr).of_new hW (by simp))
   have q1 := (unhide hP).cellK (S := []) 0 1 (v := .slice (some ⟨bt,ot,none⟩) n ct) rfl rfl (by simp)
   have hself := Keep.refl [] wr
   cases x
   ·skip
    have hc := hide (show (false && (decide (z < 0) || decide (degB th nb n k < degB th nb n z.toNat))) = false from rfl)
    refine wp_regionK (P := Tryz.prog) [] [0,1,2,3,4,5,6,7,8,9,10,11,12,13,14,15,16,17] [] 0 #[true,true,true,true,true,true,true,true,true,true,true,true,true,true,true,true,true,true] (by kernel_rfl) (by kernel_rfl) rfl (by rfl) ?_
    iterate 6
     refine ql_want (v := ?_) rfl (by rfl) (fun W hW => ?_) ?_
     rotate_left
     ·go_simp
      first | done | rfl
     go_frame
    iterate 11
     first
     | (refine ql_skip rfl (by rfl) ?_)
     | (refine ql_want (v := ?_) rfl (by rfl) (fun W hW => ?_) ?_; rotate_left; (go_simp; (first | done | rfl)))
     try go_frame
    iterate 1
     refine ql_want (v := ?_) rfl (by rfl) (fun W hW => ?_) ?_
     rotate_left
     ·go_simp
      first | done | rfl
     go_frame
    refine wpQL_nil (fun y2 hxq => ?_)
    replace hP : Hid (Sp w [] w [] [(r1,109, #[.slice Ai n ci, .slice (some ⟨bt,ot,none⟩) n ct, .slice An n cn])] [] y2) := hide ((unhide hP).ext hxq)
    clear hxq
    refine wpX_done (by kernel_rfl) ?_
    try go_frame
    clear q1 c0 hself
    have hw1 : IntKind.i64.wrap ((k : Int) + 1) = (k : Int) + 1 := IntWalk.i64_in _ (by omega)
    have hzn := hide (show z = lstB th nb n (k + 1) by rw [lstB_no (by rw [← unhide hx', ← unhide hz']; exact unhide hc)]; exact unhide hz')
    go_wp2_with fail
    have h3 := unhide hk2
    refine ⟨n - (k + 1), ?_,by have := unhide hfm'; omega⟩
    rw [unhide hI1_2]
    exact ⟨k + 1,z,(by first | rfl | trivial),(by first | rfl | trivial),(by first | rfl | trivial),(by first | rfl | (show _ = Value.int _ _; go_num) | go_num),(by first | rfl | trivial),by omega,unhide hzn,unhide hP,rfl⟩
   ·skip
    by_cases hz0 : z < 0
    ·skip
     have hc := hide (show (true && (decide (z < 0) || decide (degB th nb n k < degB th nb n z.toNat))) = true by simp [hz0])
     refine wp_regionK (P := Tryz.prog) [] [0,1,2,3,4,5,6,7,8,9,10,11,12,13,14,15,16,17] [] 0 #[true,true,true,true,true,true,true,true,true,true,true,true,true,true,true,true,true,true] (by kernel_rfl) (by kernel_rfl) rfl (by rfl) ?_
     iterate 9
      refine ql_want (v := ?_) rfl (by rfl) (fun W hW => ?_) ?_
      rotate_left
      ·go_simp
       first | done | rfl
      go_frame
     iterate 7
      first
      | (refine ql_skip rfl (by rfl) ?_)
      | (refine ql_want (v := ?_) rfl (by rfl) (fun W hW => ?_) ?_; rotate_left; (go_simp; (first | done | rfl)))
      try go_frame
     iterate 2
      refine ql_want (v := ?_) rfl (by rfl) (fun W hW => ?_) ?_
      rotate_left
      ·go_simp
       first | done | rfl
      go_frame
     refine wpQL_nil (fun y2 hxq => ?_)
     replace hP : Hid (Sp w [] w [] [(r1,109, #[.slice Ai n ci, .slice (some ⟨bt,ot,none⟩) n ct, .slice An n cn])] [] y2) := hide ((unhide hP).ext hxq)
     clear hxq
     refine wpX_done (by kernel_rfl) ?_
     try go_frame
     clear hz0
     clear q1 c0 hself
     have hw1 : IntKind.i64.wrap ((k : Int) + 1) = (k : Int) + 1 := IntWalk.i64_in _ (by omega)
     have hzn := hide (show (k : Int) = lstB th nb n (k + 1) by rw [lstB_yes (by rw [← unhide hx', ← unhide hz']; exact unhide hc)])
     go_wp2_with fail
     have h3 := unhide hk2
     refine ⟨n - (k + 1), ?_,by have := unhide hfm'; omega⟩
     rw [unhide hI1_2]
     exact ⟨k + 1,(k : Int),(by first | rfl | trivial),(by first | rfl | trivial),(by first | rfl | trivial),(by first | rfl | (show _ = Value.int _ _; go_num) | go_num),(by first | rfl | trivial),by omega,unhide hzn,unhide hP,rfl⟩
    ·skip
     obtain ⟨m,hm⟩ : ∃ m : Nat,(m : Int) = z := ⟨z.toNat,by omega⟩
     have hmn := hide (show m < n by have := (unhide hzb).2; have := unhide hk2; omega)
     subst hm
     obtain ⟨dk,hdk⟩ : ∃ dk,dk = degB th nb n k := ⟨_,rfl⟩
     obtain ⟨dm,hdm⟩ : ∃ dm,dm = degB th nb n m := ⟨_,rfl⟩
     have hdk' := hide hdk
     have hdm' := hide hdm
     obtain ⟨qd,hqd⟩ : ∃ qd,qd = decide ((dk : Int) < (dm : Int)) := ⟨_,rfl⟩
     have hqd' := hide hqd
     have hqn := hide (show qd = decide (dk < dm) by rw [hqd]; by_cases h : dk < dm <;> simp [h])
     have hz1 : ¬ (m : Int) < 0 := by omega
     clear hdk hdm hqd hz0
     refine wp_regionK (P := Tryz.prog) [] [0,1,2,3,4,5,6,7,8,9,10,11,12,13,14,15,16,17] [] 0 #[true,true,true,true,true,true,true,true,true,true,true,true,true,true,true,true,true,true] (by kernel_rfl) (by kernel_rfl) rfl (by rfl) ?_
     iterate 9
      refine ql_want (v := ?_) rfl (by rfl) (fun W hW => ?_) ?_
      rotate_left
      ·go_simp
       first | done | rfl
      go_frame
     refine ql_want (v := .agg #[.slice Ai n ci, .slice (some ⟨bt,ot,none⟩) n ct, .slice An n cn]) rfl (by rfl) (fun W hW => qUpon_ofX (run_load_agg (cs := #[.slice Ai n ci, .slice (some ⟨bt,ot,none⟩) n ct, .slice An n cn]) rfl rfl (by simp [go_sem]) (by simp [go_sem]) ((unhide hP).wholeK 0 rfl hW (by simp)))) ?_
     go_frame
     iterate 1
      refine ql_want (v := ?_) rfl (by rfl) (fun W hW => ?_) ?_
      rotate_left
      ·go_simp
       first | done | rfl
      go_frame
     refine ql_want (v := .int .i64 (dk : Nat)) rfl (by rfl) (fun W hW => ?_) ?_
     ·go_simp
      refine (degree22_any Ai (some ⟨bt,ot,none⟩) An n ci ct cn ids th nb hs k W ((unhide hp').ext ((unhide hP).extf.trans ((Ext.refl _).of_new hW (by simp)))) (unhide hk2)).mono ?_
      rw [← unhide hdk']
      rintro _ _ ⟨h1,h2⟩
      exact ⟨_,h1,rfl,h2⟩
     go_frame
     refine ql_want (v := .agg #[.slice Ai n ci, .slice (some ⟨bt,ot,none⟩) n ct, .slice An n cn]) rfl (by rfl) (fun W hW => qUpon_ofX (run_load_agg (cs := #[.slice Ai n ci, .slice (some ⟨bt,ot,none⟩) n ct, .slice An n cn]) rfl rfl (by simp [go_sem]) (by simp [go_sem]) ((unhide hP).wholeK 0 rfl hW (by simp)))) ?_
     go_frame
     iterate 1
      refine ql_want (v := ?_) rfl (by rfl) (fun W hW => ?_) ?_
      rotate_left
      ·go_simp
       first | done | rfl
      go_frame
     refine ql_want (v := .int .i64 (dm : Nat)) rfl (by rfl) (fun W hW => ?_) ?_
     ·go_simp
      refine (degree22_any Ai (some ⟨bt,ot,none⟩) An n ci ct cn ids th nb hs m W ((unhide hp').ext ((unhide hP).extf.trans ((Ext.refl _).of_new hW (by simp)))) (unhide hmn)).mono ?_
      rw [← unhide hdm']
      rintro _ _ ⟨h1,h2⟩
      exact ⟨_,h1,rfl,h2⟩
     go_frame
     refine ql_want (v := .bool qd) rfl (by rfl) (fun W hW => ?_) ?_
     ·go_simp
      first | done | rfl | (rw [unhide hqd']; simp) | (have := unhide hqn; simp_all)
     go_frame
     iterate 2
      refine ql_want (v := ?_) rfl (by rfl) (fun W hW => ?_) ?_
      rotate_left
      ·go_simp
       first | done | rfl
      go_frame
     refine wpQL_nil (fun y2 hxq => ?_)
     replace hP : Hid (Sp w [] w [] [(r1,109, #[.slice Ai n ci, .slice (some ⟨bt,ot,none⟩) n ct, .slice An n cn])] [] y2) := hide ((unhide hP).ext hxq)
     clear hxq
     refine wpX_done (by kernel_rfl) ?_
     try go_frame
     clear hz1
     cases qd
     ·skip
      have hc := hide (show (true && (decide ((m : Int) < 0) || decide (degB th nb n k < degB th nb n (m : Int).toNat))) = false by
       rw [← unhide hdk',Int.toNat_natCast, ← unhide hdm', ← unhide hqn]
       simp)
      have hz1 : ¬ (m : Int) < 0 := by omega
      clear hz1
      clear q1 c0 hself
      have hw1 : IntKind.i64.wrap ((k : Int) + 1) = (k : Int) + 1 := IntWalk.i64_in _ (by omega)
      have hzn := hide (show (m : Int) = lstB th nb n (k + 1) by rw [lstB_no (by rw [← unhide hx', ← unhide hz']; exact unhide hc)]; exact unhide hz')
      go_wp2_with fail
      have h3 := unhide hk2
      refine ⟨n - (k + 1), ?_,by have := unhide hfm'; omega⟩
      rw [unhide hI1_2]
      exact ⟨k + 1,(m : Int),(by first | rfl | trivial),(by first | rfl | trivial),(by first | rfl | trivial),(by first | rfl | (show _ = Value.int _ _; go_num) | go_num),(by first | rfl | trivial),by omega,unhide hzn,unhide hP,rfl⟩
     ·skip
      have hc := hide (show (true && (decide ((m : Int) < 0) || decide (degB th nb n k < degB th nb n (m : Int).toNat))) = true by
       rw [← unhide hdk',Int.toNat_natCast, ← unhide hdm', ← unhide hqn]
       simp)
      have hz1 : ¬ (m : Int) < 0 := by omega
      clear hz1
      clear q1 c0 hself
      have hw1 : IntKind.i64.wrap ((k : Int) + 1) = (k : Int) + 1 := IntWalk.i64_in _ (by omega)
      have hzn := hide (show (k : Int) = lstB th nb n (k + 1) by rw [lstB_yes (by rw [← unhide hx', ← unhide hz']; exact unhide hc)])
      go_wp2_with fail
      have h3 := unhide hk2
      refine ⟨n - (k + 1), ?_,by have := unhide hfm'; omega⟩
      rw [unhide hI1_2]
      exact ⟨k + 1,(k : Int),(by first | rfl | trivial),(by first | rfl | trivial),(by first | rfl | trivial),(by first | rfl | (show _ = Value.int _ _; go_num) | go_num),(by first | rfl | trivial),by omega,unhide hzn,unhide hP,rfl⟩
  ·have hil : ¬ (k : Int) < (n : Int) := by omega
   obtain rfl : n = k := by omega
   clear hlt hkn hfm'
   have q0 := (unhide hP).cell 0 0 (v := .slice Ai n ci) rfl rfl
   have hself := Ext.refl wr
   try dsimp only
   repeat ((fail_if_success (with_reducible refine wp_reg (id := 3) ?_)); (first | go_values | go_skip | go_step | go_guarded | go_upon | go_in | go_back | fail))
   with_reducible refine wp_reg (id := 3) ?_
   iterate 5
    refine wpO_want rfl ?_
    go_simp
   refine wpO_done ?_
   try go_frame
   clear q0 hself
   go_wp2_with fail
   refine Sp.leaves0 ?_
   exact ⟨_,results_tmp (t := 2) rfl _ _ _,by rw [unhide hz']; rfl,(unhide hP).extf⟩
end Go.Proofs.YtoacpebmhbkmbaaGreatDoor
namespace Go.Proofs.YtoacpebmhbkmbaaGreatDoor
theorem thL_succ (ids : List Int) (th : List Bool) (k : Nat) : thL ids th (k + 1) = thL ids th k ++ (if th.getD k false = true then [ids.getD k 0] else []) := by
 unfold thL
 rw [List.range_succ,List.filter_append,List.map_append]
 by_cases h : th.getD k false = true
 ·rw [if_pos h,List.filter_cons_of_pos (p := fun j => th.getD j false) h]; rfl
 ·rw [if_neg h,List.filter_cons_of_neg (p := fun j => th.getD j false) h]; rfl
section
variable {ids : List Int} {th : List Bool} {nb : List (List Bool)} {n : Nat} {near : Int → Int → Bool}
theorem RepB.lst (h : RepB ids th nb n near) : ∀ k,k ≤ n → (thL ids th k = [] → lstB th nb n k = -1) ∧ (thL ids th k ≠ [] → ∃ m : Nat,lstB th nb n k = (m : Int) ∧ m < k ∧ th.getD m false = true ∧ ids.getD m 0 = leastP (degP near (thL ids th n)) (thL ids th k)) := by
 intro k
 induction k with
 | zero => exact fun _ => ⟨fun _ => rfl,fun h => absurd rfl h⟩
 | succ k ih =>
  intro hk
  obtain ⟨h1,h2⟩ := ih (by omega)
  by_cases ht : th.getD k false = true
  ·have e : thL ids th (k + 1) = thL ids th k ++ [ids.getD k 0] := by rw [thL_succ,if_pos ht]
   refine ⟨fun h0 => by rw [e] at h0; simp at h0,fun _ => ?_⟩
   by_cases hn : thL ids th k = []
   ·have hl := h1 hn
    refine ⟨k,lstB_yes (by rw [ht,hl]; rfl),by omega,ht, ?_⟩
    rw [e,hn]
    rfl
   ·obtain ⟨m,e1,e2,e3,e4⟩ := h2 hn
    have hd : degB th nb n k = degP near (thL ids th n) (ids.getD k 0) := h.deg (by omega) ht
    have hm : degB th nb n m = degP near (thL ids th n) (ids.getD m 0) := h.deg (by omega) e3
    have hs : leastP (degP near (thL ids th n)) (thL ids th (k + 1)) = if degP near (thL ids th n) (ids.getD k 0) < degP near (thL ids th n) (ids.getD m 0) then ids.getD k 0 else ids.getD m 0 := by
     rw [e,e4]
     obtain ⟨a,l,hal⟩ := List.exists_cons_of_ne_nil hn
     rw [hal,List.cons_append,leastP_snoc]
    by_cases hc : degB th nb n k < degB th nb n m
    ·refine ⟨k,lstB_yes (by rw [ht,e1,Int.toNat_natCast,decide_eq_true hc]; simp),by omega,ht, ?_⟩
     rw [hs,if_pos (by rw [← hd, ← hm]; exact hc)]
    ·refine ⟨m, ?_,by omega,e3, ?_⟩
     ·rw [lstB_no (by rw [ht,e1,Int.toNat_natCast,decide_eq_false hc,decide_eq_false (by omega)]; rfl)]; exact e1
     ·rw [hs,if_neg (by rw [← hd, ← hm]; exact hc)]
  ·have e : thL ids th (k + 1) = thL ids th k := by rw [thL_succ,if_neg ht,List.append_nil]
   have hf : th.getD k false = false := by rwa [Bool.not_eq_true] at ht
   have hl : lstB th nb n (k + 1) = lstB th nb n k := lstB_no (by rw [hf]; rfl)
   rw [e,hl]
   refine ⟨h1,fun hn => ?_⟩
   obtain ⟨m,e1,e2,e3,e4⟩ := h2 hn
   exact ⟨m,e1,by omega,e3,e4⟩
theorem RepB.drop (h : RepB ids th nb n near) {i : Nat} (hi : i < n) : RepB ids (th.set i false) nb n near := by
 have hl : i < th.length := by rw [h.lt]; exact hi
 refine ⟨h.li,by rw [List.length_set]; exact h.lt,h.nd,fun a b ha hb h1 h2 => ?_⟩
 rw [getD_set _ _ _ _ _ hl] at h1 h2
 split at h1
 ·cases h1
 ·split at h2
  ·cases h2
  ·exact h.nb a b ha hb h1 h2
end
end Go.Proofs.YtoacpebmhbkmbaaGreatDoor
namespace Go.Proofs.YtoacpebmhbkmbaaGreatDoor
def pikB (p : Nat → Bool) (kf : Nat → Nat) : Nat → Int
 | 0 => -1
 | i + 1 => if (p i && (decide (pikB p kf i < 0) || decide (kf i < kf (pikB p kf i).toNat))) = true then (i : Int) else pikB p kf i
theorem pikB_bd (p : Nat → Bool) (kf : Nat → Nat) : ∀ i : Nat, -1 ≤ pikB p kf i ∧ pikB p kf i < (i : Int)
 | 0 => by unfold pikB; omega
 | i + 1 => by
  have h := pikB_bd p kf i
  unfold pikB
  split <;> omega
theorem pikB_yes {p : Nat → Bool} {kf : Nat → Nat} {i : Nat} (h : (p i && (decide (pikB p kf i < 0) || decide (kf i < kf (pikB p kf i).toNat))) = true) : pikB p kf (i + 1) = (i : Int) := by
 conv => lhs; rw [pikB]
 rw [if_pos h]
theorem pikB_no {p : Nat → Bool} {kf : Nat → Nat} {i : Nat} (h : (p i && (decide (pikB p kf i < 0) || decide (kf i < kf (pikB p kf i).toNat))) = false) : pikB p kf (i + 1) = pikB p kf i := by
 conv => lhs; rw [pikB]
 rw [if_neg (by rw [h]; simp)]
def selB (ids : List Int) (p : Nat → Bool) (k : Nat) : List Int := ((List.range k).filter p).map fun j => ids.getD j 0
theorem selB_succ (ids : List Int) (p : Nat → Bool) (k : Nat) : selB ids p (k + 1) = selB ids p k ++ (if p k = true then [ids.getD k 0] else []) := by
 unfold selB
 rw [List.range_succ,List.filter_append,List.map_append]
 by_cases h : p k = true
 ·rw [if_pos h,List.filter_cons_of_pos h]; rfl
 ·rw [if_neg h,List.filter_cons_of_neg h]; rfl
theorem pik_spec {ids : List Int} {p : Nat → Bool} {kf : Nat → Nat} {key : Int → Nat} {n : Nat} (hk : ∀ j,j < n → p j = true → kf j = key (ids.getD j 0)) : ∀ k,k ≤ n → (selB ids p k = [] → pikB p kf k = -1) ∧ (selB ids p k ≠ [] → ∃ m : Nat,pikB p kf k = (m : Int) ∧ m < k ∧ p m = true ∧ ids.getD m 0 = leastP key (selB ids p k)) := by
 intro k
 induction k with
 | zero => exact fun _ => ⟨fun _ => rfl,fun h => absurd rfl h⟩
 | succ k ih =>
  intro hkn
  obtain ⟨h1,h2⟩ := ih (by omega)
  by_cases ht : p k = true
  ·have e : selB ids p (k + 1) = selB ids p k ++ [ids.getD k 0] := by rw [selB_succ,if_pos ht]
   refine ⟨fun h0 => by rw [e] at h0; simp at h0,fun _ => ?_⟩
   by_cases hn : selB ids p k = []
   ·have hl := h1 hn
    refine ⟨k,pikB_yes (by rw [ht,hl]; rfl),by omega,ht, ?_⟩
    rw [e,hn]
    rfl
   ·obtain ⟨m,e1,e2,e3,e4⟩ := h2 hn
    have hd := hk k (by omega) ht
    have hm := hk m (by omega) e3
    have hs : leastP key (selB ids p (k + 1)) = if key (ids.getD k 0) < key (ids.getD m 0) then ids.getD k 0 else ids.getD m 0 := by
     rw [e,e4]
     obtain ⟨a,l,hal⟩ := List.exists_cons_of_ne_nil hn
     rw [hal,List.cons_append,leastP_snoc]
    by_cases hc : kf k < kf m
    ·refine ⟨k,pikB_yes (by rw [ht,e1,Int.toNat_natCast,decide_eq_true hc]; simp),by omega,ht, ?_⟩
     rw [hs,if_pos (by rw [← hd, ← hm]; exact hc)]
    ·refine ⟨m, ?_,by omega,e3, ?_⟩
     ·rw [pikB_no (by rw [ht,e1,Int.toNat_natCast,decide_eq_false hc,decide_eq_false (by omega)]; rfl)]; exact e1
     ·rw [hs,if_neg (by rw [← hd, ← hm]; exact hc)]
  ·have e : selB ids p (k + 1) = selB ids p k := by rw [selB_succ,if_neg ht,List.append_nil]
   have hf : p k = false := by rwa [Bool.not_eq_true] at ht
   have hl : pikB p kf (k + 1) = pikB p kf k := pikB_no (by rw [hf]; rfl)
   rw [e,hl]
   refine ⟨h1,fun hn => ?_⟩
   obtain ⟨m,e1,e2,e3,e4⟩ := h2 hn
   exact ⟨m,e1,by omega,e3,e4⟩
def pnB (th : List Bool) (nb : List (List Bool)) (i j : Nat) : Bool := th.getD j false && nbG nb i j
def ctB (nb : List (List Bool)) (i j : Nat) : Nat → List (List Bool)
 | 0 => nb
 | k + 1 => if (nbG (ctB nb i j k) i k && decide (k ≠ j)) = true then putN (putN (ctB nb i j k) j k true) k j true else ctB nb i j k
theorem ctB_yes {nb : List (List Bool)} {i j k : Nat} (h : (nbG (ctB nb i j k) i k && decide (k ≠ j)) = true) : ctB nb i j (k + 1) = putN (putN (ctB nb i j k) j k true) k j true := by
 conv => lhs; rw [ctB]
 rw [if_pos h]
theorem ctB_no {nb : List (List Bool)} {i j k : Nat} (h : (nbG (ctB nb i j k) i k && decide (k ≠ j)) = false) : ctB nb i j (k + 1) = ctB nb i j k := by
 conv => lhs; rw [ctB]
 rw [if_neg (by rw [h]; simp)]
section
variable {ids : List Int} {th : List Bool} {nb : List (List Bool)} {n : Nat} {near : Int → Int → Bool} {bs : List Nat}
theorem Sqr.ct (h : Sqr n bs nb) (i j : Nat) : ∀ k,Sqr n bs (ctB nb i j k)
 | 0 => h
 | k + 1 => by
  have ih := Sqr.ct h i j k
  by_cases hc : (nbG (ctB nb i j k) i k && decide (k ≠ j)) = true
  ·rw [ctB_yes hc]; exact (ih.put _ _ _).put _ _ _
  ·rw [ctB_no (by rwa [Bool.not_eq_true] at hc)]; exact ih
theorem Sqr.get (h : Sqr n bs nb) {i k : Nat} (v : Bool) (hi : i < n) (hk : k < n) (a b : Nat) : nbG (putN nb i k v) a b = if a = i ∧ b = k then v else nbG nb a b :=
 nbG_put v (by rw [h.ln]; exact hi) (by rw [h.row i hi]; exact hk) a b
def ctP (nb : List (List Bool)) (i j k a b : Nat) : Prop := nbG nb a b = true ∨ (a = j ∧ b < k ∧ nbG nb i b = true ∧ b ≠ j) ∨ (b = j ∧ a < k ∧ nbG nb i a = true ∧ a ≠ j)
theorem ctB_get (h : Sqr n bs nb) {i j : Nat} (hi : i < n) (hj : j < n) (hij : i ≠ j) (hii : nbG nb i i = false) : ∀ k,k ≤ n → ∀ a b,a < n → b < n → (nbG (ctB nb i j k) a b = true ↔ ctP nb i j k a b)
 | 0,_,a,b,_,_ => by
  unfold ctP ctB
  simp
 | k + 1,hk,a,b,ha,hb => by
  have ih := ctB_get h hi hj hij hii k (by omega)
  have hr : nbG (ctB nb i j k) i k = nbG nb i k := by
   rw [Bool.eq_iff_iff,ih i k hi (by omega)]
   unfold ctP
   constructor
   ·rintro (h | ⟨h,_⟩ | ⟨_,_,h,_⟩)
    ·exact h
    ·exact absurd h hij
    ·rw [hii] at h; cases h
   ·exact .inl
  have hq := h.ct i j k
  have hab := ih a b ha hb
  by_cases hc : (nbG (ctB nb i j k) i k && decide (k ≠ j)) = true
  ·have hc2 := hc
   rw [hr,Bool.and_eq_true,decide_eq_true_eq] at hc2
   rw [ctB_yes hc,(hq.put j k true).get true (show k < n by omega) hj,hq.get true hj (show k < n by omega)]
   by_cases e1 : a = k ∧ b = j
   ·obtain ⟨rfl,rfl⟩ := e1
    rw [if_pos ⟨rfl,rfl⟩]
    unfold ctP
    exact ⟨fun _ => .inr (.inr ⟨rfl,by omega,hc2.1,hc2.2⟩),fun _ => rfl⟩
   ·rw [if_neg e1]
    by_cases e2 : a = j ∧ b = k
    ·obtain ⟨rfl,rfl⟩ := e2
     rw [if_pos ⟨rfl,rfl⟩]
     unfold ctP
     exact ⟨fun _ => .inr (.inl ⟨rfl,by omega,hc2.1,hc2.2⟩),fun _ => rfl⟩
    ·rw [if_neg e2,hab]
     unfold ctP
     constructor
     ·rintro (h | ⟨h1,h2,h3⟩ | ⟨h1,h2,h3⟩)
      ·exact .inl h
      ·exact .inr (.inl ⟨h1,by omega,h3⟩)
      ·exact .inr (.inr ⟨h1,by omega,h3⟩)
     ·rintro (h | ⟨h1,h2,h3⟩ | ⟨h1,h2,h3⟩)
      ·exact .inl h
      ·exact .inr (.inl ⟨h1,by have : b ≠ k := fun e => e2 ⟨h1,e⟩; omega,h3⟩)
      ·exact .inr (.inr ⟨h1,by have : a ≠ k := fun e => e1 ⟨e,h1⟩; omega,h3⟩)
  ·have hc1 : (nbG (ctB nb i j k) i k && decide (k ≠ j)) = false := by rwa [Bool.not_eq_true] at hc
   rw [hr,Bool.and_eq_true,decide_eq_true_eq] at hc
   rw [ctB_no hc1,hab]
   unfold ctP
   constructor
   ·rintro (h | ⟨h1,h2,h3⟩ | ⟨h1,h2,h3⟩)
    ·exact .inl h
    ·exact .inr (.inl ⟨h1,by omega,h3⟩)
    ·exact .inr (.inr ⟨h1,by omega,h3⟩)
   ·rintro (h | ⟨h1,h2,h3,h4⟩ | ⟨h1,h2,h3,h4⟩)
    ·exact .inl h
    ·exact .inr (.inl ⟨h1,by have : b ≠ k := fun e => hc (by rw [← e]; exact ⟨h3,h4⟩); omega,h3,h4⟩)
    ·exact .inr (.inr ⟨h1,by have : a ≠ k := fun e => hc (by rw [← e]; exact ⟨h3,h4⟩); omega,h3,h4⟩)
theorem RepB.sel (h : RepB ids th nb n near) {i : Nat} (hi : i < n) (ht : th.getD i false = true) : selB ids (pnB th nb i) n = (thL ids th n).filter (near (ids.getD i 0)) := by
 unfold selB thL
 rw [List.filter_map,List.filter_filter]
 refine congrArg (List.map _) (List.filter_congr fun k hk => ?_)
 have hk := List.mem_range.1 hk
 unfold pnB
 simp only [Function.comp]
 by_cases hh : th.getD k false = true
 ·rw [hh,h.nb i k hi hk ht hh]; simp
 ·rw [Bool.not_eq_true] at hh; rw [hh]; simp
theorem set_get {th : List Bool} {n : Nat} (hl : th.length = n) {i a : Nat} (hi : i < n) (h : (th.set i false).getD a false = true) : a ≠ i ∧ th.getD a false = true := by
 rw [getD_set _ _ _ _ _ (by rw [hl]; exact hi)] at h
 split at h
 ·cases h
 ·rename_i e; exact ⟨e,h⟩
theorem RepB.con (h : RepB ids th nb n near) (hq : Sqr n bs nb) (hr : ∀ u,near u u = false) {i j : Nat} (hi : i < n) (hti : th.getD i false = true) (hj : j < n) (hij : i ≠ j) : RepB ids (th.set i false) (ctB nb i j n) n (mrgB near (ids.getD i 0) (ids.getD j 0)) := by
 refine ⟨h.li,by rw [List.length_set]; exact h.lt,h.nd,fun a b ha hb h1 h2 => ?_⟩
 obtain ⟨_,h1⟩ := set_get h.lt hi h1
 obtain ⟨_,h2⟩ := set_get h.lt hi h2
 have hii : nbG nb i i = false := by rw [h.nb i i hi hi hti hti,hr]
 rw [Bool.eq_iff_iff,ctB_get hq hi hj hij hii n (Nat.le_refl n) a b ha hb,mrgB_iff]
 unfold ctP mrg
 rw [h.nb a b ha hb h1 h2,h.nb i b hi hb hti h2,h.nb i a hi ha hti h1]
 have ea : ids.getD a 0 = ids.getD j 0 ↔ a = j := ⟨h.inj ha hj,fun e => by rw [e]⟩
 have eb : ids.getD b 0 = ids.getD j 0 ↔ b = j := ⟨h.inj hb hj,fun e => by rw [e]⟩
 constructor
 ·rintro (h | ⟨h1,_,h3,h4⟩ | ⟨h1,_,h3,h4⟩)
  ·exact .inl h
  ·exact .inr (.inl ⟨ea.2 h1,h3,fun e => h4 (eb.1 e)⟩)
  ·exact .inr (.inr ⟨eb.2 h1,h3,fun e => h4 (ea.1 e)⟩)
 ·rintro (h | ⟨h1,h3,h4⟩ | ⟨h1,h3,h4⟩)
  ·exact .inl h
  ·exact .inr (.inl ⟨ea.1 h1,hb,h3,fun e => h4 (eb.2 e)⟩)
  ·exact .inr (.inr ⟨eb.1 h1,ha,h3,fun e => h4 (ea.2 e)⟩)
end
end Go.Proofs.YtoacpebmhbkmbaaGreatDoor
namespace Go.Proofs.YtoacpebmhbkmbaaGreatDoor
open Go Go.RowKit Go.Shelf
attribute [local go_sem] qUpon lUpon
attribute [local irreducible] wpO wpX wpQL
theorem Sp.row_ne {wf w W : World} {T0 : List Nat} {ds : List Deferred} {L : List Cl} {Rs : List Rw} (h : Sp wf T0 w ds L Rs W) (i j : Nat) (hij : i ≠ j) {T k n T' k' n' : Nat} {v v' : Value} {xs xs' : List Value} (hi : Rs[i]? = some (T,k,v,n,xs)) (hj : Rs[j]? = some (T',k',v',n',xs')) {a b : Nat} (ha : v.ownBlock = some a) (hb : v'.ownBlock = some b) (hk : k ≠ 0 := by decide) (hk' : k' ≠ 0 := by decide) : a ≠ b := by
 have hnd := h.st.nd
 unfold stT at hnd
 have h2 := (List.nodup_append.1 hnd).2.1
 unfold rwT List.Nodup at h2
 have h3 := (List.pairwise_flatMap.1 h2).2
 rw [List.pairwise_iff_getElem] at h3
 obtain ⟨li,ei⟩ := List.getElem?_eq_some_iff.1 hi
 obtain ⟨lj,ej⟩ := List.getElem?_eq_some_iff.1 hj
 have ma : a ∈ (rwB Rs[i]).toList := by rw [ei,rwB_slice hk,ha]; simp
 have mb : b ∈ (rwB Rs[j]).toList := by rw [ej,rwB_slice hk',hb]; simp
 rcases Nat.lt_or_gt_of_ne hij with h4 | h4
 ·exact h3 i j li lj h4 a ma b mb
 ·exact fun e => h3 j i lj li h4 b mb a ma e.symm
theorem Sp.cellRK {wf w W : World} {T0 : List Nat} {ds : List Deferred} {L : List Cl} {Rs : List Rw} {S : List Nat} (h : Sp wf T0 w ds L Rs W) (j : Nat) {T n c b n' : Nat} {xs : List Value} (hj : Rs[j]? = some (T,1, .slice (some ⟨b,0,none⟩) n c,n',xs)) (hS : b ∉ S) {i : Nat} {v : Value} (hv : xs[i]? = some v) : ∀ W',Keep S W W' → W'.cell? ⟨b,i,none⟩ = some v := by
 obtain ⟨hlen,h0 | ⟨g,cap',cur,e,hb,hg,hn,hm,hsz,htk⟩⟩ := h.row j hj
 ·cases h0.1
 ·injection e with e1 _ _
  injection e1 with e1
  injection e1 with e1 _
  subst e1
  have hB : Blk W b T cur := hg
  refine hB.cellsK hS i ?_
  rw [← htk,List.getElem?_take] at hv
  split at hv
  ·rw [← hv]; simp
  ·cases hv
theorem flatB_get {th : List Bool} {i : Nat} (h : i < th.length) : (th.flatMap encB)[i]? = some (.bool (th.getD i false)) := by
 rw [flat1 (enc := encB) (f := fun x => .bool x) (fun _ => rfl),List.getElem?_map,List.getD_eq_getElem?_getD,List.getElem?_eq_getElem h]
 rfl
theorem flatI_get {ids : List Int} {i : Nat} (h : i < ids.length) : (ids.flatMap encI)[i]? = some (.int .i64 (ids.getD i 0)) := by
 rw [flat1 (enc := encI) (f := fun x => .int .i64 x) (fun _ => rfl),List.getElem?_map,List.getD_eq_getElem?_getD,List.getElem?_eq_getElem h]
 rfl
theorem flatH_get {bs : List Nat} {n i b : Nat} (h : bs[i]? = some b) : ((bs.map (hdrP n)).flatMap encSl)[i]? = some (.slice (some ⟨b,0,none⟩) n n) := by
 rw [flat1 (enc := encSl) (f := fun x : Sl => .slice x.1 x.2.1 x.2.2) (fun _ => rfl),List.getElem?_map,List.getElem?_map,h]
 rfl
theorem near4 {r0 r1 r2 r3 : Rw} {n i b : Nat} {bs : List Nat} {nb : List (List Bool)} (hq : Sqr n bs nb) (hi : i < n) (hb : bs[i]? = some b) : (r0 :: r1 :: r2 :: r3 :: nearM n bs nb)[4 + i]? = some (4,1,Value.slice (some ⟨b,0,none⟩) n n,n,(nb.getD i []).flatMap encB) := by
 have hr : i < nb.length := by rw [hq.ln]; exact hi
 rw [show 4 + i = i + 1 + 1 + 1 + 1 by omega,List.getElem?_cons_succ,List.getElem?_cons_succ,List.getElem?_cons_succ,List.getElem?_cons_succ,nearM_get hb (List.getElem?_eq_getElem hr),List.getD_eq_getElem?_getD,List.getElem?_eq_getElem hr]
 rfl
theorem Sqr.bs {n : Nat} {bs : List Nat} {nb : List (List Bool)} (h : Sqr n bs nb) {i : Nat} (hi : i < n) : ∃ b,bs[i]? = some b := ⟨_,List.getElem?_eq_getElem (by rw [h.lb]; exact hi)⟩
theorem Sp.nb4 {wf w W : World} {T0 : List Nat} {ds : List Deferred} {L : List Cl} {S : List Nat} {r0 r1 r2 r3 : Rw} {n i b k : Nat} {bs : List Nat} {nb : List (List Bool)} (h : Sp wf T0 w ds L (r0 :: r1 :: r2 :: r3 :: nearM n bs nb) W) (hq : Sqr n bs nb) (hi : i < n) (hk : k < n) (hb : bs[i]? = some b) (hS : b ∉ S) : ∀ W',Keep S W W' → W'.cell? ⟨b,k,none⟩ = some (.bool (nbG nb i k)) :=
 h.cellRK (4 + i) (near4 hq hi hb) hS (flatB_get (by rw [hq.row i hi]; exact hk))
section
variable {P : Program} {l : List Oper} {K : Act → World → Prop} {C : World → Prop} {safe : Nat → Bool} {Q : Act → World → Prop} {m j : Nat} {listed : Array Bool} {a : Act} {r : List Oper} {o : Oper} {wf w W : World} {T0 : List Nat} {ds : List Deferred} {L : List Cl} {n : Nat} {bs : List Nat} {nb : List (List Bool)} {r0 r1 r2 r3 : Rw}
theorem near4_set (_hq : Sqr n bs nb) {i k b : Nat} (_hi : i < n) (hb : bs[i]? = some b) (y : Bool) : (r0 :: r1 :: r2 :: r3 :: nearM n bs nb).set (4 + i) (4,1,Value.slice (some ⟨b,0,none⟩) n n,n,((nb.getD i []).set k y).flatMap encB) = r0 :: r1 :: r2 :: r3 :: nearM n bs (putN nb i k y) := by
 rw [show 4 + i = i + 1 + 1 + 1 + 1 by omega,List.set_cons_succ,List.set_cons_succ,List.set_cons_succ,List.set_cons_succ,nearM_set hb]
 rfl
theorem Sp.putNear4L {S : List Nat} {w1 : World} {q0 : Prop} {li : Array Bool} (h : Sp wf T0 w ds L (r0 :: r1 :: r2 :: r3 :: nearM n bs nb) W) (hK : Keep S w1 W) (hq : Sqr n bs nb) {i k b : Nat} (hi : i < n) (hk : k < n) (y : Bool) (hb : bs[i]? = some b) (hc : b ∈ S)
  {t : TypeId} {p x : Operand} (ho : o.op = .store t p x) (hp : a.eval p = .pointer (some ⟨b,k,none⟩)) (hx : a.eval x = .bool y) (hz : (sizeOf t).run P W = .ok 1 W)
  (hk2 : ∀ W',Sp wf T0 w ds L (r0 :: r1 :: r2 :: r3 :: nearM n bs (putN nb i k y)) W' → Keep S w1 W' → wpX P l.toArray Ext (Keep S w1) safe Q m li (a.put o.dst undef) W') : lUpon P (fun v w' => (q0 → Keep S w1 w') ∧ ∀ w'',Ext w' w'' → wpX P l.toArray Ext (Keep S w1) safe Q m li (a.put o.dst v) w'') ((execOp a.eval o).run P W) := by
 have hrow := h.row (4 + i) (near4 hq hi hb)
 obtain ⟨cs,h1,h2,h3⟩ := run_store_ownE (P := P) (enc := encB) (f := fun q => .bool q) (fun _ => rfl) (fun _ => rfl) (fun _ => rfl) y ho hp hx hz hrow (by rw [hq.row i hi]; exact hk)
 rw [h1]
 have hK2 : Keep S w1 (W.setRow b cs) := hK.trans ((Keep.setRow W b cs).mono fun x hx => by rw [List.mem_singleton] at hx; subst hx; exact hc)
 refine lUpon_skip ⟨fun _ => hK2,fun W' hx => hk2 W' ?_ (hK2.trans (hx.keep S))⟩
 have h4 := h.push (4 + i) (by decide) (near4 hq hi hb) (Ext.refl W) h2 h3 (.inl rfl)
 rw [near4_set hq hi hb] at h4
 exact h4.ext hx
end
theorem infoA2 : (Tryz.prog.info? 52).map (fun i => (i.zero.map (·.cells.size),i.size,i.bytes)) = some (some 2,2,16) := by kernel_rfl
theorem run_build1A {ρ : Operand → Value} {o : Oper} {x : Operand} {w : World} {u v : Int} (ho : o.op = .buildSlice 47 1 #[(0,x)]) (hx : ρ x = .agg #[.int .i64 u, .int .i64 v]) : (execOp ρ o).run Tryz.prog w = .ok (.value (.slice (some ⟨w.heap.size,0,none⟩) 1 1)) (w.alloc (.cells #[.int .i64 u, .int .i64 v] 52)) := by
 unfold execOp
 simp only [ho]
 simp [go_sem,hx]
theorem neI_of {k j : Nat} (h : decide (k ≠ j) = true) : ((k : Int) != (j : Int)) = true := by
 rw [decide_eq_true_eq] at h
 exact bne_iff_ne.2 (by omega)
theorem neI_no {k j : Nat} (h : decide (k ≠ j) = false) : ((k : Int) != (j : Int)) = false := by
 rw [decide_eq_false_iff_not,Decidable.not_not] at h
 subst h
 simp
def CtPost (w : World) (z : Int) (xs : List (Int × Int)) (e : Ending) (w' : World) : Prop := ∃ A c,e = .returned (.tuple #[.int .i64 z, .slice A xs.length c]) ∧ w'.ownsRow w.heap.size 52 2 (.slice A xs.length c) xs.length (xs.flatMap encP) ∧ Ext w w'
theorem CtPost.mk {w w' : World} {z z' : Int} {xs : List (Int × Int)} {A : Option Addr} {n c : Nat} (hz : z = z') (hn : n = xs.length) (h1 : w'.ownsRow w.heap.size 52 2 (.slice A n c) n (xs.flatMap encP)) (h2 : Ext w w') : CtPost w z' xs (.returned (.tuple #[.int .i64 z, .slice A n c])) w' := ⟨A,c,by rw [hn,hz],by rw [hn] at h1; exact h1,h2⟩
set_option maxRecDepth 100000 in
set_option maxHeartbeats 16000000 in
theorem contract22_any (A B : Option Addr) (V : List (Int × Thing)) (E : List ((Int × Int) × Thing)) (cA cB : Nat) (w : World) (hV : SlAt encV 3 w A V) (hE : SlAt encE 4 w B E) (hi : GInv V E) (hl : V.length ≤ 100) :
  Calls Tryz.prog 20 #[.agg #[.slice A V.length cA, .slice B E.length cB]] w (CtPost w ((conS (toL (vS V)).length (nr0 E) (toL (vS V))).foldl (fun m p => max m (p.2 : Int)) (-1)) (outC2 (conS (toL (vS V)).length (nr0 E) (toL (vS V))))) := by
 have hof := hide (fun (W : World) (hW : Ext w W) => of22_any A B V E cA cB W (hV.ext hW) (hE.ext hW) hi hl)
 have hLV := toL_vS hi
 have hRp := rep_of hi
 obtain ⟨L0,hL0⟩ : ∃ L0,L0 = toL (vS V) := ⟨_,rfl⟩
 obtain ⟨near0,hnear⟩ : ∃ near,near = nr0 E := ⟨_,rfl⟩
 rw [← hL0, ← hnear]
 rw [← hL0, ← hnear] at hRp
 rw [← hL0] at hLV
 rw [← hLV, ← hnear] at hof
 obtain ⟨nV,hnV⟩ : ∃ nV,nV = V.length := ⟨_,rfl⟩
 obtain ⟨nE,hnE⟩ : ∃ nE,nE = E.length := ⟨_,rfl⟩
 rw [← hnV, ← hnE]
 rw [← hnV, ← hnE] at hof
 have hlL : L0.length = nV := by rw [hLV,List.length_map,hnV]
 rw [← hnV] at hl
 have hlb := hide hl
 have hlL' := hide hlL
 have hnd := hide hRp.nodup
 have hir0 := hide hRp.irr
 obtain ⟨D,hD⟩ : ∃ D,D = conS L0.length near0 L0 := ⟨_,rfl⟩
 have hD' := hide hD
 rw [← hD]
 clear hD
 clear hL0 hnear hRp hLV hnV hnE hlL hV hE hi hl
 have hP := hide (Sp.new w)
 refine callsIn_wide.1 (callsIn_of_wp_marks (n := 0) Tryz.func20 rfl trivial (wpIn_wide.2 ?_))
 simp only [Tryz.ntmps20,List.size_toArray,List.length_cons,List.length_nil,Nat.reduceAdd,Nat.reduceSub,Array.replicate_succ,Array.replicate_zero,List.push_toArray,List.append_toArray,List.nil_append,List.cons_append]
 try dsimp only
 repeat ((fail_if_success (with_reducible refine wp_reg (id := 0) ?_)); (first | go_values | go_skip | go_step | go_guarded | go_upon | go_in | go_back | fail))
 with_reducible refine wp_reg (id := 0) ?_
 refine (unhide hP).allocO 41 #[.slice A nV cA, .slice B nE cB] rfl (run_box (v := .agg #[.slice A nV cA, .slice B nE cB]) rfl rfl) ?_
 intro r1 y1 hQ
 replace hP : Hid (Sp w [] w [] [(r1,41, #[.slice A nV cA, .slice B nE cB])] [] y1) := hide hQ
 clear hQ
 iterate 2
  refine wpO_want rfl ?_
  go_simp
 refine wpO_done ?_
 try go_frame
 replace hP : Hid (Sp w [] w [] [(r1,41, #[.slice A nV cA, .slice B nE cB])] [(52,2, .slice none 0 0,0,([] : List (Int × Int)).flatMap encP)] y1) := hide ((unhide hP).nil 52 2)
 try dsimp only
 repeat ((fail_if_success (with_reducible refine wp_reg (id := 1) ?_)); (first | go_values | go_skip | go_step | go_guarded | go_upon | go_in | go_back | fail))
 with_reducible refine wp_reg (id := 1) ?_
 refine wpO_val rfl (run_load_agg (cs := #[.slice A nV cA, .slice B nE cB]) rfl rfl (by simp [go_sem]) (by simp [go_sem]) ((unhide hP).get 0 rfl).whole) ?_
 go_frame
 refine wpO_want rfl ?_
 go_simp
 refine ((unhide hof) y1 (unhide hP).extf).mono ?_
 rintro _ y2 ⟨Ai,At,An,ci,ct,cn,bs,nb,th0,n,hn,rfl,hst,hsq0,htl,hth,hnb0,hxc⟩
 refine ⟨_,rfl, ?_⟩
 replace hP : Hid (Sp w [] w [] [(r1,41, #[.slice A nV cA, .slice B nE cB])] ((52,2, .slice none 0 0,0,([] : List (Int × Int)).flatMap encP) :: (4,1, .slice At n ct,n,th0.flatMap encB) :: (3,1, .slice Ai n ci,n,L0.flatMap encI) :: (106,1, .slice An n cn,n,(bs.map (hdrP n)).flatMap encSl) :: nearM n bs nb) y2) := hide ((unhide hP).addSt hxc hst)
 have hsq := hide hsq0
 have hnl := hide hn
 have hR0 := hide (show RepB L0 th0 nb n near0 from ⟨hn.symm,htl,unhide hnd,fun a b ha hb _ _ => hnb0 a b ha hb⟩)
 have hT0 := hide (getD_all hth L0 hn.symm)
 have hn100 := hide (show n ≤ 100 by rw [hn,unhide hlL']; exact unhide hlb)
 clear hst hsq0 htl hth hnb0 hxc hn
 refine (unhide hP).allocO 109 #[.slice none 0 0, .slice none 0 0, .slice none 0 0] rfl (by go_simp) ?_
 intro r4 y3 hQ
 replace hP : Hid (Sp w [] w [] [(r1,41, #[.slice A nV cA, .slice B nE cB]),(r4,109, #[.slice none 0 0, .slice none 0 0, .slice none 0 0])] ((52,2, .slice none 0 0,0,([] : List (Int × Int)).flatMap encP) :: (4,1, .slice At n ct,n,th0.flatMap encB) :: (3,1, .slice Ai n ci,n,L0.flatMap encI) :: (106,1, .slice An n cn,n,(bs.map (hdrP n)).flatMap encSl) :: nearM n bs nb) y3) := hide hQ
 clear hQ
 refine (unhide hP).setO 1 #[.slice Ai n ci, .slice At n ct, .slice An n cn] rfl rfl (fun hb => run_store_row (v := .agg #[.slice Ai n ci, .slice At n ct, .slice An n cn]) rfl (by rfl) (by rfl) (by simp [go_sem]) hb rfl (fun u hu => by simp [Value.cells] at hu; rcases hu with rfl | rfl | rfl <;> rfl)) ?_
 intro y4 hQ
 replace hP : Hid (Sp w [] w [] [(r1,41, #[.slice A nV cA, .slice B nE cB]),(r4,109, #[.slice Ai n ci, .slice At n ct, .slice An n cn])] ((52,2, .slice none 0 0,0,([] : List (Int × Int)).flatMap encP) :: (4,1, .slice At n ct,n,th0.flatMap encB) :: (3,1, .slice Ai n ci,n,L0.flatMap encI) :: (106,1, .slice An n cn,n,(bs.map (hdrP n)).flatMap encSl) :: nearM n bs nb) y4) := hide hQ
 clear hQ
 refine wpO_want rfl ?_
 go_simp
 refine wpO_done ?_
 try go_frame
 try dsimp only
 repeat ((fail_if_success (with_reducible refine wp_reg (id := 2) ?_)); (first | go_values | go_skip | go_step | go_guarded | go_upon | go_in | go_back | fail))
 with_reducible refine wp_reg (id := 2) ?_
 refine wpO_want rfl ?_
 go_simp
 refine wpO_done ?_
 try go_frame
 try dsimp only
 repeat ((fail_if_success (with_reducible refine wp_reg (id := 3) ?_)); (first | go_values | go_skip | go_step | go_guarded | go_upon | go_in | go_back | fail))
 with_reducible refine wp_reg (id := 3) ?_
 refine wpO_val rfl (run_load_agg (cs := #[.slice Ai n ci, .slice At n ct, .slice An n cn]) rfl rfl (by simp [go_sem]) (by simp [go_sem]) ((unhide hP).get 1 rfl).whole) ?_
 go_frame
 refine wpO_want rfl ?_
 go_simp
 have hca := least22_any Ai At An n ci ct cn L0 th0 nb (bs.map (hdrP n)) y4 (((unhide hP).sub (List.Sublist.refl _) (List.sublist_cons_self _ _)).pat (by have := unhide hn100; omega) (unhide hR0).li (unhide hR0).lt (unhide hsq))
 refine (hca).mono ?_
 rintro _ y5 ⟨rfl,hxc⟩
 clear hca
 refine ⟨_,rfl, ?_⟩
 replace hP : Hid (Sp w [] w [] [(r1,41, #[.slice A nV cA, .slice B nE cB]),(r4,109, #[.slice Ai n ci, .slice At n ct, .slice An n cn])] ((52,2, .slice none 0 0,0,([] : List (Int × Int)).flatMap encP) :: (4,1, .slice At n ct,n,th0.flatMap encB) :: (3,1, .slice Ai n ci,n,L0.flatMap encI) :: (106,1, .slice An n cn,n,(bs.map (hdrP n)).flatMap encSl) :: nearM n bs nb) y5) := hide ((unhide hP).ext hxc)
 clear hxc
 refine wpO_want rfl ?_
 go_simp
 refine wpO_done ?_
 try go_frame
 go_wp2_with fail
 obtain ⟨I5_2,hI5_20⟩ : ∃ I : Nat → Act → World → Prop,I = fun fi a' wr => ∃ (th : List Bool), ∃ (nb : List (List Bool)), ∃ (near : Int → Int → Bool), ∃ (z : Int), ∃ (A6 : Option Addr), ∃ (n6 : Nat), ∃ (c6 : Nat), ∃ (ps : List ((Int × Int) × Nat)),a'.tmps.size = 125 ∧ a'.tmps.getD 4 undef = .pointer (some ⟨r4,0,none⟩) ∧ a'.tmps.getD 5 undef = .int .i64 z ∧ a'.tmps.getD 6 undef = .slice A6 n6 c6 ∧ a'.tmps.getD 7 undef = .int .i64 (lstB th nb n n) ∧ a'.defers = [] ∧ RepB L0 th nb n near ∧ Sqr n bs nb ∧ ((∀ u,near u u = false)) ∧ D = ps ++ conS fi near (thL L0 th n) ∧ (z = ps.foldl (fun m p => max m (p.2 : Int)) (-1)) ∧ n6 = ps.length ∧ (thL L0 th n).length = fi ∧ n6 + fi ≤ 100 ∧ Sp w [] w [] [(r1,41, #[.slice A nV cA, .slice B nE cB]),(r4,109, #[.slice Ai n ci, .slice At n ct, .slice An n cn])] ((52,2, .slice A6 n6 c6,n6,(outC2 ps).flatMap encP) :: (4,1, .slice At n ct,n,th.flatMap encB) :: (3,1, .slice Ai n ci,n,L0.flatMap encI) :: (106,1, .slice An n cn,n,(bs.map (hdrP n)).flatMap encSl) :: nearM n bs nb) wr := ⟨_,rfl⟩
 have hI5_2 := hide hI5_20
 clear hI5_20
 refine wp_loop_ix I5_2 (L0.length) ?_ ?_
 ·rw [unhide hI5_2]; exact ⟨th0,nb,near0, -1,none,0,0,[],rfl,rfl,rfl,rfl,rfl,rfl,unhide hR0,unhide hsq,unhide hir0,by rw [unhide hT0]; exact unhide hD',rfl,rfl,by rw [unhide hT0],by rw [unhide hlL']; have := unhide hlb; omega,unhide hP⟩
 ·rintro fi ⟨tm,dfs⟩ wr hrel
  rw [unhide hI5_2] at hrel
  obtain ⟨th,nb,near,z,A6,n6,c6,ps,hsz,e4,e5,e6,e7,hdf,hRr,hsqr,hir,hDp,hz,hn6,hLf,hnf,hPr⟩ := hrel
  obtain ⟨us,rfl⟩ : ∃ us : Nat → Value,tm = #[us 0,us 1,us 2,us 3,us 4,us 5,us 6,us 7,us 8,us 9,us 10,us 11,us 12,us 13,us 14,us 15,us 16,us 17,us 18,us 19,us 20,us 21,us 22,us 23,us 24,us 25,us 26,us 27,us 28,us 29,us 30,us 31,us 32,us 33,us 34,us 35,us 36,us 37,us 38,us 39,us 40,us 41,us 42,us 43,us 44,us 45,us 46,us 47,us 48,us 49,us 50,us 51,us 52,us 53,us 54,us 55,us 56,us 57,us 58,us 59,us 60,us 61,us 62,us 63,us 64,us 65,us 66,us 67,us 68,us 69,us 70,us 71,us 72,us 73,us 74,us 75,us 76,us 77,us 78,us 79,us 80,us 81,us 82,us 83,us 84,us 85,us 86,us 87,us 88,us 89,us 90,us 91,us 92,us 93,us 94,us 95,us 96,us 97,us 98,us 99,us 100,us 101,us 102,us 103,us 104,us 105,us 106,us 107,us 108,us 109,us 110,us 111,us 112,us 113,us 114,us 115,us 116,us 117,us 118,us 119,us 120,us 121,us 122,us 123,us 124] := ⟨fun i => tm.getD i undef,arr_fn hsz⟩
  have h4 : us 4 = .pointer (some ⟨r4,0,none⟩) := e4
  have h5 : us 5 = .int .i64 z := e5
  have h6 : us 6 = .slice A6 n6 c6 := e6
  have h7 : us 7 = .int .i64 (lstB th nb n n) := e7
  have hdf2 : dfs = [] := hdf
  subst hdf2
  clear hdf hsz e4 e5 e6 e7
  simp only [h4,h5,h6,h7]
  clear h4 h5 h6 h7
  clear hP hR0 hT0 hsq hir0
  have hP := hide hPr
  have hR := hide hRr
  have hsq := hide hsqr
  have hir' := hide hir
  have hDp' := hide hDp
  have hz' := hide hz
  have hn6' := hide hn6
  have hLf' := hide hLf
  have hnf' := hide hnf
  have hls := hRr.lst n (Nat.le_refl _)
  obtain ⟨zl,hzl⟩ : ∃ zl,zl = lstB th nb n n := ⟨_,rfl⟩
  rw [← hzl] at hls
  have hzl' := hide hzl
  rw [← hzl]
  clear hPr hRr hsqr hir hDp hz hn6 hLf hnf hzl
  by_cases hl0 : thL L0 th n = []
  ·skip
   obtain rfl := hls.1 hl0
   have hDe := hide (show D = ps by rw [unhide hDp',hl0,conS_nil,List.append_nil])
   clear hl0 hls hzl'
   try dsimp only
   repeat ((fail_if_success (with_reducible refine wp_reg (id := 4) ?_)); (first | go_values | go_skip | go_step | go_guarded | go_upon | go_in | go_back | fail))
   with_reducible refine wp_reg (id := 4) ?_
   iterate 2
    refine wpO_want rfl ?_
    go_simp
   refine wpO_done ?_
   try go_frame
   try dsimp only
   repeat ((fail_if_success (with_reducible refine wp_reg (id := 22) ?_)); (first | go_values | go_skip | go_step | go_guarded | go_upon | go_in | go_back | fail))
   with_reducible refine wp_reg (id := 22) ?_
   iterate 4
    refine wpO_want rfl ?_
    go_simp
   refine wpO_done ?_
   try go_frame
   go_wp2_with fail
   refine (unhide hP).leaves ?_
   intro w' hx hst
   refine ⟨_,results_tmp2 (t := 2) (u := 3) rfl _ _ _, ?_⟩
   have ho := hst.row 0 rfl
   rw [← unhide hDe] at hn6' hz' ho
   exact CtPost.mk (unhide hz') (by unfold outC2; rw [List.length_map]; exact unhide hn6') ho hx
  ·skip
   obtain ⟨m,hm,hmn,htm,hml⟩ := hls.2 hl0
   subst hm
   obtain ⟨f',hf0⟩ : ∃ f',fi = f' + 1 := ⟨fi - 1,by have := unhide hLf'; have := List.length_pos_iff.2 hl0; omega⟩
   have hc1 := conS_none near f' hl0
   have hc2 := conS_some near f' hl0
   obtain ⟨y,hy⟩ : ∃ y,y = L0.getD m 0 := ⟨_,rfl⟩
   rw [← hml, ← hy] at hc1 hc2
   obtain ⟨dg,hdg⟩ : ∃ dg,dg = degP near (thL L0 th n) y := ⟨_,rfl⟩
   have hdB := hide (show degB th nb n m = dg by rw [hdg,hy]; exact (unhide hR).deg hmn htm)
   have hdN := hide (show dg = ((thL L0 th n).filter (near y)).length by rw [hdg]; rfl)
   have hsel := hide (show selB L0 (pnB th nb m) n = (thL L0 th n).filter (near y) by rw [hy]; exact (unhide hR).sel hmn htm)
   have hpk := hide (pik_spec (ids := L0) (p := pnB th nb m) (kf := degB th nb n) (key := degP near (thL L0 th n)) (n := n) (fun j hj hp => by unfold pnB at hp; rw [Bool.and_eq_true] at hp; exact (unhide hR).deg hj hp.1) n (Nat.le_refl n))
   have hdl := (unhide hR).drop_L hmn htm
   rw [← hy] at hdl
   rw [← hdl] at hc1 hc2
   have hc1' := hide hc1
   have hc2' := hide hc2
   have hdb := hide (show dg ≤ 100 by rw [hdg]; exact Nat.le_trans (List.length_filter_le _ _) (by have := unhide hLf'; have := unhide hnf'; omega))
   have hLn := hide (show (thL L0 (th.set m false) n).length = f' by
    rw [hdl,List.length_erase_of_mem (by rw [hy,hml]; exact leastP_mem _ hl0),unhide hLf',hf0]; rfl)
   have hmn' := hide hmn
   have htm' := hide htm
   have hmI : (m : Int) < (n : Int) := by omega
   have hm0 : (m : Int) ≥ 0 := by omega
   have hf' := hide hf0
   have hyy := hide hy
   have hml0 := hide (show m < th.length by rw [(unhide hR).lt]; exact hmn)
   have hmi := hide (show m < L0.length by rw [(unhide hR).li]; exact hmn)
   obtain ⟨bt,rfl⟩ := own_some1 ((unhide hP).row 1 rfl) (by omega)
   obtain ⟨bi,rfl⟩ := own_some1 ((unhide hP).row 2 rfl) (by omega)
   obtain ⟨bh,rfl⟩ := own_some1 ((unhide hP).row 3 rfl) (by omega)
   obtain ⟨br,hbr0⟩ := (unhide hsq).bs hmn
   have hbr := hide hbr0
   clear hl0 hls hzl' hmn htm hml hy hdg hf0 hc1 hc2 hdl hbr0
   try dsimp only
   repeat ((fail_if_success (with_reducible refine wp_reg (id := 4) ?_)); (first | go_values | go_skip | go_step | go_guarded | go_upon | go_in | go_back | fail))
   with_reducible refine wp_reg (id := 4) ?_
   iterate 2
    refine wpO_want rfl ?_
    go_simp
   refine wpO_done ?_
   try go_frame
   try dsimp only
   repeat ((fail_if_success (with_reducible refine wp_reg (id := 6) ?_)); (first | go_values | go_skip | go_step | go_guarded | go_upon | go_in | go_back | fail))
   with_reducible refine wp_reg (id := 6) ?_
   refine wpO_want rfl ?_
   go_simp
   refine wpO_val rfl (run_load_agg (cs := #[.slice (some ⟨bi,0,none⟩) n ci, .slice (some ⟨bt,0,none⟩) n ct, .slice (some ⟨bh,0,none⟩) n cn]) rfl rfl (by simp [go_sem]) (by simp [go_sem]) ((unhide hP).get 1 rfl).whole) ?_
   go_frame
   refine wpO_want rfl ?_
   go_simp
   refine wpO_want rfl ?_
   go_simp
   have hca := degree22_any (some ⟨bi,0,none⟩) (some ⟨bt,0,none⟩) (some ⟨bh,0,none⟩) n ci ct cn L0 th nb (bs.map (hdrP n)) m wr (((unhide hP).sub (List.Sublist.refl _) (List.sublist_cons_self _ _)).pat (by have := unhide hn100; omega) (unhide hR).li (unhide hR).lt (unhide hsq)) (unhide hmn')
   rw [unhide hdB] at hca
   refine (hca).mono ?_
   rintro _ y6 ⟨rfl,hxc⟩
   clear hca
   refine ⟨_,rfl, ?_⟩
   replace hP : Hid (Sp w [] w [] [(r1,41, #[.slice A nV cA, .slice B nE cB]),(r4,109, #[.slice (some ⟨bi,0,none⟩) n ci, .slice (some ⟨bt,0,none⟩) n ct, .slice (some ⟨bh,0,none⟩) n cn])] ((52,2, .slice A6 n6 c6,n6,(outC2 ps).flatMap encP) :: (4,1, .slice (some ⟨bt,0,none⟩) n ct,n,th.flatMap encB) :: (3,1, .slice (some ⟨bi,0,none⟩) n ci,n,L0.flatMap encI) :: (106,1, .slice (some ⟨bh,0,none⟩) n cn,n,(bs.map (hdrP n)).flatMap encSl) :: nearM n bs nb) y6) := hide ((unhide hP).ext hxc)
   clear hxc
   iterate 2
    refine wpO_want rfl ?_
    go_simp
   refine wpO_done ?_
   try go_frame
   try dsimp only
   repeat ((fail_if_success (with_reducible refine wp_reg (id := 7) ?_)); (first | go_values | go_skip | go_step | go_guarded | go_upon | go_in | go_back | fail))
   with_reducible refine wp_reg (id := 7) ?_
   refine wpO_want rfl ?_
   go_simp
   refine wpO_done ?_
   try go_frame
   try dsimp only
   repeat ((fail_if_success (with_reducible refine wp_reg (id := 8) ?_)); (first | go_values | go_skip | go_step | go_guarded | go_upon | go_in | go_back | fail))
   with_reducible refine wp_reg (id := 8) ?_
   refine wpO_want rfl ?_
   go_simp
   refine wpO_done ?_
   try go_frame
   go_wp2_with fail
   obtain ⟨I6_6,hI6_60⟩ : ∃ I : Nat → Act → World → Prop,I = fun fj a' wr => ∃ (k : Nat), ∃ (zi : Int),a'.tmps.size = 125 ∧ a'.tmps.getD 4 undef = .pointer (some ⟨r4,0,none⟩) ∧ a'.tmps.getD 5 undef = .int .i64 (max z (dg : Nat)) ∧ a'.tmps.getD 6 undef = .slice A6 n6 c6 ∧ a'.tmps.getD 7 undef = .int .i64 (m : Nat) ∧ a'.tmps.getD 8 undef = .int .i64 zi ∧ a'.tmps.getD 9 undef = .int .i64 (k : Nat) ∧ a'.defers = [] ∧ k ≤ n ∧ zi = pikB (pnB th nb m) (degB th nb n) k ∧ Sp w [] w [] [(r1,41, #[.slice A nV cA, .slice B nE cB]),(r4,109, #[.slice (some ⟨bi,0,none⟩) n ci, .slice (some ⟨bt,0,none⟩) n ct, .slice (some ⟨bh,0,none⟩) n cn])] ((52,2, .slice A6 n6 c6,n6,(outC2 ps).flatMap encP) :: (4,1, .slice (some ⟨bt,0,none⟩) n ct,n,th.flatMap encB) :: (3,1, .slice (some ⟨bi,0,none⟩) n ci,n,L0.flatMap encI) :: (106,1, .slice (some ⟨bh,0,none⟩) n cn,n,(bs.map (hdrP n)).flatMap encSl) :: nearM n bs nb) wr ∧ fj = n - k := ⟨_,rfl⟩
   have hI6_6 := hide hI6_60
   clear hI6_60
   refine wp_loop_ix I6_6 (n - 0) ?_ ?_
   ·rw [unhide hI6_6]; exact ⟨0, -1,rfl,rfl,rfl,rfl,rfl,rfl,rfl,rfl,Nat.zero_le _,rfl,unhide hP,rfl⟩
   ·rintro fj ⟨tm,dfs⟩ wr hrel
    rw [unhide hI6_6] at hrel
    obtain ⟨k,zi,hsz,e4,e5,e6,e7,e8,e9,hdf,hkn,hzi,hPr,hfj⟩ := hrel
    obtain ⟨us,rfl⟩ : ∃ us : Nat → Value,tm = #[us 0,us 1,us 2,us 3,us 4,us 5,us 6,us 7,us 8,us 9,us 10,us 11,us 12,us 13,us 14,us 15,us 16,us 17,us 18,us 19,us 20,us 21,us 22,us 23,us 24,us 25,us 26,us 27,us 28,us 29,us 30,us 31,us 32,us 33,us 34,us 35,us 36,us 37,us 38,us 39,us 40,us 41,us 42,us 43,us 44,us 45,us 46,us 47,us 48,us 49,us 50,us 51,us 52,us 53,us 54,us 55,us 56,us 57,us 58,us 59,us 60,us 61,us 62,us 63,us 64,us 65,us 66,us 67,us 68,us 69,us 70,us 71,us 72,us 73,us 74,us 75,us 76,us 77,us 78,us 79,us 80,us 81,us 82,us 83,us 84,us 85,us 86,us 87,us 88,us 89,us 90,us 91,us 92,us 93,us 94,us 95,us 96,us 97,us 98,us 99,us 100,us 101,us 102,us 103,us 104,us 105,us 106,us 107,us 108,us 109,us 110,us 111,us 112,us 113,us 114,us 115,us 116,us 117,us 118,us 119,us 120,us 121,us 122,us 123,us 124] := ⟨fun i => tm.getD i undef,arr_fn hsz⟩
    have h4 : us 4 = .pointer (some ⟨r4,0,none⟩) := e4
    have h5 : us 5 = .int .i64 (max z (dg : Nat)) := e5
    have h6 : us 6 = .slice A6 n6 c6 := e6
    have h7 : us 7 = .int .i64 (m : Nat) := e7
    have h8 : us 8 = .int .i64 zi := e8
    have h9 : us 9 = .int .i64 (k : Nat) := e9
    have hdf2 : dfs = [] := hdf
    subst hdf2
    clear hdf hsz e4 e5 e6 e7 e8 e9
    simp only [h4,h5,h6,h7,h8,h9]
    clear h4 h5 h6 h7 h8 h9
    clear hP
    have hP := hide hPr
    have hfj' := hide hfj
    have hzi' := hide hzi
    have hzb := hide (show -1 ≤ zi ∧ zi < (k : Int) by rw [hzi]; exact pikB_bd _ _ k)
    clear hPr hfj hzi
    by_cases hlt : k < n
    ·skip
     have hil : (k : Int) < (n : Int) := by omega
     have hk2 := hide hlt
     have hkb : (k : Int) ≤ 100 := by have := unhide hn100; omega
     obtain ⟨x,hx⟩ : ∃ x,x = th.getD k false := ⟨_,rfl⟩
     obtain ⟨yb,hyb⟩ : ∃ yb,yb = nbG nb m k := ⟨_,rfl⟩
     have hpn := hide (show pnB th nb m k = (x && yb) by rw [hx,hyb]; rfl)
     have hmI2 := hmI
     clear hlt hkn
     have q0 := (unhide hP).cell 1 0 (v := .slice (some ⟨bi,0,none⟩) n ci) rfl rfl
     have hself := Ext.refl wr
     try dsimp only
     repeat ((fail_if_success (with_reducible refine wp_reg (id := 9) ?_)); (first | go_values | go_skip | go_step | go_guarded | go_upon | go_in | go_back | fail))
     with_reducible refine wp_reg (id := 9) ?_
     iterate 5
      refine wpO_want rfl ?_
      go_simp
     refine wpO_done ?_
     try go_frame
     clear q0 hself
     go_wp2_with fail
     have c0 : ∀ W',Keep [] wr W' → W'.cell? ⟨bt,k,none⟩ = some (.bool x) := by rw [hx]; exact (unhide hP).cellRK 1 rfl (by simp) (flatB_get (by rw [(unhide hR).lt]; exact unhide hk2))
     have c1 : ∀ W',Keep [] wr W' → W'.cell? ⟨bh,m,none⟩ = some (.slice (some ⟨br,0,none⟩) n n) := (unhide hP).cellRK 3 rfl (by simp) (flatH_get (unhide hbr))
     have c2 : ∀ W',Keep [] wr W' → W'.cell? ⟨br,k,none⟩ = some (.bool yb) := by rw [hyb]; exact (unhide hP).nb4 (unhide hsq) (unhide hmn') (unhide hk2) (unhide hbr) (by simp)
     have hpt := hide (((unhide hP).sub (List.Sublist.refl _) (List.sublist_cons_self _ _)).pat (by have := unhide hn100; omega) (unhide hR).li (unhide hR).lt (unhide hsq))
     clear hx hyb
     have q1 := (unhide hP).cellK (S := []) 1 1 (v := .slice (some ⟨bt,0,none⟩) n ct) rfl rfl (by simp)
     have q2 := (unhide hP).cellK (S := []) 1 2 (v := .slice (some ⟨bh,0,none⟩) n cn) rfl rfl (by simp)
     have hself := Keep.refl [] wr
     cases x
     ·skip
      have hc := hide (show ((false && yb) && (decide (zi < 0) || decide (degB th nb n k < degB th nb n zi.toNat))) = false from rfl)
      refine wp_regionK (P := Tryz.prog) [] [0,1,2,3,4,5,6,7,8,9,10,11,12,13,14,15,16,17,18,19,20,21,22,23,24,25,26,27] [] 0 #[true,true,true,true,true,true,true,true,true,true,true,true,true,true,true,true,true,true,true,true,true,true,true,true,true,true,true,true] (by kernel_rfl) (by kernel_rfl) rfl (by rfl) ?_
      iterate 6
       refine ql_want (v := ?_) rfl (by rfl) (fun W hW => ?_) ?_
       rotate_left
       ·go_simp
        first | done | rfl
       go_frame
      iterate 8
       first
       | (refine ql_skip rfl (by rfl) ?_)
       | (refine ql_want (v := ?_) rfl (by rfl) (fun W hW => ?_) ?_; rotate_left; (go_simp; (first | done | rfl)))
       try go_frame
      iterate 2
       refine ql_want (v := ?_) rfl (by rfl) (fun W hW => ?_) ?_
       rotate_left
       ·go_simp
        first | done | rfl
       go_frame
      iterate 11
       first
       | (refine ql_skip rfl (by rfl) ?_)
       | (refine ql_want (v := ?_) rfl (by rfl) (fun W hW => ?_) ?_; rotate_left; (go_simp; (first | done | rfl)))
       try go_frame
      iterate 1
       refine ql_want (v := ?_) rfl (by rfl) (fun W hW => ?_) ?_
       rotate_left
       ·go_simp
        first | done | rfl
       go_frame
      refine wpQL_nil (fun y7 hxq => ?_)
      replace hP : Hid (Sp w [] w [] [(r1,41, #[.slice A nV cA, .slice B nE cB]),(r4,109, #[.slice (some ⟨bi,0,none⟩) n ci, .slice (some ⟨bt,0,none⟩) n ct, .slice (some ⟨bh,0,none⟩) n cn])] ((52,2, .slice A6 n6 c6,n6,(outC2 ps).flatMap encP) :: (4,1, .slice (some ⟨bt,0,none⟩) n ct,n,th.flatMap encB) :: (3,1, .slice (some ⟨bi,0,none⟩) n ci,n,L0.flatMap encI) :: (106,1, .slice (some ⟨bh,0,none⟩) n cn,n,(bs.map (hdrP n)).flatMap encSl) :: nearM n bs nb) y7) := hide ((unhide hP).ext hxq)
      clear hxq
      refine wpX_done (by kernel_rfl) ?_
      try go_frame
      clear q1 q2 c0 c1 c2 hself hpt
      have hw1 : IntKind.i64.wrap ((k : Int) + 1) = (k : Int) + 1 := IntWalk.i64_in _ (by omega)
      have hzn := hide (show zi = pikB (pnB th nb m) (degB th nb n) (k + 1) by rw [pikB_no (by rw [unhide hpn, ← unhide hzi']; exact unhide hc)]; exact unhide hzi')
      go_wp2_with fail
      have h3 := unhide hk2
      refine ⟨n - (k + 1), ?_,by have := unhide hfj'; omega⟩
      rw [unhide hI6_6]
      exact ⟨k + 1,zi,(by first | rfl | trivial),(by first | rfl | trivial),(by first | rfl | trivial),(by first | rfl | trivial),(by first | rfl | trivial),(by first | rfl | trivial),(by first | rfl | (show _ = Value.int _ _; go_num) | go_num),(by first | rfl | trivial),by omega,unhide hzn,unhide hP,rfl⟩
     ·skip
      cases yb
      ·skip
       have hc := hide (show ((true && false) && (decide (zi < 0) || decide (degB th nb n k < degB th nb n zi.toNat))) = false from rfl)
       refine wp_regionK (P := Tryz.prog) [] [0,1,2,3,4,5,6,7,8,9,10,11,12,13,14,15,16,17,18,19,20,21,22,23,24,25,26,27] [] 0 #[true,true,true,true,true,true,true,true,true,true,true,true,true,true,true,true,true,true,true,true,true,true,true,true,true,true,true,true] (by kernel_rfl) (by kernel_rfl) rfl (by rfl) ?_
       iterate 16
        refine ql_want (v := ?_) rfl (by rfl) (fun W hW => ?_) ?_
        rotate_left
        ·go_simp
         first | done | rfl
        go_frame
       iterate 11
        first
        | (refine ql_skip rfl (by rfl) ?_)
        | (refine ql_want (v := ?_) rfl (by rfl) (fun W hW => ?_) ?_; rotate_left; (go_simp; (first | done | rfl)))
        try go_frame
       iterate 1
        refine ql_want (v := ?_) rfl (by rfl) (fun W hW => ?_) ?_
        rotate_left
        ·go_simp
         first | done | rfl
        go_frame
       refine wpQL_nil (fun y7 hxq => ?_)
       replace hP : Hid (Sp w [] w [] [(r1,41, #[.slice A nV cA, .slice B nE cB]),(r4,109, #[.slice (some ⟨bi,0,none⟩) n ci, .slice (some ⟨bt,0,none⟩) n ct, .slice (some ⟨bh,0,none⟩) n cn])] ((52,2, .slice A6 n6 c6,n6,(outC2 ps).flatMap encP) :: (4,1, .slice (some ⟨bt,0,none⟩) n ct,n,th.flatMap encB) :: (3,1, .slice (some ⟨bi,0,none⟩) n ci,n,L0.flatMap encI) :: (106,1, .slice (some ⟨bh,0,none⟩) n cn,n,(bs.map (hdrP n)).flatMap encSl) :: nearM n bs nb) y7) := hide ((unhide hP).ext hxq)
       clear hxq
       refine wpX_done (by kernel_rfl) ?_
       try go_frame
       clear q1 q2 c0 c1 c2 hself hpt
       have hw1 : IntKind.i64.wrap ((k : Int) + 1) = (k : Int) + 1 := IntWalk.i64_in _ (by omega)
       have hzn := hide (show zi = pikB (pnB th nb m) (degB th nb n) (k + 1) by rw [pikB_no (by rw [unhide hpn, ← unhide hzi']; exact unhide hc)]; exact unhide hzi')
       go_wp2_with fail
       have h3 := unhide hk2
       refine ⟨n - (k + 1), ?_,by have := unhide hfj'; omega⟩
       rw [unhide hI6_6]
       exact ⟨k + 1,zi,(by first | rfl | trivial),(by first | rfl | trivial),(by first | rfl | trivial),(by first | rfl | trivial),(by first | rfl | trivial),(by first | rfl | trivial),(by first | rfl | (show _ = Value.int _ _; go_num) | go_num),(by first | rfl | trivial),by omega,unhide hzn,unhide hP,rfl⟩
      ·skip
       by_cases hz0 : zi < 0
       ·skip
        have hc := hide (show ((true && true) && (decide (zi < 0) || decide (degB th nb n k < degB th nb n zi.toNat))) = true by simp [hz0])
        refine wp_regionK (P := Tryz.prog) [] [0,1,2,3,4,5,6,7,8,9,10,11,12,13,14,15,16,17,18,19,20,21,22,23,24,25,26,27] [] 0 #[true,true,true,true,true,true,true,true,true,true,true,true,true,true,true,true,true,true,true,true,true,true,true,true,true,true,true,true] (by kernel_rfl) (by kernel_rfl) rfl (by rfl) ?_
        iterate 19
         refine ql_want (v := ?_) rfl (by rfl) (fun W hW => ?_) ?_
         rotate_left
         ·go_simp
          first | done | rfl
         go_frame
        iterate 7
         first
         | (refine ql_skip rfl (by rfl) ?_)
         | (refine ql_want (v := ?_) rfl (by rfl) (fun W hW => ?_) ?_; rotate_left; (go_simp; (first | done | rfl)))
         try go_frame
        iterate 2
         refine ql_want (v := ?_) rfl (by rfl) (fun W hW => ?_) ?_
         rotate_left
         ·go_simp
          first | done | rfl
         go_frame
        refine wpQL_nil (fun y7 hxq => ?_)
        replace hP : Hid (Sp w [] w [] [(r1,41, #[.slice A nV cA, .slice B nE cB]),(r4,109, #[.slice (some ⟨bi,0,none⟩) n ci, .slice (some ⟨bt,0,none⟩) n ct, .slice (some ⟨bh,0,none⟩) n cn])] ((52,2, .slice A6 n6 c6,n6,(outC2 ps).flatMap encP) :: (4,1, .slice (some ⟨bt,0,none⟩) n ct,n,th.flatMap encB) :: (3,1, .slice (some ⟨bi,0,none⟩) n ci,n,L0.flatMap encI) :: (106,1, .slice (some ⟨bh,0,none⟩) n cn,n,(bs.map (hdrP n)).flatMap encSl) :: nearM n bs nb) y7) := hide ((unhide hP).ext hxq)
        clear hxq
        refine wpX_done (by kernel_rfl) ?_
        try go_frame
        clear hz0
        clear q1 q2 c0 c1 c2 hself hpt
        have hw1 : IntKind.i64.wrap ((k : Int) + 1) = (k : Int) + 1 := IntWalk.i64_in _ (by omega)
        have hzn := hide (show (k : Int) = pikB (pnB th nb m) (degB th nb n) (k + 1) by rw [pikB_yes (by rw [unhide hpn, ← unhide hzi']; exact unhide hc)])
        go_wp2_with fail
        have h3 := unhide hk2
        refine ⟨n - (k + 1), ?_,by have := unhide hfj'; omega⟩
        rw [unhide hI6_6]
        exact ⟨k + 1,(k : Int),(by first | rfl | trivial),(by first | rfl | trivial),(by first | rfl | trivial),(by first | rfl | trivial),(by first | rfl | trivial),(by first | rfl | trivial),(by first | rfl | (show _ = Value.int _ _; go_num) | go_num),(by first | rfl | trivial),by omega,unhide hzn,unhide hP,rfl⟩
       ·skip
        obtain ⟨j,hj⟩ : ∃ j : Nat,(j : Int) = zi := ⟨zi.toNat,by omega⟩
        have hjn := hide (show j < n by have := (unhide hzb).2; have := unhide hk2; omega)
        subst hj
        obtain ⟨dk,hdk⟩ : ∃ dk,dk = degB th nb n k := ⟨_,rfl⟩
        obtain ⟨dm,hdm⟩ : ∃ dm,dm = degB th nb n j := ⟨_,rfl⟩
        have hdk' := hide hdk
        have hdm' := hide hdm
        obtain ⟨qd,hqd⟩ : ∃ qd,qd = decide ((dk : Int) < (dm : Int)) := ⟨_,rfl⟩
        have hqd' := hide hqd
        have hqn := hide (show qd = decide (dk < dm) by rw [hqd]; by_cases h : dk < dm <;> simp [h])
        have hz1 : ¬ (j : Int) < 0 := by omega
        clear hdk hdm hqd hz0
        refine wp_regionK (P := Tryz.prog) [] [0,1,2,3,4,5,6,7,8,9,10,11,12,13,14,15,16,17,18,19,20,21,22,23,24,25,26,27] [] 0 #[true,true,true,true,true,true,true,true,true,true,true,true,true,true,true,true,true,true,true,true,true,true,true,true,true,true,true,true] (by kernel_rfl) (by kernel_rfl) rfl (by rfl) ?_
        iterate 19
         refine ql_want (v := ?_) rfl (by rfl) (fun W hW => ?_) ?_
         rotate_left
         ·go_simp
          first | done | rfl
         go_frame
        refine ql_want (v := .agg #[.slice (some ⟨bi,0,none⟩) n ci, .slice (some ⟨bt,0,none⟩) n ct, .slice (some ⟨bh,0,none⟩) n cn]) rfl (by rfl) (fun W hW => qUpon_ofX (run_load_agg (cs := #[.slice (some ⟨bi,0,none⟩) n ci, .slice (some ⟨bt,0,none⟩) n ct, .slice (some ⟨bh,0,none⟩) n cn]) rfl rfl (by simp [go_sem]) (by simp [go_sem]) ((unhide hP).wholeK 1 rfl hW (by simp)))) ?_
        go_frame
        iterate 1
         refine ql_want (v := ?_) rfl (by rfl) (fun W hW => ?_) ?_
         rotate_left
         ·go_simp
          first | done | rfl
         go_frame
        refine ql_want (v := .int .i64 (dk : Nat)) rfl (by rfl) (fun W hW => ?_) ?_
        ·go_simp
         refine (degree22_any (some ⟨bi,0,none⟩) (some ⟨bt,0,none⟩) (some ⟨bh,0,none⟩) n ci ct cn L0 th nb (bs.map (hdrP n)) k W ((unhide hpt).ext ((Ext.refl _).of_new hW (by simp))) (unhide hk2)).mono ?_
         rw [← unhide hdk']
         rintro _ _ ⟨h1,h2⟩
         exact ⟨_,h1,rfl,h2⟩
        go_frame
        refine ql_want (v := .agg #[.slice (some ⟨bi,0,none⟩) n ci, .slice (some ⟨bt,0,none⟩) n ct, .slice (some ⟨bh,0,none⟩) n cn]) rfl (by rfl) (fun W hW => qUpon_ofX (run_load_agg (cs := #[.slice (some ⟨bi,0,none⟩) n ci, .slice (some ⟨bt,0,none⟩) n ct, .slice (some ⟨bh,0,none⟩) n cn]) rfl rfl (by simp [go_sem]) (by simp [go_sem]) ((unhide hP).wholeK 1 rfl hW (by simp)))) ?_
        go_frame
        iterate 1
         refine ql_want (v := ?_) rfl (by rfl) (fun W hW => ?_) ?_
         rotate_left
         ·go_simp
          first | done | rfl
         go_frame
        refine ql_want (v := .int .i64 (dm : Nat)) rfl (by rfl) (fun W hW => ?_) ?_
        ·go_simp
         refine (degree22_any (some ⟨bi,0,none⟩) (some ⟨bt,0,none⟩) (some ⟨bh,0,none⟩) n ci ct cn L0 th nb (bs.map (hdrP n)) j W ((unhide hpt).ext ((Ext.refl _).of_new hW (by simp))) (unhide hjn)).mono ?_
         rw [← unhide hdm']
         rintro _ _ ⟨h1,h2⟩
         exact ⟨_,h1,rfl,h2⟩
        go_frame
        refine ql_want (v := .bool qd) rfl (by rfl) (fun W hW => ?_) ?_
        ·go_simp
         first | done | rfl | (rw [unhide hqd']; simp) | (have := unhide hqn; simp_all)
        go_frame
        iterate 2
         refine ql_want (v := ?_) rfl (by rfl) (fun W hW => ?_) ?_
         rotate_left
         ·go_simp
          first | done | rfl
         go_frame
        refine wpQL_nil (fun y7 hxq => ?_)
        replace hP : Hid (Sp w [] w [] [(r1,41, #[.slice A nV cA, .slice B nE cB]),(r4,109, #[.slice (some ⟨bi,0,none⟩) n ci, .slice (some ⟨bt,0,none⟩) n ct, .slice (some ⟨bh,0,none⟩) n cn])] ((52,2, .slice A6 n6 c6,n6,(outC2 ps).flatMap encP) :: (4,1, .slice (some ⟨bt,0,none⟩) n ct,n,th.flatMap encB) :: (3,1, .slice (some ⟨bi,0,none⟩) n ci,n,L0.flatMap encI) :: (106,1, .slice (some ⟨bh,0,none⟩) n cn,n,(bs.map (hdrP n)).flatMap encSl) :: nearM n bs nb) y7) := hide ((unhide hP).ext hxq)
        clear hxq
        refine wpX_done (by kernel_rfl) ?_
        try go_frame
        clear hz1
        cases qd
        ·skip
         have hc := hide (show ((true && true) && (decide ((j : Int) < 0) || decide (degB th nb n k < degB th nb n (j : Int).toNat))) = false by
          rw [← unhide hdk',Int.toNat_natCast, ← unhide hdm', ← unhide hqn]
          simp)
         have hz1 : ¬ (j : Int) < 0 := by omega
         clear hz1
         clear q1 q2 c0 c1 c2 hself hpt
         have hw1 : IntKind.i64.wrap ((k : Int) + 1) = (k : Int) + 1 := IntWalk.i64_in _ (by omega)
         have hzn := hide (show (j : Int) = pikB (pnB th nb m) (degB th nb n) (k + 1) by rw [pikB_no (by rw [unhide hpn, ← unhide hzi']; exact unhide hc)]; exact unhide hzi')
         go_wp2_with fail
         have h3 := unhide hk2
         refine ⟨n - (k + 1), ?_,by have := unhide hfj'; omega⟩
         rw [unhide hI6_6]
         exact ⟨k + 1,(j : Int),(by first | rfl | trivial),(by first | rfl | trivial),(by first | rfl | trivial),(by first | rfl | trivial),(by first | rfl | trivial),(by first | rfl | trivial),(by first | rfl | (show _ = Value.int _ _; go_num) | go_num),(by first | rfl | trivial),by omega,unhide hzn,unhide hP,rfl⟩
        ·skip
         have hc := hide (show ((true && true) && (decide ((j : Int) < 0) || decide (degB th nb n k < degB th nb n (j : Int).toNat))) = true by
          rw [← unhide hdk',Int.toNat_natCast, ← unhide hdm', ← unhide hqn]
          simp)
         have hz1 : ¬ (j : Int) < 0 := by omega
         clear hz1
         clear q1 q2 c0 c1 c2 hself hpt
         have hw1 : IntKind.i64.wrap ((k : Int) + 1) = (k : Int) + 1 := IntWalk.i64_in _ (by omega)
         have hzn := hide (show (k : Int) = pikB (pnB th nb m) (degB th nb n) (k + 1) by rw [pikB_yes (by rw [unhide hpn, ← unhide hzi']; exact unhide hc)])
         go_wp2_with fail
         have h3 := unhide hk2
         refine ⟨n - (k + 1), ?_,by have := unhide hfj'; omega⟩
         rw [unhide hI6_6]
         exact ⟨k + 1,(k : Int),(by first | rfl | trivial),(by first | rfl | trivial),(by first | rfl | trivial),(by first | rfl | trivial),(by first | rfl | trivial),(by first | rfl | trivial),(by first | rfl | (show _ = Value.int _ _; go_num) | go_num),(by first | rfl | trivial),by omega,unhide hzn,unhide hP,rfl⟩
    ·skip
     have hil : ¬ (k : Int) < (n : Int) := by omega
     obtain rfl : n = k := by omega
     clear hlt hkn hfj'
     have q0 := (unhide hP).cell 1 0 (v := .slice (some ⟨bi,0,none⟩) n ci) rfl rfl
     have hself := Ext.refl wr
     try dsimp only
     repeat ((fail_if_success (with_reducible refine wp_reg (id := 9) ?_)); (first | go_values | go_skip | go_step | go_guarded | go_upon | go_in | go_back | fail))
     with_reducible refine wp_reg (id := 9) ?_
     iterate 5
      refine wpO_want rfl ?_
      go_simp
     refine wpO_done ?_
     try go_frame
     clear q0 hself hil
     have q1 := (unhide hP).cell 1 1 (v := .slice (some ⟨bt,0,none⟩) n ct) rfl rfl
     have hself := Ext.refl wr
     try dsimp only
     repeat ((fail_if_success (with_reducible refine wp_reg (id := 13) ?_)); (first | go_values | go_skip | go_step | go_guarded | go_upon | go_in | go_back | fail))
     with_reducible refine wp_reg (id := 13) ?_
     iterate 4
      refine wpO_want rfl ?_
      go_simp
     refine (unhide hP).putO (enc := encB) (f := fun q => .bool q) (fun _ => rfl) (fun _ => rfl) (fun _ => rfl) 1 false rfl rfl (q := m) rfl (by first | rfl | go_simp) rfl (by simp [go_sem]) (unhide hml0) ?_
     intro y7 hQ
     replace hP : Hid (Sp w [] w [] [(r1,41, #[.slice A nV cA, .slice B nE cB]),(r4,109, #[.slice (some ⟨bi,0,none⟩) n ci, .slice (some ⟨bt,0,none⟩) n ct, .slice (some ⟨bh,0,none⟩) n cn])] ((52,2, .slice A6 n6 c6,n6,(outC2 ps).flatMap encP) :: (4,1, .slice (some ⟨bt,0,none⟩) n ct,n,(th.set m false).flatMap encB) :: (3,1, .slice (some ⟨bi,0,none⟩) n ci,n,L0.flatMap encI) :: (106,1, .slice (some ⟨bh,0,none⟩) n cn,n,(bs.map (hdrP n)).flatMap encSl) :: nearM n bs nb) y7) := hide hQ
     clear hQ q1 hself
     go_frame
     refine wpO_done ?_
     try go_frame
     by_cases hnn : (thL L0 th n).filter (near y) = []
     ·skip
      obtain rfl : zi = -1 := by rw [unhide hzi']; exact (unhide hpk).1 (by rw [unhide hsel]; exact hnn)
      have hDs := hide (show D = (ps ++ [((y, -1),dg)]) ++ conS f' near (thL L0 (th.set m false) n) by rw [unhide hDp',unhide hf',unhide hc1' hnn,show dg = 0 by rw [unhide hdN,hnn]; rfl,List.append_assoc]; rfl)
      have hR2 := hide ((unhide hR).drop (unhide hmn'))
      have hsq2 := hsq
      have hir2 := hir'
      clear hnn hzi' hc1' hc2' hpk hsel hzb
      try dsimp only
      repeat ((fail_if_success (with_reducible refine wp_reg (id := 14) ?_)); (first | go_values | go_skip | go_step | go_guarded | go_upon | go_in | go_back | fail))
      with_reducible refine wp_reg (id := 14) ?_
      iterate 2
       refine wpO_want rfl ?_
       go_simp
      refine wpO_done ?_
      try go_frame
      have c0 : ∀ W',Ext y7 W' → W'.cell? ⟨bi,m,none⟩ = some (.int .i64 y) := fun W' hW => by rw [unhide hyy]; exact (unhide hP).cellRK (S := []) 2 rfl (by simp) (flatI_get (unhide hmi)) W' (hW.keep [])
      have q0 := (unhide hP).cell 1 0 (v := .slice (some ⟨bi,0,none⟩) n ci) rfl rfl
      have hself := Ext.refl y7
      try dsimp only
      repeat ((fail_if_success (with_reducible refine wp_reg (id := 15) ?_)); (first | go_values | go_skip | go_step | go_guarded | go_upon | go_in | go_back | fail))
      with_reducible refine wp_reg (id := 15) ?_
      iterate 7
       refine wpO_want rfl ?_
       go_simp
      clear q0 c0 hself
      refine (unhide hP).build1O 52 #[.int .i64 y, .int .i64 (-1)] rfl (run_build1A rfl (by first | rfl | go_simp)) ?_
      intro bb y8 hQ
      replace hP : Hid (Sp w [] w [] [(r1,41, #[.slice A nV cA, .slice B nE cB]),(r4,109, #[.slice (some ⟨bi,0,none⟩) n ci, .slice (some ⟨bt,0,none⟩) n ct, .slice (some ⟨bh,0,none⟩) n cn]),(bb,52, #[.int .i64 y, .int .i64 (-1)])] ((52,2, .slice A6 n6 c6,n6,(outC2 ps).flatMap encP) :: (4,1, .slice (some ⟨bt,0,none⟩) n ct,n,(th.set m false).flatMap encB) :: (3,1, .slice (some ⟨bi,0,none⟩) n ci,n,L0.flatMap encI) :: (106,1, .slice (some ⟨bh,0,none⟩) n cn,n,(bs.map (hdrP n)).flatMap encSl) :: nearM n bs nb) y8) := hide hQ
      clear hQ
      go_frame
      refine (unhide hP).ap1O (enc := encP) (T := 52) (ST := 47) 0 (v := .slice A6 n6 c6) (m := n6) (xs := outC2 ps) rfl rfl infoA2 Tryz.underlying47 one_encP (fun _ => rfl) (by decide) (by decide) rfl (y, -1) rfl rfl ((unhide hP).get 2 rfl) (by have := unhide hnf'; omega) ?_
      intro A7 cA7 y9 hQ
      replace hP : Hid (Sp w [] w [] [(r1,41, #[.slice A nV cA, .slice B nE cB]),(r4,109, #[.slice (some ⟨bi,0,none⟩) n ci, .slice (some ⟨bt,0,none⟩) n ct, .slice (some ⟨bh,0,none⟩) n cn]),(bb,52, #[.int .i64 y, .int .i64 (-1)])] ((52,2, .slice A7 (n6 + 1) cA7,n6 + 1,(outC2 ps ++ [(y, -1)]).flatMap encP) :: (4,1, .slice (some ⟨bt,0,none⟩) n ct,n,(th.set m false).flatMap encB) :: (3,1, .slice (some ⟨bi,0,none⟩) n ci,n,L0.flatMap encI) :: (106,1, .slice (some ⟨bh,0,none⟩) n cn,n,(bs.map (hdrP n)).flatMap encSl) :: nearM n bs nb) y9) := hide hQ
      clear hQ
      try go_frame
      refine wpO_want rfl ?_
      go_simp
      refine wpO_done ?_
      try go_frame
      replace hP : Hid (Sp w [] w [] [(r1,41, #[.slice A nV cA, .slice B nE cB]),(r4,109, #[.slice (some ⟨bi,0,none⟩) n ci, .slice (some ⟨bt,0,none⟩) n ct, .slice (some ⟨bh,0,none⟩) n cn])] ((52,2, .slice A7 (n6 + 1) cA7,n6 + 1,(outC2 ps ++ [(y, -1)]).flatMap encP) :: (4,1, .slice (some ⟨bt,0,none⟩) n ct,n,(th.set m false).flatMap encB) :: (3,1, .slice (some ⟨bi,0,none⟩) n ci,n,L0.flatMap encI) :: (106,1, .slice (some ⟨bh,0,none⟩) n cn,n,(bs.map (hdrP n)).flatMap encSl) :: nearM n bs nb) y9) := hide ((unhide hP).sub (List.sublist_append_left _ ([(bb,52, #[.int .i64 y, .int .i64 (-1)])] : List Cl)) (List.Sublist.refl _))
      try dsimp only
      repeat ((fail_if_success (with_reducible refine wp_reg (id := 5) ?_)); (first | go_values | go_skip | go_step | go_guarded | go_upon | go_in | go_back | fail))
      with_reducible refine wp_reg (id := 5) ?_
      refine wpO_val rfl (run_load_agg (cs := #[.slice (some ⟨bi,0,none⟩) n ci, .slice (some ⟨bt,0,none⟩) n ct, .slice (some ⟨bh,0,none⟩) n cn]) rfl rfl (by simp [go_sem]) (by simp [go_sem]) ((unhide hP).get 1 rfl).whole) ?_
      go_frame
      refine wpO_want rfl ?_
      go_simp
      have hca := least22_any (some ⟨bi,0,none⟩) (some ⟨bt,0,none⟩) (some ⟨bh,0,none⟩) n ci ct cn L0 (th.set m false) nb (bs.map (hdrP n)) y9 (((unhide hP).sub (List.Sublist.refl _) (List.sublist_cons_self _ _)).pat (by have := unhide hn100; omega) (unhide hR2).li (unhide hR2).lt (unhide hsq2))
      refine (hca).mono ?_
      rintro _ y10 ⟨rfl,hxc⟩
      clear hca
      refine ⟨_,rfl, ?_⟩
      replace hP : Hid (Sp w [] w [] [(r1,41, #[.slice A nV cA, .slice B nE cB]),(r4,109, #[.slice (some ⟨bi,0,none⟩) n ci, .slice (some ⟨bt,0,none⟩) n ct, .slice (some ⟨bh,0,none⟩) n cn])] ((52,2, .slice A7 (n6 + 1) cA7,n6 + 1,(outC2 ps ++ [(y, -1)]).flatMap encP) :: (4,1, .slice (some ⟨bt,0,none⟩) n ct,n,(th.set m false).flatMap encB) :: (3,1, .slice (some ⟨bi,0,none⟩) n ci,n,L0.flatMap encI) :: (106,1, .slice (some ⟨bh,0,none⟩) n cn,n,(bs.map (hdrP n)).flatMap encSl) :: nearM n bs nb) y10) := hide ((unhide hP).ext hxc)
      clear hxc
      refine wpO_want rfl ?_
      go_simp
      refine wpO_done ?_
      try go_frame
      go_wp2_with fail
      refine ⟨f', ?_,by have := unhide hf'; omega⟩
      rw [unhide hI5_2]
      exact ⟨th.set m false,nb,near,max z dg,A7,n6 + 1,cA7,ps ++ [((y, -1),dg)],(by first | rfl | trivial),(by first | rfl | trivial),(by first | rfl | trivial),(by first | rfl | trivial),(by first | rfl | trivial),(by first | rfl | trivial),unhide hR2,unhide hsq2,unhide hir2,unhide hDs,by rw [List.foldl_append, ← unhide hz']; rfl,by rw [List.length_append, ← unhide hn6']; rfl,unhide hLn,by have := unhide hnf'; have := unhide hf'; omega,by unfold outC2; rw [List.map_append]; exact unhide hP⟩
     ·skip
      obtain ⟨j,hzj,hjn0,hpj,hjl⟩ := (unhide hpk).2 (by rw [unhide hsel]; exact hnn)
      rw [unhide hsel] at hjl
      obtain rfl : zi = (j : Int) := by rw [unhide hzi']; exact hzj
      obtain ⟨y2,hy2⟩ : ∃ y2,y2 = L0.getD j 0 := ⟨_,rfl⟩
      have hc3 := unhide hc2' hnn
      rw [← hjl, ← hy2, ← unhide hdN] at hc3
      have hij : m ≠ j := by
       rintro rfl
       unfold pnB at hpj
       rw [Bool.and_eq_true,(unhide hR).nb m m hjn0 hjn0 (unhide htm') (unhide htm'),unhide hir'] at hpj
       cases hpj.2
      have hDs := hide (show D = (ps ++ [((y,y2),dg)]) ++ conS f' (mrgB near y y2) (thL L0 (th.set m false) n) by rw [unhide hDp',unhide hf',hc3,List.append_assoc]; rfl)
      have hR2 : Hid (RepB L0 (th.set m false) (ctB nb m j n) n (mrgB near y y2)) := hide (by rw [unhide hyy,hy2]; exact (unhide hR).con (unhide hsq) (unhide hir') (unhide hmn') (unhide htm') hjn0 hij)
      have hsq2 := hide ((unhide hsq).ct m j n)
      have hir2 := hide (fun u => mrgB_irr (unhide hir') y y2 u)
      have hjn := hide hjn0
      have hyy2 := hide hy2
      have hji := hide (show j < L0.length by rw [(unhide hR).li]; exact hjn0)
      obtain ⟨bj,hbj0⟩ := (unhide hsq).bs hjn0
      have hbj := hide hbj0
      have hjI : (j : Int) < (n : Int) := by omega
      have hz1 : ¬ (j : Int) < 0 := by omega
      clear hnn hzi' hc1' hc2' hpk hsel hzb hzj hjn0 hpj hjl hy2 hc3 hij hbj0
      try dsimp only
      repeat ((fail_if_success (with_reducible refine wp_reg (id := 14) ?_)); (first | go_values | go_skip | go_step | go_guarded | go_upon | go_in | go_back | fail))
      with_reducible refine wp_reg (id := 14) ?_
      iterate 2
       refine wpO_want rfl ?_
       go_simp
      refine wpO_done ?_
      try go_frame
      clear hz1
      go_wp2_with fail
      have ho4 : r4 ∉ (Value.slice A6 n6 c6).ownBlock.toList := (unhide hP).ne_row 1 0 rfl rfl
      have hoi : bi ∉ (Value.slice A6 n6 c6).ownBlock.toList := fun hm => ((unhide hP).row_ne 0 2 (by decide) rfl rfl (by simpa using hm) rfl) rfl
      have hself := Keep.refl (Value.slice A6 n6 c6).ownBlock.toList y7
      have q0 := (unhide hP).cellK (S := (Value.slice A6 n6 c6).ownBlock.toList) 1 0 (v := .slice (some ⟨bi,0,none⟩) n ci) rfl rfl ho4
      have c0 : ∀ W',Keep (Value.slice A6 n6 c6).ownBlock.toList y7 W' → W'.cell? ⟨bi,m,none⟩ = some (.int .i64 y) := by rw [unhide hyy]; exact (unhide hP).cellRK 2 rfl hoi (flatI_get (unhide hmi))
      have c1 : ∀ W',Keep (Value.slice A6 n6 c6).ownBlock.toList y7 W' → W'.cell? ⟨bi,j,none⟩ = some (.int .i64 y2) := by rw [unhide hyy2]; exact (unhide hP).cellRK 2 rfl hoi (flatI_get (unhide hji))
      refine wp_regionK (P := Tryz.prog) (Value.slice A6 n6 c6).ownBlock.toList [0,1,2,3,4,5,6,7,8,9,10,11] [] 3 #[true,true,true,true,true,true,true,true,true,true,true,true,false,false,false] (by kernel_rfl) (by kernel_rfl) rfl (by rfl) ?_
      iterate 12
       refine ql_want (v := ?_) rfl (by rfl) (fun W hW => ?_) ?_
       rotate_left
       ·go_simp
        first | done | rfl
       go_frame
      refine wpQL_nil (fun y8 hxq => ?_)
      have hK := hide (hxq.keep (Value.slice A6 n6 c6).ownBlock.toList)
      replace hP : Hid (Sp w [] w [] [(r1,41, #[.slice A nV cA, .slice B nE cB]),(r4,109, #[.slice (some ⟨bi,0,none⟩) n ci, .slice (some ⟨bt,0,none⟩) n ct, .slice (some ⟨bh,0,none⟩) n cn])] ((52,2, .slice A6 n6 c6,n6,(outC2 ps).flatMap encP) :: (4,1, .slice (some ⟨bt,0,none⟩) n ct,n,(th.set m false).flatMap encB) :: (3,1, .slice (some ⟨bi,0,none⟩) n ci,n,L0.flatMap encI) :: (106,1, .slice (some ⟨bh,0,none⟩) n cn,n,(bs.map (hdrP n)).flatMap encSl) :: nearM n bs nb) y8) := hide ((unhide hP).ext hxq)
      clear hxq
      clear q0 c0 c1 ho4 hoi hself
      refine lx_one (i := 12) (by kernel_rfl) rfl (by rfl) #[true,true,true,true,true,true,true,true,true,true,true,true,true,false,false] (by rfl) ?_
      refine (unhide hP).allocL (unhide hK) (v := fun b => .slice (some ⟨b,0,none⟩) 1 1) 52 #[.int .i64 y, .int .i64 y2] ?_ ?_
      ·exact run_build1A rfl (by first | rfl | go_simp)
      intro bb y9 hQ hK2 hg2
      replace hP : Hid (Sp w [] w [] [(r1,41, #[.slice A nV cA, .slice B nE cB]),(r4,109, #[.slice (some ⟨bi,0,none⟩) n ci, .slice (some ⟨bt,0,none⟩) n ct, .slice (some ⟨bh,0,none⟩) n cn]),(bb,52, #[.int .i64 y, .int .i64 y2])] ((52,2, .slice A6 n6 c6,n6,(outC2 ps).flatMap encP) :: (4,1, .slice (some ⟨bt,0,none⟩) n ct,n,(th.set m false).flatMap encB) :: (3,1, .slice (some ⟨bi,0,none⟩) n ci,n,L0.flatMap encI) :: (106,1, .slice (some ⟨bh,0,none⟩) n cn,n,(bs.map (hdrP n)).flatMap encSl) :: nearM n bs nb) y9) := hide hQ
      replace hK := hide hK2
      have hge_bb := hide hg2
      clear hQ hK2 hg2
      try go_frame
      refine lx_one (i := 13) (by kernel_rfl) rfl (by rfl) #[true,true,true,true,true,true,true,true,true,true,true,true,true,true,false] (by rfl) ?_
      refine (unhide hP).ap1L (unhide hK) (enc := encP) (T := 52) (ST := 47) 0 (v := .slice A6 n6 c6) (m := n6) (xs := outC2 ps) rfl (fun z hz => .inl hz) infoA2 Tryz.underlying47 one_encP (fun _ => rfl) (by decide) (by decide) rfl (y,y2) rfl rfl ((unhide hP).get 2 rfl) (by have := unhide hnf'; omega) ?_
      intro A7 cA7 y10 hQ hK2 hg2
      replace hP : Hid (Sp w [] w [] [(r1,41, #[.slice A nV cA, .slice B nE cB]),(r4,109, #[.slice (some ⟨bi,0,none⟩) n ci, .slice (some ⟨bt,0,none⟩) n ct, .slice (some ⟨bh,0,none⟩) n cn]),(bb,52, #[.int .i64 y, .int .i64 y2])] ((52,2, .slice A7 (n6 + 1) cA7,n6 + 1,(outC2 ps ++ [(y,y2)]).flatMap encP) :: (4,1, .slice (some ⟨bt,0,none⟩) n ct,n,(th.set m false).flatMap encB) :: (3,1, .slice (some ⟨bi,0,none⟩) n ci,n,L0.flatMap encI) :: (106,1, .slice (some ⟨bh,0,none⟩) n cn,n,(bs.map (hdrP n)).flatMap encSl) :: nearM n bs nb) y10) := hide hQ
      replace hK := hide hK2
      have hge_A7 := hide hg2
      clear hQ hK2 hg2
      try go_frame
      refine lx_rekeep (unhide hK) [14] [] 0 1 #[true,true,true,true,true,true,true,true,true,true,true,true,true,true,false] #[true,true,true,true,true,true,true,true,true,true,true,true,true,true,true] (by kernel_rfl) rfl (by rfl) ?_
      clear hK
      iterate 1
       refine ql_want (v := ?_) rfl (by rfl) (fun W hW => ?_) ?_
       rotate_left
       ·go_simp
        first | done | rfl
       go_frame
      refine wpQL_nil (fun y11 hxq => ?_)
      replace hP : Hid (Sp w [] w [] [(r1,41, #[.slice A nV cA, .slice B nE cB]),(r4,109, #[.slice (some ⟨bi,0,none⟩) n ci, .slice (some ⟨bt,0,none⟩) n ct, .slice (some ⟨bh,0,none⟩) n cn]),(bb,52, #[.int .i64 y, .int .i64 y2])] ((52,2, .slice A7 (n6 + 1) cA7,n6 + 1,(outC2 ps ++ [(y,y2)]).flatMap encP) :: (4,1, .slice (some ⟨bt,0,none⟩) n ct,n,(th.set m false).flatMap encB) :: (3,1, .slice (some ⟨bi,0,none⟩) n ci,n,L0.flatMap encI) :: (106,1, .slice (some ⟨bh,0,none⟩) n cn,n,(bs.map (hdrP n)).flatMap encSl) :: nearM n bs nb) y11) := hide ((unhide hP).ext hxq)
      clear hxq
      refine wpX_done (by kernel_rfl) ?_
      try go_frame
      replace hP : Hid (Sp w [] w [] [(r1,41, #[.slice A nV cA, .slice B nE cB]),(r4,109, #[.slice (some ⟨bi,0,none⟩) n ci, .slice (some ⟨bt,0,none⟩) n ct, .slice (some ⟨bh,0,none⟩) n cn])] ((52,2, .slice A7 (n6 + 1) cA7,n6 + 1,(outC2 ps ++ [(y,y2)]).flatMap encP) :: (4,1, .slice (some ⟨bt,0,none⟩) n ct,n,(th.set m false).flatMap encB) :: (3,1, .slice (some ⟨bi,0,none⟩) n ci,n,L0.flatMap encI) :: (106,1, .slice (some ⟨bh,0,none⟩) n cn,n,(bs.map (hdrP n)).flatMap encSl) :: nearM n bs nb) y11) := hide ((unhide hP).sub (List.sublist_append_left _ ([(bb,52, #[.int .i64 y, .int .i64 y2])] : List Cl)) (List.Sublist.refl _))
      clear hge_bb hge_A7
      try dsimp only
      repeat ((fail_if_success (with_reducible refine wp_reg (id := 17) ?_)); (first | go_values | go_skip | go_step | go_guarded | go_upon | go_in | go_back | fail))
      with_reducible refine wp_reg (id := 17) ?_
      refine wpO_want rfl ?_
      go_simp
      refine wpO_done ?_
      try go_frame
      go_wp2_with fail
      obtain ⟨I11_12,hI11_120⟩ : ∃ I : Nat → Act → World → Prop,I = fun fj a' wr => ∃ (k : Nat), ∃ (M : List (List Bool)),a'.tmps.size = 125 ∧ a'.tmps.getD 4 undef = .pointer (some ⟨r4,0,none⟩) ∧ a'.tmps.getD 5 undef = .int .i64 (max z (dg : Nat)) ∧ a'.tmps.getD 6 undef = .slice A7 (n6 + 1) cA7 ∧ a'.tmps.getD 7 undef = .int .i64 (m : Nat) ∧ a'.tmps.getD 8 undef = .int .i64 (j : Nat) ∧ a'.tmps.getD 10 undef = .int .i64 (k : Nat) ∧ a'.defers = [] ∧ k ≤ n ∧ M = ctB nb m j k ∧ Sp w [] w [] [(r1,41, #[.slice A nV cA, .slice B nE cB]),(r4,109, #[.slice (some ⟨bi,0,none⟩) n ci, .slice (some ⟨bt,0,none⟩) n ct, .slice (some ⟨bh,0,none⟩) n cn])] ((52,2, .slice A7 (n6 + 1) cA7,n6 + 1,(outC2 ps ++ [(y,y2)]).flatMap encP) :: (4,1, .slice (some ⟨bt,0,none⟩) n ct,n,(th.set m false).flatMap encB) :: (3,1, .slice (some ⟨bi,0,none⟩) n ci,n,L0.flatMap encI) :: (106,1, .slice (some ⟨bh,0,none⟩) n cn,n,(bs.map (hdrP n)).flatMap encSl) :: nearM n bs M) wr ∧ fj = n - k := ⟨_,rfl⟩
      have hI11_12 := hide hI11_120
      clear hI11_120
      refine wp_loop_ix I11_12 (n - 0) ?_ ?_
      ·rw [unhide hI11_12]; exact ⟨0,nb,rfl,rfl,rfl,rfl,rfl,rfl,rfl,rfl,Nat.zero_le _,rfl,unhide hP,rfl⟩
      ·rintro fj ⟨tm,dfs⟩ wr hrel
       rw [unhide hI11_12] at hrel
       obtain ⟨k,M,hsz,e4,e5,e6,e7,e8,e10,hdf,hkn,hM0,hPr,hfj⟩ := hrel
       obtain ⟨us,rfl⟩ : ∃ us : Nat → Value,tm = #[us 0,us 1,us 2,us 3,us 4,us 5,us 6,us 7,us 8,us 9,us 10,us 11,us 12,us 13,us 14,us 15,us 16,us 17,us 18,us 19,us 20,us 21,us 22,us 23,us 24,us 25,us 26,us 27,us 28,us 29,us 30,us 31,us 32,us 33,us 34,us 35,us 36,us 37,us 38,us 39,us 40,us 41,us 42,us 43,us 44,us 45,us 46,us 47,us 48,us 49,us 50,us 51,us 52,us 53,us 54,us 55,us 56,us 57,us 58,us 59,us 60,us 61,us 62,us 63,us 64,us 65,us 66,us 67,us 68,us 69,us 70,us 71,us 72,us 73,us 74,us 75,us 76,us 77,us 78,us 79,us 80,us 81,us 82,us 83,us 84,us 85,us 86,us 87,us 88,us 89,us 90,us 91,us 92,us 93,us 94,us 95,us 96,us 97,us 98,us 99,us 100,us 101,us 102,us 103,us 104,us 105,us 106,us 107,us 108,us 109,us 110,us 111,us 112,us 113,us 114,us 115,us 116,us 117,us 118,us 119,us 120,us 121,us 122,us 123,us 124] := ⟨fun i => tm.getD i undef,arr_fn hsz⟩
       have h4 : us 4 = .pointer (some ⟨r4,0,none⟩) := e4
       have h5 : us 5 = .int .i64 (max z (dg : Nat)) := e5
       have h6 : us 6 = .slice A7 (n6 + 1) cA7 := e6
       have h7 : us 7 = .int .i64 (m : Nat) := e7
       have h8 : us 8 = .int .i64 (j : Nat) := e8
       have h10 : us 10 = .int .i64 (k : Nat) := e10
       have hdf2 : dfs = [] := hdf
       subst hdf2
       clear hdf hsz e4 e5 e6 e7 e8 e10
       simp only [h4,h5,h6,h7,h8,h10]
       clear h4 h5 h6 h7 h8 h10
       clear hP
       have hP := hide hPr
       have hfj' := hide hfj
       have hM' := hide hM0
       have hsM := hide (show Sqr n bs M by rw [hM0]; exact (unhide hsq).ct m j k)
       clear hPr hfj hM0
       by_cases hlt : k < n
       ·skip
        have hil : (k : Int) < (n : Int) := by omega
        have hk2 := hide hlt
        have hkb : (k : Int) ≤ 100 := by have := unhide hn100; omega
        have hjI2 := hjI
        have hmI2 := hmI
        obtain ⟨bk,hbk0⟩ := (unhide hsM).bs hlt
        have hbk := hide hbk0
        obtain ⟨xb,hxb⟩ : ∃ xb,xb = nbG M m k := ⟨_,rfl⟩
        obtain ⟨xn,hxn⟩ : ∃ xn,xn = decide (k ≠ j) := ⟨_,rfl⟩
        have hcc := hide (show (nbG (ctB nb m j k) m k && decide (k ≠ j)) = (xb && xn) by rw [hxb,hxn,unhide hM'])
        have hxn' := hide hxn
        clear hlt hkn hbk0 hxn
        have q0 := (unhide hP).cell 1 0 (v := .slice (some ⟨bi,0,none⟩) n ci) rfl rfl
        have hself := Ext.refl wr
        try dsimp only
        repeat ((fail_if_success (with_reducible refine wp_reg (id := 18) ?_)); (first | go_values | go_skip | go_step | go_guarded | go_upon | go_in | go_back | fail))
        with_reducible refine wp_reg (id := 18) ?_
        iterate 5
         refine wpO_want rfl ?_
         go_simp
        refine wpO_done ?_
        try go_frame
        clear q0 hself
        have c1 : ∀ W',Ext wr W' → W'.cell? ⟨bh,m,none⟩ = some (.slice (some ⟨br,0,none⟩) n n) := fun W' hW => (unhide hP).cellRK (S := []) 3 rfl (by simp) (flatH_get (unhide hbr)) W' (hW.keep [])
        have c2 : ∀ W',Ext wr W' → W'.cell? ⟨br,k,none⟩ = some (.bool xb) := fun W' hW => by rw [hxb]; exact (unhide hP).nb4 (S := []) (unhide hsM) (unhide hmn') (unhide hk2) (unhide hbr) (by simp) W' (hW.keep [])
        clear hxb
        have q2 := (unhide hP).cell 1 2 (v := .slice (some ⟨bh,0,none⟩) n cn) rfl rfl
        have hself := Ext.refl wr
        cases xb
        ·skip
         try dsimp only
         repeat ((fail_if_success (with_reducible refine wp_reg (id := 20) ?_)); (first | go_values | go_skip | go_step | go_guarded | go_upon | go_in | go_back | fail))
         with_reducible refine wp_reg (id := 20) ?_
         iterate 9
          refine wpO_want rfl ?_
          go_simp
         refine wpO_out (by rfl) ?_
         go_frame
         refine wpO_out (by rfl) ?_
         go_frame
         refine wpO_out (by rfl) ?_
         go_frame
         refine wpO_want rfl ?_
         go_simp
         refine wpO_done ?_
         try go_frame
         clear q2 c1 c2 hself
         have hMn := hide (show M = ctB nb m j (k + 1) by rw [ctB_no (by rw [unhide hcc]; rfl), ← unhide hM'])
         have hw1 : IntKind.i64.wrap ((k : Int) + 1) = (k : Int) + 1 := IntWalk.i64_in _ (by omega)
         go_wp2_with fail
         have h3 := unhide hk2
         refine ⟨n - (k + 1), ?_,by have := unhide hfj'; omega⟩
         rw [unhide hI11_12]
         exact ⟨k + 1,M,(by first | rfl | trivial),(by first | rfl | trivial),(by first | rfl | trivial),(by first | rfl | trivial),(by first | rfl | trivial),(by first | rfl | trivial),(by first | rfl | (show _ = Value.int _ _; go_num) | go_num),(by first | rfl | trivial),by omega,unhide hMn,unhide hP,rfl⟩
        ·skip
         cases xn
         ·skip
          have hne := neI_no (unhide hxn').symm
          try dsimp only
          repeat ((fail_if_success (with_reducible refine wp_reg (id := 20) ?_)); (first | go_values | go_skip | go_step | go_guarded | go_upon | go_in | go_back | fail))
          with_reducible refine wp_reg (id := 20) ?_
          iterate 13
           refine wpO_want rfl ?_
           go_simp
          refine wpO_done ?_
          try go_frame
          clear q2 c1 c2 hself hne
          have hMn := hide (show M = ctB nb m j (k + 1) by rw [ctB_no (by rw [unhide hcc]; rfl), ← unhide hM'])
          have hw1 : IntKind.i64.wrap ((k : Int) + 1) = (k : Int) + 1 := IntWalk.i64_in _ (by omega)
          go_wp2_with fail
          have h3 := unhide hk2
          refine ⟨n - (k + 1), ?_,by have := unhide hfj'; omega⟩
          rw [unhide hI11_12]
          exact ⟨k + 1,M,(by first | rfl | trivial),(by first | rfl | trivial),(by first | rfl | trivial),(by first | rfl | trivial),(by first | rfl | trivial),(by first | rfl | trivial),(by first | rfl | (show _ = Value.int _ _; go_num) | go_num),(by first | rfl | trivial),by omega,unhide hMn,unhide hP,rfl⟩
         ·skip
          have hne := neI_of (unhide hxn').symm
          try dsimp only
          repeat ((fail_if_success (with_reducible refine wp_reg (id := 20) ?_)); (first | go_values | go_skip | go_step | go_guarded | go_upon | go_in | go_back | fail))
          with_reducible refine wp_reg (id := 20) ?_
          iterate 13
           refine wpO_want rfl ?_
           go_simp
          refine wpO_done ?_
          try go_frame
          clear q2 c1 c2 hself hne
          go_wp2_with fail
          have hmj : bj ∈ [bj,bk] := by simp
          have hmk : bk ∈ [bj,bk] := by simp
          have ho4 : r4 ∉ [bj,bk] := fun hm => by
           simp only [List.mem_cons,List.not_mem_nil,or_false] at hm
           rcases hm with e | e
           ·exact ((unhide hP).ne_row 1 (4 + j) rfl (near4 (unhide hsM) (unhide hjn) (unhide hbj))) (by rw [e]; simp [Value.ownBlock])
           ·exact ((unhide hP).ne_row 1 (4 + k) rfl (near4 (unhide hsM) (unhide hk2) (unhide hbk))) (by rw [e]; simp [Value.ownBlock])
          have hoh : bh ∉ [bj,bk] := fun hm => by
           simp only [List.mem_cons,List.not_mem_nil,or_false] at hm
           rcases hm with e | e
           ·exact ((unhide hP).row_ne 3 (4 + j) (by omega) rfl (near4 (unhide hsM) (unhide hjn) (unhide hbj)) rfl rfl) e
           ·exact ((unhide hP).row_ne 3 (4 + k) (by omega) rfl (near4 (unhide hsM) (unhide hk2) (unhide hbk)) rfl rfl) e
          have hself := Keep.refl [bj,bk] wr
          have q2 := (unhide hP).cellK (S := [bj,bk]) 1 2 (v := .slice (some ⟨bh,0,none⟩) n cn) rfl rfl ho4
          have c1 : ∀ W',Keep [bj,bk] wr W' → W'.cell? ⟨bh,j,none⟩ = some (.slice (some ⟨bj,0,none⟩) n n) := (unhide hP).cellRK 3 rfl hoh (flatH_get (unhide hbj))
          have c2 : ∀ W',Keep [bj,bk] wr W' → W'.cell? ⟨bh,k,none⟩ = some (.slice (some ⟨bk,0,none⟩) n n) := (unhide hP).cellRK 3 rfl hoh (flatH_get (unhide hbk))
          have hmj' := hide hmj
          have hmk' := hide hmk
          clear ho4 hoh hmj hmk
          refine wp_regionK (P := Tryz.prog) [bj,bk] [0,1,2,3,4,5,6,7,8,9,10,11] [15] 4 #[true,true,true,true,true,true,true,true,true,true,true,true,false,false,false,false] (by kernel_rfl) (by kernel_rfl) rfl (by rfl) ?_
          iterate 12
           refine ql_want (v := ?_) rfl (by rfl) (fun W hW => ?_) ?_
           rotate_left
           ·go_simp
            first | done | rfl
           go_frame
          refine wpQL_nil (fun y12 hxq => ?_)
          have hK := hide (hxq.keep [bj,bk])
          replace hP : Hid (Sp w [] w [] [(r1,41, #[.slice A nV cA, .slice B nE cB]),(r4,109, #[.slice (some ⟨bi,0,none⟩) n ci, .slice (some ⟨bt,0,none⟩) n ct, .slice (some ⟨bh,0,none⟩) n cn])] ((52,2, .slice A7 (n6 + 1) cA7,n6 + 1,(outC2 ps ++ [(y,y2)]).flatMap encP) :: (4,1, .slice (some ⟨bt,0,none⟩) n ct,n,(th.set m false).flatMap encB) :: (3,1, .slice (some ⟨bi,0,none⟩) n ci,n,L0.flatMap encI) :: (106,1, .slice (some ⟨bh,0,none⟩) n cn,n,(bs.map (hdrP n)).flatMap encSl) :: nearM n bs M) y12) := hide ((unhide hP).ext hxq)
          clear hxq
          clear q2 c1 c2 hself
          refine lx_one (i := 12) (by kernel_rfl) rfl (by rfl) #[true,true,true,true,true,true,true,true,true,true,true,true,true,false,false,false] (by rfl) ?_
          refine (unhide hP).valL (unhide hK) (v := .pointer (some ⟨bj,k,none⟩)) ?_ ?_
          ·go_simp
          intro y13 hQ hK2
          replace hP : Hid (Sp w [] w [] [(r1,41, #[.slice A nV cA, .slice B nE cB]),(r4,109, #[.slice (some ⟨bi,0,none⟩) n ci, .slice (some ⟨bt,0,none⟩) n ct, .slice (some ⟨bh,0,none⟩) n cn])] ((52,2, .slice A7 (n6 + 1) cA7,n6 + 1,(outC2 ps ++ [(y,y2)]).flatMap encP) :: (4,1, .slice (some ⟨bt,0,none⟩) n ct,n,(th.set m false).flatMap encB) :: (3,1, .slice (some ⟨bi,0,none⟩) n ci,n,L0.flatMap encI) :: (106,1, .slice (some ⟨bh,0,none⟩) n cn,n,(bs.map (hdrP n)).flatMap encSl) :: nearM n bs M) y13) := hide hQ
          replace hK := hide hK2
          clear hQ hK2
          try go_frame
          refine lx_one (i := 13) (by kernel_rfl) rfl (by rfl) #[true,true,true,true,true,true,true,true,true,true,true,true,true,true,false,false] (by rfl) ?_
          refine (unhide hP).putNear4L (unhide hK) (unhide hsM) (unhide hjn) (unhide hk2) true (unhide hbj) (unhide hmj') rfl (by first | rfl | go_simp) (by first | rfl | go_simp) (by simp [go_sem]) ?_
          intro y14 hQ hK2
          replace hP : Hid (Sp w [] w [] [(r1,41, #[.slice A nV cA, .slice B nE cB]),(r4,109, #[.slice (some ⟨bi,0,none⟩) n ci, .slice (some ⟨bt,0,none⟩) n ct, .slice (some ⟨bh,0,none⟩) n cn])] ((52,2, .slice A7 (n6 + 1) cA7,n6 + 1,(outC2 ps ++ [(y,y2)]).flatMap encP) :: (4,1, .slice (some ⟨bt,0,none⟩) n ct,n,(th.set m false).flatMap encB) :: (3,1, .slice (some ⟨bi,0,none⟩) n ci,n,L0.flatMap encI) :: (106,1, .slice (some ⟨bh,0,none⟩) n cn,n,(bs.map (hdrP n)).flatMap encSl) :: nearM n bs (putN M j k true)) y14) := hide hQ
          replace hK := hide hK2
          clear hQ hK2
          try go_frame
          refine lx_one (i := 14) (by kernel_rfl) rfl (by rfl) #[true,true,true,true,true,true,true,true,true,true,true,true,true,true,true,false] (by rfl) ?_
          refine (unhide hP).valL (unhide hK) (v := .pointer (some ⟨bk,j,none⟩)) ?_ ?_
          ·go_simp
          intro y15 hQ hK2
          replace hP : Hid (Sp w [] w [] [(r1,41, #[.slice A nV cA, .slice B nE cB]),(r4,109, #[.slice (some ⟨bi,0,none⟩) n ci, .slice (some ⟨bt,0,none⟩) n ct, .slice (some ⟨bh,0,none⟩) n cn])] ((52,2, .slice A7 (n6 + 1) cA7,n6 + 1,(outC2 ps ++ [(y,y2)]).flatMap encP) :: (4,1, .slice (some ⟨bt,0,none⟩) n ct,n,(th.set m false).flatMap encB) :: (3,1, .slice (some ⟨bi,0,none⟩) n ci,n,L0.flatMap encI) :: (106,1, .slice (some ⟨bh,0,none⟩) n cn,n,(bs.map (hdrP n)).flatMap encSl) :: nearM n bs (putN M j k true)) y15) := hide hQ
          replace hK := hide hK2
          clear hQ hK2
          try go_frame
          refine lx_one (i := 15) (by kernel_rfl) rfl (by rfl) #[true,true,true,true,true,true,true,true,true,true,true,true,true,true,true,true] (by rfl) ?_
          refine (unhide hP).putNear4L (unhide hK) ((unhide hsM).put j k true) (unhide hk2) (unhide hjn) true (unhide hbk) (unhide hmk') rfl (by first | rfl | go_simp) (by first | rfl | go_simp) (by simp [go_sem]) ?_
          intro y16 hQ hK2
          replace hP : Hid (Sp w [] w [] [(r1,41, #[.slice A nV cA, .slice B nE cB]),(r4,109, #[.slice (some ⟨bi,0,none⟩) n ci, .slice (some ⟨bt,0,none⟩) n ct, .slice (some ⟨bh,0,none⟩) n cn])] ((52,2, .slice A7 (n6 + 1) cA7,n6 + 1,(outC2 ps ++ [(y,y2)]).flatMap encP) :: (4,1, .slice (some ⟨bt,0,none⟩) n ct,n,(th.set m false).flatMap encB) :: (3,1, .slice (some ⟨bi,0,none⟩) n ci,n,L0.flatMap encI) :: (106,1, .slice (some ⟨bh,0,none⟩) n cn,n,(bs.map (hdrP n)).flatMap encSl) :: nearM n bs (putN (putN M j k true) k j true)) y16) := hide hQ
          replace hK := hide hK2
          clear hQ hK2
          try go_frame
          refine wpX_done (by kernel_rfl) ?_
          try go_frame
          clear hK
          clear hmj' hmk'
          have hMn := hide (show putN (putN M j k true) k j true = ctB nb m j (k + 1) by rw [ctB_yes (by rw [unhide hcc]; rfl), ← unhide hM'])
          have hw1 : IntKind.i64.wrap ((k : Int) + 1) = (k : Int) + 1 := IntWalk.i64_in _ (by omega)
          go_wp2_with fail
          have h3 := unhide hk2
          refine ⟨n - (k + 1), ?_,by have := unhide hfj'; omega⟩
          rw [unhide hI11_12]
          exact ⟨k + 1,putN (putN M j k true) k j true,(by first | rfl | trivial),(by first | rfl | trivial),(by first | rfl | trivial),(by first | rfl | trivial),(by first | rfl | trivial),(by first | rfl | trivial),(by first | rfl | (show _ = Value.int _ _; go_num) | go_num),(by first | rfl | trivial),by omega,unhide hMn,unhide hP,rfl⟩
       ·skip
        have hil : ¬ (k : Int) < (n : Int) := by omega
        obtain rfl : n = k := by omega
        obtain rfl := unhide hM'
        clear hlt hkn hfj' hM' hsM
        have q0 := (unhide hP).cell 1 0 (v := .slice (some ⟨bi,0,none⟩) n ci) rfl rfl
        have hself := Ext.refl wr
        try dsimp only
        repeat ((fail_if_success (with_reducible refine wp_reg (id := 18) ?_)); (first | go_values | go_skip | go_step | go_guarded | go_upon | go_in | go_back | fail))
        with_reducible refine wp_reg (id := 18) ?_
        iterate 5
         refine wpO_want rfl ?_
         go_simp
        refine wpO_done ?_
        try go_frame
        clear q0 hself hil
        try dsimp only
        repeat ((fail_if_success (with_reducible refine wp_reg (id := 5) ?_)); (first | go_values | go_skip | go_step | go_guarded | go_upon | go_in | go_back | fail))
        with_reducible refine wp_reg (id := 5) ?_
        refine wpO_val rfl (run_load_agg (cs := #[.slice (some ⟨bi,0,none⟩) n ci, .slice (some ⟨bt,0,none⟩) n ct, .slice (some ⟨bh,0,none⟩) n cn]) rfl rfl (by simp [go_sem]) (by simp [go_sem]) ((unhide hP).get 1 rfl).whole) ?_
        go_frame
        refine wpO_want rfl ?_
        go_simp
        have hca := least22_any (some ⟨bi,0,none⟩) (some ⟨bt,0,none⟩) (some ⟨bh,0,none⟩) n ci ct cn L0 (th.set m false) (ctB nb m j n) (bs.map (hdrP n)) wr (((unhide hP).sub (List.Sublist.refl _) (List.sublist_cons_self _ _)).pat (by have := unhide hn100; omega) (unhide hR2).li (unhide hR2).lt (unhide hsq2))
        refine (hca).mono ?_
        rintro _ y12 ⟨rfl,hxc⟩
        clear hca
        refine ⟨_,rfl, ?_⟩
        replace hP : Hid (Sp w [] w [] [(r1,41, #[.slice A nV cA, .slice B nE cB]),(r4,109, #[.slice (some ⟨bi,0,none⟩) n ci, .slice (some ⟨bt,0,none⟩) n ct, .slice (some ⟨bh,0,none⟩) n cn])] ((52,2, .slice A7 (n6 + 1) cA7,n6 + 1,(outC2 ps ++ [(y,y2)]).flatMap encP) :: (4,1, .slice (some ⟨bt,0,none⟩) n ct,n,(th.set m false).flatMap encB) :: (3,1, .slice (some ⟨bi,0,none⟩) n ci,n,L0.flatMap encI) :: (106,1, .slice (some ⟨bh,0,none⟩) n cn,n,(bs.map (hdrP n)).flatMap encSl) :: nearM n bs (ctB nb m j n)) y12) := hide ((unhide hP).ext hxc)
        clear hxc
        refine wpO_want rfl ?_
        go_simp
        refine wpO_done ?_
        try go_frame
        go_wp2_with fail
        refine ⟨f', ?_,by have := unhide hf'; omega⟩
        rw [unhide hI5_2]
        exact ⟨th.set m false,(ctB nb m j n),mrgB near y y2,max z dg,A7,n6 + 1,cA7,ps ++ [((y,y2),dg)],(by first | rfl | trivial),(by first | rfl | trivial),(by first | rfl | trivial),(by first | rfl | trivial),(by first | rfl | trivial),(by first | rfl | trivial),unhide hR2,unhide hsq2,unhide hir2,unhide hDs,by rw [List.foldl_append, ← unhide hz']; rfl,by rw [List.length_append, ← unhide hn6']; rfl,unhide hLn,by have := unhide hnf'; have := unhide hf'; omega,by unfold outC2; rw [List.map_append]; exact unhide hP⟩
end Go.Proofs.YtoacpebmhbkmbaaGreatDoor
namespace Go.Proofs.YtoacpebmhbkmbaaGreatDoor
open Go Go.RowKit Go.Shelf
attribute [local go_sem] qUpon lUpon
attribute [local irreducible] wpO wpX wpQL
theorem conS_len : ∀ (n : Nat) (near : Int → Int → Bool) (L : List Int),(conS n near L).length ≤ n
 | 0,_,_ => by simp [conS]
 | n + 1,near,[] => by simp [conS]
 | n + 1,near,a :: l => by
  rw [conS]
  split
  ·have := conS_len n near ((a :: l).erase (leastP (degP near (a :: l)) (a :: l)))
   simp only [List.length_cons]; omega
  ·rw [List.length_cons]
   exact Nat.succ_le_succ (conS_len n _ _)
theorem atP2 {w : World} {A : Option Addr} {n c : Nat} {T : TypeId} {base : Nat} {xs : List (Int × Int)} (h : w.ownsRow base T 2 (.slice A n c) n (xs.flatMap encP)) (hn : n = xs.length) {i : Nat} (hi : i < n) : ∃ b off,A = some ⟨b,off,none⟩ ∧ (∀ W,Ext w W → W.cell? ⟨b,off + i * 2,none⟩ = some (.int .i64 (xs.getD i (0,0)).1)) ∧ ∀ W,Ext w W → W.cell? ⟨b,off + i * 2 + 1,none⟩ = some (.int .i64 (xs.getD i (0,0)).2) := by
 subst hn
 have hs : SlAt encP 2 w A xs := own_at (enc := encP) (c := c) h (fun _ => rfl)
 obtain ⟨b,off,hA,hc⟩ := hs.at_ hi
 have e : xs.getD i (0,0) = xs[i] := by rw [List.getD_eq_getElem?_getD,List.getElem?_eq_getElem hi]; rfl
 rw [e]
 exact ⟨b,off,hA,fun W hW => hc 0 _ rfl W hW,fun W hW => hc 1 _ rfl W hW⟩
set_option maxRecDepth 100000 in
set_option maxHeartbeats 16000000 in
theorem boundsContraction_walk (A : Option Addr) (L : List Ed) (cL : Nat) (w : World) (hL : SlAt encD 5 w A L) (hl : L.length ≤ 9223372036854775807) (hc : L.length ≤ cL) (hT : Tab w) :
  Calls Tryz.prog 4 #[.slice A L.length cL] w fun e w' => e = .returned (.bool true) ∧ Ext w w' := by
 have hL' := hide hL
 have hl' := hide hl
 have hc' := hide hc
 have hT' := hide hT
 have hi := hide (show GInv (bgS L).1 (bgS L).2 from mdS_inv (L.take 40))
 have hVl := hide (show (bgS L).1.length ≤ 100 from bgS_len L)
 clear hL hl hc hT
 have hP := hide (Sp.new w)
 refine callsIn_wide.1 (callsIn_of_wp_marks (n := 0) Tryz.func4 rfl trivial (wpIn_wide.2 ?_))
 simp only [Tryz.ntmps4,List.size_toArray,List.length_cons,List.length_nil,Nat.reduceAdd,Nat.reduceSub,Array.replicate_succ,Array.replicate_zero,List.push_toArray,List.append_toArray,List.nil_append,List.cons_append]
 try dsimp only
 repeat ((fail_if_success (with_reducible refine wp_reg (id := 1) ?_)); (first | go_values | go_skip | go_step | go_guarded | go_upon | go_in | go_back | fail))
 with_reducible refine wp_reg (id := 1) ?_
 refine wpO_want rfl ?_
 go_simp
 refine wpO_want rfl ?_
 go_simp
 have hca := begun22_any A L cL w ((unhide hL').ext (unhide hP).extf) (unhide hl') (unhide hc')
 generalize bgS L = S at *
 obtain ⟨V,E⟩ := S
 try dsimp only at hi hca ⊢
 refine hca.mono ?_
 clear hca
 rintro _ y1 ⟨g,bv,be,A1,B1,cA,cB,rfl,hg0,hs0,he0,hxc⟩
 refine ⟨_,rfl, ?_⟩
 replace hP : Hid (Sp w [] w [] [] [] y1) := hide ((unhide hP).ext hxc)
 have hg := hide hg0
 have hsV := hide hs0
 have hsE := hide he0
 obtain ⟨q,hq⟩ : ∃ q,q = decide ((L.length : Int) ≤ 40) := ⟨_,rfl⟩
 rw [← hq]
 have hnV := hide hg0.nV
 have hnE := hide hg0.nE
 clear hxc hg0 hs0 he0 hq
 generalize htu0 : Value.tuple _ = tu
 have htu := hide htu0
 clear htu0
 refine wpO_val rfl (run_move rfl rfl) ?_
 go_frame
 refine wpO_val rfl (run_extract (i := 0) (v := .pointer (some ⟨g,0,none⟩)) rfl (unhide htu).symm rfl) ?_
 go_frame
 refine wpO_val rfl (run_extract (i := 1) (v := .agg #[.slice A1 V.length cA, .slice B1 E.length cB]) rfl (unhide htu).symm rfl) ?_
 go_frame
 refine wpO_val rfl (run_extract (i := 2) (v := .bool q) rfl (unhide htu).symm rfl) ?_
 go_frame
 refine (unhide hP).allocT 41 #[.slice none 0 0, .slice none 0 0] rfl (by go_simp) ?_
 intro r6 y2 hQ hxa hga
 replace hP : Hid (Sp w [] w [] [(r6,41, #[.slice none 0 0, .slice none 0 0])] [] y2) := hide hQ
 clear hQ
 try go_frame
 refine wpO_want rfl ?_
 go_simp
 refine (unhide hP).setT 0 #[.slice A1 V.length cA, .slice B1 E.length cB] rfl rfl (fun hb => run_store_row (v := .agg #[.slice A1 V.length cA, .slice B1 E.length cB]) rfl (by rfl) (by rfl) (by simp [go_sem]) hb rfl (fun u hu => by simp [Value.cells] at hu; rcases hu with rfl | rfl <;> rfl)) ?_
 intro y3 hQ hkq
 replace hP : Hid (Sp w [] w [] [(r6,41, #[.slice A1 V.length cA, .slice B1 E.length cB])] [] y3) := hide hQ
 have hxs := hxa.of_new hkq (fun x hx => by rw [List.mem_singleton] at hx; rw [hx]; exact hga)
 clear hQ hkq hxa hga
 try go_frame
 replace hg := hide ((unhide hg).ext (hxs))
 replace hsV := hide ((unhide hsV).ext (hxs))
 replace hsE := hide ((unhide hsE).ext (hxs))
 clear hxs
 refine wpO_want rfl ?_
 go_simp
 refine wpO_done ?_
 try go_frame
 clear htu
 try dsimp only
 repeat ((fail_if_success (with_reducible refine wp_reg (id := 2) ?_)); (first | go_values | go_skip | go_step | go_guarded | go_upon | go_in | go_back | fail))
 with_reducible refine wp_reg (id := 2) ?_
 refine wpO_want rfl ?_
 go_simp
 have hca := known22_any y3 ((unhide hT').ext (unhide hP).extf)
 refine (hca).mono ?_
 rintro _ y4 ⟨rfl,hxc⟩
 clear hca
 refine ⟨_,rfl, ?_⟩
 replace hP : Hid (Sp w [] w [] [(r6,41, #[.slice A1 V.length cA, .slice B1 E.length cB])] [] y4) := hide ((unhide hP).ext hxc)
 replace hg := hide ((unhide hg).ext (hxc))
 replace hsV := hide ((unhide hsV).ext (hxc))
 replace hsE := hide ((unhide hsE).ext (hxc))
 clear hxc
 cases q
 ·skip
  iterate 5
   refine wpO_want rfl ?_
   go_simp
  refine wpO_done ?_
  try go_frame
  try dsimp only
  repeat ((fail_if_success (with_reducible refine wp_reg (id := 3) ?_)); (first | go_values | go_skip | go_step | go_guarded | go_upon | go_in | go_back | fail))
  with_reducible refine wp_reg (id := 3) ?_
  refine wpO_want rfl ?_
  go_simp
  have hca := known22_any y4 ((unhide hT').ext (unhide hP).extf)
  refine (hca).mono ?_
  rintro _ y5 ⟨rfl,hxc⟩
  clear hca
  refine ⟨_,rfl, ?_⟩
  replace hP : Hid (Sp w [] w [] [(r6,41, #[.slice A1 V.length cA, .slice B1 E.length cB])] [] y5) := hide ((unhide hP).ext hxc)
  replace hg := hide ((unhide hg).ext (hxc))
  replace hsV := hide ((unhide hsV).ext (hxc))
  replace hsE := hide ((unhide hsE).ext (hxc))
  clear hxc
  refine wpO_want rfl ?_
  go_simp
  refine wpO_done ?_
  try go_frame
  go_wp2_with fail
  refine Sp.leaves0 ?_
  exact ⟨_,results_tmp rfl _ _ _,rfl,(unhide hP).extf⟩
 ·skip
  iterate 5
   refine wpO_want rfl ?_
   go_simp
  refine wpO_done ?_
  try go_frame
  obtain ⟨z,hz⟩ : ∃ z,z = (conS (toL (vS V)).length (nr0 E) (toL (vS V))).foldl (fun m p => max m (p.2 : Int)) (-1) := ⟨_,rfl⟩
  obtain ⟨O,hO⟩ : ∃ O,O = outC2 (conS (toL (vS V)).length (nr0 E) (toL (vS V))) := ⟨_,rfl⟩
  obtain ⟨nO,hnO⟩ : ∃ nO,nO = O.length := ⟨_,rfl⟩
  have hOb := hide (show nO ≤ 1024 by rw [hnO,hO]; unfold outC2; rw [List.length_map]; exact Nat.le_trans (conS_len _ _ _) (toL_len_le _))
  have hz' := hide hz
  have hO' := hide hO
  have hnO' := hide hnO
  clear hz hO hnO
  try dsimp only
  repeat ((fail_if_success (with_reducible refine wp_reg (id := 4) ?_)); (first | go_values | go_skip | go_step | go_guarded | go_upon | go_in | go_back | fail))
  with_reducible refine wp_reg (id := 4) ?_
  refine wpO_want rfl ?_
  go_simp
  refine wpO_want rfl ?_
  go_simp
  have hca := contraction_any (some ⟨g,0,none⟩) V E y4 (GL.of (unhide hg)) (unhide hi) ((unhide hT').ext (unhide hP).extf)
  rw [← unhide hz', ← unhide hO'] at hca
  refine hca.mono ?_
  clear hca
  rintro _ y5 ⟨Ao,co,rfl,ho,hxc⟩
  rw [← unhide hnO'] at ho
  rw [← unhide hnO']
  refine ⟨_,rfl, ?_⟩
  replace hP : Hid (Sp w [] w [] [(r6,41, #[.slice A1 V.length cA, .slice B1 E.length cB])] [(51,2, .slice Ao nO co,nO,O.flatMap encP)] y5) := hide ((unhide hP).addRow hxc ho)
  replace hg := hide ((unhide hg).ext (hxc))
  replace hsV := hide ((unhide hsV).ext (hxc))
  replace hsE := hide ((unhide hsE).ext (hxc))
  clear hxc ho
  generalize htu0 : Value.tuple _ = tu
  have htu := hide htu0
  clear htu0
  refine wpO_val rfl (run_move rfl rfl) ?_
  go_frame
  refine wpO_val rfl (run_extract (i := 0) (v := .int .i64 z) rfl (unhide htu).symm rfl) ?_
  go_frame
  refine wpO_val rfl (run_extract (i := 1) (v := .slice Ao nO co) rfl (unhide htu).symm rfl) ?_
  go_frame
  iterate 2
   refine wpO_want rfl ?_
   go_simp
  refine wpO_done ?_
  try go_frame
  clear htu
  try dsimp only
  repeat ((fail_if_success (with_reducible refine wp_reg (id := 5) ?_)); (first | go_values | go_skip | go_step | go_guarded | go_upon | go_in | go_back | fail))
  with_reducible refine wp_reg (id := 5) ?_
  refine wpO_val rfl (run_load_agg (cs := #[.slice A1 V.length cA, .slice B1 E.length cB]) rfl rfl (by simp [go_sem]) (by simp [go_sem]) ((unhide hP).get 0 rfl).whole) ?_
  go_frame
  refine wpO_want rfl ?_
  go_simp
  have hca := contract22_any A1 B1 V E cA cB y5 (unhide hsV) (unhide hsE) (unhide hi) (unhide hVl)
  rw [← unhide hz', ← unhide hO'] at hca
  refine hca.mono ?_
  clear hca
  rintro _ y6 ⟨Au,cu,rfl,ho,hxc⟩
  rw [← unhide hnO'] at ho
  rw [← unhide hnO']
  refine ⟨_,rfl, ?_⟩
  replace hP : Hid (Sp w [] w [] [(r6,41, #[.slice A1 V.length cA, .slice B1 E.length cB])] [(51,2, .slice Ao nO co,nO,O.flatMap encP),(52,2, .slice Au nO cu,nO,O.flatMap encP)] y6) := hide ((unhide hP).addRow hxc ho)
  replace hg := hide ((unhide hg).ext (hxc))
  replace hsV := hide ((unhide hsV).ext (hxc))
  replace hsE := hide ((unhide hsE).ext (hxc))
  clear hxc ho
  generalize htu0 : Value.tuple _ = tu
  have htu := hide htu0
  clear htu0
  refine wpO_val rfl (run_move rfl rfl) ?_
  go_frame
  refine wpO_val rfl (run_extract (i := 0) (v := .int .i64 z) rfl (unhide htu).symm rfl) ?_
  go_frame
  refine wpO_val rfl (run_extract (i := 1) (v := .slice Au nO cu) rfl (unhide htu).symm rfl) ?_
  go_frame
  iterate 2
   refine wpO_want rfl ?_
   go_simp
  refine wpO_done ?_
  try go_frame
  clear htu
  have h1 : (z != z) = false := bne_self_eq_false z
  have h2 : ((nO : Int) != (nO : Int)) = false := bne_self_eq_false _
  try dsimp only
  repeat ((fail_if_success (with_reducible refine wp_reg (id := 6) ?_)); (first | go_values | go_skip | go_step | go_guarded | go_upon | go_in | go_back | fail))
  with_reducible refine wp_reg (id := 6) ?_
  iterate 10
   refine wpO_want rfl ?_
   go_simp
  refine wpO_done ?_
  try go_frame
  clear h1 h2
  try dsimp only
  repeat ((fail_if_success (with_reducible refine wp_reg (id := 8) ?_)); (first | go_values | go_skip | go_step | go_guarded | go_upon | go_in | go_back | fail))
  with_reducible refine wp_reg (id := 8) ?_
  refine wpO_want rfl ?_
  go_simp
  refine wpO_done ?_
  try go_frame
  go_wp2_with fail
  clear hg hsV hsE
  obtain ⟨I6_4,hI6_40⟩ : ∃ I : Nat → Act → World → Prop,I = fun fi a' wr => ∃ (i : Nat),a'.tmps.size = 74 ∧ a'.tmps.getD 7 undef = .slice Ao nO co ∧ a'.tmps.getD 9 undef = .slice Au nO cu ∧ a'.tmps.getD 10 undef = .int .i64 (i : Nat) ∧ a'.defers = [] ∧ i ≤ nO ∧ Sp w [] w [] [(r6,41, #[.slice A1 V.length cA, .slice B1 E.length cB])] [(51,2, .slice Ao nO co,nO,O.flatMap encP),(52,2, .slice Au nO cu,nO,O.flatMap encP)] wr ∧ fi = nO - i := ⟨_,rfl⟩
  have hI6_4 := hide hI6_40
  clear hI6_40
  refine wp_loop_ix I6_4 (nO - 0) ?_ ?_
  ·rw [unhide hI6_4]; exact ⟨0,rfl,rfl,rfl,rfl,rfl,Nat.zero_le _,unhide hP,rfl⟩
  ·rintro fi ⟨tm,dfs⟩ wr hrel
   rw [unhide hI6_4] at hrel
   obtain ⟨i,hsz,e7,e9,e10,hdf,hin,hPr,hfm⟩ := hrel
   obtain ⟨us,rfl⟩ : ∃ us : Nat → Value,tm = #[us 0,us 1,us 2,us 3,us 4,us 5,us 6,us 7,us 8,us 9,us 10,us 11,us 12,us 13,us 14,us 15,us 16,us 17,us 18,us 19,us 20,us 21,us 22,us 23,us 24,us 25,us 26,us 27,us 28,us 29,us 30,us 31,us 32,us 33,us 34,us 35,us 36,us 37,us 38,us 39,us 40,us 41,us 42,us 43,us 44,us 45,us 46,us 47,us 48,us 49,us 50,us 51,us 52,us 53,us 54,us 55,us 56,us 57,us 58,us 59,us 60,us 61,us 62,us 63,us 64,us 65,us 66,us 67,us 68,us 69,us 70,us 71,us 72,us 73] := ⟨fun i => tm.getD i undef,arr_fn hsz⟩
   have h7 : us 7 = .slice Ao nO co := e7
   have h9 : us 9 = .slice Au nO cu := e9
   have h10 : us 10 = .int .i64 (i : Nat) := e10
   have hdf2 : dfs = [] := hdf
   subst hdf2
   clear hdf hsz e7 e9 e10
   simp only [h7,h9,h10]
   clear h7 h9 h10
   clear hP
   have hP := hide hPr
   have hfm' := hide hfm
   clear hPr hfm
   by_cases hlt : i < nO
   ·skip
    have hil : (i : Int) < (nO : Int) := by omega
    have hk2 := hide hlt
    have hib : (i : Int) ≤ 1024 := by have := unhide hOb; omega
    obtain ⟨bo,oo,rfl,a0,a1⟩ := atP2 ((unhide hP).row 0 rfl) (unhide hnO') hlt
    obtain ⟨bu,ou,rfl,b0,b1⟩ := atP2 ((unhide hP).row 1 rfl) (unhide hnO') hlt
    obtain ⟨p,hp⟩ : ∃ p,p = (O.getD i (0,0)).1 := ⟨_,rfl⟩
    obtain ⟨q,hq⟩ : ∃ q,q = (O.getD i (0,0)).2 := ⟨_,rfl⟩
    rw [← hp] at a0 b0
    rw [← hq] at a1 b1
    have h1 : (p != p) = false := bne_self_eq_false p
    have h2 : (q != q) = false := bne_self_eq_false q
    clear hlt hin hp hq
    try dsimp only
    repeat ((fail_if_success (with_reducible refine wp_reg (id := 9) ?_)); (first | go_values | go_skip | go_step | go_guarded | go_upon | go_in | go_back | fail))
    with_reducible refine wp_reg (id := 9) ?_
    iterate 4
     refine wpO_want rfl ?_
     go_simp
    refine wpO_done ?_
    try go_frame
    go_wp2_with fail
    replace a0 := fun (W : World) (hW : Keep [] wr W) => a0 W ((Ext.refl _).of_new hW (by simp))
    replace a1 := fun (W : World) (hW : Keep [] wr W) => a1 W ((Ext.refl _).of_new hW (by simp))
    replace b0 := fun (W : World) (hW : Keep [] wr W) => b0 W ((Ext.refl _).of_new hW (by simp))
    replace b1 := fun (W : World) (hW : Keep [] wr W) => b1 W ((Ext.refl _).of_new hW (by simp))
    have hself := Keep.refl [] wr
    refine wp_regionK (P := Tryz.prog) [] [0,1,2,3,4,5,6,7,8,9,10,11,12,13,14,15,16,17,18,19,20,21,22,23] [] 0 #[true,true,true,true,true,true,true,true,true,true,true,true,true,true,true,true,true,true,true,true,true,true,true,true] (by kernel_rfl) (by kernel_rfl) rfl (by rfl) ?_
    iterate 24
     refine ql_want (v := ?_) rfl (by rfl) (fun W hW => ?_) ?_
     rotate_left
     ·go_simp
      first | done | rfl
     go_frame
    refine wpQL_nil (fun y7 hxq => ?_)
    replace hP : Hid (Sp w [] w [] [(r6,41, #[.slice A1 V.length cA, .slice B1 E.length cB])] [(51,2, .slice (some ⟨bo,oo,none⟩) nO co,nO,O.flatMap encP),(52,2, .slice (some ⟨bu,ou,none⟩) nO cu,nO,O.flatMap encP)] y7) := hide ((unhide hP).ext hxq)
    clear hxq
    refine wpX_done (by kernel_rfl) ?_
    try go_frame
    clear a0 a1 b0 b1 h1 h2 hself
    have hw1 : IntKind.i64.wrap ((i : Int) + 1) = (i : Int) + 1 := IntWalk.i64_in _ (by omega)
    go_wp2_with fail
    have h3 := unhide hk2
    refine ⟨nO - (i + 1), ?_,by have := unhide hfm'; omega⟩
    rw [unhide hI6_4]
    exact ⟨i + 1,(by first | rfl | trivial),(by first | rfl | trivial),(by first | rfl | trivial),(by first | rfl | (show _ = Value.int _ _; go_num) | go_num),(by first | rfl | trivial),by omega,unhide hP,rfl⟩
   ·skip
    have hil : ¬ (i : Int) < (nO : Int) := by omega
    clear hlt hin hfm'
    try dsimp only
    repeat ((fail_if_success (with_reducible refine wp_reg (id := 9) ?_)); (first | go_values | go_skip | go_step | go_guarded | go_upon | go_in | go_back | fail))
    with_reducible refine wp_reg (id := 9) ?_
    iterate 4
     refine wpO_want rfl ?_
     go_simp
    refine wpO_done ?_
    try go_frame
    go_wp2_with fail
    refine Sp.leaves0 ?_
    exact ⟨_,results_tmp rfl _ _ _,rfl,(unhide hP).extf⟩
end Go.Proofs.YtoacpebmhbkmbaaGreatDoor
namespace Go.Proofs.YtoacpebmhbkmbaaGreatDoor.boundsContractionRow
open Go.ChangeShapes Go.WideShapes Go.ChangeAt Go.RowKit
set_option linter.unusedVariables false
theorem own : ownKnob Tryz.prog.godebug = none := by kernel_rfl
theorem laidOut : laidOutB Tryz.prog = true := by kernel_rfl
theorem door_met (os : Os) (args : Array Value) : laidMetH Tryz.prog laidL ((World.doorLaid Tryz.prog 400 os).forCall (fun _ _ => 0) ⟨#[],args,[]⟩).memory :=
 laidMetH_of_parts3 (fuel := 8) (laidMet_of_run' 8 (by kernel_rfl) (by kernel_rfl)) (by kernel_rfl) (by kernel_rfl)
set_option maxRecDepth 100000 in
theorem lifted (os : Os) (started : os.Started) (H : Type) (enc : TypeId × Value → H) :
  ReturnsInHanded {} Tryz.checked os 4 .any (fun w args => (Rows.boundsContractionSpec.pre enc Tryz.prog Tryz.f4 [] false w args ∧ laidMetH Tryz.prog laidL w) ∧ sizedMet enc Tryz.prog Tryz.f4 (OpenSpec.ofChange Rows.boundsContractionSpec) false w args)
   (Rows.boundsContractionSpec.post enc Tryz.prog Tryz.f4 false true false false) := by
 refine returnsInHanded_of_change_and (C := Tryz.checked) (X := fun w _ => laidMetH Tryz.prog laidL w) (fun _ _ _ hh h => h.of_heap hh) own started (by kernel_rfl) Tryz.func4
  (ChangeSpec.witness_shaped (enc := enc) (C := Tryz.checked) (os := os) (X := fun w _ => laidMetH Tryz.prog laidL w) false (World.doorLaid Tryz.prog 400 os) #[.slice none 0 0] 8 rfl (World.shaped_of_RefB (by kernel_rfl) (by kernel_rfl)) (by kernel_rfl) (by kernel_rfl) (by kernel_rfl) (door_met os _)) ?_
 intro W base args ds gs before hval0 hW _ _ hL _
 have hval : ∀ (j : Nat) t v,Tryz.f4.params[j]? = some t → args[j]? = some v → Value.okWide Tryz.prog W .any base t v := hval0
 have hW' := hW
 obtain ⟨p,q,hA0,hV,rfl,hfz,hnd⟩ := hW
 have hA : DataW.TrodAll enc Tryz.prog W 0 (fun _ => true) true Tryz.f4.params.toList args.toList ds p := hA0
 rw [Tryz.params4] at hA hval
 obtain ⟨v0,vs0,d0,ds0,p0,q0,hargs,rfl,rfl,h0,r0⟩ := trodAll_cons hA
 obtain ⟨rfl,rfl,rfl⟩ := trodAll_nil r0
 obtain rfl : args = #[v0] := by cases args; simp_all
 obtain ⟨rfl,rfl⟩ := trodVars_none hV
 obtain ⟨a0,len0,cap0,rfl⟩ := okWide_slice Tryz.underlying37 (hval 0 37 v0 rfl rfl)
 have k0 := h0
 have lt0 : ∀ x ∈ p0,x.block < W.heap.size := by obtain ⟨m,hm⟩ := k0; exact DataW.trod_lt m _ _ _ hm
 obtain ⟨fu0,hf0⟩ := h0
 obtain ⟨L0,hn0,hs0,ho0,hm0,hz0⟩ := open_edits (by simpa [Value.cells] using hf0)
 subst hn0
 clear hA0 hval0
 refine (boundsContraction_walk a0 L0 cap0 W hs0 hm0 hz0 (tab_of_laid hL)).mono fun e W' ⟨he,bel⟩ => ?_
 subst he
 exact ⟨_,rfl,_,_,_,[],_,[],hW',trodAll_mk1 (shut_bool Tryz.underlying4 _),(trodAll_cons_mk (Below.trod laidOut (by kernel_rfl) (of_decide_eq_true (by kernel_rfl)) k0 bel lt0) trodAll_mk0),rfl,bel.frame _,fun h => by cases h⟩
theorem over : Rows.boundsContractionRow.holds Tryz.pinned (OpenSpec.ofChange Rows.boundsContractionSpec) :=
 OpenClaim.holds_of_wide 4 Tryz.f4 rfl rfl rfl rfl rfl rfl rfl ⟨rfl,rfl,rfl,rfl,rfl⟩ rfl rfl rfl rfl rfl (by kernel_rfl) Tryz.func4 (by kernel_rfl)
  (of_decide_eq_true (by kernel_rfl)) (by unfold Func.isWrapper; first | (rw [if_pos (by decide +kernel)]; kernel_rfl) | (rw [if_neg (by decide +kernel)]; exact ⟨rfl,rfl⟩))
  (fun os started H enc _ => lifted os started H enc)
end Go.Proofs.YtoacpebmhbkmbaaGreatDoor.boundsContractionRow
namespace Go.Proofs.YtoacpebmhbkmbaaGreatDoor
open Go
theorem boundsContraction_holds : Rows.BoundsContractionCardSaid :=
 Claim7.holds_tied_plain_at .later [] [.data] true (true, "82c6bed31ad2c7c2e5153cee67ccc1cbee0e26a323fdf1de3a9a6c1e0005317a") false
  boundsContractionRow.over (fun _ h => by cases h) (by kernel_rfl) (fun _ h => by cases h) boundsContraction_row_tie rfl ⟨rfl,rfl⟩ (by kernel_rfl) rfl
  (fun f fn hf hfn => by
   obtain rfl : f = 4 := Option.some.inj ((show Tryz.prog.funcNamed "palmette/palmettelaw22.BoundsContraction" = some 4 by kernel_rfl).symm.trans hf) |>.symm
   obtain rfl : fn = Tryz.f4 := (Option.some.inj (Tryz.func4.symm.trans hfn)).symm
   exact ⟨by kernel_rfl,fun j t ht => by
    rw [Tryz.params4] at ht
    have h3 : t = 37 := by
     rcases j with _ | j
     ·simp at ht; simp [ht]
     ·simp at ht
    rcases h3 with rfl
    ·exact (show Tryz.prog.wantsStandIn 37 = false by kernel_rfl)⟩)
  (by kernel_rfl)
#print axioms boundsContraction_holds
end Go.Proofs.YtoacpebmhbkmbaaGreatDoor
