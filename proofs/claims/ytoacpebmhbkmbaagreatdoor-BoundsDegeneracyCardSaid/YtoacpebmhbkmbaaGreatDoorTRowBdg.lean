/- Every input makes the law BoundsDegeneracy answer true, and each argument reads behind the call as it read before: the given card, tied to the program's text. No condition. -/
import Derived.Test.YtoacpebmhbkmbaaGreatDoorT8
import Derived.Test.YtoacpebmhbkmbaaGreatDoorT9
import Derived.Test.YtoacpebmhbkmbaaGreatDoorT10
import Derived.Test.YtoacpebmhbkmbaaGreatDoorT15
import Derived.Below
import Derived.Test.YtoacpebmhbkmbaaGreatDoorT26
import Derived.Test.YtoacpebmhbkmbaaGreatDoorT31
import Derived.Test.YtoacpebmhbkmbaaGreatDoorT38
import Derived.Test.YtoacpebmhbkmbaaGreatDoorT12
import Derived.Test.YtoacpebmhbkmbaaGreatDoorT39
import Derived.Test.YtoacpebmhbkmbaaGreatDoorT41
import Derived.Test.YtoacpebmhbkmbaaGreatDoorT40
import Derived.Test.YtoacpebmhbkmbaaGreatDoorT37
import Derived.Test.YtoacpebmhbkmbaaGreatDoorCards
import Derived.Test.YtoacpebmhbkmbaaGreatDoorTie
import Derived.WalkKit
import Derived.ProofKit
import Derived.OpenShut
import Derived.ShutString
import Derived.ChangeOld
import Derived.SevenTiedAt
namespace Go.Proofs.YtoacpebmhbkmbaaGreatDoor
open Go Go.RowKit
theorem run_rE (w : World) (base : Nat) (v : Value) (xs : List ((Int × Int) × Thing)) (e : ((Int × Int) × Thing)) (hown : w.ownsRow base 134 4 v xs.length (xs.flatMap encE)) (hl : xs.length ≤ 100000) (hb : base ≤ w.heap.size) (ty : TypeId) :
  ∃ v' w',(Builtin.append_ #[39,39] ty #[v, .slice (some ⟨w.heap.size,0,none⟩) 1 1]).run Tryz.prog (w.alloc (.cells (encE e).toArray 134)) = .ok v' w' ∧
   w'.ownsRow base 134 4 v' (xs ++ [e]).length ((xs ++ [e]).flatMap encE) ∧ (w.alloc (.cells (encE e).toArray 134)).grownBy w' v.ownBlock := by
 have hi0 := inforE
 obtain ⟨i0,hi,hi1⟩ := Option.map_eq_some_iff.1 hi0
 simp only [Prod.mk.injEq] at hi1
 obtain ⟨hz1,hz2,hz3⟩ := hi1
 obtain ⟨z0,hz,hz4⟩ := Option.map_eq_some_iff.1 hz1
 have hown' := own_ext hown ((Ext.refl w).alloc (.cells (encE e).toArray 134))
 obtain ⟨v',w',h0,h1,h2,_,_⟩ := run_append_own_at (P := Tryz.prog) _ base 39 ty 134 i0 z0 4 32 Tryz.underlying39 hi hz hz2 hz3 hz4 (by decide) v xs.length _ hown' ⟨w.heap.size,0,none⟩ 1 1 (encE e) rfl (fun j u hj => by
  have := (Blk.new w 134 (encE e).toArray).cell j
  rw [show (⟨w.heap.size,0,none⟩ : Addr).add j = ⟨w.heap.size,j,none⟩ by simp [Addr.add]; omega,this]
  simpa using hj) (one_encE e) (by unfold maxLen; omega) (by omega) (by simp; omega)
 exact ⟨v',w',h0,by simpa using h1,h2⟩
end Go.Proofs.YtoacpebmhbkmbaaGreatDoor
namespace Go.Proofs.YtoacpebmhbkmbaaGreatDoor
open Go Go.RowKit
attribute [local go_sem] qUpon lUpon
set_option maxRecDepth 100000 in
set_option maxHeartbeats 4000000 in
theorem same_len (A B A' B' : Option Addr) (V V' : List (Int × Thing)) (E E' : List ((Int × Int) × Thing)) (n m cV cE cV' cE' : Nat) (w : World) (hV : SlAt encV 3 w A V) (hE : SlAt encE 4 w B E) (hV' : SlAt encV 3 w A' V') (hE' : SlAt encE 4 w B' E') (hn : V.length = n) (hn' : V'.length = n) (hm : E.length = m) (hm' : E'.length = m) (hl : n ≤ 4096) (hle : m ≤ 4096) :
  Calls Tryz.prog 36 #[.agg #[.slice A n cV, .slice B m cE], .agg #[.slice A' n cV', .slice B' m cE']] w fun e w' => e = .returned (.bool (decide (V = V') && decide (E = E'))) ∧ Ext w w' := by
 have hV1 := hide hV
 have hE1 := hide hE
 have hV2 := hide hV'
 have hE2 := hide hE'
 clear hV hE hV' hE'
 have hb2 := (Blk.new w 41 #[.slice A n cV, .slice B m cE]).ext (ext_self1 _ (.cells #[.slice A' n cV', .slice B' m cE'] 41))
 have hb3 := Blk.new (w.alloc (.cells #[.slice A n cV, .slice B m cE] 41)) 41 #[.slice A' n cV', .slice B' m cE']
 simp only [World.size_alloc] at hb3
 generalize hres : (decide (V = V') && decide (E = E')) = res
 have hres' := hide hres
 clear hres
 go_enter Tryz.func36,Tryz.ntmps36
 go_wp2
 refine wp_abs (fun W => Ext w W ∧ Blk W w.heap.size 41 #[.slice A n cV, .slice B m cE] ∧ Blk W (w.heap.size + 1) 41 #[.slice A' n cV', .slice B' m cE']) ⟨ext_self2 _ _ _,hb2,hb3⟩ ?_
 clear hb2 hb3
 rintro w1 ⟨hx1,hb2,hb3⟩
 go_loopw [5] (fun i wr => ∃ k : Nat,k ≤ n ∧ i = .int .i64 k ∧ V.take k = V'.take k ∧ Ext w1 wr) (fun i _ => n - (intOf i).toNat)
 case atStart => exact ⟨0,Nat.zero_le _,rfl,by simp,Ext.refl _⟩
 case round =>
  obtain ⟨k,hk,rfl,hfold,hxr⟩ := hrel
  have d0 := (hb2.ext hxr).cells 0 (v := .slice A n cV) rfl
  have d1 := (hb3.ext hxr).cells 0 (v := .slice A' n cV') rfl
  have hfold' := hide hfold
  clear hfold
  by_cases hlt : k < n
  ·obtain ⟨b,off,rfl,c0,c1,c2⟩ := atV ((unhide hV1).ext (hx1.trans hxr)) (i := k) (by omega)
   obtain ⟨b',off',rfl,g0,g1,g2⟩ := atV ((unhide hV2).ext (hx1.trans hxr)) (i := k) (by omega)
   have t1 := List.take_succ_eq_append_getElem (l := V) (i := k) (by omega)
   have t2 := List.take_succ_eq_append_getElem (l := V') (i := k) (by omega)
   generalize hy : V[k] = y at c0 c1 c2 t1
   generalize hy' : V'[k] = y' at g0 g1 g2 t2
   have hyy := hide (show V[k]? = some y by rw [← hy]; exact List.getElem?_eq_getElem _)
   have hyy' := hide (show V'[k]? = some y' by rw [← hy']; exact List.getElem?_eq_getElem _)
   have t1' := hide t1
   have t2' := hide t2
   clear hy hy' t1 t2
   obtain ⟨a,⟨l,t⟩⟩ := y
   obtain ⟨a',⟨l',t'⟩⟩ := y'
   simp only at c0 c1 c2 g0 g1 g2
   go_wp2
   obtain ⟨q,hq⟩ : ∃ q : Bool,q = !decide ((a,(l,t)) = (a',(l',t'))) := ⟨_,rfl⟩
   have hq' := hide hq
   clear hq
   refine wp_region_still (P := Tryz.prog) [0,1,2,3,4,5,6,7,8,9,10] [] 0 #[true,true,true,true,true,true,true,true,true,true,true] (by kernel_rfl) (by kernel_rfl) rfl (by rfl) ?_
   iterate 10
    refine ql_want (v := ?_) rfl (by rfl) (fun W hW => ?_) ?_
    rotate_left
    ·go_simp
     first | done | rfl | (fail)
    go_frame
   refine ql_want (v := .bool q) rfl (by rfl) (fun W hW => ?_) ?_
   ·go_simp
    rw [unhide hq']
    by_cases h1 : a = a' <;> by_cases h2 : l = l' <;> by_cases h3 : t = t' <;> simp [h1,h2,h3]
   go_frame
   refine wpQL_nil (fun w2 hx2 => ?_)
   refine wpX_done (by kernel_rfl) ?_
   clear d0 d1 c0 c1 c2 g0 g1 g2
   cases hqq : q
   ·have he : (a,(l,t)) = (a',(l',t')) := by
     have hz := unhide hq'
     rw [hqq] at hz
     by_cases he : (a,(l,t)) = (a',(l',t'))
     ·exact he
     ·rw [decide_eq_false he] at hz
      cases hz
    subst hqq
    go_wp2
    go_roundw
    case rel => exact ⟨k + 1,by omega,by go_num,by rw [unhide t1',unhide t2',unhide hfold',he],hxr.trans hx2⟩
    case measure => simp [intOf]; omega
   ·have he : (a,(l,t)) ≠ (a',(l',t')) := by
     intro he
     have hz := unhide hq'
     rw [hqq,decide_eq_true he] at hz
     cases hz
    subst hqq
    go_wp2
    go_ret
    refine ⟨ret_bool ?_,hx1.trans (hxr.trans hx2)⟩
    rw [← unhide hres']
    have hne : V ≠ V' := by
     intro e
     have h1 := unhide hyy
     have h2 := unhide hyy'
     rw [e,h2] at h1
     exact he (Option.some.inj h1).symm
    simp [hne]
  ·have hkE : k = n := by omega
   have h5 := unhide hfold'
   rw [hkE,List.take_of_length_le (by omega),List.take_of_length_le (by omega)] at h5
   have hVV' := hide h5
   clear h5 hfold'
   go_wp2
   go_loopw [6] (fun i wr => ∃ k : Nat,k ≤ m ∧ i = .int .i64 k ∧ E.take k = E'.take k ∧ Ext w1 wr) (fun i _ => m - (intOf i).toNat)
   case atStart => exact ⟨0,Nat.zero_le _,rfl,by simp,hxr⟩
   case round =>
    obtain ⟨k,hk,rfl,hfold,hxr⟩ := hrel
    have d0 := (hb2.ext hxr).cells 1 (v := .slice B m cE) rfl
    have d1 := (hb3.ext hxr).cells 1 (v := .slice B' m cE') rfl
    have hfold' := hide hfold
    clear hfold
    by_cases hlt : k < m
    ·obtain ⟨b,off,rfl,c0,c1,c2,c3⟩ := atE ((unhide hE1).ext (hx1.trans hxr)) (i := k) (by omega)
     obtain ⟨b',off',rfl,g0,g1,g2,g3⟩ := atE ((unhide hE2).ext (hx1.trans hxr)) (i := k) (by omega)
     have t1 := List.take_succ_eq_append_getElem (l := E) (i := k) (by omega)
     have t2 := List.take_succ_eq_append_getElem (l := E') (i := k) (by omega)
     generalize hy : E[k] = y at c0 c1 c2 c3 t1
     generalize hy' : E'[k] = y' at g0 g1 g2 g3 t2
     have hyy := hide (show E[k]? = some y by rw [← hy]; exact List.getElem?_eq_getElem _)
     have hyy' := hide (show E'[k]? = some y' by rw [← hy']; exact List.getElem?_eq_getElem _)
     have t1' := hide t1
     have t2' := hide t2
     clear hy hy' t1 t2
     obtain ⟨⟨a,b0⟩,⟨l,t⟩⟩ := y
     obtain ⟨⟨a',b0'⟩,⟨l',t'⟩⟩ := y'
     simp only at c0 c1 c2 c3 g0 g1 g2 g3
     go_wp2
     obtain ⟨q,hq⟩ : ∃ q : Bool,q = !decide (((a,b0),(l,t)) = ((a',b0'),(l',t'))) := ⟨_,rfl⟩
     have hq' := hide hq
     clear hq
     refine wp_region_still (P := Tryz.prog) [0,1,2,3,4,5,6,7,8,9,10] [] 0 #[true,true,true,true,true,true,true,true,true,true,true] (by kernel_rfl) (by kernel_rfl) rfl (by rfl) ?_
     iterate 10
      refine ql_want (v := ?_) rfl (by rfl) (fun W hW => ?_) ?_
      rotate_left
      ·go_simp
       first | done | rfl | (fail)
      go_frame
     refine ql_want (v := .bool q) rfl (by rfl) (fun W hW => ?_) ?_
     ·go_simp
      rw [unhide hq']
      by_cases h1 : a = a' <;> by_cases h4 : b0 = b0' <;> by_cases h2 : l = l' <;> by_cases h3 : t = t' <;> simp [h1,h2,h3,h4]
     go_frame
     refine wpQL_nil (fun w2 hx2 => ?_)
     refine wpX_done (by kernel_rfl) ?_
     clear d0 d1 c0 c1 c2 c3 g0 g1 g2 g3
     cases hqq : q
     ·have he : ((a,b0),(l,t)) = ((a',b0'),(l',t')) := by
       have hz := unhide hq'
       rw [hqq] at hz
       by_cases he : ((a,b0),(l,t)) = ((a',b0'),(l',t'))
       ·exact he
       ·rw [decide_eq_false he] at hz
        cases hz
      subst hqq
      go_wp2
      go_roundw
      case rel => exact ⟨k + 1,by omega,by go_num,by rw [unhide t1',unhide t2',unhide hfold',he],hxr.trans hx2⟩
      case measure => simp [intOf]; omega
     ·have he : ((a,b0),(l,t)) ≠ ((a',b0'),(l',t')) := by
       intro he
       have hz := unhide hq'
       rw [hqq,decide_eq_true he] at hz
       cases hz
      subst hqq
      go_wp2
      go_ret
      refine ⟨ret_bool ?_,hx1.trans (hxr.trans hx2)⟩
      rw [← unhide hres']
      have hne : E ≠ E' := by
       intro e
       have h1 := unhide hyy
       have h2 := unhide hyy'
       rw [e,h2] at h1
       exact he (Option.some.inj h1).symm
      simp [hne]
    ·have hkE : k = m := by omega
     have h5 := unhide hfold'
     rw [hkE,List.take_of_length_le (by omega),List.take_of_length_le (by omega)] at h5
     have h5' := hide h5
     clear h5
     go_wp2
     go_ret
     refine ⟨ret_bool ?_,hx1.trans hxr⟩
     rw [← unhide hres',unhide h5',unhide hVV']
     simp
theorem same_any (A B A' B' : Option Addr) (V V' : List (Int × Thing)) (E E' : List ((Int × Int) × Thing)) (cV cE cV' cE' : Nat) (w : World) (hV : SlAt encV 3 w A V) (hE : SlAt encE 4 w B E) (hV' : SlAt encV 3 w A' V') (hE' : SlAt encE 4 w B' E') (hl : V.length ≤ 4096) (hle : E.length ≤ 4096) :
  Calls Tryz.prog 36 #[.agg #[.slice A V.length cV, .slice B E.length cE], .agg #[.slice A' V'.length cV', .slice B' E'.length cE']] w fun e w' => e = .returned (.bool (decide (V = V') && decide (E = E'))) ∧ Ext w w' := by
 by_cases h1 : V.length = V'.length
 ·by_cases h2 : E.length = E'.length
  ·rw [← h1, ← h2]
   exact same_len A B A' B' V V' E E' V.length E.length cV cE cV' cE' w hV hE hV' hE' rfl h1.symm rfl h2.symm hl hle
  ·have h3 : decide (E = E') = false := by
    rw [decide_eq_false_iff_not]
    rintro rfl
    exact h2 rfl
   rw [h3,Bool.and_false]
   clear hV hE hV' hE'
   go_enter Tryz.func36,Tryz.ntmps36
   go_wp2
   all_goals first
    | (go_ret; exact ⟨rfl,ext_self2 _ _ _⟩)
    | (exfalso; simp_all; done)
 ·have h3 : decide (V = V') = false := by
   rw [decide_eq_false_iff_not]
   rintro rfl
   exact h1 rfl
  rw [h3,Bool.false_and]
  clear hV hE hV' hE'
  go_enter Tryz.func36,Tryz.ntmps36
  go_wp2
  all_goals first
   | (go_ret; exact ⟨rfl,ext_self2 _ _ _⟩)
   | (exfalso; simp_all; done)
end Go.Proofs.YtoacpebmhbkmbaaGreatDoor
namespace Go.Proofs.YtoacpebmhbkmbaaGreatDoor
open Go Go.RowKit
attribute [local go_sem] qUpon lUpon
theorem own_keep1 {w w' : World} {base T k n b : Nat} {v : Value} {xs : List Value} (h : w.ownsRow base T k v n xs) (hk : Keep [b] w w') (hb : b < base) : w'.ownsRow base T k v n xs :=
 own_keep h hk (fun g hg e => by
  have h1 : g = b := by simpa using hg
  subst h1
  have := (own_base h e).1
  omega)
set_option maxRecDepth 100000 in
set_option maxHeartbeats 4000000 in
theorem to_any (g bv be : Nat) (V SV : List (Int × Thing)) (E SE : List ((Int × Int) × Thing)) (w : World) (hg : GraphAt w g bv be V E) (hpV : SV.Perm V) (hSV : SV.Pairwise ltV) (hpE : SE.Perm E) (hSE : SE.Pairwise ltE) (hl : V.length ≤ 4096) (hle : E.length ≤ 4096) :
  Calls Tryz.prog 37 #[.pointer (some ⟨g,0,none⟩)] w fun e w' => ∃ A cA B cB,e = .returned (.agg #[.slice A SV.length cA, .slice B SE.length cB]) ∧ SlAt encV 3 w' A SV ∧ SlAt encE 4 w' B SE ∧ Ext w w' := by
 have hlV : SV.length ≤ 4096 := by rw [hpV.length_eq]; exact hl
 have hlE : SE.length ≤ 4096 := by rw [hpE.length_eq]; exact hle
 have hg' := hide hg
 have hb2 := (Blk.new w 41 #[.slice none 0 0, .slice none 0 0]).ext (ext_self1 _ (.cells #[.slice none 0 0, .slice none 0 0] 41))
 have hb3 := Blk.new (w.alloc (.cells #[.slice none 0 0, .slice none 0 0] 41)) 41 #[.slice none 0 0, .slice none 0 0]
 simp only [World.size_alloc] at hb3
 have hb2' := hide hb2
 have hb3' := hide hb3
 clear hg hb2 hb3
 go_enter Tryz.func37,Tryz.ntmps37
 go_wp2_with (first
  | (go_at_call 30; refine (vertices_any g bv be V E SV _ ((unhide hg').ext (ext_self2 _ _ _)) hpV hSV hl).mono ?_; rintro e w2 ⟨v2,rfl,ho2,hx2⟩; obtain ⟨Av,cv,rfl⟩ := own_slice ho2; have hx2' := hide hx2; have ho2' := hide ho2; clear ho2)
  | (go_at_call 80; refine (edges_any g bv be V E SE _ ((unhide hg').ext ((ext_self2 _ _ _).trans hx2)) hpE hSE hle).mono ?_; rintro e wI ⟨v3,rfl,ho3,hx3⟩; obtain ⟨Ae,ce,rfl⟩ := own_slice ho3; have hx3' := hide hx3; have ho3' := hide ho3; clear ho3))
 have hxI' := hide (((ext_self2 _ _ _).trans (unhide hx2')).trans (unhide hx3'))
 have hn1' := hide (show w.heap.size + 1 < w2.heap.size by have := (unhide hx2').size; simp at this; omega)
 have hn2' := hide (show w2.heap.size ≤ wI.heap.size from (unhide hx3').size)
 have hb2J := hide (((unhide hb2').ext (unhide hx2')).ext (unhide hx3'))
 have hb3J := ((unhide hb3').ext (unhide hx2')).ext (unhide hx3')
 have hoA := own_ext (unhide ho2') (unhide hx3')
 rw [World.size_alloc,World.size_alloc] at hoA
 have hoA' := hide hoA
 have hoE0 := hide (unhide ho3')
 clear hx2 hx3 hx2' hx3' hb2' hb3' ho2' hg' hoA
 generalize hn : w.heap.size = n at *
 generalize hm2 : w2.heap.size = m2 at *
 have hn1 := unhide hn1'
 have hn2 := unhide hn2'
 go_loopw [6] (fun i wr => ∃ (k : Nat) (vs : Value),k ≤ SV.length ∧ i = .int .i64 k ∧ Keep [n + 1] wI wr ∧ Blk wr (n + 1) 41 #[vs, .slice none 0 0] ∧ wr.ownsRow wI.heap.size 132 3 vs (SV.take k).length ((SV.take k).flatMap encV)) (fun i _ => SV.length - (intOf i).toNat)
 case atStart => exact ⟨0,_,Nat.zero_le _,rfl,Keep.refl _ _,hb3J,World.ownsRow_nil _ _ _ _⟩
 case round =>
  obtain ⟨k,vs,hk,rfl,hkeep,hbk,hown⟩ := hrel
  have hkeep' := hide hkeep
  have hbk' := hide hbk
  have hown' := hide hown
  have hsz' := hide (show wI.heap.size ≤ wr.heap.size from hkeep.size)
  have hnI' := hide (show n + 1 < wI.heap.size by omega)
  have hoS := hide (own_keep1 (unhide hoA') hkeep (by omega))
  clear hkeep hown
  by_cases hlt : k < SV.length
  ·obtain ⟨b,off,rfl,c0,c1,c2⟩ := atV (own_at (unhide hoS) (fun _ => rfl)) hlt
   have st := List.take_succ_eq_append_getElem hlt
   generalize hy : SV[k] = y at c0 c1 c2 st
   obtain ⟨a,⟨l,t⟩⟩ := y
   have st' := hide st
   clear hy st
   simp only at c0 c1 c2
   have r0 := hbk.cells 0 (v := vs) rfl
   go_wp2
   refine wp_region_still (P := Tryz.prog) [0,1,2,3,4,5] [7,8,9] 4 #[true,true,true,true,true,true,false,false,false,false] (by kernel_rfl) (by kernel_rfl) rfl (by rfl) ?_
   iterate 6
    refine ql_want (v := ?_) rfl (by rfl) (fun W hW => ?_) ?_
    rotate_left
    ·go_simp
     first | done | rfl
    go_frame
   refine wpQL_nil (fun w3 hx3 => ?_)
   clear r0 c0 c1 c2
   have hk3' := hide ((unhide hkeep').trans (hx3.keep _))
   have hb3 := (unhide hbk').ext hx3
   have hb3' := hide hb3
   have ho3' := hide (own_ext (unhide hown') hx3)
   have hr0 := hb3.cells 0 (v := vs) rfl
   clear hb3
   obtain ⟨v4,w4,hrun,ho4,hg4⟩ := run_rV w3 wI.heap.size vs (SV.take k) (a,(l,t)) (unhide ho3') (by rw [List.length_take]; omega) (Nat.le_trans (unhide hsz') (Below.size hx3)) 38
   obtain ⟨A6,k6,rfl⟩ := own_slice ho4
   obtain ⟨W6,hW6,f1,f2,hk6,hb6,ho6,_,_⟩ := fld_step (i := 0) (unhide hk3') (unhide hnI') (unhide hb3') (unhide ho3') (ext_self1 w3 _) ho4 hg4 (by simp)
   rw [← unhide st'] at hW6 hb6 ho6
   rw [← unhide st'] at hrun
   have hk6' := hide hk6
   have hb6' := hide hb6
   have ho6' := hide ho6
   clear hk6 hb6 ho6 ho4 hg4 hbk
   generalize hgl : (SV.take (k + 1)).length = gl at *
   simp only [encV] at hrun
   refine lx_one (i := 6) (by kernel_rfl) rfl (by rfl) #[true,true,true,true,true,true,true,false,false,false] (by rfl) ?_
   go_simp
   refine lx_one (i := 7) (by kernel_rfl) rfl (by rfl) #[true,true,true,true,true,true,true,true,false,false] (by rfl) ?_
   rw [ex_append rfl (by rfl) (by rfl) hrun]
   go_simp
   refine lx_one (i := 8) (by kernel_rfl) rfl (by rfl) #[true,true,true,true,true,true,true,true,true,false] (by rfl) ?_
   go_simp
   refine lx_one (i := 9) (by kernel_rfl) rfl (by rfl) #[true,true,true,true,true,true,true,true,true,true] (by rfl) ?_
   go_simp
   refine wpX_done (by kernel_rfl) ?_
   try go_frame
   go_wp2
   go_roundw
   case rel =>
    subst hgl
    exact ⟨k + 1,_,by omega,by go_num,unhide hk6',unhide hb6',unhide ho6'⟩
   case measure => simp [intOf]; omega
  ·have hkE : k = SV.length := by omega
   subst hkE
   have hfin := unhide hown'
   rw [List.take_length] at hfin
   obtain ⟨A1,c1,rfl⟩ := own_slice hfin
   have hoJ' := hide hfin
   have hb2V := hide ((unhide hb2J).keep (unhide hkeep') (by simp))
   have hbJ := hide hbk
   have hxV' := hide ((unhide hxI').of_new (unhide hkeep') (by simp; omega))
   have hoE' := hide (own_keep1 (unhide hoE0) (unhide hkeep') (by omega))
   have hszV := unhide hsz'
   rename World => wV
   clear hfin hbk hkeep' hbk' hown' hoS hsz' hnI'
   go_wp2
   go_loopw [7] (fun i wr => ∃ (k : Nat) (vs : Value),k ≤ SE.length ∧ i = .int .i64 k ∧ Keep [n + 1] wV wr ∧ Blk wr (n + 1) 41 #[.slice A1 SV.length c1,vs] ∧ wr.ownsRow wV.heap.size 134 4 vs (SE.take k).length ((SE.take k).flatMap encE)) (fun i _ => SE.length - (intOf i).toNat)
   case atStart => exact ⟨0,_,Nat.zero_le _,rfl,Keep.refl _ _,unhide hbJ,World.ownsRow_nil _ _ _ _⟩
   case round =>
    obtain ⟨k,vs,hk,rfl,hkeep,hbk,hown⟩ := hrel
    have hkeep' := hide hkeep
    have hbk' := hide hbk
    have hown' := hide hown
    have hsz' := hide (show wV.heap.size ≤ wr.heap.size from hkeep.size)
    have hnI' := hide (show n + 1 < wV.heap.size by omega)
    have hoS := hide (own_keep1 (unhide hoE') hkeep (by omega))
    clear hkeep hown
    by_cases hlt : k < SE.length
    ·obtain ⟨b,off,rfl,c0,c1,c2,c3⟩ := atE (own_at (unhide hoS) (fun _ => rfl)) hlt
     have st := List.take_succ_eq_append_getElem hlt
     generalize hy : SE[k] = y at c0 c1 c2 c3 st
     obtain ⟨⟨a,b0⟩,⟨l,t⟩⟩ := y
     have st' := hide st
     clear hy st
     simp only at c0 c1 c2 c3
     have r0 := hbk.cells 1 (v := vs) rfl
     go_wp2
     refine wp_region_still (P := Tryz.prog) [0,1,2,3,4,5] [7,8,9] 4 #[true,true,true,true,true,true,false,false,false,false] (by kernel_rfl) (by kernel_rfl) rfl (by rfl) ?_
     iterate 6
      refine ql_want (v := ?_) rfl (by rfl) (fun W hW => ?_) ?_
      rotate_left
      ·go_simp
       first | done | rfl
      go_frame
     refine wpQL_nil (fun w3 hx3 => ?_)
     clear r0 c0 c1 c2 c3
     have hk3' := hide ((unhide hkeep').trans (hx3.keep _))
     have hb3 := (unhide hbk').ext hx3
     have hb3' := hide hb3
     have ho3' := hide (own_ext (unhide hown') hx3)
     have hr0 := hb3.cells 1 (v := vs) rfl
     clear hb3
     obtain ⟨v4,w4,hrun,ho4,hg4⟩ := run_rE w3 wV.heap.size vs (SE.take k) ((a,b0),(l,t)) (unhide ho3') (by rw [List.length_take]; omega) (Nat.le_trans (unhide hsz') (Below.size hx3)) 39
     obtain ⟨A6,k6,rfl⟩ := own_slice ho4
     obtain ⟨W6,hW6,f1,f2,hk6,hb6,ho6,_,_⟩ := fld_step (i := 1) (unhide hk3') (unhide hnI') (unhide hb3') (unhide ho3') (ext_self1 w3 _) ho4 hg4 (by simp)
     rw [← unhide st'] at hW6 hb6 ho6
     rw [← unhide st'] at hrun
     have hk6' := hide hk6
     have hb6' := hide hb6
     have ho6' := hide ho6
     clear hk6 hb6 ho6 ho4 hg4 hbk
     generalize hgl : (SE.take (k + 1)).length = gl at *
     simp only [encE] at hrun
     refine lx_one (i := 6) (by kernel_rfl) rfl (by rfl) #[true,true,true,true,true,true,true,false,false,false] (by rfl) ?_
     go_simp
     refine lx_one (i := 7) (by kernel_rfl) rfl (by rfl) #[true,true,true,true,true,true,true,true,false,false] (by rfl) ?_
     rw [ex_append rfl (by rfl) (by rfl) hrun]
     go_simp
     refine lx_one (i := 8) (by kernel_rfl) rfl (by rfl) #[true,true,true,true,true,true,true,true,true,false] (by rfl) ?_
     go_simp
     refine lx_one (i := 9) (by kernel_rfl) rfl (by rfl) #[true,true,true,true,true,true,true,true,true,true] (by rfl) ?_
     go_simp
     refine wpX_done (by kernel_rfl) ?_
     try go_frame
     go_wp2
     go_roundw
     case rel =>
      subst hgl
      exact ⟨k + 1,_,by omega,by go_num,unhide hk6',unhide hb6',unhide ho6'⟩
     case measure => simp [intOf]; omega
    ·have hkE : k = SE.length := by omega
     subst hkE
     have hfin := unhide hown'
     rw [List.take_length] at hfin
     have hfin' := hide hfin
     clear hfin
     obtain ⟨A2,c2,rfl⟩ := own_slice (unhide hfin')
     have hq4 := (unhide hb2V).keep (unhide hkeep') (by simp)
     have s0 := hq4.cell 0
     have s1 := hq4.cell 1
     have s2 := hq4.frozen 0
     have s3 := hq4.frozen 1
     have r0 := hbk.cells 0 (v := .slice A1 SV.length c1) rfl
     have r1 := hbk.cells 1 (v := .slice A2 SE.length c2) rfl
     simp at s0 s1
     clear hq4
     go_wp2
     refine bodyPost_ret (ret_cell1 rfl rfl (load_G2 wr n _ _ _ _ s0 s1)) rfl ?_
     have hxr : Ext w wr := (unhide hxV').of_new (unhide hkeep') (by simp; omega)
     have hoV := own_keep1 (unhide hoJ') (unhide hkeep') (by omega)
     obtain ⟨q1,q2⟩ := fin_row hxr (b4 := n) (by omega) hoV (by omega) (.slice A1 SV.length c1) (.slice A2 SE.length c2)
     obtain ⟨q3,q4⟩ := fin_row hxr (b4 := n) (by omega) (unhide hfin') (by omega) (.slice A1 SV.length c1) (.slice A2 SE.length c2)
     exact ⟨A1,c1,A2,c2,rfl,own_at q2 (fun _ => rfl),own_at q4 (fun _ => rfl),q1⟩
end Go.Proofs.YtoacpebmhbkmbaaGreatDoor
namespace Go.Proofs.YtoacpebmhbkmbaaGreatDoor
theorem degP_mono {near : Int → Int → Bool} {S L : List Int} (hS : S.Nodup) (h : ∀ x ∈ S,x ∈ L) (x : Int) : degP near S x ≤ degP near L x := by
 unfold degP
 refine len_sub _ _ (hS.filter _) fun y hy => ?_
 rw [List.mem_filter] at hy ⊢
 exact ⟨h y hy.1,hy.2⟩
section
variable {near : Int → Int → Bool}
end
end Go.Proofs.YtoacpebmhbkmbaaGreatDoor
namespace Go.Proofs.YtoacpebmhbkmbaaGreatDoor
def Dense (near : Int → Int → Bool) (k : Int) (S : List Int) : Prop := ∀ x ∈ S,k ≤ (degP near S x : Int)
def corS (near : Int → Int → Bool) (k : Int) : Nat → List Int → List Int
 | 0,L => L
 | n + 1,L =>
  match L.find? (fun x => decide ((degP near L x : Int) < k)) with
  | none => L
  | some x => corS near k n (L.erase x)
structure IsCore (near : Int → Int → Bool) (k : Int) (L C : List Int) : Prop where
 nodup : C.Nodup
 sub : ∀ x ∈ C,x ∈ L
 dense : Dense near k C
 top : ∀ S : List Int,S.Nodup → (∀ x ∈ S,x ∈ L) → Dense near k S → ∀ x ∈ S,x ∈ C
section
variable {near : Int → Int → Bool} {k : Int}
theorem dense_erase {L S : List Int} (hL : L.Nodup) (hS : S.Nodup) (hs : ∀ x ∈ S,x ∈ L) (hd : Dense near k S) {x : Int} (hx : (degP near L x : Int) < k) : ∀ y ∈ S,y ∈ L.erase x := by
 intro y hy
 rw [hL.mem_erase_iff]
 refine ⟨fun e => ?_,hs y hy⟩
 subst e
 have h1 := hd y hy
 have h2 := degP_mono (near := near) hS hs y
 omega
theorem corS_core : ∀ (n : Nat) (L0 L : List Int),L.length ≤ n → L.Nodup → (∀ x ∈ L,x ∈ L0) → (∀ S : List Int,S.Nodup → (∀ x ∈ S,x ∈ L0) → Dense near k S → ∀ x ∈ S,x ∈ L) → IsCore near k L0 (corS near k n L)
 | 0,L0,L,hl,hn,hs,ht => by
  have : L = [] := List.eq_nil_of_length_eq_zero (by omega)
  subst this
  exact ⟨hn,hs,fun x hx => (by cases hx),ht⟩
 | n + 1,L0,L,hl,hn,hs,ht => by
  unfold corS
  split
  ·rename_i h
   rw [List.find?_eq_none] at h
   refine ⟨hn,hs,fun x hx => ?_,ht⟩
   have := h x hx
   simpa using this
  ·rename_i x h
   have hx := List.mem_of_find?_eq_some h
   have hd := List.find?_some h
   have hd : (degP near L x : Int) < k := by simpa using hd
   refine corS_core n L0 _ (by rw [List.length_erase_of_mem hx]; have := List.length_pos_of_mem hx; omega) (hn.erase _) (fun y hy => hs y (List.mem_of_mem_erase hy)) fun S h1 h2 h3 => ?_
   exact dense_erase hn h1 (ht S h1 h2 h3) h3 hd
theorem IsCore.same {L C D : List Int} (hC : IsCore near k L C) (hD : IsCore near k L D) (x : Int) : x ∈ C ↔ x ∈ D :=
 ⟨hD.top C hC.nodup hC.sub hC.dense x,hC.top D hD.nodup hD.sub hD.dense x⟩
end
section
variable {near : Int → Int → Bool}
end
end Go.Proofs.YtoacpebmhbkmbaaGreatDoor
namespace Go.Proofs.YtoacpebmhbkmbaaGreatDoor
open Go Go.RowKit Go.Shelf
attribute [local go_sem] qUpon lUpon
attribute [local irreducible] wpO wpX wpQL
def idxP (p : Int → Bool) (L : List Int) : Int := match L.findIdx? p with
 | some i => (i : Int)
 | none => -1
theorem idx_at {p : Int → Bool} {L : List Int} {i : Nat} (hi : i < L.length) (hp : p L[i] = true) (hno : ∀ x ∈ L.take i,p x = false) : idxP p L = (i : Int) := by
 unfold idxP
 have h : L.findIdx? p = some i := List.findIdx?_eq_some_iff_getElem.2 ⟨hi,hp,fun j hj => by
  rw [hno L[j] (List.mem_take_iff_getElem.2 ⟨j,by omega,rfl⟩)]; simp⟩
 rw [h]
theorem idx_no {p : Int → Bool} {L : List Int} (hno : ∀ x ∈ L,p x = false) : idxP p L = -1 := by
 unfold idxP
 have h : L.findIdx? p = none := List.findIdx?_eq_none_iff.2 fun x hx => hno x hx
 rw [h]
theorem idx_none {p : Int → Bool} {L : List Int} (h : L.find? p = none) : idxP p L = -1 := idx_no fun x hx => by
 have := List.find?_eq_none.1 h x hx
 simpa using this
theorem idx_some {p : Int → Bool} {L : List Int} {x : Int} (h : L.find? p = some x) : ∃ i, ∃ hi : i < L.length,idxP p L = (i : Int) ∧ L[i] = x := by
 obtain ⟨hp,i,hi,e,hno⟩ := List.find?_eq_some_iff_getElem.1 h
 refine ⟨i,hi,idx_at hi (by rw [e]; exact hp) fun y hy => ?_,e⟩
 obtain ⟨j,hj,rfl⟩ := List.mem_take_iff_getElem.1 hy
 have := hno j (by omega)
 simpa using this
theorem corS_step (near : Int → Int → Bool) (k : Int) (n : Nat) (L : List Int) {x : Int} (h : L.find? (fun x => decide ((degP near L x : Int) < k)) = some x) : corS near k (n + 1) L = corS near k n (L.erase x) := by
 conv => lhs; rw [corS]
 rw [h]
theorem corS_stop (near : Int → Int → Bool) (k : Int) (n : Nat) (L : List Int) (h : L.find? (fun x => decide ((degP near L x : Int) < k)) = none) : corS near k n L = L := by
 cases n with
 | zero => rfl
 | succ n =>
  conv => lhs; rw [corS]
  rw [h]
set_option maxRecDepth 100000 in
set_option maxHeartbeats 16000000 in
theorem idxf_any (p : Int → Bool) (A : Option Addr) (L : List Int) (n c fd : Nat) (fb cb : Array Value) (w : World) (hL : SlAt encI 1 w A L) (hn : n = L.length) (hl : n ≤ 100000) (hen : ∀ args w,(callFunc fd args).run Tryz.prog w = .ok (.enter fd args) w) (hc : ∀ W,Ext w W → ∀ x ∈ L, ∀ args,args = fb ++ (#[.int .i64 x] ++ cb) → Calls Tryz.prog fd args W fun e W' => e = .returned (.bool (p x)) ∧ Ext W W') :
  Calls Tryz.prog 78 #[.slice A n c, .func (.func fd) fb cb] w fun e w' => e = .returned (.int .i64 (idxP p L)) ∧ Ext w w' := by
 have hL' := hide hL
 have hn' := hide hn
 have hl' := hide hl
 have hc' := hide hc
 clear hL hn hl hc
 have hP := hide (Sp.new w)
 refine callsIn_wide.1 (callsIn_of_wp_marks (n := 0) Tryz.func78 rfl trivial (wpIn_wide.2 ?_))
 simp only [Tryz.ntmps78,List.size_toArray,List.length_cons,List.length_nil,Nat.reduceAdd,Nat.reduceSub,Array.replicate_succ,Array.replicate_zero,List.push_toArray,List.append_toArray,List.nil_append,List.cons_append]
 try dsimp only
 repeat ((fail_if_success (with_reducible refine wp_reg (id := 1) ?_)); (first | go_values | go_skip | go_step | go_guarded | go_upon | go_in | go_back | fail))
 with_reducible refine wp_reg (id := 1) ?_
 iterate 3
  refine wpO_want rfl ?_
  go_simp
 refine wpO_done ?_
 try go_frame
 go_wp2_with fail
 obtain ⟨I0_2,hI0_20⟩ : ∃ I : Nat → Act → World → Prop,I = fun fi a' wr => ∃ (i : Nat),a'.tmps.size = 19 ∧ a'.tmps.getD 0 undef = .slice A n c ∧ a'.tmps.getD 1 undef = .func (.func fd) fb cb ∧ a'.tmps.getD 7 undef = .int .i64 (n : Nat) ∧ a'.tmps.getD 8 undef = .int .i64 (i : Nat) ∧ a'.defers = [] ∧ i ≤ n ∧ (∀ x ∈ L.take i,p x = false) ∧ Sp w [] w [] [] [] wr ∧ fi = n - i := ⟨_,rfl⟩
 have hI0_2 := hide hI0_20
 clear hI0_20
 refine wp_loop_ix I0_2 (n - 0) ?_ ?_
 ·rw [unhide hI0_2]; exact ⟨0,rfl,rfl,rfl,rfl,rfl,rfl,Nat.zero_le _,by simp,unhide hP,rfl⟩
 ·rintro fi ⟨tm,dfs⟩ wr hrel
  rw [unhide hI0_2] at hrel
  obtain ⟨i,hsz,e0,e1,e7,e8,hdf,hin,hno,hPr,hfm⟩ := hrel
  obtain ⟨us,rfl⟩ : ∃ us : Nat → Value,tm = #[us 0,us 1,us 2,us 3,us 4,us 5,us 6,us 7,us 8,us 9,us 10,us 11,us 12,us 13,us 14,us 15,us 16,us 17,us 18] := ⟨fun i => tm.getD i undef,arr_fn hsz⟩
  have h0 : us 0 = .slice A n c := e0
  have h1 : us 1 = .func (.func fd) fb cb := e1
  have h7 : us 7 = .int .i64 (n : Nat) := e7
  have h8 : us 8 = .int .i64 (i : Nat) := e8
  have hdf2 : dfs = [] := hdf
  subst hdf2
  clear hdf hsz e0 e1 e7 e8
  simp only [h0,h1,h7,h8]
  clear h0 h1 h7 h8
  clear hP
  have hP := hide hPr
  have hno' := hide hno
  have hfm' := hide hfm
  clear hPr hno hfm
  by_cases hlt : i < n
  ·have hil : (i : Int) < (n : Int) := by omega
   have hk2 := hide hlt
   have hiL : i < L.length := by have := unhide hn'; omega
   have hkb : (i : Int) ≤ 100000 := by have := unhide hl'; omega
   obtain ⟨b0,o0,rfl,_⟩ := sl1_some (unhide hL') (by omega)
   have c0 := slE ((unhide hL').ext (unhide hP).extf) hiL
   have hxL := hide (show L[i] ∈ L from List.getElem_mem _)
   have hnx := hide (show ∀ v,p L[i] = v → v = true → idxP p L = (i : Int) from fun v h1 h2 => idx_at hiL (h1.trans h2) (unhide hno'))
   have hny := hide (show p L[i] = false → ∀ x ∈ L.take (i + 1),p x = false from fun h x hx => by
    rw [List.take_succ_eq_append_getElem hiL,List.mem_append,List.mem_singleton] at hx
    rcases hx with hx | rfl
    ·exact unhide hno' x hx
    ·exact h)
   obtain ⟨x,hx⟩ : ∃ x,x = L[i] := ⟨_,rfl⟩
   rw [← hx] at c0 hxL hnx hny
   clear hlt hx hin hiL hno'
   have hself := Ext.refl wr
   try dsimp only
   repeat ((fail_if_success (with_reducible refine wp_reg (id := 2) ?_)); (first | go_values | go_skip | go_step | go_guarded | go_upon | go_in | go_back | fail))
   with_reducible refine wp_reg (id := 2) ?_
   refine wpO_want rfl ?_
   go_simp
   refine wpO_done ?_
   try go_frame
   try dsimp only
   repeat ((fail_if_success (with_reducible refine wp_reg (id := 3) ?_)); (first | go_values | go_skip | go_step | go_guarded | go_upon | go_in | go_back | fail))
   with_reducible refine wp_reg (id := 3) ?_
   iterate 2
    refine wpO_want rfl ?_
    go_simp
   refine wpO_done ?_
   try go_frame
   try dsimp only
   repeat ((fail_if_success (with_reducible refine wp_reg (id := 4) ?_)); (first | go_values | go_skip | go_step | go_guarded | go_upon | go_in | go_back | fail))
   with_reducible refine wp_reg (id := 4) ?_
   iterate 5
    refine wpO_want rfl ?_
    go_simp
   clear c0 hself
   refine wpO_want rfl ?_
   go_simp
   have hca := unhide hc' _ (unhide hP).extf x (unhide hxL) (fb.push (.int .i64 x) ++ cb) (by apply Array.ext'; simp)
   obtain ⟨pv,hpv⟩ : ∃ pv,p x = pv := ⟨_,rfl⟩
   rw [hpv] at hca
   have hpv' := hide hpv
   clear hpv
   refine (hca).mono ?_
   rintro _ y1 ⟨rfl,hxc⟩
   clear hca
   refine ⟨_,rfl, ?_⟩
   replace hP : Hid (Sp w [] w [] [] [] y1) := hide ((unhide hP).ext hxc)
   clear hxc
   refine wpO_done ?_
   try go_frame
   cases pv with
   | true =>
    try dsimp only
    repeat ((fail_if_success (with_reducible refine wp_reg (id := 5) ?_)); (first | go_values | go_skip | go_step | go_guarded | go_upon | go_in | go_back | fail))
    with_reducible refine wp_reg (id := 5) ?_
    iterate 2
     refine wpO_want rfl ?_
     go_simp
    refine wpO_done ?_
    try go_frame
    go_wp2_with fail
    refine Sp.leaves0 ?_
    exact ⟨_,results_tmp (t := 4) rfl _ _ _,by rw [unhide hnx true (unhide hpv') rfl]; rfl,(unhide hP).extf⟩
   | false =>
    have hw1 : IntKind.i64.wrap ((i : Int) + 1) = (i : Int) + 1 := IntWalk.i64_in _ (by omega)
    go_wp2_with fail
    have h1 := unhide hk2
    refine ⟨n - (i + 1), ?_,by have := unhide hfm'; omega⟩
    rw [unhide hI0_2]
    exact ⟨i + 1,(by first | rfl | trivial),(by first | rfl | trivial),(by first | rfl | trivial),(by first | rfl | trivial),(by first | rfl | (show _ = Value.int _ _; go_num) | go_num),(by first | rfl | trivial),by omega,unhide hny (unhide hpv'),unhide hP,rfl⟩
  ·have hil : ¬ (i : Int) < (n : Int) := by omega
   have hno2 := hide (show ∀ x ∈ L,p x = false by have h := unhide hno'; rwa [List.take_of_length_le (by have := unhide hn'; omega)] at h)
   clear hlt hin
   try dsimp only
   repeat ((fail_if_success (with_reducible refine wp_reg (id := 2) ?_)); (first | go_values | go_skip | go_step | go_guarded | go_upon | go_in | go_back | fail))
   with_reducible refine wp_reg (id := 2) ?_
   refine wpO_want rfl ?_
   go_simp
   refine wpO_done ?_
   try go_frame
   go_wp2_with fail
   refine Sp.leaves0 ?_
   exact ⟨_,results_tmp (t := 4) rfl _ _ _,by rw [idx_no (unhide hno2)]; rfl,(unhide hP).extf⟩
set_option maxRecDepth 100000 in
set_option maxHeartbeats 16000000 in
theorem kcore1_any (k : Int) (b5 b3 mb : Nat) (m : List (Int × Nat)) (L : List Int) (near : Int → Int → Bool) (x : Int) (w : World) (h5 : Blk w b5 98 #[.map (some mb)]) (h3 : Blk w b3 3 #[.int .i64 k]) (hM : MapIs ekV evS i64ok w mb m) (hR : Rep m L near) (hx : x ∈ L) :
  Calls Tryz.prog 79 #[.int .i64 x, .pointer (some ⟨b5,0,none⟩), .pointer (some ⟨b3,0,none⟩)] w fun e w' => e = .returned (.bool (decide ((degP near L x : Int) < k))) ∧ Ext w w' := by
 have hM' := hide hM
 have hxo := hide (hR.okx hx)
 obtain ⟨dg,hdg⟩ : ∃ dg,dg = degP near L x := ⟨_,rfl⟩
 have hyd := hide (show cntF (nrM m x) 1024 = dg by rw [hdg]; exact hR.deg hx)
 rw [← hdg]
 obtain ⟨pb,hpb⟩ : ∃ pb,pb = decide ((dg : Int) < k) := ⟨_,rfl⟩
 rw [← hpb]
 have q5 := Blk.cellsK h5 (S := []) (by simp) 0 (v := .map (some mb)) rfl
 have q3 := Blk.cellsK h3 (S := []) (by simp) 0 (v := .int .i64 k) rfl
 have hself := Keep.refl [] w
 have hpb2 := hpb.symm
 clear h5 h3 hM hR hx hdg hpb
 have hP := hide (Sp.new w)
 refine callsIn_wide.1 (callsIn_of_wp_marks (n := 0) Tryz.func79 rfl trivial (wpIn_wide.2 ?_))
 simp only [Tryz.ntmps79,List.size_toArray,List.length_cons,List.length_nil,Nat.reduceAdd,Nat.reduceSub,Array.replicate_succ,Array.replicate_zero,List.push_toArray,List.append_toArray,List.nil_append,List.cons_append]
 go_wp2_with fail
 refine wp_regionK (P := Tryz.prog) [] [0,1,2,3,4,5] [] 0 #[true,true,true,true,true,true] (by kernel_rfl) (by kernel_rfl) rfl (by rfl) ?_
 iterate 2
  refine ql_want (v := ?_) rfl (by rfl) (fun W hW => ?_) ?_
  rotate_left
  ·go_simp
   first | done | rfl
  go_frame
 refine ql_want (v := .int .i64 (dg : Nat)) rfl (by rfl) (fun W hW => ?_) ?_
 ·go_simp
  refine (degree_any mb m x W ((unhide hM').ext hW.ext) (unhide hxo)).mono ?_
  rw [← unhide hyd]
  rintro _ _ ⟨h1,h2⟩
  exact ⟨_,h1,rfl,h2⟩
 go_frame
 iterate 1
  refine ql_want (v := ?_) rfl (by rfl) (fun W hW => ?_) ?_
  rotate_left
  ·go_simp
   first | done | rfl
  go_frame
 refine ql_want (v := .bool pb) rfl (by rfl) (fun W hW => ?_) ?_
 ·go_simp
  first | done | rfl | (rw [hpb2]) | simp [hpb2]
 go_frame
 iterate 1
  refine ql_want (v := ?_) rfl (by rfl) (fun W hW => ?_) ?_
  rotate_left
  ·go_simp
   first | done | rfl
  go_frame
 refine wpQL_nil (fun y1 hxq => ?_)
 replace hP : Hid (Sp w [] w [] [] [] y1) := hide ((unhide hP).ext hxq)
 clear hxq
 refine wpX_done (by kernel_rfl) ?_
 try go_frame
 clear q5 q3 hself
 go_wp2_with fail
 refine Sp.leaves0 ?_
 exact ⟨_,results_tmp (t := 4) rfl _ _ _,rfl,(unhide hP).extf⟩
set_option maxRecDepth 100000 in
set_option maxHeartbeats 16000000 in
theorem kcore_any (og : Option Addr) (V : List (Int × Thing)) (E : List ((Int × Int) × Thing)) (k : Int) (w : World) (hg : GL w og V E) (hi : GInv V E) (hT : Tab w) :
  Calls Tryz.prog 33 #[.pointer og, .int .i64 k] w (OwL w (corS (nr0 E) k (toL (vS V)).length (toL (vS V)))) := by
 have hg' := hide hg
 have hT' := hide hT
 have hR0 := rep_of hi
 obtain ⟨L0,hL0⟩ : ∃ L0,L0 = toL (vS V) := ⟨_,rfl⟩
 obtain ⟨near,hnear⟩ : ∃ near,near = nr0 E := ⟨_,rfl⟩
 obtain ⟨M0,hM0⟩ : ∃ M0,M0 = m0 E L0 := ⟨_,rfl⟩
 rw [← hL0, ← hnear, ← hM0] at hR0
 rw [← hL0, ← hnear]
 have hMe := hide (show m0 E (toL (vS V)) = M0 by rw [hM0,hL0])
 have hR0' := hide hR0
 clear hg hT hi hL0 hnear hM0 hR0
 obtain ⟨D,hD⟩ : ∃ D,D = corS near k L0.length L0 := ⟨_,rfl⟩
 rw [← hD]
 have hD' := hide hD
 clear hD
 have hP := hide (Sp.new w)
 refine callsIn_wide.1 (callsIn_of_wp_marks (n := 0) Tryz.func33 rfl trivial (wpIn_wide.2 ?_))
 simp only [Tryz.ntmps33,List.size_toArray,List.length_cons,List.length_nil,Nat.reduceAdd,Nat.reduceSub,Array.replicate_succ,Array.replicate_zero,List.push_toArray,List.append_toArray,List.nil_append,List.cons_append]
 try dsimp only
 repeat ((fail_if_success (with_reducible refine wp_reg (id := 0) ?_)); (first | go_values | go_skip | go_step | go_guarded | go_upon | go_in | go_back | fail))
 with_reducible refine wp_reg (id := 0) ?_
 refine (unhide hP).allocO 3 #[.int .i64 k] rfl (run_box (v := .int .i64 k) rfl rfl) ?_
 intro b3 y1 hQ
 replace hP : Hid (Sp w [] w [] [(b3,3, #[.int .i64 k])] [] y1) := hide hQ
 clear hQ
 refine wpO_want rfl ?_
 go_simp
 refine wpO_done ?_
 try go_frame
 try dsimp only
 repeat ((fail_if_success (with_reducible refine wp_reg (id := 1) ?_)); (first | go_values | go_skip | go_step | go_guarded | go_upon | go_in | go_back | fail))
 with_reducible refine wp_reg (id := 1) ?_
 refine wpO_want rfl ?_
 go_simp
 refine wpO_want rfl ?_
 go_simp
 have hca := of_adj og V E y1 ((unhide hg').ext (unhide hP).extf) ((unhide hT').ext (unhide hP).extf)
 rw [unhide hMe] at hca
 have htl := ((unhide hT').ext (unhide hP).extf).lt
 refine hca.mono ?_
 clear hca
 rintro _ y2 ⟨mb,rfl,hge,hm,hxc⟩
 have htb := hide (show 0 < mb from Nat.lt_of_lt_of_le htl hge)
 refine ⟨_,rfl, ?_⟩
 replace hP : Hid (Sp w [] w [] [(b3,3, #[.int .i64 k])] [(98,0, .map (some mb),0,mapXs ekV evS M0)] y2) := hide ((unhide hP).addMap hxc hge hm.raw 98 0)
 clear htl hge hm hxc
 refine (unhide hP).allocO 98 #[.map none] rfl (by go_simp) ?_
 intro b5 y3 hQ
 replace hP : Hid (Sp w [] w [] [(b3,3, #[.int .i64 k]),(b5,98, #[.map none])] [(98,0, .map (some mb),0,mapXs ekV evS M0)] y3) := hide hQ
 clear hQ
 refine (unhide hP).setO 1 #[.map (some mb)] rfl rfl (fun hb => run_store_row (v := .map (some mb)) rfl rfl rfl (by simp [go_sem]) hb rfl (by simp [Value.cells,Value.oneCell'])) ?_
 intro y4 hQ
 replace hP : Hid (Sp w [] w [] [(b3,3, #[.int .i64 k]),(b5,98, #[.map (some mb)])] [(98,0, .map (some mb),0,mapXs ekV evS M0)] y4) := hide hQ
 clear hQ
 refine wpO_done ?_
 try go_frame
 go_wp2_with fail
 obtain ⟨I4_2,hI4_20⟩ : ∃ I : Nat → Act → World → Prop,I = fun fi a' wr => ∃ (m : List (Int × Nat)), ∃ (L : List Int),a'.tmps.size = 24 ∧ a'.tmps.getD 3 undef = .pointer (some ⟨b3,0,none⟩) ∧ a'.tmps.getD 5 undef = .pointer (some ⟨b5,0,none⟩) ∧ a'.defers = [] ∧ Rep m L near ∧ D = corS near k fi L ∧ L.length = fi ∧ Sp w [] w [] [(b3,3, #[.int .i64 k]),(b5,98, #[.map (some mb)])] [(98,0, .map (some mb),0,mapXs ekV evS m)] wr := ⟨_,rfl⟩
 have hI4_2 := hide hI4_20
 clear hI4_20
 refine wp_loop_ix I4_2 (L0.length) ?_ ?_
 ·rw [unhide hI4_2]; exact ⟨M0,L0,rfl,rfl,rfl,rfl,unhide hR0',unhide hD',rfl,unhide hP⟩
 ·rintro fi ⟨tm,dfs⟩ wr hrel
  rw [unhide hI4_2] at hrel
  obtain ⟨m,L,hsz,e3,e5,hdf,hRr,hDp,hLf,hPr⟩ := hrel
  obtain ⟨us,rfl⟩ : ∃ us : Nat → Value,tm = #[us 0,us 1,us 2,us 3,us 4,us 5,us 6,us 7,us 8,us 9,us 10,us 11,us 12,us 13,us 14,us 15,us 16,us 17,us 18,us 19,us 20,us 21,us 22,us 23] := ⟨fun i => tm.getD i undef,arr_fn hsz⟩
  have h3 : us 3 = .pointer (some ⟨b3,0,none⟩) := e3
  have h5 : us 5 = .pointer (some ⟨b5,0,none⟩) := e5
  have hdf2 : dfs = [] := hdf
  subst hdf2
  clear hdf hsz e3 e5
  simp only [h3,h5]
  clear h3 h5
  clear hP hR0' hD'
  have hP := hide hPr
  have hR := hide hRr
  have hDp' := hide hDp
  have hLf' := hide hLf
  obtain ⟨nL,hnL0⟩ : ∃ nL,nL = L.length := ⟨_,rfl⟩
  have hnL := hide hnL0.symm
  have hlb := hide (show nL ≤ 1024 by have := hRr.le; omega)
  obtain ⟨p,hp⟩ : ∃ p : Int → Bool,p = fun x => decide ((degP near L x : Int) < k) := ⟨_,rfl⟩
  have hp' := hide hp
  obtain ⟨at_,hat⟩ : ∃ i,i = idxP p L := ⟨_,rfl⟩
  have hat' := hide hat
  clear hPr hRr hDp hLf hnL0 hp hat
  try dsimp only
  repeat ((fail_if_success (with_reducible refine wp_reg (id := 2) ?_)); (first | go_values | go_skip | go_step | go_guarded | go_upon | go_in | go_back | fail))
  with_reducible refine wp_reg (id := 2) ?_
  refine wpO_val rfl (load_V (v := .map (some mb)) rfl rfl (by simp [go_sem]) (((unhide hP).get 1 rfl).cell 0)) ?_
  go_frame
  refine wpO_want rfl ?_
  go_simp
  have hca := left_any mb m L wr ((unhide hP).map 0 rfl (unhide hR).ok) (unhide hR).keys (unhide hR).sorted (by have := (unhide hR).le; omega)
  refine hca.mono ?_
  clear hca
  rintro _ y5 ⟨AL,cL,rfl,ho,hxc⟩
  rw [unhide hnL] at ho
  rw [unhide hnL]
  refine ⟨_,rfl, ?_⟩
  replace hP : Hid (Sp w [] w [] [(b3,3, #[.int .i64 k]),(b5,98, #[.map (some mb)])] [(98,0, .map (some mb),0,mapXs ekV evS m),(3,1, .slice AL nL cL,nL,L.flatMap encI)] y5) := hide ((unhide hP).addRow hxc ho)
  clear ho hxc
  refine wpO_want rfl ?_
  go_simp
  refine wpO_done ?_
  try go_frame
  try dsimp only
  repeat ((fail_if_success (with_reducible refine wp_reg (id := 3) ?_)); (first | go_values | go_skip | go_step | go_guarded | go_upon | go_in | go_back | fail))
  with_reducible refine wp_reg (id := 3) ?_
  iterate 2
   refine wpO_want rfl ?_
   go_simp
  refine wpO_want rfl ?_
  go_simp
  have hls := hide (show SlAt encI 1 y5 AL L from own_at (enc := encI) (by have h := (unhide hP).row 1 rfl; rw [← unhide hnL] at h; exact h) (fun _ => rfl))
  have hca := idxf_any p AL L nL cL 79 #[] #[.pointer (some ⟨b5,0,none⟩), .pointer (some ⟨b3,0,none⟩)] y5 (unhide hls) (unhide hnL).symm (by have := unhide hlb; omega) (Go.Proofs.enters_of Tryz.func79 (by kernel_rfl) rfl) (fun W hW x hx args ha => by
   rw [ha,unhide hp']
   exact kcore1_any k b5 b3 mb m L near x W (((unhide hP).get 1 rfl).ext hW) (((unhide hP).get 0 rfl).ext hW) (((unhide hP).map 0 rfl (unhide hR).ok).ext hW) (unhide hR) hx)
  rw [← unhide hat'] at hca
  refine (hca).mono ?_
  rintro _ y6 ⟨rfl,hxc⟩
  clear hca hls
  refine ⟨_,rfl, ?_⟩
  replace hP : Hid (Sp w [] w [] [(b3,3, #[.int .i64 k]),(b5,98, #[.map (some mb)])] [(98,0, .map (some mb),0,mapXs ekV evS m),(3,1, .slice AL nL cL,nL,L.flatMap encI)] y6) := hide ((unhide hP).ext hxc)
  clear hxc
  refine wpO_want rfl ?_
  go_simp
  refine wpO_done ?_
  try go_frame
  cases hfd : L.find? p with
  | none =>
   obtain rfl : at_ = -1 := by rw [unhide hat']; exact idx_none hfd
   have hDe := hide (show D = L by rw [unhide hDp']; exact corS_stop near k fi L (by rw [← unhide hp']; exact hfd))
   replace hfd := hide hfd
   have hil : (-1 : Int) < 0 := by decide
   try dsimp only
   repeat ((fail_if_success (with_reducible refine wp_reg (id := 4) ?_)); (first | go_values | go_skip | go_step | go_guarded | go_upon | go_in | go_back | fail))
   with_reducible refine wp_reg (id := 4) ?_
   iterate 2
    refine wpO_want rfl ?_
    go_simp
   refine wpO_done ?_
   try go_frame
   try dsimp only
   repeat ((fail_if_success (with_reducible refine wp_reg (id := 5) ?_)); (first | go_values | go_skip | go_step | go_guarded | go_upon | go_in | go_back | fail))
   with_reducible refine wp_reg (id := 5) ?_
   iterate 2
    refine wpO_want rfl ?_
    go_simp
   refine wpO_done ?_
   try go_frame
   clear hil
   go_wp2_with fail
   refine Sp.leaves0 ?_
   exact ⟨_,results_tmp (t := 4) rfl _ _ _,OwL.mk (by rw [unhide hDe]; exact (unhide hnL).symm) (by rw [unhide hDe]; exact (unhide hP).row 1 rfl) (unhide hP).extf⟩
  | some y =>
   obtain ⟨i,hi,hia,hiy⟩ := idx_some hfd
   have hyL := hide (show y ∈ L from List.mem_of_find?_eq_some hfd)
   obtain ⟨f',hf0⟩ : ∃ f',fi = f' + 1 := ⟨fi - 1,by have := unhide hLf'; omega⟩
   have hDe := hide (show D = corS near k f' (L.erase y) by rw [unhide hDp',hf0]; exact corS_step near k f' L (by rw [← unhide hp']; exact hfd))
   obtain rfl : at_ = (i : Int) := by rw [unhide hat']; exact hia
   have hR2 := hide ((unhide hR).away (unhide hyL))
   have hil : ¬ (i : Int) < 0 := by omega
   have hi2 : (i : Int) < (nL : Int) := by have := unhide hnL; omega
   obtain ⟨bL,oL,rfl,hbL⟩ := sl1_some (own_at (enc := encI) (A := AL) (c := cL) (xs := L) (by have h := (unhide hP).row 1 rfl; rw [← unhide hnL] at h; exact h) (fun _ => rfl)) (by omega)
   have c0 := slE (own_at (enc := encI) (A := some ⟨bL,oL,none⟩) (c := cL) (xs := L) (by have h := (unhide hP).row 1 rfl; rw [← unhide hnL] at h; exact h) (fun _ => rfl)) hi
   rw [hiy] at c0
   replace c0 := hide c0
   have hf' := hide hf0
   have hi2' := hide hi2
   clear hfd hia hiy hf0 hi hbL
   try dsimp only
   repeat ((fail_if_success (with_reducible refine wp_reg (id := 4) ?_)); (first | go_values | go_skip | go_step | go_guarded | go_upon | go_in | go_back | fail))
   with_reducible refine wp_reg (id := 4) ?_
   iterate 2
    refine wpO_want rfl ?_
    go_simp
   refine wpO_done ?_
   try go_frame
   clear hil
   go_wp2_with fail
   have q0 := fun (W' : World) (hW : Keep [] y6 W') => unhide c0 W' hW.ext
   have hself := Keep.refl [] y6
   refine wp_regionK (P := Tryz.prog) [] [0,1,2,3,4] [5] 1 #[true,true,true,true,true,false] (by kernel_rfl) (by kernel_rfl) rfl (by rfl) ?_
   refine ql_want (v := .map (some mb)) rfl (by rfl) (fun W hW => qUpon_ofX (load_V rfl rfl (by simp [go_sem]) ((unhide hP).cellK 1 0 rfl rfl (by simp) W hW))) ?_
   go_frame
   iterate 4
    refine ql_want (v := ?_) rfl (by rfl) (fun W hW => ?_) ?_
    rotate_left
    ·go_simp
     first | done | rfl
    go_frame
   refine wpQL_nil (fun y7 hxq => ?_)
   replace hP : Hid (Sp w [] w [] [(b3,3, #[.int .i64 k]),(b5,98, #[.map (some mb)])] [(98,0, .map (some mb),0,mapXs ekV evS m),(3,1, .slice (some ⟨bL,oL,none⟩) nL cL,nL,L.flatMap encI)] y7) := hide ((unhide hP).ext hxq)
   clear hxq
   clear q0 hself
   refine lx_one (i := 5) (by kernel_rfl) rfl (by rfl) #[true,true,true,true,true,true] (by rfl) ?_
   go_simp
   refine (away_any mb m y y7 ((unhide hP).map 0 rfl (unhide hR).ok) ((unhide hR).okx (unhide hyL)) ((unhide hT').ext (unhide hP).extf) (unhide htb)).mono ?_
   rintro _ zy8 ⟨⟨_,rfl⟩,hm,hk⟩
   refine ⟨_,rfl,fun y8 hxd => ?_⟩
   replace hP : Hid (Sp w [] w [] [(b3,3, #[.int .i64 k]),(b5,98, #[.map (some mb)])] [(98,0, .map (some mb),0,mapXs ekV evS (awayM m y)),(3,1, .slice (some ⟨bL,oL,none⟩) nL cL,nL,L.flatMap encI)] y8) := hide (((unhide hP).mapSet 0 rfl hm.raw hk).ext hxd)
   clear hm hk hxd
   try go_frame
   refine wpX_done (by kernel_rfl) ?_
   try go_frame
   replace hP : Hid (Sp w [] w [] [(b3,3, #[.int .i64 k]),(b5,98, #[.map (some mb)])] [(98,0, .map (some mb),0,mapXs ekV evS (awayM m y))] y8) := hide ((unhide hP).sub (List.Sublist.refl _) (List.sublist_append_left ([(98,0, .map (some mb),0,mapXs ekV evS (awayM m y))] : List Rw) _))
   clear hi2
   go_wp2_with fail
   refine ⟨f', ?_,by have := unhide hf'; omega⟩
   rw [unhide hI4_2]
   exact ⟨awayM m y,L.erase y,(by first | rfl | trivial),(by first | rfl | trivial),(by first | rfl | trivial),(by first | rfl | trivial),unhide hR2,unhide hDe,by rw [List.length_erase_of_mem (unhide hyL)]; have := unhide hLf'; have := unhide hf'; omega,unhide hP⟩
end Go.Proofs.YtoacpebmhbkmbaaGreatDoor
namespace Go.Proofs.YtoacpebmhbkmbaaGreatDoor
open Go Go.RowKit Go.Shelf
attribute [local go_sem] qUpon lUpon
attribute [local irreducible] wpO wpX wpQL
theorem degS_len (near : Int → Int → Bool) : ∀ (n : Nat) (L : List Int),L.length ≤ n → (degS near n L).length = L.length
 | 0,L,h => by
  have : L = [] := List.eq_nil_of_length_eq_zero (by omega)
  subst this; rfl
 | _ + 1,[],_ => rfl
 | n + 1,a :: l,h => by
  unfold degS
  simp only
  have hm := leastP_mem (degP near (a :: l)) (L := a :: l) (by simp)
  generalize leastP (degP near (a :: l)) (a :: l) = x at hm ⊢
  rw [List.length_cons,degS_len near n _ (by rw [List.length_erase_of_mem hm]; simp at h ⊢; omega),List.length_erase_of_mem hm]
  simp
section
variable {P : Program} {l : List Oper} {C : World → Prop} {safe : Nat → Bool} {Q : Act → World → Prop} {n j : Nat} {listed : Array Bool} {a : Act} {o : Oper} {wf w W : World} {T0 : List Nat} {ds : List Deferred} {L : List Cl} {Rs : List Rw}
end
end Go.Proofs.YtoacpebmhbkmbaaGreatDoor
namespace Go.Proofs.YtoacpebmhbkmbaaGreatDoor
open Go Go.RowKit Go.Shelf
attribute [local go_sem] qUpon lUpon
attribute [local irreducible] wpO wpX wpQL
def lstB (th : List Bool) (nb : List (List Bool)) (n : Nat) : Nat → Int
 | 0 => -1
 | i + 1 => if (th.getD i false && (decide (lstB th nb n i < 0) || decide (degB th nb n i < degB th nb n (lstB th nb n i).toNat))) = true then (i : Int) else lstB th nb n i
theorem lstB_bd (th : List Bool) (nb : List (List Bool)) (n : Nat) : ∀ i : Nat, -1 ≤ lstB th nb n i ∧ lstB th nb n i < (i : Int)
 | 0 => by unfold lstB; omega
 | i + 1 => by
  have h := lstB_bd th nb n i
  unfold lstB
  split <;> omega
theorem lstB_yes {th : List Bool} {nb : List (List Bool)} {n i : Nat} (h : (th.getD i false && (decide (lstB th nb n i < 0) || decide (degB th nb n i < degB th nb n (lstB th nb n i).toNat))) = true) : lstB th nb n (i + 1) = (i : Int) := by
 conv => lhs; rw [lstB]
 rw [if_pos h]
theorem lstB_no {th : List Bool} {nb : List (List Bool)} {n i : Nat} (h : (th.getD i false && (decide (lstB th nb n i < 0) || decide (degB th nb n i < degB th nb n (lstB th nb n i).toNat))) = false) : lstB th nb n (i + 1) = lstB th nb n i := by
 conv => lhs; rw [lstB]
 rw [if_neg (by rw [h]; simp)]
set_option maxRecDepth 100000 in
set_option maxHeartbeats 16000000 in
theorem least22_any (Ai At An : Option Addr) (n ci ct cn : Nat) (ids : List Int) (th : List Bool) (nb : List (List Bool)) (hs : List Sl) (w : World) (hp : PAt w Ai At An n ids th nb hs) :
  Calls Tryz.prog 62 #[.agg #[.slice Ai n ci, .slice At n ct, .slice An n cn]] w fun e w' => e = .returned (.int .i64 (lstB th nb n n)) ∧ Ext w w' := by
 have hp' := hide hp
 have hnb := hide hp.le
 clear hp
 have hP := hide (Sp.new w)
 refine callsIn_wide.1 (callsIn_of_wp_marks (n := 0) Tryz.func62 rfl trivial (wpIn_wide.2 ?_))
 simp only [Tryz.ntmps62,List.size_toArray,List.length_cons,List.length_nil,Nat.reduceAdd,Nat.reduceSub,Array.replicate_succ,Array.replicate_zero,List.push_toArray,List.append_toArray,List.nil_append,List.cons_append]
 try dsimp only
 repeat ((fail_if_success (with_reducible refine wp_reg (id := 0) ?_)); (first | go_values | go_skip | go_step | go_guarded | go_upon | go_in | go_back | fail))
 with_reducible refine wp_reg (id := 0) ?_
 refine (unhide hP).allocO 109 #[.slice Ai n ci, .slice At n ct, .slice An n cn] rfl (run_box (v := .agg #[.slice Ai n ci, .slice At n ct, .slice An n cn]) rfl rfl) ?_
 intro r1 y1 hQ
 replace hP : Hid (Sp w [] w [] [(r1,109, #[.slice Ai n ci, .slice At n ct, .slice An n cn])] [] y1) := hide hQ
 clear hQ
 refine wpO_want rfl ?_
 go_simp
 refine wpO_done ?_
 try go_frame
 go_wp2_with fail
 obtain ⟨I1_2,hI1_20⟩ : ∃ I : Nat → Act → World → Prop,I = fun fi a' wr => ∃ (k : Nat), ∃ (z : Int),a'.tmps.size = 32 ∧ a'.tmps.getD 1 undef = .pointer (some ⟨r1,0,none⟩) ∧ a'.tmps.getD 3 undef = .int .i64 z ∧ a'.tmps.getD 4 undef = .int .i64 (k : Nat) ∧ a'.defers = [] ∧ k ≤ n ∧ z = lstB th nb n k ∧ Sp w [] w [] [(r1,109, #[.slice Ai n ci, .slice At n ct, .slice An n cn])] [] wr ∧ fi = n - k := ⟨_,rfl⟩
 have hI1_2 := hide hI1_20
 clear hI1_20
 refine wp_loop_ix I1_2 (n - 0) ?_ ?_
 ·rw [unhide hI1_2]; exact ⟨0, -1,rfl,rfl,rfl,rfl,rfl,Nat.zero_le _,rfl,unhide hP,rfl⟩
 ·rintro fi ⟨tm,dfs⟩ wr hrel
  rw [unhide hI1_2] at hrel
  obtain ⟨k,z,hsz,e1,e3,e4,hdf,hkn,hz,hPr,hfm⟩ := hrel
  obtain ⟨us,rfl⟩ : ∃ us : Nat → Value,tm = #[us 0,us 1,us 2,us 3,us 4,us 5,us 6,us 7,us 8,us 9,us 10,us 11,us 12,us 13,us 14,us 15,us 16,us 17,us 18,us 19,us 20,us 21,us 22,us 23,us 24,us 25,us 26,us 27,us 28,us 29,us 30,us 31] := ⟨fun i => tm.getD i undef,arr_fn hsz⟩
  have h1 : us 1 = .pointer (some ⟨r1,0,none⟩) := e1
  have h3 : us 3 = .int .i64 z := e3
  have h4 : us 4 = .int .i64 (k : Nat) := e4
  have hdf2 : dfs = [] := hdf
  subst hdf2
  clear hdf hsz e1 e3 e4
  simp only [h1,h3,h4]
  clear h1 h3 h4
  clear hP
  have hP := hide hPr
  have hfm' := hide hfm
  have hz' := hide hz
  have hzb := hide (show -1 ≤ z ∧ z < (k : Int) by rw [hz]; exact lstB_bd th nb n k)
  clear hPr hfm hz
  by_cases hlt : k < n
  ·have hil : (k : Int) < (n : Int) := by omega
   have hk2 := hide hlt
   have hkb : (k : Int) ≤ 4096 := by have := unhide hnb; omega
   obtain ⟨x,hx⟩ : ∃ x,x = th.getD k false := ⟨_,rfl⟩
   obtain ⟨bt,ot,hAt,c0⟩ := ((unhide hp').ext (unhide hP).extf).thc hlt
   subst hAt
   rw [← hx] at c0
   have hx' := hide hx
   have c0' := hide c0
   clear hlt hkn hx c0
   have q0 := (unhide hP).cell 0 0 (v := .slice Ai n ci) rfl rfl
   have hself := Ext.refl wr
   try dsimp only
   repeat ((fail_if_success (with_reducible refine wp_reg (id := 3) ?_)); (first | go_values | go_skip | go_step | go_guarded | go_upon | go_in | go_back | fail))
   with_reducible refine wp_reg (id := 3) ?_
   iterate 5
    refine wpO_want rfl ?_
    go_simp
   refine wpO_done ?_
   try go_frame
   clear q0 hself
   go_wp2_with fail
   have c0 := fun (W : World) (hW : Keep [] wr W) => unhide c0' W ((Ext.refl wr).of_new hW (by simp))
   have q1 := (unhide hP).cellK (S := []) 0 1 (v := .slice (some ⟨bt,ot,none⟩) n ct) rfl rfl (by simp)
   have hself := Keep.refl [] wr
   cases x
   ·skip
    have hc := hide (show (false && (decide (z < 0) || decide (degB th nb n k < degB th nb n z.toNat))) = false from rfl)
    refine wp_regionK (P := Tryz.prog) [] [0,1,2,3,4,5,6,7,8,9,10,11,12,13,14,15,16,17] [] 0 #[true,true,true,true,true,true,true,true,true,true,true,true,true,true,true,true,true,true] (by kernel_rfl) (by kernel_rfl) rfl (by rfl) ?_
    iterate 6
     refine ql_want (v := ?_) rfl (by rfl) (fun W hW => ?_) ?_
     rotate_left
     ·go_simp
      first | done | rfl
     go_frame
    iterate 11
     first
     | (refine ql_skip rfl (by rfl) ?_)
     | (refine ql_want (v := ?_) rfl (by rfl) (fun W hW => ?_) ?_; rotate_left; (go_simp; (first | done | rfl)))
     try go_frame
    iterate 1
     refine ql_want (v := ?_) rfl (by rfl) (fun W hW => ?_) ?_
     rotate_left
     ·go_simp
      first | done | rfl
     go_frame
    refine wpQL_nil (fun y2 hxq => ?_)
    replace hP : Hid (Sp w [] w [] [(r1,109, #[.slice Ai n ci, .slice (some ⟨bt,ot,none⟩) n ct, .slice An n cn])] [] y2) := hide ((unhide hP).ext hxq)
    clear hxq
    refine wpX_done (by kernel_rfl) ?_
    try go_frame
    clear q1 c0 hself
    have hw1 : IntKind.i64.wrap ((k : Int) + 1) = (k : Int) + 1 := IntWalk.i64_in _ (by omega)
    have hzn := hide (show z = lstB th nb n (k + 1) by rw [lstB_no (by rw [← unhide hx', ← unhide hz']; exact unhide hc)]; exact unhide hz')
    go_wp2_with fail
    have h3 := unhide hk2
    refine ⟨n - (k + 1), ?_,by have := unhide hfm'; omega⟩
    rw [unhide hI1_2]
    exact ⟨k + 1,z,(by first | rfl | trivial),(by first | rfl | trivial),(by first | rfl | trivial),(by first | rfl | (show _ = Value.int _ _; go_num) | go_num),(by first | rfl | trivial),by omega,unhide hzn,unhide hP,rfl⟩
   ·skip
    by_cases hz0 : z < 0
    ·skip
     have hc := hide (show (true && (decide (z < 0) || decide (degB th nb n k < degB th nb n z.toNat))) = true by simp [hz0])
     refine wp_regionK (P := Tryz.prog) [] [0,1,2,3,4,5,6,7,8,9,10,11,12,13,14,15,16,17] [] 0 #[true,true,true,true,true,true,true,true,true,true,true,true,true,true,true,true,true,true] (by kernel_rfl) (by kernel_rfl) rfl (by rfl) ?_
     iterate 9
      refine ql_want (v := ?_) rfl (by rfl) (fun W hW => ?_) ?_
      rotate_left
      ·go_simp
       first | done | rfl
      go_frame
     iterate 7
      first
      | (refine ql_skip rfl (by rfl) ?_)
      | (refine ql_want (v := ?_) rfl (by rfl) (fun W hW => ?_) ?_; rotate_left; (go_simp; (first | done | rfl)))
      try go_frame
     iterate 2
      refine ql_want (v := ?_) rfl (by rfl) (fun W hW => ?_) ?_
      rotate_left
      ·go_simp
       first | done | rfl
      go_frame
     refine wpQL_nil (fun y2 hxq => ?_)
     replace hP : Hid (Sp w [] w [] [(r1,109, #[.slice Ai n ci, .slice (some ⟨bt,ot,none⟩) n ct, .slice An n cn])] [] y2) := hide ((unhide hP).ext hxq)
     clear hxq
     refine wpX_done (by kernel_rfl) ?_
     try go_frame
     clear hz0
     clear q1 c0 hself
     have hw1 : IntKind.i64.wrap ((k : Int) + 1) = (k : Int) + 1 := IntWalk.i64_in _ (by omega)
     have hzn := hide (show (k : Int) = lstB th nb n (k + 1) by rw [lstB_yes (by rw [← unhide hx', ← unhide hz']; exact unhide hc)])
     go_wp2_with fail
     have h3 := unhide hk2
     refine ⟨n - (k + 1), ?_,by have := unhide hfm'; omega⟩
     rw [unhide hI1_2]
     exact ⟨k + 1,(k : Int),(by first | rfl | trivial),(by first | rfl | trivial),(by first | rfl | trivial),(by first | rfl | (show _ = Value.int _ _; go_num) | go_num),(by first | rfl | trivial),by omega,unhide hzn,unhide hP,rfl⟩
    ·skip
     obtain ⟨m,hm⟩ : ∃ m : Nat,(m : Int) = z := ⟨z.toNat,by omega⟩
     have hmn := hide (show m < n by have := (unhide hzb).2; have := unhide hk2; omega)
     subst hm
     obtain ⟨dk,hdk⟩ : ∃ dk,dk = degB th nb n k := ⟨_,rfl⟩
     obtain ⟨dm,hdm⟩ : ∃ dm,dm = degB th nb n m := ⟨_,rfl⟩
     have hdk' := hide hdk
     have hdm' := hide hdm
     obtain ⟨qd,hqd⟩ : ∃ qd,qd = decide ((dk : Int) < (dm : Int)) := ⟨_,rfl⟩
     have hqd' := hide hqd
     have hqn := hide (show qd = decide (dk < dm) by rw [hqd]; by_cases h : dk < dm <;> simp [h])
     have hz1 : ¬ (m : Int) < 0 := by omega
     clear hdk hdm hqd hz0
     refine wp_regionK (P := Tryz.prog) [] [0,1,2,3,4,5,6,7,8,9,10,11,12,13,14,15,16,17] [] 0 #[true,true,true,true,true,true,true,true,true,true,true,true,true,true,true,true,true,true] (by kernel_rfl) (by kernel_rfl) rfl (by rfl) ?_
     iterate 9
      refine ql_want (v := ?_) rfl (by rfl) (fun W hW => ?_) ?_
      rotate_left
      ·go_simp
       first | done | rfl
      go_frame
     refine ql_want (v := .agg #[.slice Ai n ci, .slice (some ⟨bt,ot,none⟩) n ct, .slice An n cn]) rfl (by rfl) (fun W hW => qUpon_ofX (run_load_agg (cs := #[.slice Ai n ci, .slice (some ⟨bt,ot,none⟩) n ct, .slice An n cn]) rfl rfl (by simp [go_sem]) (by simp [go_sem]) ((unhide hP).wholeK 0 rfl hW (by simp)))) ?_
     go_frame
     iterate 1
      refine ql_want (v := ?_) rfl (by rfl) (fun W hW => ?_) ?_
      rotate_left
      ·go_simp
       first | done | rfl
      go_frame
     refine ql_want (v := .int .i64 (dk : Nat)) rfl (by rfl) (fun W hW => ?_) ?_
     ·go_simp
      refine (degree22_any Ai (some ⟨bt,ot,none⟩) An n ci ct cn ids th nb hs k W ((unhide hp').ext ((unhide hP).extf.trans ((Ext.refl _).of_new hW (by simp)))) (unhide hk2)).mono ?_
      rw [← unhide hdk']
      rintro _ _ ⟨h1,h2⟩
      exact ⟨_,h1,rfl,h2⟩
     go_frame
     refine ql_want (v := .agg #[.slice Ai n ci, .slice (some ⟨bt,ot,none⟩) n ct, .slice An n cn]) rfl (by rfl) (fun W hW => qUpon_ofX (run_load_agg (cs := #[.slice Ai n ci, .slice (some ⟨bt,ot,none⟩) n ct, .slice An n cn]) rfl rfl (by simp [go_sem]) (by simp [go_sem]) ((unhide hP).wholeK 0 rfl hW (by simp)))) ?_
     go_frame
     iterate 1
      refine ql_want (v := ?_) rfl (by rfl) (fun W hW => ?_) ?_
      rotate_left
      ·go_simp
       first | done | rfl
      go_frame
     refine ql_want (v := .int .i64 (dm : Nat)) rfl (by rfl) (fun W hW => ?_) ?_
     ·go_simp
      refine (degree22_any Ai (some ⟨bt,ot,none⟩) An n ci ct cn ids th nb hs m W ((unhide hp').ext ((unhide hP).extf.trans ((Ext.refl _).of_new hW (by simp)))) (unhide hmn)).mono ?_
      rw [← unhide hdm']
      rintro _ _ ⟨h1,h2⟩
      exact ⟨_,h1,rfl,h2⟩
     go_frame
     refine ql_want (v := .bool qd) rfl (by rfl) (fun W hW => ?_) ?_
     ·go_simp
      first | done | rfl | (rw [unhide hqd']; simp) | (have := unhide hqn; simp_all)
     go_frame
     iterate 2
      refine ql_want (v := ?_) rfl (by rfl) (fun W hW => ?_) ?_
      rotate_left
      ·go_simp
       first | done | rfl
      go_frame
     refine wpQL_nil (fun y2 hxq => ?_)
     replace hP : Hid (Sp w [] w [] [(r1,109, #[.slice Ai n ci, .slice (some ⟨bt,ot,none⟩) n ct, .slice An n cn])] [] y2) := hide ((unhide hP).ext hxq)
     clear hxq
     refine wpX_done (by kernel_rfl) ?_
     try go_frame
     clear hz1
     cases qd
     ·skip
      have hc := hide (show (true && (decide ((m : Int) < 0) || decide (degB th nb n k < degB th nb n (m : Int).toNat))) = false by
       rw [← unhide hdk',Int.toNat_natCast, ← unhide hdm', ← unhide hqn]
       simp)
      have hz1 : ¬ (m : Int) < 0 := by omega
      clear hz1
      clear q1 c0 hself
      have hw1 : IntKind.i64.wrap ((k : Int) + 1) = (k : Int) + 1 := IntWalk.i64_in _ (by omega)
      have hzn := hide (show (m : Int) = lstB th nb n (k + 1) by rw [lstB_no (by rw [← unhide hx', ← unhide hz']; exact unhide hc)]; exact unhide hz')
      go_wp2_with fail
      have h3 := unhide hk2
      refine ⟨n - (k + 1), ?_,by have := unhide hfm'; omega⟩
      rw [unhide hI1_2]
      exact ⟨k + 1,(m : Int),(by first | rfl | trivial),(by first | rfl | trivial),(by first | rfl | trivial),(by first | rfl | (show _ = Value.int _ _; go_num) | go_num),(by first | rfl | trivial),by omega,unhide hzn,unhide hP,rfl⟩
     ·skip
      have hc := hide (show (true && (decide ((m : Int) < 0) || decide (degB th nb n k < degB th nb n (m : Int).toNat))) = true by
       rw [← unhide hdk',Int.toNat_natCast, ← unhide hdm', ← unhide hqn]
       simp)
      have hz1 : ¬ (m : Int) < 0 := by omega
      clear hz1
      clear q1 c0 hself
      have hw1 : IntKind.i64.wrap ((k : Int) + 1) = (k : Int) + 1 := IntWalk.i64_in _ (by omega)
      have hzn := hide (show (k : Int) = lstB th nb n (k + 1) by rw [lstB_yes (by rw [← unhide hx', ← unhide hz']; exact unhide hc)])
      go_wp2_with fail
      have h3 := unhide hk2
      refine ⟨n - (k + 1), ?_,by have := unhide hfm'; omega⟩
      rw [unhide hI1_2]
      exact ⟨k + 1,(k : Int),(by first | rfl | trivial),(by first | rfl | trivial),(by first | rfl | trivial),(by first | rfl | (show _ = Value.int _ _; go_num) | go_num),(by first | rfl | trivial),by omega,unhide hzn,unhide hP,rfl⟩
  ·have hil : ¬ (k : Int) < (n : Int) := by omega
   obtain rfl : n = k := by omega
   clear hlt hkn hfm'
   have q0 := (unhide hP).cell 0 0 (v := .slice Ai n ci) rfl rfl
   have hself := Ext.refl wr
   try dsimp only
   repeat ((fail_if_success (with_reducible refine wp_reg (id := 3) ?_)); (first | go_values | go_skip | go_step | go_guarded | go_upon | go_in | go_back | fail))
   with_reducible refine wp_reg (id := 3) ?_
   iterate 5
    refine wpO_want rfl ?_
    go_simp
   refine wpO_done ?_
   try go_frame
   clear q0 hself
   go_wp2_with fail
   refine Sp.leaves0 ?_
   exact ⟨_,results_tmp (t := 2) rfl _ _ _,by rw [unhide hz']; rfl,(unhide hP).extf⟩
end Go.Proofs.YtoacpebmhbkmbaaGreatDoor
namespace Go.Proofs.YtoacpebmhbkmbaaGreatDoor
theorem thL_succ (ids : List Int) (th : List Bool) (k : Nat) : thL ids th (k + 1) = thL ids th k ++ (if th.getD k false = true then [ids.getD k 0] else []) := by
 unfold thL
 rw [List.range_succ,List.filter_append,List.map_append]
 by_cases h : th.getD k false = true
 ·rw [if_pos h,List.filter_cons_of_pos (p := fun j => th.getD j false) h]; rfl
 ·rw [if_neg h,List.filter_cons_of_neg (p := fun j => th.getD j false) h]; rfl
theorem mem_thL {ids : List Int} {th : List Bool} {k : Nat} {x : Int} : x ∈ thL ids th k ↔ ∃ j,j < k ∧ th.getD j false = true ∧ ids.getD j 0 = x := by
 unfold thL
 rw [List.mem_map]
 constructor
 ·rintro ⟨j,hj,e⟩
  obtain ⟨h1,h2⟩ := List.mem_filter.1 hj
  exact ⟨j,List.mem_range.1 h1,h2,e⟩
 ·rintro ⟨j,h1,h2,e⟩
  exact ⟨j,List.mem_filter.2 ⟨List.mem_range.2 h1,h2⟩,e⟩
section
variable {ids : List Int} {th : List Bool} {nb : List (List Bool)} {n : Nat} {near : Int → Int → Bool}
theorem RepB.lst (h : RepB ids th nb n near) : ∀ k,k ≤ n → (thL ids th k = [] → lstB th nb n k = -1) ∧ (thL ids th k ≠ [] → ∃ m : Nat,lstB th nb n k = (m : Int) ∧ m < k ∧ th.getD m false = true ∧ ids.getD m 0 = leastP (degP near (thL ids th n)) (thL ids th k)) := by
 intro k
 induction k with
 | zero => exact fun _ => ⟨fun _ => rfl,fun h => absurd rfl h⟩
 | succ k ih =>
  intro hk
  obtain ⟨h1,h2⟩ := ih (by omega)
  by_cases ht : th.getD k false = true
  ·have e : thL ids th (k + 1) = thL ids th k ++ [ids.getD k 0] := by rw [thL_succ,if_pos ht]
   refine ⟨fun h0 => by rw [e] at h0; simp at h0,fun _ => ?_⟩
   by_cases hn : thL ids th k = []
   ·have hl := h1 hn
    refine ⟨k,lstB_yes (by rw [ht,hl]; rfl),by omega,ht, ?_⟩
    rw [e,hn]
    rfl
   ·obtain ⟨m,e1,e2,e3,e4⟩ := h2 hn
    have hd : degB th nb n k = degP near (thL ids th n) (ids.getD k 0) := h.deg (by omega) ht
    have hm : degB th nb n m = degP near (thL ids th n) (ids.getD m 0) := h.deg (by omega) e3
    have hs : leastP (degP near (thL ids th n)) (thL ids th (k + 1)) = if degP near (thL ids th n) (ids.getD k 0) < degP near (thL ids th n) (ids.getD m 0) then ids.getD k 0 else ids.getD m 0 := by
     rw [e,e4]
     obtain ⟨a,l,hal⟩ := List.exists_cons_of_ne_nil hn
     rw [hal,List.cons_append,leastP_snoc]
    by_cases hc : degB th nb n k < degB th nb n m
    ·refine ⟨k,lstB_yes (by rw [ht,e1,Int.toNat_natCast,decide_eq_true hc]; simp),by omega,ht, ?_⟩
     rw [hs,if_pos (by rw [← hd, ← hm]; exact hc)]
    ·refine ⟨m, ?_,by omega,e3, ?_⟩
     ·rw [lstB_no (by rw [ht,e1,Int.toNat_natCast,decide_eq_false hc,decide_eq_false (by omega)]; rfl)]; exact e1
     ·rw [hs,if_neg (by rw [← hd, ← hm]; exact hc)]
  ·have e : thL ids th (k + 1) = thL ids th k := by rw [thL_succ,if_neg ht,List.append_nil]
   have hf : th.getD k false = false := by rwa [Bool.not_eq_true] at ht
   have hl : lstB th nb n (k + 1) = lstB th nb n k := lstB_no (by rw [hf]; rfl)
   rw [e,hl]
   refine ⟨h1,fun hn => ?_⟩
   obtain ⟨m,e1,e2,e3,e4⟩ := h2 hn
   exact ⟨m,e1,by omega,e3,e4⟩
theorem RepB.drop (h : RepB ids th nb n near) {i : Nat} (hi : i < n) : RepB ids (th.set i false) nb n near := by
 have hl : i < th.length := by rw [h.lt]; exact hi
 refine ⟨h.li,by rw [List.length_set]; exact h.lt,h.nd,fun a b ha hb h1 h2 => ?_⟩
 rw [getD_set _ _ _ _ _ hl] at h1 h2
 split at h1
 ·cases h1
 ·split at h2
  ·cases h2
  ·exact h.nb a b ha hb h1 h2
end
end Go.Proofs.YtoacpebmhbkmbaaGreatDoor
namespace Go.Proofs.YtoacpebmhbkmbaaGreatDoor
open Go Go.RowKit Go.Shelf
attribute [local go_sem] qUpon lUpon
attribute [local irreducible] wpO wpX wpQL
set_option maxRecDepth 100000 in
set_option maxHeartbeats 16000000 in
theorem degenerate22_any (A B : Option Addr) (V : List (Int × Thing)) (E : List ((Int × Int) × Thing)) (cA cB : Nat) (w : World) (hV : SlAt encV 3 w A V) (hE : SlAt encE 4 w B E) (hi : GInv V E) (hl : V.length ≤ 100) :
  Calls Tryz.prog 34 #[.agg #[.slice A V.length cA, .slice B E.length cB]] w (DgPost w (dgnP (nr0 E) (toL (vS V)).length (toL (vS V))) ((degS (nr0 E) (toL (vS V)).length (toL (vS V))).map (·.1))) := by
 have hof := hide (fun (W : World) (hW : Ext w W) => of22_any A B V E cA cB W (hV.ext hW) (hE.ext hW) hi hl)
 have hLV := toL_vS hi
 have hRp := rep_of hi
 obtain ⟨L0,hL0⟩ : ∃ L0,L0 = toL (vS V) := ⟨_,rfl⟩
 obtain ⟨near,hnear⟩ : ∃ near,near = nr0 E := ⟨_,rfl⟩
 rw [← hL0, ← hnear]
 rw [← hL0, ← hnear] at hRp
 rw [← hL0] at hLV
 rw [← hLV, ← hnear] at hof
 obtain ⟨nV,hnV⟩ : ∃ nV,nV = V.length := ⟨_,rfl⟩
 obtain ⟨nE,hnE⟩ : ∃ nE,nE = E.length := ⟨_,rfl⟩
 rw [← hnV, ← hnE]
 rw [← hnV, ← hnE] at hof
 have hlL : L0.length = nV := by rw [hLV,List.length_map,hnV]
 rw [← hnV] at hl
 have hlb := hide hl
 have hlL' := hide hlL
 obtain ⟨D,hD⟩ : ∃ D,D = degS near L0.length L0 := ⟨_,rfl⟩
 have hD' := hide hD
 have hz0 := hide (show dgnP near L0.length L0 = D.foldl (fun m p => max m (p.2 : Int)) (-1) by rw [hD]; rfl)
 rw [← hD,unhide hz0]
 have hnd := hide hRp.nodup
 clear hL0 hnear hRp hLV hnV hnE hlL hD hz0 hV hE hi hl
 have hP := hide (Sp.new w)
 refine callsIn_wide.1 (callsIn_of_wp_marks (n := 0) Tryz.func34 rfl trivial (wpIn_wide.2 ?_))
 simp only [Tryz.ntmps34,List.size_toArray,List.length_cons,List.length_nil,Nat.reduceAdd,Nat.reduceSub,Array.replicate_succ,Array.replicate_zero,List.push_toArray,List.append_toArray,List.nil_append,List.cons_append]
 try dsimp only
 repeat ((fail_if_success (with_reducible refine wp_reg (id := 0) ?_)); (first | go_values | go_skip | go_step | go_guarded | go_upon | go_in | go_back | fail))
 with_reducible refine wp_reg (id := 0) ?_
 refine (unhide hP).allocO 41 #[.slice A nV cA, .slice B nE cB] rfl (run_box (v := .agg #[.slice A nV cA, .slice B nE cB]) rfl rfl) ?_
 intro r1 y1 hQ
 replace hP : Hid (Sp w [] w [] [(r1,41, #[.slice A nV cA, .slice B nE cB])] [] y1) := hide hQ
 clear hQ
 iterate 2
  refine wpO_want rfl ?_
  go_simp
 refine wpO_done ?_
 try go_frame
 replace hP : Hid (Sp w [] w [] [(r1,41, #[.slice A nV cA, .slice B nE cB])] [(3,1, .slice none 0 0,0,([] : List Int).flatMap encI)] y1) := hide ((unhide hP).nil 3 1)
 try dsimp only
 repeat ((fail_if_success (with_reducible refine wp_reg (id := 1) ?_)); (first | go_values | go_skip | go_step | go_guarded | go_upon | go_in | go_back | fail))
 with_reducible refine wp_reg (id := 1) ?_
 refine wpO_val rfl (run_load_agg (cs := #[.slice A nV cA, .slice B nE cB]) rfl rfl (by simp [go_sem]) (by simp [go_sem]) ((unhide hP).get 0 rfl).whole) ?_
 go_frame
 refine wpO_want rfl ?_
 go_simp
 refine ((unhide hof) y1 (unhide hP).extf).mono ?_
 rintro _ y2 ⟨Ai,At,An,ci,ct,cn,bs,nb,th0,n,hn,rfl,hst,hsq0,htl,hth,hnb0,hxc⟩
 refine ⟨_,rfl, ?_⟩
 replace hP : Hid (Sp w [] w [] [(r1,41, #[.slice A nV cA, .slice B nE cB])] ((3,1, .slice none 0 0,0,([] : List Int).flatMap encI) :: (4,1, .slice At n ct,n,th0.flatMap encB) :: (3,1, .slice Ai n ci,n,L0.flatMap encI) :: (106,1, .slice An n cn,n,(bs.map (hdrP n)).flatMap encSl) :: nearM n bs nb) y2) := hide ((unhide hP).addSt hxc hst)
 have hsq := hide hsq0
 have hnl := hide hn
 have hR0 := hide (show RepB L0 th0 nb n near from ⟨hn.symm,htl,unhide hnd,fun a b ha hb _ _ => hnb0 a b ha hb⟩)
 have hT0 := hide (getD_all hth L0 hn.symm)
 have hn100 := hide (show n ≤ 100 by rw [hn,unhide hlL']; exact unhide hlb)
 clear hst hsq0 htl hth hnb0 hxc hn
 refine (unhide hP).allocO 109 #[.slice none 0 0, .slice none 0 0, .slice none 0 0] rfl (by go_simp) ?_
 intro r4 y3 hQ
 replace hP : Hid (Sp w [] w [] [(r1,41, #[.slice A nV cA, .slice B nE cB]),(r4,109, #[.slice none 0 0, .slice none 0 0, .slice none 0 0])] ((3,1, .slice none 0 0,0,([] : List Int).flatMap encI) :: (4,1, .slice At n ct,n,th0.flatMap encB) :: (3,1, .slice Ai n ci,n,L0.flatMap encI) :: (106,1, .slice An n cn,n,(bs.map (hdrP n)).flatMap encSl) :: nearM n bs nb) y3) := hide hQ
 clear hQ
 refine (unhide hP).setO 1 #[.slice Ai n ci, .slice At n ct, .slice An n cn] rfl rfl (fun hb => run_store_row (v := .agg #[.slice Ai n ci, .slice At n ct, .slice An n cn]) rfl (by rfl) (by rfl) (by simp [go_sem]) hb rfl (fun u hu => by simp [Value.cells] at hu; rcases hu with rfl | rfl | rfl <;> rfl)) ?_
 intro y4 hQ
 replace hP : Hid (Sp w [] w [] [(r1,41, #[.slice A nV cA, .slice B nE cB]),(r4,109, #[.slice Ai n ci, .slice At n ct, .slice An n cn])] ((3,1, .slice none 0 0,0,([] : List Int).flatMap encI) :: (4,1, .slice At n ct,n,th0.flatMap encB) :: (3,1, .slice Ai n ci,n,L0.flatMap encI) :: (106,1, .slice An n cn,n,(bs.map (hdrP n)).flatMap encSl) :: nearM n bs nb) y4) := hide hQ
 clear hQ
 refine wpO_want rfl ?_
 go_simp
 refine wpO_done ?_
 try go_frame
 try dsimp only
 repeat ((fail_if_success (with_reducible refine wp_reg (id := 2) ?_)); (first | go_values | go_skip | go_step | go_guarded | go_upon | go_in | go_back | fail))
 with_reducible refine wp_reg (id := 2) ?_
 refine wpO_want rfl ?_
 go_simp
 refine wpO_done ?_
 try go_frame
 try dsimp only
 repeat ((fail_if_success (with_reducible refine wp_reg (id := 3) ?_)); (first | go_values | go_skip | go_step | go_guarded | go_upon | go_in | go_back | fail))
 with_reducible refine wp_reg (id := 3) ?_
 refine wpO_val rfl (run_load_agg (cs := #[.slice Ai n ci, .slice At n ct, .slice An n cn]) rfl rfl (by simp [go_sem]) (by simp [go_sem]) ((unhide hP).get 1 rfl).whole) ?_
 go_frame
 refine wpO_want rfl ?_
 go_simp
 have hca := least22_any Ai At An n ci ct cn L0 th0 nb (bs.map (hdrP n)) y4 (((unhide hP).sub (List.Sublist.refl _) (List.sublist_cons_self _ _)).pat (by have := unhide hn100; omega) (unhide hR0).li (unhide hR0).lt (unhide hsq))
 refine (hca).mono ?_
 rintro _ y5 ⟨rfl,hxc⟩
 clear hca
 refine ⟨_,rfl, ?_⟩
 replace hP : Hid (Sp w [] w [] [(r1,41, #[.slice A nV cA, .slice B nE cB]),(r4,109, #[.slice Ai n ci, .slice At n ct, .slice An n cn])] ((3,1, .slice none 0 0,0,([] : List Int).flatMap encI) :: (4,1, .slice At n ct,n,th0.flatMap encB) :: (3,1, .slice Ai n ci,n,L0.flatMap encI) :: (106,1, .slice An n cn,n,(bs.map (hdrP n)).flatMap encSl) :: nearM n bs nb) y5) := hide ((unhide hP).ext hxc)
 clear hxc
 refine wpO_want rfl ?_
 go_simp
 refine wpO_done ?_
 try go_frame
 go_wp2_with fail
 obtain ⟨I5_2,hI5_20⟩ : ∃ I : Nat → Act → World → Prop,I = fun fi a' wr => ∃ (th : List Bool), ∃ (z : Int), ∃ (A6 : Option Addr), ∃ (n6 : Nat), ∃ (c6 : Nat), ∃ (ps : List (Int × Nat)),a'.tmps.size = 35 ∧ a'.tmps.getD 4 undef = .pointer (some ⟨r4,0,none⟩) ∧ a'.tmps.getD 5 undef = .int .i64 z ∧ a'.tmps.getD 6 undef = .slice A6 n6 c6 ∧ a'.tmps.getD 7 undef = .int .i64 (lstB th nb n n) ∧ a'.defers = [] ∧ RepB L0 th nb n near ∧ D = ps ++ degS near fi (thL L0 th n) ∧ (z = ps.foldl (fun m p => max m (p.2 : Int)) (-1)) ∧ n6 = ps.length ∧ (thL L0 th n).length = fi ∧ n6 + fi ≤ 100 ∧ Sp w [] w [] [(r1,41, #[.slice A nV cA, .slice B nE cB]),(r4,109, #[.slice Ai n ci, .slice At n ct, .slice An n cn])] ((3,1, .slice A6 n6 c6,n6,(ps.map (·.1)).flatMap encI) :: (4,1, .slice At n ct,n,th.flatMap encB) :: (3,1, .slice Ai n ci,n,L0.flatMap encI) :: (106,1, .slice An n cn,n,(bs.map (hdrP n)).flatMap encSl) :: nearM n bs nb) wr := ⟨_,rfl⟩
 have hI5_2 := hide hI5_20
 clear hI5_20
 refine wp_loop_ix I5_2 (L0.length) ?_ ?_
 ·rw [unhide hI5_2]; exact ⟨th0, -1,none,0,0,[],rfl,rfl,rfl,rfl,rfl,rfl,unhide hR0,by rw [unhide hT0]; exact unhide hD',rfl,rfl,by rw [unhide hT0],by rw [unhide hlL']; have := unhide hlb; omega,unhide hP⟩
 ·rintro fi ⟨tm,dfs⟩ wr hrel
  rw [unhide hI5_2] at hrel
  obtain ⟨th,z,A6,n6,c6,ps,hsz,e4,e5,e6,e7,hdf,hRr,hDp,hz,hn6,hLf,hnf,hPr⟩ := hrel
  obtain ⟨us,rfl⟩ : ∃ us : Nat → Value,tm = #[us 0,us 1,us 2,us 3,us 4,us 5,us 6,us 7,us 8,us 9,us 10,us 11,us 12,us 13,us 14,us 15,us 16,us 17,us 18,us 19,us 20,us 21,us 22,us 23,us 24,us 25,us 26,us 27,us 28,us 29,us 30,us 31,us 32,us 33,us 34] := ⟨fun i => tm.getD i undef,arr_fn hsz⟩
  have h4 : us 4 = .pointer (some ⟨r4,0,none⟩) := e4
  have h5 : us 5 = .int .i64 z := e5
  have h6 : us 6 = .slice A6 n6 c6 := e6
  have h7 : us 7 = .int .i64 (lstB th nb n n) := e7
  have hdf2 : dfs = [] := hdf
  subst hdf2
  clear hdf hsz e4 e5 e6 e7
  simp only [h4,h5,h6,h7]
  clear h4 h5 h6 h7
  clear hP hR0 hT0
  have hP := hide hPr
  have hR := hide hRr
  have hDp' := hide hDp
  have hz' := hide hz
  have hn6' := hide hn6
  have hLf' := hide hLf
  have hnf' := hide hnf
  have hls := hRr.lst n (Nat.le_refl _)
  obtain ⟨zl,hzl⟩ : ∃ zl,zl = lstB th nb n n := ⟨_,rfl⟩
  rw [← hzl] at hls
  have hzl' := hide hzl
  rw [← hzl]
  clear hPr hRr hDp hz hn6 hLf hnf hzl
  by_cases hl0 : thL L0 th n = []
  ·skip
   obtain rfl := hls.1 hl0
   have hDe := hide (show D = ps by rw [unhide hDp',hl0,degS_nil,List.append_nil])
   clear hl0 hls hzl'
   try dsimp only
   repeat ((fail_if_success (with_reducible refine wp_reg (id := 4) ?_)); (first | go_values | go_skip | go_step | go_guarded | go_upon | go_in | go_back | fail))
   with_reducible refine wp_reg (id := 4) ?_
   iterate 2
    refine wpO_want rfl ?_
    go_simp
   refine wpO_done ?_
   try go_frame
   try dsimp only
   repeat ((fail_if_success (with_reducible refine wp_reg (id := 9) ?_)); (first | go_values | go_skip | go_step | go_guarded | go_upon | go_in | go_back | fail))
   with_reducible refine wp_reg (id := 9) ?_
   iterate 4
    refine wpO_want rfl ?_
    go_simp
   refine wpO_done ?_
   try go_frame
   go_wp2_with fail
   refine (unhide hP).leaves ?_
   intro w' hx hst
   refine ⟨_,results_tmp2 (t := 2) (u := 3) rfl _ _ _, ?_⟩
   have ho := hst.row 0 rfl
   rw [← unhide hDe] at hn6' hz' ho
   exact DgPost.mk (unhide hz') (by rw [List.length_map]; exact unhide hn6') ho hx
  ·skip
   obtain ⟨m,hm,hmn,htm,hml⟩ := hls.2 hl0
   subst hm
   obtain ⟨f',hf0⟩ : ∃ f',fi = f' + 1 := ⟨fi - 1,by have := unhide hLf'; have := List.length_pos_iff.2 hl0; omega⟩
   obtain ⟨y,hy⟩ : ∃ y,y = L0.getD m 0 := ⟨_,rfl⟩
   obtain ⟨dg,hdg⟩ : ∃ dg,dg = degP near (thL L0 th n) y := ⟨_,rfl⟩
   have hdB := hide (show degB th nb n m = dg by rw [hdg,hy]; exact (unhide hR).deg hmn htm)
   have hDs := hide (show D = (ps ++ [(y,dg)]) ++ degS near f' (thL L0 (th.set m false) n) by rw [unhide hDp',hf0,degS_cons near f' hl0, ← hml, ← hy, ← hdg,(unhide hR).drop_L hmn htm, ← hy,List.append_assoc]; rfl)
   have hdb := hide (show dg ≤ 100 by rw [hdg]; exact Nat.le_trans (List.length_filter_le _ _) (by have := unhide hLf'; have := unhide hnf'; omega))
   have hR2 := hide ((unhide hR).drop hmn)
   have hLn := hide (show (thL L0 (th.set m false) n).length = f' by
    rw [(unhide hR).drop_L hmn htm,List.length_erase_of_mem (by rw [hml]; exact leastP_mem _ hl0),unhide hLf',hf0]; rfl)
   have hmn' := hide hmn
   have hmI : (m : Int) < (n : Int) := by omega
   have hm0 : (m : Int) ≥ 0 := by omega
   have hf' := hide hf0
   have hyx := hide (show L0[m]? = some y by rw [hy,List.getD_eq_getElem?_getD,List.getElem?_eq_getElem (by rw [(unhide hR).li]; exact hmn)]; rfl)
   have hml0 := hide (show m < th.length by rw [(unhide hR).lt]; exact hmn)
   obtain ⟨bt,rfl⟩ := own_some1 ((unhide hP).row 1 rfl) (by omega)
   obtain ⟨bi,rfl⟩ := own_some1 ((unhide hP).row 2 rfl) (by omega)
   clear hl0 hls hzl' hmn htm hml hy hdg hf0
   try dsimp only
   repeat ((fail_if_success (with_reducible refine wp_reg (id := 4) ?_)); (first | go_values | go_skip | go_step | go_guarded | go_upon | go_in | go_back | fail))
   with_reducible refine wp_reg (id := 4) ?_
   iterate 2
    refine wpO_want rfl ?_
    go_simp
   refine wpO_done ?_
   try go_frame
   try dsimp only
   repeat ((fail_if_success (with_reducible refine wp_reg (id := 6) ?_)); (first | go_values | go_skip | go_step | go_guarded | go_upon | go_in | go_back | fail))
   with_reducible refine wp_reg (id := 6) ?_
   refine wpO_want rfl ?_
   go_simp
   refine wpO_val rfl (run_load_agg (cs := #[.slice (some ⟨bi,0,none⟩) n ci, .slice (some ⟨bt,0,none⟩) n ct, .slice An n cn]) rfl rfl (by simp [go_sem]) (by simp [go_sem]) ((unhide hP).get 1 rfl).whole) ?_
   go_frame
   refine wpO_want rfl ?_
   go_simp
   refine wpO_want rfl ?_
   go_simp
   have hca := degree22_any (some ⟨bi,0,none⟩) (some ⟨bt,0,none⟩) An n ci ct cn L0 th nb (bs.map (hdrP n)) m wr (((unhide hP).sub (List.Sublist.refl _) (List.sublist_cons_self _ _)).pat (by have := unhide hn100; omega) (unhide hR).li (unhide hR).lt (unhide hsq)) (unhide hmn')
   rw [unhide hdB] at hca
   refine (hca).mono ?_
   rintro _ y6 ⟨rfl,hxc⟩
   clear hca
   refine ⟨_,rfl, ?_⟩
   replace hP : Hid (Sp w [] w [] [(r1,41, #[.slice A nV cA, .slice B nE cB]),(r4,109, #[.slice (some ⟨bi,0,none⟩) n ci, .slice (some ⟨bt,0,none⟩) n ct, .slice An n cn])] ((3,1, .slice A6 n6 c6,n6,(ps.map (·.1)).flatMap encI) :: (4,1, .slice (some ⟨bt,0,none⟩) n ct,n,th.flatMap encB) :: (3,1, .slice (some ⟨bi,0,none⟩) n ci,n,L0.flatMap encI) :: (106,1, .slice An n cn,n,(bs.map (hdrP n)).flatMap encSl) :: nearM n bs nb) y6) := hide ((unhide hP).ext hxc)
   clear hxc
   iterate 2
    refine wpO_want rfl ?_
    go_simp
   refine wpO_done ?_
   try go_frame
   have q0 := (unhide hP).cell 1 0 (v := .slice (some ⟨bi,0,none⟩) n ci) rfl rfl
   have hself := Ext.refl y6
   have c0 := id_at ((unhide hP).row 2 rfl) (unhide hR).li (unhide hyx)
   try dsimp only
   repeat ((fail_if_success (with_reducible refine wp_reg (id := 7) ?_)); (first | go_values | go_skip | go_step | go_guarded | go_upon | go_in | go_back | fail))
   with_reducible refine wp_reg (id := 7) ?_
   iterate 6
    refine wpO_want rfl ?_
    go_simp
   clear q0 c0 hself
   refine (unhide hP).build1O 3 #[.int .i64 y] rfl (run_build1 rfl rfl) ?_
   intro bb y7 hQ
   replace hP : Hid (Sp w [] w [] [(r1,41, #[.slice A nV cA, .slice B nE cB]),(r4,109, #[.slice (some ⟨bi,0,none⟩) n ci, .slice (some ⟨bt,0,none⟩) n ct, .slice An n cn]),(bb,3, #[.int .i64 y])] ((3,1, .slice A6 n6 c6,n6,(ps.map (·.1)).flatMap encI) :: (4,1, .slice (some ⟨bt,0,none⟩) n ct,n,th.flatMap encB) :: (3,1, .slice (some ⟨bi,0,none⟩) n ci,n,L0.flatMap encI) :: (106,1, .slice An n cn,n,(bs.map (hdrP n)).flatMap encSl) :: nearM n bs nb) y7) := hide hQ
   clear hQ
   go_frame
   refine (unhide hP).ap1O (enc := encI) (T := 3) (ST := 30) 0 (v := .slice A6 n6 c6) (m := n6) (xs := ps.map (·.1)) rfl rfl infoI Tryz.underlying30 one_encI (fun _ => rfl) (by decide) (by decide) rfl y rfl rfl ((unhide hP).get 2 rfl) (by have := unhide hnf'; omega) ?_
   intro A7 cA7 y8 hQ
   replace hP : Hid (Sp w [] w [] [(r1,41, #[.slice A nV cA, .slice B nE cB]),(r4,109, #[.slice (some ⟨bi,0,none⟩) n ci, .slice (some ⟨bt,0,none⟩) n ct, .slice An n cn]),(bb,3, #[.int .i64 y])] ((3,1, .slice A7 (n6 + 1) cA7,n6 + 1,(ps.map (·.1) ++ [y]).flatMap encI) :: (4,1, .slice (some ⟨bt,0,none⟩) n ct,n,th.flatMap encB) :: (3,1, .slice (some ⟨bi,0,none⟩) n ci,n,L0.flatMap encI) :: (106,1, .slice An n cn,n,(bs.map (hdrP n)).flatMap encSl) :: nearM n bs nb) y8) := hide hQ
   clear hQ
   try go_frame
   refine wpO_want rfl ?_
   go_simp
   refine wpO_done ?_
   try go_frame
   replace hP : Hid (Sp w [] w [] [(r1,41, #[.slice A nV cA, .slice B nE cB]),(r4,109, #[.slice (some ⟨bi,0,none⟩) n ci, .slice (some ⟨bt,0,none⟩) n ct, .slice An n cn])] ((3,1, .slice A7 (n6 + 1) cA7,n6 + 1,(ps.map (·.1) ++ [y]).flatMap encI) :: (4,1, .slice (some ⟨bt,0,none⟩) n ct,n,th.flatMap encB) :: (3,1, .slice (some ⟨bi,0,none⟩) n ci,n,L0.flatMap encI) :: (106,1, .slice An n cn,n,(bs.map (hdrP n)).flatMap encSl) :: nearM n bs nb) y8) := hide ((unhide hP).sub (List.sublist_append_left _ ([(bb,3, #[.int .i64 y])] : List Cl)) (List.Sublist.refl _))
   have q0 := (unhide hP).cell 1 1 (v := .slice (some ⟨bt,0,none⟩) n ct) rfl rfl
   have hself := Ext.refl y8
   try dsimp only
   repeat ((fail_if_success (with_reducible refine wp_reg (id := 8) ?_)); (first | go_values | go_skip | go_step | go_guarded | go_upon | go_in | go_back | fail))
   with_reducible refine wp_reg (id := 8) ?_
   iterate 4
    refine wpO_want rfl ?_
    go_simp
   refine (unhide hP).putO (enc := encB) (f := fun q => .bool q) (fun _ => rfl) (fun _ => rfl) (fun _ => rfl) 1 false rfl rfl (q := m) rfl (by first | rfl | go_simp) rfl (by simp [go_sem]) (unhide hml0) ?_
   intro y9 hQ
   replace hP : Hid (Sp w [] w [] [(r1,41, #[.slice A nV cA, .slice B nE cB]),(r4,109, #[.slice (some ⟨bi,0,none⟩) n ci, .slice (some ⟨bt,0,none⟩) n ct, .slice An n cn])] ((3,1, .slice A7 (n6 + 1) cA7,n6 + 1,(ps.map (·.1) ++ [y]).flatMap encI) :: (4,1, .slice (some ⟨bt,0,none⟩) n ct,n,(th.set m false).flatMap encB) :: (3,1, .slice (some ⟨bi,0,none⟩) n ci,n,L0.flatMap encI) :: (106,1, .slice An n cn,n,(bs.map (hdrP n)).flatMap encSl) :: nearM n bs nb) y9) := hide hQ
   clear hQ q0 hself
   go_frame
   refine wpO_done ?_
   try go_frame
   try dsimp only
   repeat ((fail_if_success (with_reducible refine wp_reg (id := 5) ?_)); (first | go_values | go_skip | go_step | go_guarded | go_upon | go_in | go_back | fail))
   with_reducible refine wp_reg (id := 5) ?_
   refine wpO_val rfl (run_load_agg (cs := #[.slice (some ⟨bi,0,none⟩) n ci, .slice (some ⟨bt,0,none⟩) n ct, .slice An n cn]) rfl rfl (by simp [go_sem]) (by simp [go_sem]) ((unhide hP).get 1 rfl).whole) ?_
   go_frame
   refine wpO_want rfl ?_
   go_simp
   have hca := least22_any (some ⟨bi,0,none⟩) (some ⟨bt,0,none⟩) An n ci ct cn L0 (th.set m false) nb (bs.map (hdrP n)) y9 (((unhide hP).sub (List.Sublist.refl _) (List.sublist_cons_self _ _)).pat (by have := unhide hn100; omega) (unhide hR2).li (unhide hR2).lt (unhide hsq))
   refine (hca).mono ?_
   rintro _ y10 ⟨rfl,hxc⟩
   clear hca
   refine ⟨_,rfl, ?_⟩
   replace hP : Hid (Sp w [] w [] [(r1,41, #[.slice A nV cA, .slice B nE cB]),(r4,109, #[.slice (some ⟨bi,0,none⟩) n ci, .slice (some ⟨bt,0,none⟩) n ct, .slice An n cn])] ((3,1, .slice A7 (n6 + 1) cA7,n6 + 1,(ps.map (·.1) ++ [y]).flatMap encI) :: (4,1, .slice (some ⟨bt,0,none⟩) n ct,n,(th.set m false).flatMap encB) :: (3,1, .slice (some ⟨bi,0,none⟩) n ci,n,L0.flatMap encI) :: (106,1, .slice An n cn,n,(bs.map (hdrP n)).flatMap encSl) :: nearM n bs nb) y10) := hide ((unhide hP).ext hxc)
   clear hxc
   refine wpO_want rfl ?_
   go_simp
   refine wpO_done ?_
   try go_frame
   go_wp2_with fail
   refine ⟨f', ?_,by have := unhide hf'; omega⟩
   rw [unhide hI5_2]
   exact ⟨th.set m false,max z dg,A7,n6 + 1,cA7,ps ++ [(y,dg)],(by first | rfl | trivial),(by first | rfl | trivial),(by first | rfl | trivial),(by first | rfl | trivial),(by first | rfl | trivial),(by first | rfl | trivial),unhide hR2,unhide hDs,by rw [List.foldl_append, ← unhide hz']; rfl,by rw [List.length_append, ← unhide hn6']; rfl,unhide hLn,by have := unhide hnf'; have := unhide hf'; omega,by rw [List.map_append]; exact unhide hP⟩
end Go.Proofs.YtoacpebmhbkmbaaGreatDoor
namespace Go.Proofs.YtoacpebmhbkmbaaGreatDoor
open Go Go.RowKit Go.Shelf
attribute [local go_sem] qUpon lUpon
attribute [local irreducible] wpO wpX wpQL
theorem th_at {W : World} {base n c : Nat} {bt : Nat} {th : List Bool} (h : W.ownsRow base 4 1 (.slice (some ⟨bt,0,none⟩) n c) n (th.flatMap encB)) (hl : th.length = n) {i : Nat} {x : Bool} (hx : th[i]? = some x) : ∀ W',Ext W W' → W'.cell? ⟨bt,i,none⟩ = some (.bool x) := by
 obtain ⟨hi,e⟩ := List.getElem?_eq_some_iff.1 hx
 have hs : SlAt encB 1 W (some ⟨bt,0,none⟩) th := own_at (enc := encB) (c := c) (by rw [hl]; exact h) (fun _ => rfl)
 obtain ⟨b',off',e2,hc⟩ := hs.at_ hi
 injection e2 with e2
 injection e2 with e3 e4
 subst e3
 subst e4
 intro W' hW
 have := hc 0 (.bool th[i]) rfl W' hW
 rw [show 0 + i * 1 + 0 = i by omega,e] at this
 exact this
structure CorI (ids : List Int) (th : List Bool) (nb : List (List Bool)) (n : Nat) (near : Int → Int → Bool) (k : Int) : Prop where
 rep : RepB ids th nb n near
 top : ∀ S : List Int,S.Nodup → (∀ x ∈ S,x ∈ ids) → Dense near k S → ∀ x ∈ S,x ∈ thL ids th n
theorem thL_sub (ids : List Int) (th : List Bool) {n : Nat} (hl : ids.length = n) : (thL ids th n).Sublist ids := by
 have h : (thL ids th n).Sublist ((List.range n).map fun j => ids.getD j 0) := List.Sublist.map _ List.filter_sublist
 have e : ((List.range n).map fun j => ids.getD j 0) = ids := by
  refine List.ext_getElem? fun j => ?_
  rw [List.getElem?_map]
  by_cases hj : j < n
  ·rw [List.getElem?_range hj,Option.map_some,List.getD_eq_getElem?_getD,List.getElem?_eq_getElem (by omega)]
   rfl
  ·rw [List.getElem?_eq_none (by rw [List.length_range]; omega),List.getElem?_eq_none (by omega)]
   rfl
 rw [e] at h
 exact h
theorem CorI.drop {ids : List Int} {th : List Bool} {nb : List (List Bool)} {n : Nat} {near : Int → Int → Bool} {k : Int} (h : CorI ids th nb n near k) {i : Nat} (hi : i < n) (ht : th.getD i false = true) (hd : (degB th nb n i : Int) < k) : CorI ids (th.set i false) nb n near k := by
 refine ⟨h.rep.drop hi,fun S hS hs hD x hx => ?_⟩
 rw [h.rep.drop_L hi ht]
 exact dense_erase h.rep.nodup hS (fun y hy => h.top S hS hs hD y hy) hD (by rw [← h.rep.deg hi ht]; exact hd) x hx
theorem CorI.len {ids : List Int} {th : List Bool} {nb : List (List Bool)} {n : Nat} {near : Int → Int → Bool} {k : Int} (h : CorI ids th nb n near k) {i : Nat} (hi : i < n) (ht : th.getD i false = true) : (thL ids (th.set i false) n).length + 1 = (thL ids th n).length := by
 rw [h.rep.drop_L hi ht]
 have hm : ids.getD i 0 ∈ thL ids th n := mem_thL.2 ⟨i,hi,ht,rfl⟩
 rw [List.length_erase_of_mem hm]
 have := List.length_pos_of_mem hm
 omega
theorem corS_subL (near : Int → Int → Bool) (k : Int) : ∀ (n : Nat) (L : List Int),(corS near k n L).Sublist L
 | 0,L => List.Sublist.refl _
 | n + 1,L => by
  cases h : L.find? (fun x => decide ((degP near L x : Int) < k)) with
  | none => rw [corS_stop near k (n + 1) L h]; exact List.Sublist.refl _
  | some x => rw [corS_step near k n L h]; exact (corS_subL near k n _).trans List.erase_sublist
theorem CorI.done {ids : List Int} {th : List Bool} {nb : List (List Bool)} {n : Nat} {near : Int → Int → Bool} {k : Int} (h : CorI ids th nb n near k) (hs : ids.Pairwise (· < ·)) (hd : ∀ j,j < n → th.getD j false = true → k ≤ (degB th nb n j : Int)) : thL ids th n = corS near k ids.length ids := by
 have h1 : IsCore near k ids (thL ids th n) := ⟨h.rep.nodup,fun x hx => (thL_sub ids th h.rep.li).subset hx,fun x hx => by
  obtain ⟨j,hj,ht,e⟩ := mem_thL.1 hx
  rw [← e, ← h.rep.deg hj ht]
  exact hd j hj ht,h.top⟩
 have h2 : IsCore near k ids (corS near k ids.length ids) := corS_core _ _ _ (Nat.le_refl _) h.rep.nd (fun _ h => h) (fun _ _ h _ => h)
 exact sorted_ext (hs.sublist (thL_sub ids th h.rep.li)) (hs.sublist (corS_subL near k ids.length ids)) fun x => h1.same h2 x
set_option maxRecDepth 100000 in
set_option maxHeartbeats 16000000 in
theorem core22_any (A B : Option Addr) (V : List (Int × Thing)) (E : List ((Int × Int) × Thing)) (cA cB : Nat) (k : Int) (w : World) (hV : SlAt encV 3 w A V) (hE : SlAt encE 4 w B E) (hi : GInv V E) (hl : V.length ≤ 100) :
  Calls Tryz.prog 35 #[.agg #[.slice A V.length cA, .slice B E.length cB], .int .i64 k] w (OwL w (corS (nr0 E) k (toL (vS V)).length (toL (vS V)))) := by
 have hof := hide (fun (W : World) (hW : Ext w W) => of22_any A B V E cA cB W (hV.ext hW) (hE.ext hW) hi hl)
 have hLV := toL_vS hi
 have hRp := rep_of hi
 obtain ⟨L0,hL0⟩ : ∃ L0,L0 = toL (vS V) := ⟨_,rfl⟩
 obtain ⟨near,hnear⟩ : ∃ near,near = nr0 E := ⟨_,rfl⟩
 rw [← hL0, ← hnear]
 rw [← hL0, ← hnear] at hRp
 rw [← hL0] at hLV
 rw [← hLV, ← hnear] at hof
 obtain ⟨nV,hnV⟩ : ∃ nV,nV = V.length := ⟨_,rfl⟩
 obtain ⟨nE,hnE⟩ : ∃ nE,nE = E.length := ⟨_,rfl⟩
 rw [← hnV, ← hnE]
 rw [← hnV, ← hnE] at hof
 have hlL : L0.length = nV := by rw [hLV,List.length_map,hnV]
 rw [← hnV] at hl
 have hlb := hide hl
 have hlL' := hide hlL
 obtain ⟨D,hD⟩ : ∃ D,D = corS near k L0.length L0 := ⟨_,rfl⟩
 have hD' := hide hD
 rw [← hD]
 have hnd := hide hRp.nodup
 have hso := hide hRp.sorted
 clear hL0 hnear hRp hLV hnV hnE hlL hD hV hE hi hl
 have hP := hide (Sp.new w)
 refine callsIn_wide.1 (callsIn_of_wp_marks (n := 0) Tryz.func35 rfl trivial (wpIn_wide.2 ?_))
 simp only [Tryz.ntmps35,List.size_toArray,List.length_cons,List.length_nil,Nat.reduceAdd,Nat.reduceSub,Array.replicate_succ,Array.replicate_zero,List.push_toArray,List.append_toArray,List.nil_append,List.cons_append]
 try dsimp only
 repeat ((fail_if_success (with_reducible refine wp_reg (id := 0) ?_)); (first | go_values | go_skip | go_step | go_guarded | go_upon | go_in | go_back | fail))
 with_reducible refine wp_reg (id := 0) ?_
 refine (unhide hP).allocO 41 #[.slice A nV cA, .slice B nE cB] rfl (run_box (v := .agg #[.slice A nV cA, .slice B nE cB]) rfl rfl) ?_
 intro r2 y1 hQ
 replace hP : Hid (Sp w [] w [] [(r2,41, #[.slice A nV cA, .slice B nE cB])] [] y1) := hide hQ
 clear hQ
 refine wpO_want rfl ?_
 go_simp
 refine wpO_done ?_
 try go_frame
 replace hP : Hid (Sp w [] w [] [(r2,41, #[.slice A nV cA, .slice B nE cB])] [(3,1, .slice none 0 0,0,([] : List Int).flatMap encI)] y1) := hide ((unhide hP).nil 3 1)
 try dsimp only
 repeat ((fail_if_success (with_reducible refine wp_reg (id := 1) ?_)); (first | go_values | go_skip | go_step | go_guarded | go_upon | go_in | go_back | fail))
 with_reducible refine wp_reg (id := 1) ?_
 refine wpO_val rfl (run_load_agg (cs := #[.slice A nV cA, .slice B nE cB]) rfl rfl (by simp [go_sem]) (by simp [go_sem]) ((unhide hP).get 0 rfl).whole) ?_
 go_frame
 refine wpO_want rfl ?_
 go_simp
 refine ((unhide hof) y1 (unhide hP).extf).mono ?_
 rintro _ y2 ⟨Ai,At,An,ci,ct,cn,bs,nb,th0,n,hn,rfl,hst,hsq0,htl,hth,hnb0,hxc⟩
 refine ⟨_,rfl, ?_⟩
 replace hP : Hid (Sp w [] w [] [(r2,41, #[.slice A nV cA, .slice B nE cB])] ((3,1, .slice none 0 0,0,([] : List Int).flatMap encI) :: (4,1, .slice At n ct,n,th0.flatMap encB) :: (3,1, .slice Ai n ci,n,L0.flatMap encI) :: (106,1, .slice An n cn,n,(bs.map (hdrP n)).flatMap encSl) :: nearM n bs nb) y2) := hide ((unhide hP).addSt hxc hst)
 have hsq := hide hsq0
 have hnl := hide hn
 have hT0 := getD_all hth L0 hn.symm
 have hR0 : Hid (CorI L0 th0 nb n near k) := hide ⟨⟨hn.symm,htl,unhide hnd,fun a b ha hb _ _ => hnb0 a b ha hb⟩,fun S _ hs _ x hx => by rw [hT0]; exact hs x hx⟩
 have hn100 := hide (show n ≤ 100 by rw [hn,unhide hlL']; exact unhide hlb)
 have hle0 := hide (show (thL L0 th0 n).length < n + 1 by rw [hT0, ← hn]; exact Nat.lt_succ_self _)
 clear hst hsq0 htl hth hnb0 hxc hn hT0
 refine (unhide hP).allocO 109 #[.slice none 0 0, .slice none 0 0, .slice none 0 0] rfl (by go_simp) ?_
 intro r5 y3 hQ
 replace hP : Hid (Sp w [] w [] [(r2,41, #[.slice A nV cA, .slice B nE cB]),(r5,109, #[.slice none 0 0, .slice none 0 0, .slice none 0 0])] ((3,1, .slice none 0 0,0,([] : List Int).flatMap encI) :: (4,1, .slice At n ct,n,th0.flatMap encB) :: (3,1, .slice Ai n ci,n,L0.flatMap encI) :: (106,1, .slice An n cn,n,(bs.map (hdrP n)).flatMap encSl) :: nearM n bs nb) y3) := hide hQ
 clear hQ
 refine (unhide hP).setO 1 #[.slice Ai n ci, .slice At n ct, .slice An n cn] rfl rfl (fun hb => run_store_row (v := .agg #[.slice Ai n ci, .slice At n ct, .slice An n cn]) rfl (by rfl) (by rfl) (by simp [go_sem]) hb rfl (fun u hu => by simp [Value.cells] at hu; rcases hu with rfl | rfl | rfl <;> rfl)) ?_
 intro y4 hQ
 replace hP : Hid (Sp w [] w [] [(r2,41, #[.slice A nV cA, .slice B nE cB]),(r5,109, #[.slice Ai n ci, .slice At n ct, .slice An n cn])] ((3,1, .slice none 0 0,0,([] : List Int).flatMap encI) :: (4,1, .slice At n ct,n,th0.flatMap encB) :: (3,1, .slice Ai n ci,n,L0.flatMap encI) :: (106,1, .slice An n cn,n,(bs.map (hdrP n)).flatMap encSl) :: nearM n bs nb) y4) := hide hQ
 clear hQ
 refine wpO_done ?_
 try go_frame
 try dsimp only
 repeat ((fail_if_success (with_reducible refine wp_reg (id := 2) ?_)); (first | go_values | go_skip | go_step | go_guarded | go_upon | go_in | go_back | fail))
 with_reducible refine wp_reg (id := 2) ?_
 refine wpO_want rfl ?_
 go_simp
 refine wpO_done ?_
 try go_frame
 go_wp2_with fail
 obtain ⟨I4_2,hI4_20⟩ : ∃ I : Nat → Act → World → Prop,I = fun fi a' wr => ∃ (th : List Bool), ∃ (mo : Bool),a'.tmps.size = 57 ∧ a'.tmps.getD 1 undef = .int .i64 k ∧ a'.tmps.getD 5 undef = .pointer (some ⟨r5,0,none⟩) ∧ a'.tmps.getD 6 undef = .bool mo ∧ a'.defers = [] ∧ CorI L0 th nb n near k ∧ (mo = true → (thL L0 th n).length < fi) ∧ (mo = false → ∀ j,j < n → th.getD j false = true → k ≤ (degB th nb n j : Int)) ∧ Sp w [] w [] [(r2,41, #[.slice A nV cA, .slice B nE cB]),(r5,109, #[.slice Ai n ci, .slice At n ct, .slice An n cn])] ((3,1, .slice none 0 0,0,([] : List Int).flatMap encI) :: (4,1, .slice At n ct,n,th.flatMap encB) :: (3,1, .slice Ai n ci,n,L0.flatMap encI) :: (106,1, .slice An n cn,n,(bs.map (hdrP n)).flatMap encSl) :: nearM n bs nb) wr := ⟨_,rfl⟩
 have hI4_2 := hide hI4_20
 clear hI4_20
 refine wp_loop_ix I4_2 (n + 1) ?_ ?_
 ·rw [unhide hI4_2]; exact ⟨th0,true,rfl,rfl,rfl,rfl,rfl,unhide hR0,(fun _ => unhide hle0),(fun h => by cases h),unhide hP⟩
 ·rintro fi ⟨tm,dfs⟩ wr hrel
  rw [unhide hI4_2] at hrel
  obtain ⟨th,mo,hsz,e1,e5,e6,hdf,hRr,hmt,hmf,hPr⟩ := hrel
  obtain ⟨us,rfl⟩ : ∃ us : Nat → Value,tm = #[us 0,us 1,us 2,us 3,us 4,us 5,us 6,us 7,us 8,us 9,us 10,us 11,us 12,us 13,us 14,us 15,us 16,us 17,us 18,us 19,us 20,us 21,us 22,us 23,us 24,us 25,us 26,us 27,us 28,us 29,us 30,us 31,us 32,us 33,us 34,us 35,us 36,us 37,us 38,us 39,us 40,us 41,us 42,us 43,us 44,us 45,us 46,us 47,us 48,us 49,us 50,us 51,us 52,us 53,us 54,us 55,us 56] := ⟨fun i => tm.getD i undef,arr_fn hsz⟩
  have h1 : us 1 = .int .i64 k := e1
  have h5 : us 5 = .pointer (some ⟨r5,0,none⟩) := e5
  have h6 : us 6 = .bool mo := e6
  have hdf2 : dfs = [] := hdf
  subst hdf2
  clear hdf hsz e1 e5 e6
  simp only [h1,h5,h6]
  clear h1 h5 h6
  clear hP hR0 hle0
  have hP := hide hPr
  have hR := hide hRr
  have hmt' := hide hmt
  have hmf' := hide hmf
  clear hPr hRr hmt hmf
  cases mo
  ·skip
   have hCo := hide ((unhide hR).done (unhide hso) (unhide hmf' rfl))
   clear hmt' hmf'
   try dsimp only
   repeat ((fail_if_success (with_reducible refine wp_reg (id := 3) ?_)); (first | go_values | go_skip | go_step | go_guarded | go_upon | go_in | go_back | fail))
   with_reducible refine wp_reg (id := 3) ?_
   refine wpO_want rfl ?_
   go_simp
   refine wpO_done ?_
   try go_frame
   try dsimp only
   repeat ((fail_if_success (with_reducible refine wp_reg (id := 10) ?_)); (first | go_values | go_skip | go_step | go_guarded | go_upon | go_in | go_back | fail))
   with_reducible refine wp_reg (id := 10) ?_
   refine wpO_want rfl ?_
   go_simp
   refine wpO_done ?_
   try go_frame
   try dsimp only
   repeat ((fail_if_success (with_reducible refine wp_reg (id := 11) ?_)); (first | go_values | go_skip | go_step | go_guarded | go_upon | go_in | go_back | fail))
   with_reducible refine wp_reg (id := 11) ?_
   refine wpO_want rfl ?_
   go_simp
   refine wpO_done ?_
   try go_frame
   go_wp2_with fail
   obtain ⟨I4_6,hI4_60⟩ : ∃ I : Nat → Act → World → Prop,I = fun fi a' wr => ∃ (i : Nat), ∃ (A8 : Option Addr), ∃ (n8 : Nat), ∃ (c8 : Nat), ∃ (xs : List Int),a'.tmps.size = 57 ∧ a'.tmps.getD 5 undef = .pointer (some ⟨r5,0,none⟩) ∧ a'.tmps.getD 8 undef = .slice A8 n8 c8 ∧ a'.tmps.getD 9 undef = .int .i64 (i : Nat) ∧ a'.defers = [] ∧ i ≤ n ∧ xs = thL L0 th i ∧ n8 = xs.length ∧ n8 ≤ i ∧ Sp w [] w [] [(r2,41, #[.slice A nV cA, .slice B nE cB]),(r5,109, #[.slice Ai n ci, .slice At n ct, .slice An n cn])] ((3,1, .slice A8 n8 c8,n8,xs.flatMap encI) :: (4,1, .slice At n ct,n,th.flatMap encB) :: (3,1, .slice Ai n ci,n,L0.flatMap encI) :: (106,1, .slice An n cn,n,(bs.map (hdrP n)).flatMap encSl) :: nearM n bs nb) wr ∧ fi = n - i := ⟨_,rfl⟩
   have hI4_6 := hide hI4_60
   clear hI4_60
   refine wp_loop_ix I4_6 (n - 0) ?_ ?_
   ·rw [unhide hI4_6]; exact ⟨0,none,0,0,[],rfl,rfl,rfl,rfl,rfl,Nat.zero_le _,rfl,rfl,Nat.le_refl _,unhide hP,rfl⟩
   ·rintro fi ⟨tm,dfs⟩ wr hrel
    rw [unhide hI4_6] at hrel
    obtain ⟨i,A8,n8,c8,xs,hsz,e5,e8,e9,hdf,hin,hxs0,hn80,hn81,hPr,hfm⟩ := hrel
    obtain ⟨us,rfl⟩ : ∃ us : Nat → Value,tm = #[us 0,us 1,us 2,us 3,us 4,us 5,us 6,us 7,us 8,us 9,us 10,us 11,us 12,us 13,us 14,us 15,us 16,us 17,us 18,us 19,us 20,us 21,us 22,us 23,us 24,us 25,us 26,us 27,us 28,us 29,us 30,us 31,us 32,us 33,us 34,us 35,us 36,us 37,us 38,us 39,us 40,us 41,us 42,us 43,us 44,us 45,us 46,us 47,us 48,us 49,us 50,us 51,us 52,us 53,us 54,us 55,us 56] := ⟨fun i => tm.getD i undef,arr_fn hsz⟩
    have h5 : us 5 = .pointer (some ⟨r5,0,none⟩) := e5
    have h8 : us 8 = .slice A8 n8 c8 := e8
    have h9 : us 9 = .int .i64 (i : Nat) := e9
    have hdf2 : dfs = [] := hdf
    subst hdf2
    clear hdf hsz e5 e8 e9
    simp only [h5,h8,h9]
    clear h5 h8 h9
    clear hP
    have hP := hide hPr
    have hfm' := hide hfm
    have hxs' := hide hxs0
    have hn8' := hide hn80
    have hn8b := hide hn81
    clear hPr hfm hxs0 hn80 hn81
    by_cases hlt : i < n
    ·have hil : (i : Int) < (n : Int) := by omega
     have hk2 := hide hlt
     have hkb : (i : Int) ≤ 100 := by have := unhide hn100; omega
     obtain ⟨bt,rfl⟩ := own_some1 ((unhide hP).row 1 rfl) (by omega)
     obtain ⟨bi,rfl⟩ := own_some1 ((unhide hP).row 2 rfl) (by omega)
     have hil1 : i < L0.length := by rw [← unhide hnl]; exact hlt
     obtain ⟨y,hy⟩ : ∃ y,y = L0.getD i 0 := ⟨_,rfl⟩
     have hyx := hide (show L0[i]? = some y by rw [hy,List.getD_eq_getElem?_getD,List.getElem?_eq_getElem hil1]; rfl)
     have hy' := hide hy
     obtain ⟨x,hx⟩ : ∃ x,x = th.getD i false := ⟨_,rfl⟩
     have hx' := hide hx
     have hil3 : i < th.length := by rw [(unhide hR).rep.lt]; exact hlt
     have htl := hide hil3
     have ht := hide (th_at ((unhide hP).row 1 rfl) (unhide hR).rep.lt (show th[i]? = some x by rw [hx,List.getD_eq_getElem?_getD,List.getElem?_eq_getElem hil3]; rfl))
     clear hlt hin hil1 hy hx hil3
     have q0 := (unhide hP).cell 1 0 (v := .slice (some ⟨bi,0,none⟩) n ci) rfl rfl
     have hself := Ext.refl wr
     try dsimp only
     repeat ((fail_if_success (with_reducible refine wp_reg (id := 12) ?_)); (first | go_values | go_skip | go_step | go_guarded | go_upon | go_in | go_back | fail))
     with_reducible refine wp_reg (id := 12) ?_
     iterate 5
      refine wpO_want rfl ?_
      go_simp
     refine wpO_done ?_
     try go_frame
     clear q0 hself
     have q1 := (unhide hP).cell 1 1 (v := .slice (some ⟨bt,0,none⟩) n ct) rfl rfl
     have hself := Ext.refl wr
     have c0 := unhide ht
     try dsimp only
     repeat ((fail_if_success (with_reducible refine wp_reg (id := 14) ?_)); (first | go_values | go_skip | go_step | go_guarded | go_upon | go_in | go_back | fail))
     with_reducible refine wp_reg (id := 14) ?_
     iterate 5
      refine wpO_want rfl ?_
      go_simp
     refine wpO_done ?_
     try go_frame
     clear q1 hself c0 ht
     cases x
     ·skip
      have hxn := hide (show xs = thL L0 th (i + 1) by rw [thL_succ, ← unhide hx',if_neg (by simp),List.append_nil]; exact unhide hxs')
      have hw1 : IntKind.i64.wrap ((i : Int) + 1) = (i : Int) + 1 := IntWalk.i64_in _ (by omega)
      go_wp2_with fail
      have h3 := unhide hk2
      refine ⟨n - (i + 1), ?_,by have := unhide hfm'; omega⟩
      rw [unhide hI4_6]
      exact ⟨i + 1,A8,n8,c8,xs,(by first | rfl | trivial),(by first | rfl | trivial),(by first | rfl | trivial),(by first | rfl | (show _ = Value.int _ _; go_num) | go_num),(by first | rfl | trivial),by omega,unhide hxn,unhide hn8',by have := unhide hn8b; omega,unhide hP,rfl⟩
     ·skip
      have q0 := (unhide hP).cell 1 0 (v := .slice (some ⟨bi,0,none⟩) n ci) rfl rfl
      have hself := Ext.refl wr
      have c0 := id_at ((unhide hP).row 2 rfl) (unhide hR).rep.li (unhide hyx)
      try dsimp only
      repeat ((fail_if_success (with_reducible refine wp_reg (id := 15) ?_)); (first | go_values | go_skip | go_step | go_guarded | go_upon | go_in | go_back | fail))
      with_reducible refine wp_reg (id := 15) ?_
      iterate 6
       refine wpO_want rfl ?_
       go_simp
      clear q0 c0 hself
      refine (unhide hP).build1O 3 #[.int .i64 y] rfl (run_build1 rfl rfl) ?_
      intro bb y5 hQ
      replace hP : Hid (Sp w [] w [] [(r2,41, #[.slice A nV cA, .slice B nE cB]),(r5,109, #[.slice (some ⟨bi,0,none⟩) n ci, .slice (some ⟨bt,0,none⟩) n ct, .slice An n cn]),(bb,3, #[.int .i64 y])] ((3,1, .slice A8 n8 c8,n8,xs.flatMap encI) :: (4,1, .slice (some ⟨bt,0,none⟩) n ct,n,th.flatMap encB) :: (3,1, .slice (some ⟨bi,0,none⟩) n ci,n,L0.flatMap encI) :: (106,1, .slice An n cn,n,(bs.map (hdrP n)).flatMap encSl) :: nearM n bs nb) y5) := hide hQ
      clear hQ
      go_frame
      refine (unhide hP).ap1O (enc := encI) (T := 3) (ST := 30) 0 (v := .slice A8 n8 c8) (m := n8) (xs := xs) rfl rfl infoI Tryz.underlying30 one_encI (fun _ => rfl) (by decide) (by decide) rfl y rfl rfl ((unhide hP).get 2 rfl) (by have := unhide hn8b; omega) ?_
      intro A9 cA9 y6 hQ
      replace hP : Hid (Sp w [] w [] [(r2,41, #[.slice A nV cA, .slice B nE cB]),(r5,109, #[.slice (some ⟨bi,0,none⟩) n ci, .slice (some ⟨bt,0,none⟩) n ct, .slice An n cn]),(bb,3, #[.int .i64 y])] ((3,1, .slice A9 (n8 + 1) cA9,n8 + 1,(xs ++ [y]).flatMap encI) :: (4,1, .slice (some ⟨bt,0,none⟩) n ct,n,th.flatMap encB) :: (3,1, .slice (some ⟨bi,0,none⟩) n ci,n,L0.flatMap encI) :: (106,1, .slice An n cn,n,(bs.map (hdrP n)).flatMap encSl) :: nearM n bs nb) y6) := hide hQ
      clear hQ
      try go_frame
      refine wpO_want rfl ?_
      go_simp
      refine wpO_done ?_
      try go_frame
      replace hP : Hid (Sp w [] w [] [(r2,41, #[.slice A nV cA, .slice B nE cB]),(r5,109, #[.slice (some ⟨bi,0,none⟩) n ci, .slice (some ⟨bt,0,none⟩) n ct, .slice An n cn])] ((3,1, .slice A9 (n8 + 1) cA9,n8 + 1,(xs ++ [y]).flatMap encI) :: (4,1, .slice (some ⟨bt,0,none⟩) n ct,n,th.flatMap encB) :: (3,1, .slice (some ⟨bi,0,none⟩) n ci,n,L0.flatMap encI) :: (106,1, .slice An n cn,n,(bs.map (hdrP n)).flatMap encSl) :: nearM n bs nb) y6) := hide ((unhide hP).sub (List.sublist_append_left _ ([(bb,3, #[.int .i64 y])] : List Cl)) (List.Sublist.refl _))
      have hxn := hide (show xs ++ [y] = thL L0 th (i + 1) by rw [thL_succ, ← unhide hx',if_pos rfl, ← unhide hy',unhide hxs'])
      have hw1 : IntKind.i64.wrap ((i : Int) + 1) = (i : Int) + 1 := IntWalk.i64_in _ (by omega)
      go_wp2_with fail
      have h3 := unhide hk2
      refine ⟨n - (i + 1), ?_,by have := unhide hfm'; omega⟩
      rw [unhide hI4_6]
      exact ⟨i + 1,A9,n8 + 1,cA9,xs ++ [y],(by first | rfl | trivial),(by first | rfl | trivial),(by first | rfl | trivial),(by first | rfl | (show _ = Value.int _ _; go_num) | go_num),(by first | rfl | trivial),by omega,unhide hxn,by rw [List.length_append, ← unhide hn8']; rfl,by have := unhide hn8b; omega,unhide hP,rfl⟩
    ·have hil : ¬ (i : Int) < (n : Int) := by omega
     obtain rfl : n = i := by omega
     clear hlt hin hfm'
     have q0 := (unhide hP).cell 1 0 (v := .slice Ai n ci) rfl rfl
     have hself := Ext.refl wr
     try dsimp only
     repeat ((fail_if_success (with_reducible refine wp_reg (id := 12) ?_)); (first | go_values | go_skip | go_step | go_guarded | go_upon | go_in | go_back | fail))
     with_reducible refine wp_reg (id := 12) ?_
     iterate 5
      refine wpO_want rfl ?_
      go_simp
     refine wpO_done ?_
     try go_frame
     clear q0 hself
     try dsimp only
     repeat ((fail_if_success (with_reducible refine wp_reg (id := 16) ?_)); (first | go_values | go_skip | go_step | go_guarded | go_upon | go_in | go_back | fail))
     with_reducible refine wp_reg (id := 16) ?_
     iterate 2
      refine wpO_want rfl ?_
      go_simp
     refine wpO_done ?_
     try go_frame
     go_wp2_with fail
     refine (unhide hP).leaves ?_
     intro w' hx hst
     refine ⟨_,results_tmp (t := 4) rfl _ _ _, ?_⟩
     have ho := hst.row 0 rfl
     have he : xs = D := by rw [unhide hxs',unhide hCo,unhide hD']
     rw [he] at ho hn8'
     exact OwL.mk (unhide hn8') ho hx
  ·skip
   obtain ⟨l0,hl0⟩ : ∃ l0,l0 = (thL L0 th n).length := ⟨_,rfl⟩
   have hlf := hide (show l0 < fi by rw [hl0]; exact unhide hmt' rfl)
   have hl0' := hide hl0
   clear hl0 hmt' hmf'
   try dsimp only
   repeat ((fail_if_success (with_reducible refine wp_reg (id := 3) ?_)); (first | go_values | go_skip | go_step | go_guarded | go_upon | go_in | go_back | fail))
   with_reducible refine wp_reg (id := 3) ?_
   refine wpO_want rfl ?_
   go_simp
   refine wpO_done ?_
   try go_frame
   try dsimp only
   repeat ((fail_if_success (with_reducible refine wp_reg (id := 4) ?_)); (first | go_values | go_skip | go_step | go_guarded | go_upon | go_in | go_back | fail))
   with_reducible refine wp_reg (id := 4) ?_
   refine wpO_want rfl ?_
   go_simp
   refine wpO_done ?_
   try go_frame
   try dsimp only
   repeat ((fail_if_success (with_reducible refine wp_reg (id := 5) ?_)); (first | go_values | go_skip | go_step | go_guarded | go_upon | go_in | go_back | fail))
   with_reducible refine wp_reg (id := 5) ?_
   refine wpO_want rfl ?_
   go_simp
   refine wpO_done ?_
   try go_frame
   go_wp2_with fail
   obtain ⟨I4_6,hI4_60⟩ : ∃ I : Nat → Act → World → Prop,I = fun fj a' wr => ∃ (i : Nat), ∃ (th : List Bool), ∃ (mo : Bool),a'.tmps.size = 57 ∧ a'.tmps.getD 1 undef = .int .i64 k ∧ a'.tmps.getD 5 undef = .pointer (some ⟨r5,0,none⟩) ∧ a'.tmps.getD 6 undef = .bool mo ∧ a'.tmps.getD 7 undef = .int .i64 (i : Nat) ∧ a'.defers = [] ∧ i ≤ n ∧ CorI L0 th nb n near k ∧ (thL L0 th n).length + (if mo = true then 1 else 0) ≤ l0 ∧ (mo = false → ∀ j,j < i → th.getD j false = true → k ≤ (degB th nb n j : Int)) ∧ Sp w [] w [] [(r2,41, #[.slice A nV cA, .slice B nE cB]),(r5,109, #[.slice Ai n ci, .slice At n ct, .slice An n cn])] ((3,1, .slice none 0 0,0,([] : List Int).flatMap encI) :: (4,1, .slice At n ct,n,th.flatMap encB) :: (3,1, .slice Ai n ci,n,L0.flatMap encI) :: (106,1, .slice An n cn,n,(bs.map (hdrP n)).flatMap encSl) :: nearM n bs nb) wr ∧ fj = n - i := ⟨_,rfl⟩
   have hI4_6 := hide hI4_60
   clear hI4_60
   refine wp_loop_ix I4_6 (n - 0) ?_ ?_
   ·rw [unhide hI4_6]; exact ⟨0,th,false,rfl,rfl,rfl,rfl,rfl,rfl,Nat.zero_le _,unhide hR,(by rw [unhide hl0']; exact Nat.le_refl _),(fun _ j hj => absurd hj (Nat.not_lt_zero j)),unhide hP,rfl⟩
   ·rintro fj ⟨tm,dfs⟩ wr hrel
    rw [unhide hI4_6] at hrel
    obtain ⟨i,th,mo,hsz,e1,e5,e6,e7,hdf,hin,hRr,hmt,hmf,hPr,hfj⟩ := hrel
    obtain ⟨us,rfl⟩ : ∃ us : Nat → Value,tm = #[us 0,us 1,us 2,us 3,us 4,us 5,us 6,us 7,us 8,us 9,us 10,us 11,us 12,us 13,us 14,us 15,us 16,us 17,us 18,us 19,us 20,us 21,us 22,us 23,us 24,us 25,us 26,us 27,us 28,us 29,us 30,us 31,us 32,us 33,us 34,us 35,us 36,us 37,us 38,us 39,us 40,us 41,us 42,us 43,us 44,us 45,us 46,us 47,us 48,us 49,us 50,us 51,us 52,us 53,us 54,us 55,us 56] := ⟨fun i => tm.getD i undef,arr_fn hsz⟩
    have h1 : us 1 = .int .i64 k := e1
    have h5 : us 5 = .pointer (some ⟨r5,0,none⟩) := e5
    have h6 : us 6 = .bool mo := e6
    have h7 : us 7 = .int .i64 (i : Nat) := e7
    have hdf2 : dfs = [] := hdf
    subst hdf2
    clear hdf hsz e1 e5 e6 e7
    simp only [h1,h5,h6,h7]
    clear h1 h5 h6 h7
    clear hP hR hl0'
    have hP := hide hPr
    have hR := hide hRr
    have hmt' := hide hmt
    have hmf' := hide hmf
    have hfj' := hide hfj
    clear hPr hRr hmt hmf hfj
    by_cases hlt : i < n
    ·have hil : (i : Int) < (n : Int) := by omega
     have hk2 := hide hlt
     have hkb : (i : Int) ≤ 100 := by have := unhide hn100; omega
     obtain ⟨bt,rfl⟩ := own_some1 ((unhide hP).row 1 rfl) (by omega)
     obtain ⟨bi,rfl⟩ := own_some1 ((unhide hP).row 2 rfl) (by omega)
     have hil1 : i < L0.length := by rw [← unhide hnl]; exact hlt
     obtain ⟨y,hy⟩ : ∃ y,y = L0.getD i 0 := ⟨_,rfl⟩
     have hyx := hide (show L0[i]? = some y by rw [hy,List.getD_eq_getElem?_getD,List.getElem?_eq_getElem hil1]; rfl)
     have hy' := hide hy
     obtain ⟨x,hx⟩ : ∃ x,x = th.getD i false := ⟨_,rfl⟩
     have hx' := hide hx
     have hil3 : i < th.length := by rw [(unhide hR).rep.lt]; exact hlt
     have htl := hide hil3
     have ht := hide (th_at ((unhide hP).row 1 rfl) (unhide hR).rep.lt (show th[i]? = some x by rw [hx,List.getD_eq_getElem?_getD,List.getElem?_eq_getElem hil3]; rfl))
     clear hlt hin hil1 hy hx hil3
     obtain ⟨dg,hdg⟩ : ∃ dg,dg = degB th nb n i := ⟨_,rfl⟩
     have hdg' := hide hdg
     have hnm := hide (unhide hk2)
     clear hdg
     have q0 := (unhide hP).cell 1 0 (v := .slice (some ⟨bi,0,none⟩) n ci) rfl rfl
     have hself := Ext.refl wr
     try dsimp only
     repeat ((fail_if_success (with_reducible refine wp_reg (id := 6) ?_)); (first | go_values | go_skip | go_step | go_guarded | go_upon | go_in | go_back | fail))
     with_reducible refine wp_reg (id := 6) ?_
     iterate 5
      refine wpO_want rfl ?_
      go_simp
     refine wpO_done ?_
     try go_frame
     clear q0 hself
     have q1 := (unhide hP).cell 1 1 (v := .slice (some ⟨bt,0,none⟩) n ct) rfl rfl
     have hself := Ext.refl wr
     have c0 := unhide ht
     cases x
     ·skip
      try dsimp only
      repeat ((fail_if_success (with_reducible refine wp_reg (id := 8) ?_)); (first | go_values | go_skip | go_step | go_guarded | go_upon | go_in | go_back | fail))
      with_reducible refine wp_reg (id := 8) ?_
      iterate 6
       refine wpO_want rfl ?_
       go_simp
      refine wpO_out (by rfl) ?_
      go_frame
      refine wpO_out (by rfl) ?_
      go_frame
      refine wpO_out (by rfl) ?_
      go_frame
      refine wpO_out (by rfl) ?_
      go_frame
      refine wpO_out (by rfl) ?_
      go_frame
      refine wpO_want rfl ?_
      go_simp
      refine wpO_done ?_
      try go_frame
      have hRn := hR
      clear q1 hself c0 ht
      have hw1 : IntKind.i64.wrap ((i : Int) + 1) = (i : Int) + 1 := IntWalk.i64_in _ (by omega)
      have hmtn := hide (show (thL L0 th n).length + (if mo = true then 1 else 0) ≤ l0 by exact unhide hmt')
      have hmfn := hide (show mo = false → ∀ j,j < i + 1 → th.getD j false = true → k ≤ (degB th nb n j : Int) by
       intro h j hj hjt
       by_cases hji : j < i
       ·exact unhide hmf' h j hji hjt
       ·obtain rfl : j = i := by omega
        rw [← unhide hx'] at hjt; cases hjt)
      go_wp2_with fail
      have h3 := unhide hk2
      refine ⟨n - (i + 1), ?_,by have := unhide hfj'; omega⟩
      rw [unhide hI4_6]
      exact ⟨i + 1,th,mo,(by first | rfl | trivial),(by first | rfl | trivial),(by first | rfl | trivial),(by first | rfl | trivial),(by first | rfl | (show _ = Value.int _ _; go_num) | go_num),(by first | rfl | trivial),by omega,unhide hRn,unhide hmtn,unhide hmfn,unhide hP,rfl⟩
     ·skip
      by_cases hdk : (dg : Int) < k
      ·skip
       have hdk2 := hide hdk
       try dsimp only
       repeat ((fail_if_success (with_reducible refine wp_reg (id := 8) ?_)); (first | go_values | go_skip | go_step | go_guarded | go_upon | go_in | go_back | fail))
       with_reducible refine wp_reg (id := 8) ?_
       iterate 6
        refine wpO_want rfl ?_
        go_simp
       refine wpO_val rfl (run_load_agg (cs := #[.slice (some ⟨bi,0,none⟩) n ci, .slice (some ⟨bt,0,none⟩) n ct, .slice An n cn]) rfl rfl (by simp [go_sem]) (by simp [go_sem]) ((unhide hP).get 1 rfl).whole) ?_
       go_frame
       refine wpO_want rfl ?_
       go_simp
       refine wpO_want rfl ?_
       go_simp
       have hca := degree22_any (some ⟨bi,0,none⟩) (some ⟨bt,0,none⟩) An n ci ct cn L0 th nb (bs.map (hdrP n)) i wr (((unhide hP).sub (List.Sublist.refl _) (List.sublist_cons_self _ _)).pat (by have := unhide hn100; omega) (unhide hR).rep.li (unhide hR).rep.lt (unhide hsq)) (unhide hk2)
       rw [← unhide hdg'] at hca
       refine (hca).mono ?_
       rintro _ y5 ⟨rfl,hxc⟩
       clear hca
       refine ⟨_,rfl, ?_⟩
       replace hP : Hid (Sp w [] w [] [(r2,41, #[.slice A nV cA, .slice B nE cB]),(r5,109, #[.slice (some ⟨bi,0,none⟩) n ci, .slice (some ⟨bt,0,none⟩) n ct, .slice An n cn])] ((3,1, .slice none 0 0,0,([] : List Int).flatMap encI) :: (4,1, .slice (some ⟨bt,0,none⟩) n ct,n,th.flatMap encB) :: (3,1, .slice (some ⟨bi,0,none⟩) n ci,n,L0.flatMap encI) :: (106,1, .slice An n cn,n,(bs.map (hdrP n)).flatMap encSl) :: nearM n bs nb) y5) := hide ((unhide hP).ext hxc)
       clear hxc
       iterate 3
        refine wpO_want rfl ?_
        go_simp
       refine wpO_done ?_
       try go_frame
       clear q1 hself c0 ht hdk
       have q1 := (unhide hP).cell 1 1 (v := .slice (some ⟨bt,0,none⟩) n ct) rfl rfl
       have hself := Ext.refl y5
       try dsimp only
       repeat ((fail_if_success (with_reducible refine wp_reg (id := 9) ?_)); (first | go_values | go_skip | go_step | go_guarded | go_upon | go_in | go_back | fail))
       with_reducible refine wp_reg (id := 9) ?_
       iterate 4
        refine wpO_want rfl ?_
        go_simp
       refine (unhide hP).putO (enc := encB) (f := fun q => .bool q) (fun _ => rfl) (fun _ => rfl) (fun _ => rfl) 1 false rfl rfl (q := i) rfl (by first | rfl | go_simp) rfl (by simp [go_sem]) (unhide htl) ?_
       intro y6 hQ
       replace hP : Hid (Sp w [] w [] [(r2,41, #[.slice A nV cA, .slice B nE cB]),(r5,109, #[.slice (some ⟨bi,0,none⟩) n ci, .slice (some ⟨bt,0,none⟩) n ct, .slice An n cn])] ((3,1, .slice none 0 0,0,([] : List Int).flatMap encI) :: (4,1, .slice (some ⟨bt,0,none⟩) n ct,n,(th.set i false).flatMap encB) :: (3,1, .slice (some ⟨bi,0,none⟩) n ci,n,L0.flatMap encI) :: (106,1, .slice An n cn,n,(bs.map (hdrP n)).flatMap encSl) :: nearM n bs nb) y6) := hide hQ
       clear hQ q1 hself
       go_frame
       refine wpO_want rfl ?_
       go_simp
       refine wpO_done ?_
       try go_frame
       have hRn := hide ((unhide hR).drop (unhide hk2) (unhide hx').symm (by rw [← unhide hdg']; exact unhide hdk2))
       skip
       have hw1 : IntKind.i64.wrap ((i : Int) + 1) = (i : Int) + 1 := IntWalk.i64_in _ (by omega)
       have hmtn := hide (show (thL L0 (th.set i false) n).length + (if true = true then 1 else 0) ≤ l0 by have h1 := (unhide hR).len (unhide hk2) (unhide hx').symm; have h2 := unhide hmt'; rw [if_pos rfl]; split at h2 <;> omega)
       have hmfn := hide (show true = false → ∀ j,j < i + 1 → (th.set i false).getD j false = true → k ≤ (degB (th.set i false) nb n j : Int) by
        intro h; cases h)
       go_wp2_with fail
       have h3 := unhide hk2
       refine ⟨n - (i + 1), ?_,by have := unhide hfj'; omega⟩
       rw [unhide hI4_6]
       exact ⟨i + 1,(th.set i false),true,(by first | rfl | trivial),(by first | rfl | trivial),(by first | rfl | trivial),(by first | rfl | trivial),(by first | rfl | (show _ = Value.int _ _; go_num) | go_num),(by first | rfl | trivial),by omega,unhide hRn,unhide hmtn,unhide hmfn,unhide hP,rfl⟩
      ·skip
       have hdk2 := hide hdk
       try dsimp only
       repeat ((fail_if_success (with_reducible refine wp_reg (id := 8) ?_)); (first | go_values | go_skip | go_step | go_guarded | go_upon | go_in | go_back | fail))
       with_reducible refine wp_reg (id := 8) ?_
       iterate 6
        refine wpO_want rfl ?_
        go_simp
       refine wpO_val rfl (run_load_agg (cs := #[.slice (some ⟨bi,0,none⟩) n ci, .slice (some ⟨bt,0,none⟩) n ct, .slice An n cn]) rfl rfl (by simp [go_sem]) (by simp [go_sem]) ((unhide hP).get 1 rfl).whole) ?_
       go_frame
       refine wpO_want rfl ?_
       go_simp
       refine wpO_want rfl ?_
       go_simp
       have hca := degree22_any (some ⟨bi,0,none⟩) (some ⟨bt,0,none⟩) An n ci ct cn L0 th nb (bs.map (hdrP n)) i wr (((unhide hP).sub (List.Sublist.refl _) (List.sublist_cons_self _ _)).pat (by have := unhide hn100; omega) (unhide hR).rep.li (unhide hR).rep.lt (unhide hsq)) (unhide hk2)
       rw [← unhide hdg'] at hca
       refine (hca).mono ?_
       rintro _ y5 ⟨rfl,hxc⟩
       clear hca
       refine ⟨_,rfl, ?_⟩
       replace hP : Hid (Sp w [] w [] [(r2,41, #[.slice A nV cA, .slice B nE cB]),(r5,109, #[.slice (some ⟨bi,0,none⟩) n ci, .slice (some ⟨bt,0,none⟩) n ct, .slice An n cn])] ((3,1, .slice none 0 0,0,([] : List Int).flatMap encI) :: (4,1, .slice (some ⟨bt,0,none⟩) n ct,n,th.flatMap encB) :: (3,1, .slice (some ⟨bi,0,none⟩) n ci,n,L0.flatMap encI) :: (106,1, .slice An n cn,n,(bs.map (hdrP n)).flatMap encSl) :: nearM n bs nb) y5) := hide ((unhide hP).ext hxc)
       clear hxc
       iterate 3
        refine wpO_want rfl ?_
        go_simp
       refine wpO_done ?_
       try go_frame
       clear hdk
       have hRn := hR
       clear q1 hself c0 ht
       have hw1 : IntKind.i64.wrap ((i : Int) + 1) = (i : Int) + 1 := IntWalk.i64_in _ (by omega)
       have hmtn := hide (show (thL L0 th n).length + (if mo = true then 1 else 0) ≤ l0 by exact unhide hmt')
       have hmfn := hide (show mo = false → ∀ j,j < i + 1 → th.getD j false = true → k ≤ (degB th nb n j : Int) by
        intro h j hj hjt
        by_cases hji : j < i
        ·exact unhide hmf' h j hji hjt
        ·obtain rfl : j = i := by omega
         rw [← unhide hdg']; exact Int.not_lt.1 (unhide hdk2))
       go_wp2_with fail
       have h3 := unhide hk2
       refine ⟨n - (i + 1), ?_,by have := unhide hfj'; omega⟩
       rw [unhide hI4_6]
       exact ⟨i + 1,th,mo,(by first | rfl | trivial),(by first | rfl | trivial),(by first | rfl | trivial),(by first | rfl | trivial),(by first | rfl | (show _ = Value.int _ _; go_num) | go_num),(by first | rfl | trivial),by omega,unhide hRn,unhide hmtn,unhide hmfn,unhide hP,rfl⟩
    ·have hil : ¬ (i : Int) < (n : Int) := by omega
     obtain rfl : n = i := by omega
     clear hlt hin hfj'
     have q0 := (unhide hP).cell 1 0 (v := .slice Ai n ci) rfl rfl
     have hself := Ext.refl wr
     try dsimp only
     repeat ((fail_if_success (with_reducible refine wp_reg (id := 6) ?_)); (first | go_values | go_skip | go_step | go_guarded | go_upon | go_in | go_back | fail))
     with_reducible refine wp_reg (id := 6) ?_
     iterate 5
      refine wpO_want rfl ?_
      go_simp
     refine wpO_done ?_
     try go_frame
     clear q0 hself
     go_wp2_with fail
     refine ⟨fi - 1, ?_,by have := unhide hlf; omega⟩
     rw [unhide hI4_2]
     exact ⟨th,mo,(by first | rfl | trivial),(by first | rfl | trivial),(by first | rfl | trivial),(by first | rfl | trivial),(by first | rfl | trivial),unhide hR,(by intro h; have h1 := unhide hmt'; rw [if_pos h] at h1; have := unhide hlf; omega),unhide hmf',unhide hP⟩
end Go.Proofs.YtoacpebmhbkmbaaGreatDoor
namespace Go.Proofs.YtoacpebmhbkmbaaGreatDoor
open Go Go.RowKit Go.Shelf
attribute [local go_sem] qUpon lUpon
attribute [local irreducible] wpO wpX wpQL
theorem to_isg {g bv be : Nat} {V : List (Int × Thing)} {E : List ((Int × Int) × Thing)} {w : World} (hg : IsG w g bv be V E) : Calls Tryz.prog 37 #[.pointer (some ⟨g,0,none⟩)] w fun e w' => ∃ A cA B cB,e = .returned (.agg #[.slice A V.length cA, .slice B E.length cB]) ∧ SlAt encV 3 w' A V ∧ SlAt encE 4 w' B E ∧ Ext w w' := by
 have n1 := hg.nV
 have n2 := hg.nE
 obtain ⟨V',E',h1,hV,hE,hi⟩ := hg
 exact to_any g bv be V' V E' E w h1 hV hi.sv hE hi.se (by rw [← hV.length_eq]; exact n1) (by rw [← hE.length_eq]; exact n2)
set_option maxRecDepth 100000 in
set_option maxHeartbeats 16000000 in
theorem boundsDegeneracy_walk (A : Option Addr) (L : List Ed) (cL : Nat) (k : Int) (w : World) (hL : SlAt encD 5 w A L) (hl : L.length ≤ 9223372036854775807) (hc : L.length ≤ cL) (_hk : i64ok k) (hT : Tab w) :
  Calls Tryz.prog 9 #[.slice A L.length cL, .int .i64 k] w fun e w' => e = .returned (.bool true) ∧ Ext w w' := by
 have hL' := hide hL
 have hl' := hide hl
 have hc' := hide hc
 have hT' := hide hT
 have hi := hide (show GInv (bgS L).1 (bgS L).2 from mdS_inv (L.take 40))
 have hVl := hide (show (bgS L).1.length ≤ 100 from bgS_len L)
 clear hL hl hc hT
 have hP := hide (Sp.new w)
 refine callsIn_wide.1 (callsIn_of_wp_marks (n := 0) Tryz.func9 rfl trivial (wpIn_wide.2 ?_))
 simp only [Tryz.ntmps9,List.size_toArray,List.length_cons,List.length_nil,Nat.reduceAdd,Nat.reduceSub,Array.replicate_succ,Array.replicate_zero,List.push_toArray,List.append_toArray,List.nil_append,List.cons_append]
 try dsimp only
 repeat ((fail_if_success (with_reducible refine wp_reg (id := 1) ?_)); (first | go_values | go_skip | go_step | go_guarded | go_upon | go_in | go_back | fail))
 with_reducible refine wp_reg (id := 1) ?_
 refine wpO_want rfl ?_
 go_simp
 refine wpO_want rfl ?_
 go_simp
 have hca := begun22_any A L cL w ((unhide hL').ext (unhide hP).extf) (unhide hl') (unhide hc')
 generalize bgS L = S at *
 obtain ⟨V,E⟩ := S
 try dsimp only at hi hca ⊢
 refine hca.mono ?_
 clear hca
 rintro _ y1 ⟨g,bv,be,A1,B1,cA,cB,rfl,hg0,hs0,he0,hxc⟩
 refine ⟨_,rfl, ?_⟩
 replace hP : Hid (Sp w [] w [] [] [] y1) := hide ((unhide hP).ext hxc)
 have hg := hide hg0
 have hsV := hide hs0
 have hsE := hide he0
 obtain ⟨q,hq⟩ : ∃ q,q = decide ((L.length : Int) ≤ 40) := ⟨_,rfl⟩
 rw [← hq]
 have hnV := hide hg0.nV
 have hnE := hide hg0.nE
 clear hxc hg0 hs0 he0 hq
 generalize htu0 : Value.tuple _ = tu
 have htu := hide htu0
 clear htu0
 refine wpO_val rfl (run_move rfl rfl) ?_
 go_frame
 refine wpO_val rfl (run_extract (i := 0) (v := .pointer (some ⟨g,0,none⟩)) rfl (unhide htu).symm rfl) ?_
 go_frame
 refine wpO_val rfl (run_extract (i := 1) (v := .agg #[.slice A1 V.length cA, .slice B1 E.length cB]) rfl (unhide htu).symm rfl) ?_
 go_frame
 refine wpO_val rfl (run_extract (i := 2) (v := .bool q) rfl (unhide htu).symm rfl) ?_
 go_frame
 refine (unhide hP).allocT 41 #[.slice none 0 0, .slice none 0 0] rfl (by go_simp) ?_
 intro r6 y2 hQ hxa hga
 replace hP : Hid (Sp w [] w [] [(r6,41, #[.slice none 0 0, .slice none 0 0])] [] y2) := hide hQ
 clear hQ
 try go_frame
 refine wpO_want rfl ?_
 go_simp
 refine (unhide hP).setT 0 #[.slice A1 V.length cA, .slice B1 E.length cB] rfl rfl (fun hb => run_store_row (v := .agg #[.slice A1 V.length cA, .slice B1 E.length cB]) rfl (by rfl) (by rfl) (by simp [go_sem]) hb rfl (fun u hu => by simp [Value.cells] at hu; rcases hu with rfl | rfl <;> rfl)) ?_
 intro y3 hQ hkq
 replace hP : Hid (Sp w [] w [] [(r6,41, #[.slice A1 V.length cA, .slice B1 E.length cB])] [] y3) := hide hQ
 have hxs := hxa.of_new hkq (fun x hx => by rw [List.mem_singleton] at hx; rw [hx]; exact hga)
 clear hQ hkq hxa hga
 try go_frame
 replace hg := hide ((unhide hg).ext (hxs))
 replace hsV := hide ((unhide hsV).ext (hxs))
 replace hsE := hide ((unhide hsE).ext (hxs))
 clear hxs
 refine wpO_want rfl ?_
 go_simp
 refine wpO_done ?_
 try go_frame
 clear htu
 try dsimp only
 repeat ((fail_if_success (with_reducible refine wp_reg (id := 2) ?_)); (first | go_values | go_skip | go_step | go_guarded | go_upon | go_in | go_back | fail))
 with_reducible refine wp_reg (id := 2) ?_
 refine wpO_want rfl ?_
 go_simp
 have hca := known22_any y3 ((unhide hT').ext (unhide hP).extf)
 refine (hca).mono ?_
 rintro _ y4 ⟨rfl,hxc⟩
 clear hca
 refine ⟨_,rfl, ?_⟩
 replace hP : Hid (Sp w [] w [] [(r6,41, #[.slice A1 V.length cA, .slice B1 E.length cB])] [] y4) := hide ((unhide hP).ext hxc)
 replace hg := hide ((unhide hg).ext (hxc))
 replace hsV := hide ((unhide hsV).ext (hxc))
 replace hsE := hide ((unhide hsE).ext (hxc))
 clear hxc
 cases q
 ·skip
  iterate 5
   refine wpO_want rfl ?_
   go_simp
  refine wpO_done ?_
  try go_frame
  try dsimp only
  repeat ((fail_if_success (with_reducible refine wp_reg (id := 3) ?_)); (first | go_values | go_skip | go_step | go_guarded | go_upon | go_in | go_back | fail))
  with_reducible refine wp_reg (id := 3) ?_
  refine wpO_want rfl ?_
  go_simp
  have hca := known22_any y4 ((unhide hT').ext (unhide hP).extf)
  refine (hca).mono ?_
  rintro _ y5 ⟨rfl,hxc⟩
  clear hca
  refine ⟨_,rfl, ?_⟩
  replace hP : Hid (Sp w [] w [] [(r6,41, #[.slice A1 V.length cA, .slice B1 E.length cB])] [] y5) := hide ((unhide hP).ext hxc)
  replace hg := hide ((unhide hg).ext (hxc))
  replace hsV := hide ((unhide hsV).ext (hxc))
  replace hsE := hide ((unhide hsE).ext (hxc))
  clear hxc
  refine wpO_want rfl ?_
  go_simp
  refine wpO_done ?_
  try go_frame
  go_wp2_with fail
  refine Sp.leaves0 ?_
  exact ⟨_,results_tmp rfl _ _ _,rfl,(unhide hP).extf⟩
 ·skip
  iterate 5
   refine wpO_want rfl ?_
   go_simp
  refine wpO_done ?_
  try go_frame
  obtain ⟨z,hz⟩ : ∃ z,z = dgnP (nr0 E) (toL (vS V)).length (toL (vS V)) := ⟨_,rfl⟩
  obtain ⟨O,hO⟩ : ∃ O,O = (degS (nr0 E) (toL (vS V)).length (toL (vS V))).map (·.1) := ⟨_,rfl⟩
  obtain ⟨C,hC⟩ : ∃ C,C = corS (nr0 E) k (toL (vS V)).length (toL (vS V)) := ⟨_,rfl⟩
  obtain ⟨nO,hnO⟩ : ∃ nO,nO = O.length := ⟨_,rfl⟩
  obtain ⟨nC,hnC⟩ : ∃ nC,nC = C.length := ⟨_,rfl⟩
  have hOb := hide (show nO ≤ 100000 by rw [hnO,hO,List.length_map]; rw [degS_len _ _ _ (Nat.le_refl _)]; exact Nat.le_trans (toL_len_le _) (by decide))
  have hCb := hide (show nC ≤ 100000 by rw [hnC,hC]; exact Nat.le_trans (corS_subL _ _ _ _).length_le (Nat.le_trans (toL_len_le _) (by decide)))
  have hz' := hide hz
  have hO' := hide hO
  have hC' := hide hC
  have hnO' := hide hnO
  have hnC' := hide hnC
  clear hz hO hC hnO hnC
  try dsimp only
  repeat ((fail_if_success (with_reducible refine wp_reg (id := 4) ?_)); (first | go_values | go_skip | go_step | go_guarded | go_upon | go_in | go_back | fail))
  with_reducible refine wp_reg (id := 4) ?_
  refine wpO_want rfl ?_
  go_simp
  refine wpO_want rfl ?_
  go_simp
  have hca := degeneracy_any (some ⟨g,0,none⟩) V E y4 (GL.of (unhide hg)) (unhide hi) ((unhide hT').ext (unhide hP).extf)
  rw [← unhide hz', ← unhide hO'] at hca
  refine hca.mono ?_
  clear hca
  rintro _ y5 ⟨Ao,co,rfl,ho,hxc⟩
  rw [← unhide hnO'] at ho
  rw [← unhide hnO']
  refine ⟨_,rfl, ?_⟩
  replace hP : Hid (Sp w [] w [] [(r6,41, #[.slice A1 V.length cA, .slice B1 E.length cB])] [(3,1, .slice Ao nO co,nO,O.flatMap encI)] y5) := hide ((unhide hP).addRow hxc ho)
  replace hg := hide ((unhide hg).ext (hxc))
  replace hsV := hide ((unhide hsV).ext (hxc))
  replace hsE := hide ((unhide hsE).ext (hxc))
  clear hxc ho
  generalize htu0 : Value.tuple _ = tu
  have htu := hide htu0
  clear htu0
  refine wpO_val rfl (run_move rfl rfl) ?_
  go_frame
  refine wpO_val rfl (run_extract (i := 0) (v := .int .i64 z) rfl (unhide htu).symm rfl) ?_
  go_frame
  refine wpO_val rfl (run_extract (i := 1) (v := .slice Ao nO co) rfl (unhide htu).symm rfl) ?_
  go_frame
  iterate 2
   refine wpO_want rfl ?_
   go_simp
  refine wpO_done ?_
  try go_frame
  clear htu
  try dsimp only
  repeat ((fail_if_success (with_reducible refine wp_reg (id := 5) ?_)); (first | go_values | go_skip | go_step | go_guarded | go_upon | go_in | go_back | fail))
  with_reducible refine wp_reg (id := 5) ?_
  refine wpO_val rfl (run_load_agg (cs := #[.slice A1 V.length cA, .slice B1 E.length cB]) rfl rfl (by simp [go_sem]) (by simp [go_sem]) ((unhide hP).get 0 rfl).whole) ?_
  go_frame
  refine wpO_want rfl ?_
  go_simp
  have hca := degenerate22_any A1 B1 V E cA cB y5 (unhide hsV) (unhide hsE) (unhide hi) (unhide hVl)
  rw [← unhide hz', ← unhide hO'] at hca
  refine hca.mono ?_
  clear hca
  rintro _ y6 ⟨Au,cu,rfl,ho,hxc⟩
  rw [← unhide hnO'] at ho
  rw [← unhide hnO']
  refine ⟨_,rfl, ?_⟩
  replace hP : Hid (Sp w [] w [] [(r6,41, #[.slice A1 V.length cA, .slice B1 E.length cB])] [(3,1, .slice Ao nO co,nO,O.flatMap encI),(3,1, .slice Au nO cu,nO,O.flatMap encI)] y6) := hide ((unhide hP).addRow hxc ho)
  replace hg := hide ((unhide hg).ext (hxc))
  replace hsV := hide ((unhide hsV).ext (hxc))
  replace hsE := hide ((unhide hsE).ext (hxc))
  clear hxc ho
  generalize htu0 : Value.tuple _ = tu
  have htu := hide htu0
  clear htu0
  refine wpO_val rfl (run_move rfl rfl) ?_
  go_frame
  refine wpO_val rfl (run_extract (i := 0) (v := .int .i64 z) rfl (unhide htu).symm rfl) ?_
  go_frame
  refine wpO_val rfl (run_extract (i := 1) (v := .slice Au nO cu) rfl (unhide htu).symm rfl) ?_
  go_frame
  iterate 2
   refine wpO_want rfl ?_
   go_simp
  refine wpO_done ?_
  try go_frame
  clear htu
  go_wp2_with fail
  have hself := Keep.refl [] y6
  have hbz : (z == z) = true := beq_self_eq_true z
  have hsm := hide (fun (W : World) (hW : Ext y6 W) => same_ints Ao Au O O nO nO co cu W ((own_at (enc := encI) (c := co) (by have h := (unhide hP).row 0 rfl; rw [unhide hnO'] at h; exact h) (fun _ => rfl)).ext hW) ((own_at (enc := encI) (c := cu) (by have h := (unhide hP).row 1 rfl; rw [unhide hnO'] at h; exact h) (fun _ => rfl)).ext hW) (unhide hnO') (unhide hnO') (unhide hOb) (unhide hOb))
  refine wp_regionK (P := Tryz.prog) [] [0,1,2,3,4,5,6,7,8,9,10,12,13] [] 11 #[true,true,true,true,true,true,true,true,true,true,true,false,true,true,false,false,false,false,false,false,false,false,false,false] (by kernel_rfl) (by kernel_rfl) rfl (by rfl) ?_
  iterate 6
   refine ql_want (v := ?_) rfl (by rfl) (fun W hW => ?_) ?_
   rotate_left
   ·go_simp
    first | done | rfl
   go_frame
  refine ql_want (v := .bool true) rfl (by rfl) (fun W hW => ?_) ?_
  ·go_simp
   refine ((unhide hsm) W ((Ext.refl _).of_new hW (by simp))).mono ?_
   rw [decide_eq_true rfl]
   rintro _ _ ⟨h1,h2⟩
   exact ⟨_,h1,rfl,h2⟩
  go_frame
  iterate 4
   refine ql_want (v := ?_) rfl (by rfl) (fun W hW => ?_) ?_
   rotate_left
   ·go_simp
    first | done | rfl
   go_frame
  refine ql_want (v := .agg #[.slice A1 V.length cA, .slice B1 E.length cB]) rfl (by rfl) (fun W hW => qUpon_ofX (run_load_agg (cs := #[.slice A1 V.length cA, .slice B1 E.length cB]) rfl rfl (by simp [go_sem]) (by simp [go_sem]) ((unhide hP).wholeK 0 rfl hW (by simp)))) ?_
  go_frame
  iterate 1
   refine ql_want (v := ?_) rfl (by rfl) (fun W hW => ?_) ?_
   rotate_left
   ·go_simp
    first | done | rfl
   go_frame
  refine wpQL_nil (fun y7 hxq => ?_)
  have hK := hide (hxq.keep [])
  replace hP : Hid (Sp w [] w [] [(r6,41, #[.slice A1 V.length cA, .slice B1 E.length cB])] [(3,1, .slice Ao nO co,nO,O.flatMap encI),(3,1, .slice Au nO cu,nO,O.flatMap encI)] y7) := hide ((unhide hP).ext hxq)
  replace hg := hide ((unhide hg).ext hxq)
  replace hsV := hide ((unhide hsV).ext hxq)
  replace hsE := hide ((unhide hsE).ext hxq)
  clear hxq
  clear hself hbz hsm
  skip
  have hK2 := hide (Keep.refl [] y7)
  refine lx_one (i := 11) (by kernel_rfl) rfl (by rfl) #[true,true,true,true,true,true,true,true,true,true,true,true,true,true,false,false,false,false,false,false,false,false,false,false] (by rfl) ?_
  have hca := kcore_any (some ⟨g,0,none⟩) V E k y7 (GL.of (unhide hg)) (unhide hi) ((unhide hT').ext (unhide hP).extf)
  rw [← unhide hC'] at hca
  go_simp
  refine (hca).mono ?_
  rintro _ zy8 ⟨Ap,cp,rfl,ho,hxc⟩
  rw [← unhide hnC'] at ho
  rw [← unhide hnC']
  refine ⟨_,rfl,(unhide hK).trans (hxc.keep _),fun y8 hxd => ?_⟩
  replace hP : Hid (Sp w [] w [] [(r6,41, #[.slice A1 V.length cA, .slice B1 E.length cB])] [(3,1, .slice Ao nO co,nO,O.flatMap encI),(3,1, .slice Au nO cu,nO,O.flatMap encI),(3,1, .slice Ap nC cp,nC,C.flatMap encI)] y8) := hide (((unhide hP).addRow hxc ho).ext hxd)
  replace hK := hide ((unhide hK).trans ((hxc.trans hxd).keep _))
  replace hg := hide ((unhide hg).ext (hxc.trans hxd))
  replace hsV := hide ((unhide hsV).ext (hxc.trans hxd))
  replace hsE := hide ((unhide hsE).ext (hxc.trans hxd))
  clear ho
  clear hxc hxd
  try go_frame
  clear hca
  refine lx_one (i := 14) (by kernel_rfl) rfl (by rfl) #[true,true,true,true,true,true,true,true,true,true,true,true,true,true,true,false,false,false,false,false,false,false,false,false] (by rfl) ?_
  have hca := core22_any A1 B1 V E cA cB k y8 (unhide hsV) (unhide hsE) (unhide hi) (unhide hVl)
  rw [← unhide hC'] at hca
  go_simp
  refine (hca).mono ?_
  rintro _ zy9 ⟨Aq,cq,rfl,ho,hxc⟩
  rw [← unhide hnC'] at ho
  rw [← unhide hnC']
  refine ⟨_,rfl,(unhide hK).trans (hxc.keep _),fun y9 hxd => ?_⟩
  replace hP : Hid (Sp w [] w [] [(r6,41, #[.slice A1 V.length cA, .slice B1 E.length cB])] [(3,1, .slice Ao nO co,nO,O.flatMap encI),(3,1, .slice Au nO cu,nO,O.flatMap encI),(3,1, .slice Ap nC cp,nC,C.flatMap encI),(3,1, .slice Aq nC cq,nC,C.flatMap encI)] y9) := hide (((unhide hP).addRow hxc ho).ext hxd)
  replace hK := hide ((unhide hK).trans ((hxc.trans hxd).keep _))
  replace hg := hide ((unhide hg).ext (hxc.trans hxd))
  replace hsV := hide ((unhide hsV).ext (hxc.trans hxd))
  replace hsE := hide ((unhide hsE).ext (hxc.trans hxd))
  clear ho
  clear hxc hxd
  try go_frame
  clear hca
  refine lx_one (i := 15) (by kernel_rfl) rfl (by rfl) #[true,true,true,true,true,true,true,true,true,true,true,true,true,true,true,true,false,false,false,false,false,false,false,false] (by rfl) ?_
  have hca := same_ints Ap Aq C C nC nC cp cq y9 (own_at (enc := encI) (c := cp) (by have h := (unhide hP).row 2 rfl; rw [unhide hnC'] at h; exact h) (fun _ => rfl)) (own_at (enc := encI) (c := cq) (by have h := (unhide hP).row 3 rfl; rw [unhide hnC'] at h; exact h) (fun _ => rfl)) (unhide hnC') (unhide hnC') (unhide hCb) (unhide hCb)
  rw [decide_eq_true rfl] at hca
  go_simp
  refine (hca).mono ?_
  rintro _ zy10 ⟨rfl,hxc⟩
  clear hca
  refine ⟨_,rfl,(unhide hK).trans (hxc.keep _),fun y10 hxd => ?_⟩
  replace hP : Hid (Sp w [] w [] [(r6,41, #[.slice A1 V.length cA, .slice B1 E.length cB])] [(3,1, .slice Ao nO co,nO,O.flatMap encI),(3,1, .slice Au nO cu,nO,O.flatMap encI),(3,1, .slice Ap nC cp,nC,C.flatMap encI),(3,1, .slice Aq nC cq,nC,C.flatMap encI)] y10) := hide ((unhide hP).ext (hxc.trans hxd))
  replace hK := hide ((unhide hK).trans ((hxc.trans hxd).keep _))
  replace hg := hide ((unhide hg).ext (hxc.trans hxd))
  replace hsV := hide ((unhide hsV).ext (hxc.trans hxd))
  replace hsE := hide ((unhide hsE).ext (hxc.trans hxd))
  clear hxc hxd
  try go_frame
  refine lx_rekeep (unhide hK) [16,17,18,20] [] 4 8 #[true,true,true,true,true,true,true,true,true,true,true,true,true,true,true,true,false,false,false,false,false,false,false,false] #[true,true,true,true,true,true,true,true,true,true,true,true,true,true,true,true,true,true,true,false,true,false,false,false] (by kernel_rfl) rfl (by rfl) ?_
  clear hK
  iterate 3
   refine ql_want (v := ?_) rfl (by rfl) (fun W hW => ?_) ?_
   rotate_left
   ·go_simp
    first | done | rfl
   go_frame
  refine ql_want (v := .agg #[.slice A1 V.length cA, .slice B1 E.length cB]) rfl (by rfl) (fun W hW => qUpon_ofX (run_load_agg (cs := #[.slice A1 V.length cA, .slice B1 E.length cB]) rfl rfl (by simp [go_sem]) (by simp [go_sem]) ((unhide hP).wholeK 0 rfl hW (by simp)))) ?_
  go_frame
  refine wpQL_nil (fun y11 hxq => ?_)
  have hK := hide (hxq.keep [])
  replace hP : Hid (Sp w [] w [] [(r6,41, #[.slice A1 V.length cA, .slice B1 E.length cB])] [(3,1, .slice Ao nO co,nO,O.flatMap encI),(3,1, .slice Au nO cu,nO,O.flatMap encI),(3,1, .slice Ap nC cp,nC,C.flatMap encI),(3,1, .slice Aq nC cq,nC,C.flatMap encI)] y11) := hide ((unhide hP).ext hxq)
  replace hg := hide ((unhide hg).ext hxq)
  replace hsV := hide ((unhide hsV).ext hxq)
  replace hsE := hide ((unhide hsE).ext hxq)
  clear hxq
  refine lx_one (i := 19) (by kernel_rfl) rfl (by rfl) #[true,true,true,true,true,true,true,true,true,true,true,true,true,true,true,true,true,true,true,true,true,false,false,false] (by rfl) ?_
  have hca := to_isg (unhide hg)
  go_simp
  refine (hca).mono ?_
  rintro _ zy12 ⟨A2,c2,B2,c3,rfl,hs0,he0,hxc⟩
  clear hca
  refine ⟨_,rfl,(unhide hK).trans (hxc.keep _),fun y12 hxd => ?_⟩
  replace hP : Hid (Sp w [] w [] [(r6,41, #[.slice A1 V.length cA, .slice B1 E.length cB])] [(3,1, .slice Ao nO co,nO,O.flatMap encI),(3,1, .slice Au nO cu,nO,O.flatMap encI),(3,1, .slice Ap nC cp,nC,C.flatMap encI),(3,1, .slice Aq nC cq,nC,C.flatMap encI)] y12) := hide ((unhide hP).ext (hxc.trans hxd))
  replace hK := hide ((unhide hK).trans ((hxc.trans hxd).keep _))
  have hsV2 := hide (hs0.ext hxd)
  have hsE2 := hide (he0.ext hxd)
  replace hsV := hide ((unhide hsV).ext (hxc.trans hxd))
  replace hsE := hide ((unhide hsE).ext (hxc.trans hxd))
  clear hs0 he0
  clear hxc hxd
  try go_frame
  refine lx_one (i := 21) (by kernel_rfl) rfl (by rfl) #[true,true,true,true,true,true,true,true,true,true,true,true,true,true,true,true,true,true,true,true,true,true,false,false] (by rfl) ?_
  have hca := same_any A2 B2 A1 B1 V V E E c2 c3 cA cB y12 (unhide hsV2) (unhide hsE2) (unhide hsV) (unhide hsE) hnV hnE
  rw [decide_eq_true rfl,decide_eq_true rfl] at hca
  go_simp
  refine (hca).mono ?_
  rintro _ zy13 ⟨rfl,hxc⟩
  clear hca
  refine ⟨_,rfl,(unhide hK).trans (hxc.keep _),fun y13 hxd => ?_⟩
  replace hP : Hid (Sp w [] w [] [(r6,41, #[.slice A1 V.length cA, .slice B1 E.length cB])] [(3,1, .slice Ao nO co,nO,O.flatMap encI),(3,1, .slice Au nO cu,nO,O.flatMap encI),(3,1, .slice Ap nC cp,nC,C.flatMap encI),(3,1, .slice Aq nC cq,nC,C.flatMap encI)] y13) := hide ((unhide hP).ext (hxc.trans hxd))
  replace hK := hide ((unhide hK).trans ((hxc.trans hxd).keep _))
  clear hxc hxd
  try go_frame
  refine lx_rekeep (unhide hK) [22,23] [] 0 2 #[true,true,true,true,true,true,true,true,true,true,true,true,true,true,true,true,true,true,true,true,true,true,false,false] #[true,true,true,true,true,true,true,true,true,true,true,true,true,true,true,true,true,true,true,true,true,true,true,true] (by kernel_rfl) rfl (by rfl) ?_
  clear hK
  iterate 2
   refine ql_want (v := ?_) rfl (by rfl) (fun W hW => ?_) ?_
   rotate_left
   ·go_simp
    first | done | rfl
   go_frame
  refine wpQL_nil (fun y14 hxq => ?_)
  replace hP : Hid (Sp w [] w [] [(r6,41, #[.slice A1 V.length cA, .slice B1 E.length cB])] [(3,1, .slice Ao nO co,nO,O.flatMap encI),(3,1, .slice Au nO cu,nO,O.flatMap encI),(3,1, .slice Ap nC cp,nC,C.flatMap encI),(3,1, .slice Aq nC cq,nC,C.flatMap encI)] y14) := hide ((unhide hP).ext hxq)
  clear hxq
  refine wpX_done (by kernel_rfl) ?_
  try go_frame
  go_wp2_with fail
  refine Sp.leaves0 ?_
  exact ⟨_,results_tmp rfl _ _ _,rfl,(unhide hP).extf⟩
end Go.Proofs.YtoacpebmhbkmbaaGreatDoor
namespace Go.Proofs.YtoacpebmhbkmbaaGreatDoor.boundsDegeneracyRow
open Go.ChangeShapes Go.WideShapes Go.ChangeAt Go.RowKit
set_option linter.unusedVariables false
theorem own : ownKnob Tryz.prog.godebug = none := by kernel_rfl
theorem laidOut : laidOutB Tryz.prog = true := by kernel_rfl
theorem door_met (os : Os) (args : Array Value) : laidMetH Tryz.prog laidL ((World.doorLaid Tryz.prog 400 os).forCall (fun _ _ => 0) ⟨#[],args,[]⟩).memory :=
 laidMetH_of_parts3 (fuel := 8) (laidMet_of_run' 8 (by kernel_rfl) (by kernel_rfl)) (by kernel_rfl) (by kernel_rfl)
set_option maxRecDepth 100000 in
theorem lifted (os : Os) (started : os.Started) (H : Type) (enc : TypeId × Value → H) :
  ReturnsInHanded {} Tryz.checked os 9 .any (fun w args => (Rows.boundsDegeneracySpec.pre enc Tryz.prog Tryz.f9 [] false w args ∧ laidMetH Tryz.prog laidL w) ∧ sizedMet enc Tryz.prog Tryz.f9 (OpenSpec.ofChange Rows.boundsDegeneracySpec) false w args)
   (Rows.boundsDegeneracySpec.post enc Tryz.prog Tryz.f9 false true false false) := by
 refine returnsInHanded_of_change_and (C := Tryz.checked) (X := fun w _ => laidMetH Tryz.prog laidL w) (fun _ _ _ hh h => h.of_heap hh) own started (by kernel_rfl) Tryz.func9
  (ChangeSpec.witness_shaped (enc := enc) (C := Tryz.checked) (os := os) (X := fun w _ => laidMetH Tryz.prog laidL w) false (World.doorLaid Tryz.prog 400 os) #[.slice none 0 0, .int .i64 0] 8 rfl (World.shaped_of_RefB (by kernel_rfl) (by kernel_rfl)) (by kernel_rfl) (by kernel_rfl) (by kernel_rfl) (door_met os _)) ?_
 intro W base args ds gs before hval0 hW _ _ hL _
 have hval : ∀ (j : Nat) t v,Tryz.f9.params[j]? = some t → args[j]? = some v → Value.okWide Tryz.prog W .any base t v := hval0
 have hW' := hW
 obtain ⟨p,q,hA0,hV,rfl,hfz,hnd⟩ := hW
 have hA : DataW.TrodAll enc Tryz.prog W 0 (fun _ => true) true Tryz.f9.params.toList args.toList ds p := hA0
 rw [Tryz.params9] at hA hval
 obtain ⟨v0,vs0,d0,ds0,p0,q0,hargs,rfl,rfl,h0,r0⟩ := trodAll_cons hA
 obtain ⟨v1,vs1,d1,ds1,p1,q1,rfl,rfl,rfl,h1,r1⟩ := trodAll_cons r0
 obtain ⟨rfl,rfl,rfl⟩ := trodAll_nil r1
 obtain rfl : args = #[v0,v1] := by cases args; simp_all
 obtain ⟨rfl,rfl⟩ := trodVars_none hV
 obtain ⟨a0,len0,cap0,rfl⟩ := okWide_slice Tryz.underlying37 (hval 0 37 v0 rfl rfl)
 have k0 := h0
 have lt0 : ∀ x ∈ p0,x.block < W.heap.size := by obtain ⟨m,hm⟩ := k0; exact DataW.trod_lt m _ _ _ hm
 obtain ⟨fu0,hf0⟩ := h0
 obtain ⟨L0,hn0,hs0,ho0,hm0,hz0⟩ := open_edits (by simpa [Value.cells] using hf0)
 subst hn0
 obtain ⟨a1,rfl,rfl,rfl,w1⟩ := open_int Tryz.underlying3 (hval 1 3 v1 rfl rfl) h1
 clear hA0 hval0
 refine (boundsDegeneracy_walk a0 L0 cap0 a1 W hs0 hm0 hz0 (i64_of_wf w1) (tab_of_laid hL)).mono fun e W' ⟨he,bel⟩ => ?_
 subst he
 exact ⟨_,rfl,_,_,_,[],_,[],hW',trodAll_mk1 (shut_bool Tryz.underlying4 _),(trodAll_cons_mk (Below.trod laidOut (by kernel_rfl) (of_decide_eq_true (by kernel_rfl)) k0 bel lt0) (trodAll_cons_mk (shut_int Tryz.underlying3 w1) trodAll_mk0)),rfl,bel.frame _,fun h => by cases h⟩
theorem over : Rows.boundsDegeneracyRow.holds Tryz.pinned (OpenSpec.ofChange Rows.boundsDegeneracySpec) :=
 OpenClaim.holds_of_wide 9 Tryz.f9 rfl rfl rfl rfl rfl rfl rfl ⟨rfl,rfl,rfl,rfl,rfl⟩ rfl rfl rfl rfl rfl (by kernel_rfl) Tryz.func9 (by kernel_rfl)
  (of_decide_eq_true (by kernel_rfl)) (by unfold Func.isWrapper; first | (rw [if_pos (by decide +kernel)]; kernel_rfl) | (rw [if_neg (by decide +kernel)]; exact ⟨rfl,rfl⟩))
  (fun os started H enc _ => lifted os started H enc)
end Go.Proofs.YtoacpebmhbkmbaaGreatDoor.boundsDegeneracyRow
namespace Go.Proofs.YtoacpebmhbkmbaaGreatDoor
open Go
theorem boundsDegeneracy_holds : Rows.BoundsDegeneracyCardSaid :=
 Claim7.holds_tied_plain_at .later [] [.data] true (true, "82c6bed31ad2c7c2e5153cee67ccc1cbee0e26a323fdf1de3a9a6c1e0005317a") false
  boundsDegeneracyRow.over (fun _ h => by cases h) (by kernel_rfl) (fun _ h => by cases h) boundsDegeneracy_row_tie rfl ⟨rfl,rfl⟩ (by kernel_rfl) rfl
  (fun f fn hf hfn => by
   obtain rfl : f = 9 := Option.some.inj ((show Tryz.prog.funcNamed "palmette/palmettelaw22.BoundsDegeneracy" = some 9 by kernel_rfl).symm.trans hf) |>.symm
   obtain rfl : fn = Tryz.f9 := (Option.some.inj (Tryz.func9.symm.trans hfn)).symm
   exact ⟨by kernel_rfl,fun j t ht => by
    rw [Tryz.params9] at ht
    have h3 : t = 37 ∨ t = 3 := by
     rcases j with _ | _ | j
     ·simp at ht; simp [ht]
     ·simp at ht; simp [ht]
     ·simp at ht
    rcases h3 with rfl | rfl
    ·exact (show Tryz.prog.wantsStandIn 37 = false by kernel_rfl)
    ·exact (show Tryz.prog.wantsStandIn 3 = false by kernel_rfl)⟩)
  (by kernel_rfl)
#print axioms boundsDegeneracy_holds
end Go.Proofs.YtoacpebmhbkmbaaGreatDoor
