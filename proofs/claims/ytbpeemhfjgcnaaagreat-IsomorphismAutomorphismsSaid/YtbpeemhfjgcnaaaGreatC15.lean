/- Parts of a proof, laid together. Each part says its own conditions. -/
import Derived.Test.YtbpeemhfjgcnaaaGreatC10
namespace Go.Proofs.YtbpeemhfjgcnaaaGreat
open Go Go.RowKit
theorem SlAt.off {α : Type} {enc : α → List Value} {k : Nat} {w w' : World} {A : Option Addr} {xs : List α} {b4 : Nat} {T : TypeId} {cs : Array Value} (h : SlAt enc k w A xs) (hb : Blk w b4 T cs) (hcs : ∀ (i : Nat) (u : Value),cs[i]? = some u → ∀ x : α,(enc x)[0]? ≠ some u) (hen : ∀ x : α, ∃ u : Value,(enc x)[0]? = some u)
  (hs : w.heap.size ≤ w'.heap.size) (ho : ∀ j,j ≠ b4 → j < w.heap.size → w'.heap[j]? = w.heap[j]?) : SlAt enc k w' A xs := fun hne => by
 obtain ⟨b,off,hA,hlt,hc⟩ := h hne
 have hbb : b ≠ b4 := by
  rintro rfl
  obtain ⟨x,r,rfl⟩ := List.exists_cons_of_ne_nil hne
  obtain ⟨u,hu⟩ := hen x
  have h1 := hc 0 x rfl 0 u hu
  rw [hb.cell] at h1
  exact hcs _ _ h1 x hu
 refine ⟨b,off,hA,by omega,fun i x hx j u hu => ?_⟩
 rw [World.cell?_of_block (ho b hbb hlt)]
 exact hc i x hx j u hu
set_option maxRecDepth 100000 in
set_option maxHeartbeats 4000000 in
theorem do_0 (A B : Option Addr) (V : List (Int × Thing)) (E : List ((Int × Int) × Thing)) (cV cE : Nat) (u v lab wt : Int) (w : World) (hV : SlAt encV 3 w A V) (hE : SlAt encE 4 w B E) (hl : V.length ≤ 4096) (_hle : E.length ≤ 4096) (h0 : wrongR 0 u v wt V E = 0) :
  Calls Tryz.prog 25 #[.agg #[.slice A V.length cV, .slice B E.length cE], .agg #[.int .i64 0, .int .i64 u, .int .i64 v, .int .u8 lab, .int .i64 wt]] w fun e w' => ∃ A' cV',e = .returned (.tuple #[.agg #[.slice A' (insF (gtV (u,(lab,wt))) (u,(lab,wt)) V).length cV', .slice B E.length cE], .int .i64 0]) ∧ SlAt encV 3 w' A' (insF (gtV (u,(lab,wt))) (u,(lab,wt)) V) ∧ Ext w w' := by
 have hV' := hide hV
 have hE' := hide hE
 have h0' := hide h0
 clear hV hE h0
 obtain ⟨hb2,hb3,hb4⟩ := blk3 w #[.slice A V.length cV, .slice B E.length cE] #[.int .i64 0, .int .i64 u, .int .i64 v, .int .u8 lab, .int .i64 wt] #[.slice none 0 0, .slice none 0 0] 28 60 28
 have d0 := hb2.cells 0 (v := .slice A V.length cV) rfl
 have d1 := hb2.cells 1 (v := .slice B E.length cE) rfl
 have hq3 := EditAt.of' hb3
 obtain ⟨e0,e1,e2,e3,e4⟩ := hq3
 have hb4' := hide hb4
 clear hb2 hb3 hb4
 generalize hS : insF (gtV (u,(lab,wt))) (u,(lab,wt)) V = S
 have hS' := hide hS
 go_enter Tryz.func25,Tryz.ntmps25
 go_wp2_with (first
  | (go_at_call 57; refine (wrongR_0 A B V E cV cE u v lab wt _ ((unhide hV').ext (ext_self3 _ _ _ _)) ((unhide hE').ext (ext_self3 _ _ _ _)) hl).mono ?_; rw [unhide h0']; rintro e w2 ⟨rfl,hx2⟩; have hz : Ext (((w.alloc (.cells #[.slice A V.length cV, .slice B E.length cE] 28)).alloc (.cells #[.int .i64 0, .int .i64 u, .int .i64 v, .int .u8 lab, .int .i64 wt] 60)).alloc (.cells #[.slice none 0 0, .slice none 0 0] 28)) w2 := hx2)
  | (go_at_call 58; refine (plus_any A B V E cV cE u lab wt _ ((unhide hV').ext ((ext_self3 _ _ _ _).trans hx2)) hl).mono ?_; rw [unhide hS']; rintro e w5 ⟨A5,c5,rfl,hs5,hx5⟩; have hs5' := hide hs5; have hx5' := hide hx5; have hq := ((unhide hb4').ext hx2).ext hx5; have hq' := hide hq; have s0 := hq.cell 0; have s1 := hq.cell 1; have s2 := hq.frozen 0; have s3 := hq.frozen 1; simp at s0 s1; clear hq hs5 hx5))
 refine bodyPost_ret (ret_cell2 rfl rfl (load_G2 w5 (w.heap.size + 1 + 1) _ _ _ _ s0 s1)) rfl ?_
 have hxw := ((ext_self3 _ _ _ _).trans hx2).trans (unhide hx5')
 refine ⟨A5,c5,rfl,(unhide hs5').off (unhide hq') (by intro i u hi x; match i,hi with | 0,hi => simp at hi; subst hi; simp [encV] | 1,hi => simp at hi; subst hi; simp [encV]) (fun x => ⟨_,rfl⟩) ?_ ?_, ?_⟩
 ·simp [World.setCell]
 ·intro j hj _
  rw [Below.heap_setCell _ _ _ _ (by simpa using hj),Below.heap_setCell _ _ _ _ (by simpa using hj)]
 ·exact Below.setCell (Below.setCell hxw (by simp; omega) _) (by simp; omega) _
set_option maxRecDepth 100000 in
set_option maxHeartbeats 4000000 in
theorem do_2 (A B : Option Addr) (V : List (Int × Thing)) (E : List ((Int × Int) × Thing)) (cV cE : Nat) (u v lab wt : Int) (w : World) (hV : SlAt encV 3 w A V) (hE : SlAt encE 4 w B E) (hl : V.length ≤ 4096) (hle : E.length ≤ 4096) (h0 : wrongR 2 u v wt V E = 0) :
  Calls Tryz.prog 25 #[.agg #[.slice A V.length cV, .slice B E.length cE], .agg #[.int .i64 2, .int .i64 u, .int .i64 v, .int .u8 lab, .int .i64 wt]] w fun e w' => ∃ B' cE',e = .returned (.tuple #[.agg #[.slice A V.length cV, .slice B' (insF (gtE ((min u v,max u v),(lab,wt))) ((min u v,max u v),(lab,wt)) E).length cE'], .int .i64 0]) ∧ SlAt encE 4 w' B' (insF (gtE ((min u v,max u v),(lab,wt))) ((min u v,max u v),(lab,wt)) E) ∧ Ext w w' := by
 have hV' := hide hV
 have hE' := hide hE
 have h0' := hide h0
 clear hV hE h0
 obtain ⟨hb2,hb3,hb4⟩ := blk3 w #[.slice A V.length cV, .slice B E.length cE] #[.int .i64 2, .int .i64 u, .int .i64 v, .int .u8 lab, .int .i64 wt] #[.slice none 0 0, .slice none 0 0] 28 60 28
 have d0 := hb2.cells 0 (v := .slice A V.length cV) rfl
 have d1 := hb2.cells 1 (v := .slice B E.length cE) rfl
 have hq3 := EditAt.of' hb3
 obtain ⟨e0,e1,e2,e3,e4⟩ := hq3
 have hb4' := hide hb4
 clear hb2 hb3 hb4
 generalize hS : insF (gtE ((min u v,max u v),(lab,wt))) ((min u v,max u v),(lab,wt)) E = S
 have hS' := hide hS
 go_enter Tryz.func25,Tryz.ntmps25
 go_wp2_with (first
  | (go_at_call 57; refine (wrongR_2 A B V E cV cE u v lab wt _ ((unhide hV').ext (ext_self3 _ _ _ _)) ((unhide hE').ext (ext_self3 _ _ _ _)) hl hle).mono ?_; rw [unhide h0']; rintro e w2 ⟨rfl,hx2⟩; have hz : Ext (((w.alloc (.cells #[.slice A V.length cV, .slice B E.length cE] 28)).alloc (.cells #[.int .i64 2, .int .i64 u, .int .i64 v, .int .u8 lab, .int .i64 wt] 60)).alloc (.cells #[.slice none 0 0, .slice none 0 0] 28)) w2 := hx2)
  | (go_at_call 59; refine (joined_any A B V E cV cE (min u v) (max u v) lab wt _ ((unhide hE').ext ((ext_self3 _ _ _ _).trans hx2)) hle).mono ?_; rw [unhide hS']; rintro e w5 ⟨A5,c5,rfl,hs5,hx5⟩; have hs5' := hide hs5; have hx5' := hide hx5; have hq := ((unhide hb4').ext hx2).ext hx5; have hq' := hide hq; have s0 := hq.cell 0; have s1 := hq.cell 1; have s2 := hq.frozen 0; have s3 := hq.frozen 1; simp at s0 s1; clear hq hs5 hx5))
 refine bodyPost_ret (ret_cell2 rfl rfl (load_G2 w5 (w.heap.size + 1 + 1) _ _ _ _ s0 s1)) rfl ?_
 have hxw := ((ext_self3 _ _ _ _).trans hx2).trans (unhide hx5')
 refine ⟨A5,c5,rfl,(unhide hs5').off (unhide hq') (by intro i u hi x; match i,hi with | 0,hi => simp at hi; subst hi; simp [encE] | 1,hi => simp at hi; subst hi; simp [encE]) (fun x => ⟨_,rfl⟩) ?_ ?_, ?_⟩
 ·simp [World.setCell]
 ·intro j hj _
  rw [Below.heap_setCell _ _ _ _ (by simpa using hj),Below.heap_setCell _ _ _ _ (by simpa using hj)]
 ·exact Below.setCell (Below.setCell hxw (by simp; omega) _) (by simp; omega) _
end Go.Proofs.YtbpeemhfjgcnaaaGreat
namespace Go.Proofs.YtbpeemhfjgcnaaaGreat
open Go Go.RowKit
attribute [local go_sem] qUpon lUpon
set_option maxRecDepth 100000 in
set_option maxHeartbeats 4000000 in
theorem same_len (A B A' B' : Option Addr) (V V' : List (Int × Thing)) (E E' : List ((Int × Int) × Thing)) (n m cV cE cV' cE' : Nat) (w : World) (hV : SlAt encV 3 w A V) (hE : SlAt encE 4 w B E) (hV' : SlAt encV 3 w A' V') (hE' : SlAt encE 4 w B' E') (hn : V.length = n) (hn' : V'.length = n) (hm : E.length = m) (hm' : E'.length = m) (hl : n ≤ 4096) (hle : m ≤ 4096) :
  Calls Tryz.prog 15 #[.agg #[.slice A n cV, .slice B m cE], .agg #[.slice A' n cV', .slice B' m cE']] w fun e w' => e = .returned (.bool (decide (V = V') && decide (E = E'))) ∧ Ext w w' := by
 have hV1 := hide hV
 have hE1 := hide hE
 have hV2 := hide hV'
 have hE2 := hide hE'
 clear hV hE hV' hE'
 have hb2 := (Blk.new w 28 #[.slice A n cV, .slice B m cE]).ext (ext_self1 _ (.cells #[.slice A' n cV', .slice B' m cE'] 28))
 have hb3 := Blk.new (w.alloc (.cells #[.slice A n cV, .slice B m cE] 28)) 28 #[.slice A' n cV', .slice B' m cE']
 simp only [World.size_alloc] at hb3
 generalize hres : (decide (V = V') && decide (E = E')) = res
 have hres' := hide hres
 clear hres
 go_enter Tryz.func15,Tryz.ntmps15
 go_wp2
 refine wp_abs (fun W => Ext w W ∧ Blk W w.heap.size 28 #[.slice A n cV, .slice B m cE] ∧ Blk W (w.heap.size + 1) 28 #[.slice A' n cV', .slice B' m cE']) ⟨ext_self2 _ _ _,hb2,hb3⟩ ?_
 clear hb2 hb3
 rintro w1 ⟨hx1,hb2,hb3⟩
 go_loopw [5] (fun i wr => ∃ k : Nat,k ≤ n ∧ i = .int .i64 k ∧ V.take k = V'.take k ∧ Ext w1 wr) (fun i _ => n - (intOf i).toNat)
 case atStart => exact ⟨0,Nat.zero_le _,rfl,by simp,Ext.refl _⟩
 case round =>
  obtain ⟨k,hk,rfl,hfold,hxr⟩ := hrel
  have d0 := (hb2.ext hxr).cells 0 (v := .slice A n cV) rfl
  have d1 := (hb3.ext hxr).cells 0 (v := .slice A' n cV') rfl
  have hfold' := hide hfold
  clear hfold
  by_cases hlt : k < n
  ·obtain ⟨b,off,rfl,c0,c1,c2⟩ := atV ((unhide hV1).ext (hx1.trans hxr)) (i := k) (by omega)
   obtain ⟨b',off',rfl,g0,g1,g2⟩ := atV ((unhide hV2).ext (hx1.trans hxr)) (i := k) (by omega)
   have t1 := List.take_succ_eq_append_getElem (l := V) (i := k) (by omega)
   have t2 := List.take_succ_eq_append_getElem (l := V') (i := k) (by omega)
   generalize hy : V[k] = y at c0 c1 c2 t1
   generalize hy' : V'[k] = y' at g0 g1 g2 t2
   have hyy := hide (show V[k]? = some y by rw [← hy]; exact List.getElem?_eq_getElem _)
   have hyy' := hide (show V'[k]? = some y' by rw [← hy']; exact List.getElem?_eq_getElem _)
   have t1' := hide t1
   have t2' := hide t2
   clear hy hy' t1 t2
   obtain ⟨a,⟨l,t⟩⟩ := y
   obtain ⟨a',⟨l',t'⟩⟩ := y'
   simp only at c0 c1 c2 g0 g1 g2
   go_wp2
   obtain ⟨q,hq⟩ : ∃ q : Bool,q = !decide ((a,(l,t)) = (a',(l',t'))) := ⟨_,rfl⟩
   have hq' := hide hq
   clear hq
   refine wp_region_still (P := Tryz.prog) [0,1,2,3,4,5,6,7,8,9,10] [] 0 #[true,true,true,true,true,true,true,true,true,true,true] (by kernel_rfl) (by kernel_rfl) rfl (by rfl) ?_
   iterate 10
    refine ql_want (v := ?_) rfl (by rfl) (fun W hW => ?_) ?_
    rotate_left
    ·go_simp
     first | done | rfl | (fail)
    go_frame
   refine ql_want (v := .bool q) rfl (by rfl) (fun W hW => ?_) ?_
   ·go_simp
    rw [unhide hq']
    by_cases h1 : a = a' <;> by_cases h2 : l = l' <;> by_cases h3 : t = t' <;> simp [h1,h2,h3]
   go_frame
   refine wpQL_nil (fun w2 hx2 => ?_)
   refine wpX_done (by kernel_rfl) ?_
   clear d0 d1 c0 c1 c2 g0 g1 g2
   cases hqq : q
   ·have he : (a,(l,t)) = (a',(l',t')) := by
     have hz := unhide hq'
     rw [hqq] at hz
     by_cases he : (a,(l,t)) = (a',(l',t'))
     ·exact he
     ·rw [decide_eq_false he] at hz
      cases hz
    subst hqq
    go_wp2
    go_roundw
    case rel => exact ⟨k + 1,by omega,by go_num,by rw [unhide t1',unhide t2',unhide hfold',he],hxr.trans hx2⟩
    case measure => simp [intOf]; omega
   ·have he : (a,(l,t)) ≠ (a',(l',t')) := by
     intro he
     have hz := unhide hq'
     rw [hqq,decide_eq_true he] at hz
     cases hz
    subst hqq
    go_wp2
    go_ret
    refine ⟨ret_bool ?_,hx1.trans (hxr.trans hx2)⟩
    rw [← unhide hres']
    have hne : V ≠ V' := by
     intro e
     have h1 := unhide hyy
     have h2 := unhide hyy'
     rw [e,h2] at h1
     exact he (Option.some.inj h1).symm
    simp [hne]
  ·have hkE : k = n := by omega
   have h5 := unhide hfold'
   rw [hkE,List.take_of_length_le (by omega),List.take_of_length_le (by omega)] at h5
   have hVV' := hide h5
   clear h5 hfold'
   go_wp2
   go_loopw [6] (fun i wr => ∃ k : Nat,k ≤ m ∧ i = .int .i64 k ∧ E.take k = E'.take k ∧ Ext w1 wr) (fun i _ => m - (intOf i).toNat)
   case atStart => exact ⟨0,Nat.zero_le _,rfl,by simp,hxr⟩
   case round =>
    obtain ⟨k,hk,rfl,hfold,hxr⟩ := hrel
    have d0 := (hb2.ext hxr).cells 1 (v := .slice B m cE) rfl
    have d1 := (hb3.ext hxr).cells 1 (v := .slice B' m cE') rfl
    have hfold' := hide hfold
    clear hfold
    by_cases hlt : k < m
    ·obtain ⟨b,off,rfl,c0,c1,c2,c3⟩ := atE ((unhide hE1).ext (hx1.trans hxr)) (i := k) (by omega)
     obtain ⟨b',off',rfl,g0,g1,g2,g3⟩ := atE ((unhide hE2).ext (hx1.trans hxr)) (i := k) (by omega)
     have t1 := List.take_succ_eq_append_getElem (l := E) (i := k) (by omega)
     have t2 := List.take_succ_eq_append_getElem (l := E') (i := k) (by omega)
     generalize hy : E[k] = y at c0 c1 c2 c3 t1
     generalize hy' : E'[k] = y' at g0 g1 g2 g3 t2
     have hyy := hide (show E[k]? = some y by rw [← hy]; exact List.getElem?_eq_getElem _)
     have hyy' := hide (show E'[k]? = some y' by rw [← hy']; exact List.getElem?_eq_getElem _)
     have t1' := hide t1
     have t2' := hide t2
     clear hy hy' t1 t2
     obtain ⟨⟨a,b0⟩,⟨l,t⟩⟩ := y
     obtain ⟨⟨a',b0'⟩,⟨l',t'⟩⟩ := y'
     simp only at c0 c1 c2 c3 g0 g1 g2 g3
     go_wp2
     obtain ⟨q,hq⟩ : ∃ q : Bool,q = !decide (((a,b0),(l,t)) = ((a',b0'),(l',t'))) := ⟨_,rfl⟩
     have hq' := hide hq
     clear hq
     refine wp_region_still (P := Tryz.prog) [0,1,2,3,4,5,6,7,8,9,10] [] 0 #[true,true,true,true,true,true,true,true,true,true,true] (by kernel_rfl) (by kernel_rfl) rfl (by rfl) ?_
     iterate 10
      refine ql_want (v := ?_) rfl (by rfl) (fun W hW => ?_) ?_
      rotate_left
      ·go_simp
       first | done | rfl | (fail)
      go_frame
     refine ql_want (v := .bool q) rfl (by rfl) (fun W hW => ?_) ?_
     ·go_simp
      rw [unhide hq']
      by_cases h1 : a = a' <;> by_cases h4 : b0 = b0' <;> by_cases h2 : l = l' <;> by_cases h3 : t = t' <;> simp [h1,h2,h3,h4]
     go_frame
     refine wpQL_nil (fun w2 hx2 => ?_)
     refine wpX_done (by kernel_rfl) ?_
     clear d0 d1 c0 c1 c2 c3 g0 g1 g2 g3
     cases hqq : q
     ·have he : ((a,b0),(l,t)) = ((a',b0'),(l',t')) := by
       have hz := unhide hq'
       rw [hqq] at hz
       by_cases he : ((a,b0),(l,t)) = ((a',b0'),(l',t'))
       ·exact he
       ·rw [decide_eq_false he] at hz
        cases hz
      subst hqq
      go_wp2
      go_roundw
      case rel => exact ⟨k + 1,by omega,by go_num,by rw [unhide t1',unhide t2',unhide hfold',he],hxr.trans hx2⟩
      case measure => simp [intOf]; omega
     ·have he : ((a,b0),(l,t)) ≠ ((a',b0'),(l',t')) := by
       intro he
       have hz := unhide hq'
       rw [hqq,decide_eq_true he] at hz
       cases hz
      subst hqq
      go_wp2
      go_ret
      refine ⟨ret_bool ?_,hx1.trans (hxr.trans hx2)⟩
      rw [← unhide hres']
      have hne : E ≠ E' := by
       intro e
       have h1 := unhide hyy
       have h2 := unhide hyy'
       rw [e,h2] at h1
       exact he (Option.some.inj h1).symm
      simp [hne]
    ·have hkE : k = m := by omega
     have h5 := unhide hfold'
     rw [hkE,List.take_of_length_le (by omega),List.take_of_length_le (by omega)] at h5
     have h5' := hide h5
     clear h5
     go_wp2
     go_ret
     refine ⟨ret_bool ?_,hx1.trans hxr⟩
     rw [← unhide hres',unhide h5',unhide hVV']
     simp
theorem same_any (A B A' B' : Option Addr) (V V' : List (Int × Thing)) (E E' : List ((Int × Int) × Thing)) (cV cE cV' cE' : Nat) (w : World) (hV : SlAt encV 3 w A V) (hE : SlAt encE 4 w B E) (hV' : SlAt encV 3 w A' V') (hE' : SlAt encE 4 w B' E') (hl : V.length ≤ 4096) (hle : E.length ≤ 4096) :
  Calls Tryz.prog 15 #[.agg #[.slice A V.length cV, .slice B E.length cE], .agg #[.slice A' V'.length cV', .slice B' E'.length cE']] w fun e w' => e = .returned (.bool (decide (V = V') && decide (E = E'))) ∧ Ext w w' := by
 by_cases h1 : V.length = V'.length
 ·by_cases h2 : E.length = E'.length
  ·rw [← h1, ← h2]
   exact same_len A B A' B' V V' E E' V.length E.length cV cE cV' cE' w hV hE hV' hE' rfl h1.symm rfl h2.symm hl hle
  ·have h3 : decide (E = E') = false := by
    rw [decide_eq_false_iff_not]
    rintro rfl
    exact h2 rfl
   rw [h3,Bool.and_false]
   clear hV hE hV' hE'
   go_enter Tryz.func15,Tryz.ntmps15
   go_wp2
   all_goals first
    | (go_ret; exact ⟨rfl,ext_self2 _ _ _⟩)
    | (exfalso; simp_all; done)
 ·have h3 : decide (V = V') = false := by
   rw [decide_eq_false_iff_not]
   rintro rfl
   exact h1 rfl
  rw [h3,Bool.false_and]
  clear hV hE hV' hE'
  go_enter Tryz.func15,Tryz.ntmps15
  go_wp2
  all_goals first
   | (go_ret; exact ⟨rfl,ext_self2 _ _ _⟩)
   | (exfalso; simp_all; done)
end Go.Proofs.YtbpeemhfjgcnaaaGreat
namespace Go.Proofs.YtbpeemhfjgcnaaaGreat
open Go Go.RowKit
attribute [local go_sem] qUpon lUpon
theorem own_at {α : Type} {enc : α → List Value} {w : World} {base T k n c : Nat} {A : Option Addr} {xs : List α} (h : w.ownsRow base T k (.slice A n c) xs.length (xs.flatMap enc)) (hk : ∀ x,(enc x).length = k) : SlAt enc k w A xs := by
 obtain ⟨A',c',he,hs⟩ := SlAt.of_own h hk
 simp only [Value.slice.injEq] at he
 rw [he.1]
 exact hs
theorem own_keep1 {w w' : World} {base T k n b : Nat} {v : Value} {xs : List Value} (h : w.ownsRow base T k v n xs) (hk : Keep [b] w w') (hb : b < base) : w'.ownsRow base T k v n xs :=
 own_keep h hk (fun g hg e => by
  have h1 : g = b := by simpa using hg
  subst h1
  have := (own_base h e).1
  omega)
set_option maxRecDepth 100000 in
set_option maxHeartbeats 4000000 in
theorem to_any (g bv be : Nat) (V SV : List (Int × Thing)) (E SE : List ((Int × Int) × Thing)) (w : World) (hg : GraphAt w g bv be V E) (hpV : SV.Perm V) (hSV : SV.Pairwise ltV) (hpE : SE.Perm E) (hSE : SE.Pairwise ltE) (hl : V.length ≤ 4096) (hle : E.length ≤ 4096) :
  Calls Tryz.prog 16 #[.pointer (some ⟨g,0,none⟩)] w fun e w' => ∃ A cA B cB,e = .returned (.agg #[.slice A SV.length cA, .slice B SE.length cB]) ∧ SlAt encV 3 w' A SV ∧ SlAt encE 4 w' B SE ∧ Ext w w' := by
 have hlV : SV.length ≤ 4096 := by rw [hpV.length_eq]; exact hl
 have hlE : SE.length ≤ 4096 := by rw [hpE.length_eq]; exact hle
 have hg' := hide hg
 have hb2 := (Blk.new w 28 #[.slice none 0 0, .slice none 0 0]).ext (ext_self1 _ (.cells #[.slice none 0 0, .slice none 0 0] 28))
 have hb3 := Blk.new (w.alloc (.cells #[.slice none 0 0, .slice none 0 0] 28)) 28 #[.slice none 0 0, .slice none 0 0]
 simp only [World.size_alloc] at hb3
 have hb2' := hide hb2
 have hb3' := hide hb3
 clear hg hb2 hb3
 go_enter Tryz.func16,Tryz.ntmps16
 go_wp2_with (first
  | (go_at_call 41; refine (vertices_any g bv be V E SV _ ((unhide hg').ext (ext_self2 _ _ _)) hpV hSV hl).mono ?_; rintro e w2 ⟨v2,rfl,ho2,hx2⟩; obtain ⟨Av,cv,rfl⟩ := own_slice ho2; have hx2' := hide hx2; have ho2' := hide ho2; clear ho2)
  | (go_at_call 51; refine (edges_any g bv be V E SE _ ((unhide hg').ext ((ext_self2 _ _ _).trans hx2)) hpE hSE hle).mono ?_; rintro e wI ⟨v3,rfl,ho3,hx3⟩; obtain ⟨Ae,ce,rfl⟩ := own_slice ho3; have hx3' := hide hx3; have ho3' := hide ho3; clear ho3))
 have hxI' := hide (((ext_self2 _ _ _).trans (unhide hx2')).trans (unhide hx3'))
 have hn1' := hide (show w.heap.size + 1 < w2.heap.size by have := (unhide hx2').size; simp at this; omega)
 have hn2' := hide (show w2.heap.size ≤ wI.heap.size from (unhide hx3').size)
 have hb2J := hide (((unhide hb2').ext (unhide hx2')).ext (unhide hx3'))
 have hb3J := ((unhide hb3').ext (unhide hx2')).ext (unhide hx3')
 have hoA := own_ext (unhide ho2') (unhide hx3')
 rw [World.size_alloc,World.size_alloc] at hoA
 have hoA' := hide hoA
 have hoE0 := hide (unhide ho3')
 clear hx2 hx3 hx2' hx3' hb2' hb3' ho2' hg' hoA
 generalize hn : w.heap.size = n at *
 generalize hm2 : w2.heap.size = m2 at *
 have hn1 := unhide hn1'
 have hn2 := unhide hn2'
 go_loopw [6] (fun i wr => ∃ (k : Nat) (vs : Value),k ≤ SV.length ∧ i = .int .i64 k ∧ Keep [n + 1] wI wr ∧ Blk wr (n + 1) 28 #[vs, .slice none 0 0] ∧ wr.ownsRow wI.heap.size 73 3 vs (SV.take k).length ((SV.take k).flatMap encV)) (fun i _ => SV.length - (intOf i).toNat)
 case atStart => exact ⟨0,_,Nat.zero_le _,rfl,Keep.refl _ _,hb3J,World.ownsRow_nil _ _ _ _⟩
 case round =>
  obtain ⟨k,vs,hk,rfl,hkeep,hbk,hown⟩ := hrel
  have hkeep' := hide hkeep
  have hbk' := hide hbk
  have hown' := hide hown
  have hsz' := hide (show wI.heap.size ≤ wr.heap.size from hkeep.size)
  have hnI' := hide (show n + 1 < wI.heap.size by omega)
  have hoS := hide (own_keep1 (unhide hoA') hkeep (by omega))
  clear hkeep hown
  by_cases hlt : k < SV.length
  ·obtain ⟨b,off,rfl,c0,c1,c2⟩ := atV (own_at (unhide hoS) (fun _ => rfl)) hlt
   have st := List.take_succ_eq_append_getElem hlt
   generalize hy : SV[k] = y at c0 c1 c2 st
   obtain ⟨a,⟨l,t⟩⟩ := y
   have st' := hide st
   clear hy st
   simp only at c0 c1 c2
   have r0 := hbk.cells 0 (v := vs) rfl
   go_wp2
   refine wp_region_still (P := Tryz.prog) [0,1,2,3,4,5] [7,8,9] 4 #[true,true,true,true,true,true,false,false,false,false] (by kernel_rfl) (by kernel_rfl) rfl (by rfl) ?_
   iterate 6
    refine ql_want (v := ?_) rfl (by rfl) (fun W hW => ?_) ?_
    rotate_left
    ·go_simp
     first | done | rfl
    go_frame
   refine wpQL_nil (fun w3 hx3 => ?_)
   clear r0 c0 c1 c2
   have hk3' := hide ((unhide hkeep').trans (hx3.keep _))
   have hb3 := (unhide hbk').ext hx3
   have hb3' := hide hb3
   have ho3' := hide (own_ext (unhide hown') hx3)
   have hr0 := hb3.cells 0 (v := vs) rfl
   clear hb3
   obtain ⟨v4,w4,hrun,ho4,hg4⟩ := run_rV w3 wI.heap.size vs (SV.take k) (a,(l,t)) (unhide ho3') (by rw [List.length_take]; omega) (Nat.le_trans (unhide hsz') (Below.size hx3)) 25
   obtain ⟨A6,k6,rfl⟩ := own_slice ho4
   obtain ⟨W6,hW6,f1,f2,hk6,hb6,ho6,_,_⟩ := fld_step (i := 0) (unhide hk3') (unhide hnI') (unhide hb3') (unhide ho3') (ext_self1 w3 _) ho4 hg4 (by simp)
   rw [← unhide st'] at hW6 hb6 ho6
   rw [← unhide st'] at hrun
   have hk6' := hide hk6
   have hb6' := hide hb6
   have ho6' := hide ho6
   clear hk6 hb6 ho6 ho4 hg4 hbk
   generalize hgl : (SV.take (k + 1)).length = gl at *
   simp only [encV] at hrun
   refine lx_one (i := 6) (by kernel_rfl) rfl (by rfl) #[true,true,true,true,true,true,true,false,false,false] (by rfl) ?_
   go_simp
   refine lx_one (i := 7) (by kernel_rfl) rfl (by rfl) #[true,true,true,true,true,true,true,true,false,false] (by rfl) ?_
   rw [ex_append rfl (by rfl) (by rfl) hrun]
   go_simp
   refine lx_one (i := 8) (by kernel_rfl) rfl (by rfl) #[true,true,true,true,true,true,true,true,true,false] (by rfl) ?_
   go_simp
   refine lx_one (i := 9) (by kernel_rfl) rfl (by rfl) #[true,true,true,true,true,true,true,true,true,true] (by rfl) ?_
   go_simp
   refine wpX_done (by kernel_rfl) ?_
   try go_frame
   go_wp2
   go_roundw
   case rel =>
    subst hgl
    exact ⟨k + 1,_,by omega,by go_num,unhide hk6',unhide hb6',unhide ho6'⟩
   case measure => simp [intOf]; omega
  ·have hkE : k = SV.length := by omega
   subst hkE
   have hfin := unhide hown'
   rw [List.take_length] at hfin
   obtain ⟨A1,c1,rfl⟩ := own_slice hfin
   have hoJ' := hide hfin
   have hb2V := hide ((unhide hb2J).keep (unhide hkeep') (by simp))
   have hbJ := hide hbk
   have hxV' := hide ((unhide hxI').of_new (unhide hkeep') (by simp; omega))
   have hoE' := hide (own_keep1 (unhide hoE0) (unhide hkeep') (by omega))
   have hszV := unhide hsz'
   rename World => wV
   clear hfin hbk hkeep' hbk' hown' hoS hsz' hnI'
   go_wp2
   go_loopw [7] (fun i wr => ∃ (k : Nat) (vs : Value),k ≤ SE.length ∧ i = .int .i64 k ∧ Keep [n + 1] wV wr ∧ Blk wr (n + 1) 28 #[.slice A1 SV.length c1,vs] ∧ wr.ownsRow wV.heap.size 100 4 vs (SE.take k).length ((SE.take k).flatMap encE)) (fun i _ => SE.length - (intOf i).toNat)
   case atStart => exact ⟨0,_,Nat.zero_le _,rfl,Keep.refl _ _,unhide hbJ,World.ownsRow_nil _ _ _ _⟩
   case round =>
    obtain ⟨k,vs,hk,rfl,hkeep,hbk,hown⟩ := hrel
    have hkeep' := hide hkeep
    have hbk' := hide hbk
    have hown' := hide hown
    have hsz' := hide (show wV.heap.size ≤ wr.heap.size from hkeep.size)
    have hnI' := hide (show n + 1 < wV.heap.size by omega)
    have hoS := hide (own_keep1 (unhide hoE') hkeep (by omega))
    clear hkeep hown
    by_cases hlt : k < SE.length
    ·obtain ⟨b,off,rfl,c0,c1,c2,c3⟩ := atE (own_at (unhide hoS) (fun _ => rfl)) hlt
     have st := List.take_succ_eq_append_getElem hlt
     generalize hy : SE[k] = y at c0 c1 c2 c3 st
     obtain ⟨⟨a,b0⟩,⟨l,t⟩⟩ := y
     have st' := hide st
     clear hy st
     simp only at c0 c1 c2 c3
     have r0 := hbk.cells 1 (v := vs) rfl
     go_wp2
     refine wp_region_still (P := Tryz.prog) [0,1,2,3,4,5] [7,8,9] 4 #[true,true,true,true,true,true,false,false,false,false] (by kernel_rfl) (by kernel_rfl) rfl (by rfl) ?_
     iterate 6
      refine ql_want (v := ?_) rfl (by rfl) (fun W hW => ?_) ?_
      rotate_left
      ·go_simp
       first | done | rfl
      go_frame
     refine wpQL_nil (fun w3 hx3 => ?_)
     clear r0 c0 c1 c2 c3
     have hk3' := hide ((unhide hkeep').trans (hx3.keep _))
     have hb3 := (unhide hbk').ext hx3
     have hb3' := hide hb3
     have ho3' := hide (own_ext (unhide hown') hx3)
     have hr0 := hb3.cells 1 (v := vs) rfl
     clear hb3
     obtain ⟨v4,w4,hrun,ho4,hg4⟩ := run_rE w3 wV.heap.size vs (SE.take k) ((a,b0),(l,t)) (unhide ho3') (by rw [List.length_take]; omega) (Nat.le_trans (unhide hsz') (Below.size hx3)) 26
     obtain ⟨A6,k6,rfl⟩ := own_slice ho4
     obtain ⟨W6,hW6,f1,f2,hk6,hb6,ho6,_,_⟩ := fld_step (i := 1) (unhide hk3') (unhide hnI') (unhide hb3') (unhide ho3') (ext_self1 w3 _) ho4 hg4 (by simp)
     rw [← unhide st'] at hW6 hb6 ho6
     rw [← unhide st'] at hrun
     have hk6' := hide hk6
     have hb6' := hide hb6
     have ho6' := hide ho6
     clear hk6 hb6 ho6 ho4 hg4 hbk
     generalize hgl : (SE.take (k + 1)).length = gl at *
     simp only [encE] at hrun
     refine lx_one (i := 6) (by kernel_rfl) rfl (by rfl) #[true,true,true,true,true,true,true,false,false,false] (by rfl) ?_
     go_simp
     refine lx_one (i := 7) (by kernel_rfl) rfl (by rfl) #[true,true,true,true,true,true,true,true,false,false] (by rfl) ?_
     rw [ex_append rfl (by rfl) (by rfl) hrun]
     go_simp
     refine lx_one (i := 8) (by kernel_rfl) rfl (by rfl) #[true,true,true,true,true,true,true,true,true,false] (by rfl) ?_
     go_simp
     refine lx_one (i := 9) (by kernel_rfl) rfl (by rfl) #[true,true,true,true,true,true,true,true,true,true] (by rfl) ?_
     go_simp
     refine wpX_done (by kernel_rfl) ?_
     try go_frame
     go_wp2
     go_roundw
     case rel =>
      subst hgl
      exact ⟨k + 1,_,by omega,by go_num,unhide hk6',unhide hb6',unhide ho6'⟩
     case measure => simp [intOf]; omega
    ·have hkE : k = SE.length := by omega
     subst hkE
     have hfin := unhide hown'
     rw [List.take_length] at hfin
     have hfin' := hide hfin
     clear hfin
     obtain ⟨A2,c2,rfl⟩ := own_slice (unhide hfin')
     have hq4 := (unhide hb2V).keep (unhide hkeep') (by simp)
     have s0 := hq4.cell 0
     have s1 := hq4.cell 1
     have s2 := hq4.frozen 0
     have s3 := hq4.frozen 1
     have r0 := hbk.cells 0 (v := .slice A1 SV.length c1) rfl
     have r1 := hbk.cells 1 (v := .slice A2 SE.length c2) rfl
     simp at s0 s1
     clear hq4
     go_wp2
     refine bodyPost_ret (ret_cell1 rfl rfl (load_G2 wr n _ _ _ _ s0 s1)) rfl ?_
     have hxr : Ext w wr := (unhide hxV').of_new (unhide hkeep') (by simp; omega)
     have hoV := own_keep1 (unhide hoJ') (unhide hkeep') (by omega)
     obtain ⟨q1,q2⟩ := fin_row hxr (b4 := n) (by omega) hoV (by omega) (.slice A1 SV.length c1) (.slice A2 SE.length c2)
     obtain ⟨q3,q4⟩ := fin_row hxr (b4 := n) (by omega) (unhide hfin') (by omega) (.slice A1 SV.length c1) (.slice A2 SE.length c2)
     exact ⟨A1,c1,A2,c2,rfl,own_at q2 (fun _ => rfl),own_at q4 (fun _ => rfl),q1⟩
end Go.Proofs.YtbpeemhfjgcnaaaGreat
