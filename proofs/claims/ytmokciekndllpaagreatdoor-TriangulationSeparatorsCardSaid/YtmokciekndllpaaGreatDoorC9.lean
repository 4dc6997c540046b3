/- Parts of a proof, laid together. Each part says its own conditions. -/
import Derived.Test.YtmokciekndllpaaGreatDoorC8
import Derived.Test.YtmokciekndllpaaGreatDoorC6
namespace Go.Proofs.YtmokciekndllpaaGreatDoor
open Go Go.RowKit
attribute [local go_sem] qUpon lUpon
theorem ex_append {P : Program} {ρ : Operand → Value} {o : Oper} {s x : Operand} {t : TypeId} {v u v' : Value} {w w' : World} (ho : o.op = .call { callee := .builtin .append,args := #[s,x],argTypes := #[t,t] }) (hs : ρ s = v) (hx : ρ x = u)
  (hr : (Builtin.append_ #[t,t] o.type #[v,u]).run P w = .ok v' w') : (execOp ρ o).run P w = .ok (.value v') w' := by
 unfold execOp
 simp only [ho,resolve,invoke,builtin,Sem.run_bind,Sem.run_pure,Result.andThen_ok,List.map_toArray,List.map_cons,List.map_nil,hs,hx,hr]
set_option maxRecDepth 100000 in
set_option maxHeartbeats 4000000 in
theorem plus_any (A B : Option Addr) (V : List (Int × Thing)) (E : List ((Int × Int) × Thing)) (cV cE : Nat) (u lab wt : Int) (w : World) (hV : SlAt encV 3 w A V) (hl : V.length ≤ 4096) :
  Calls Tryz.prog 156 #[.agg #[.slice A V.length cV, .slice B E.length cE], .agg #[.int .i64 u, .int .u8 lab, .int .i64 wt]] w fun e w' =>
   ∃ A' cV',e = .returned (.agg #[.slice A' (insF (gtV (u,(lab,wt))) (u,(lab,wt)) V).length cV', .slice B E.length cE]) ∧ SlAt encV 3 w' A' (insF (gtV (u,(lab,wt))) (u,(lab,wt)) V) ∧ Ext w w' := by
 generalize hgt : gtV (u,(lab,wt)) = gt
 have hgt' : ∀ y,gt y = gtV (u,(lab,wt)) y := fun y => by rw [hgt]
 have hgt'' := hide hgt'
 clear hgt hgt'
 go_enter Tryz.func156,Tryz.ntmps156
 go_wp2
 refine wp_abs (fun W => Ext w W ∧ W.heap.size = w.heap.size + 1 + 1 + 1 + 1 ∧ Blk W w.heap.size 30 #[.slice A V.length cV, .slice B E.length cE] ∧ Blk W (w.heap.size + 1) 141 #[.int .i64 u, .int .u8 lab, .int .i64 wt] ∧
  Blk W (w.heap.size + 1 + 1) 30 #[.slice none 0 0, .slice none 0 0] ∧ Blk W (w.heap.size + 1 + 1 + 1) 30 #[.slice none 0 0, .slice B E.length cE]) ?_ ?_
 ·exact ⟨ext_self4 _ _ _ _ _,by simp,blk4 w _ _ _ _ _ _ _ _⟩
 rintro wI ⟨hxI,hsI,hb2,hb3,hb4,hb5⟩
 generalize hn : w.heap.size = n at *
 have hV' := hide hV
 clear hV
 go_loopw [6,7] (fun d i wr => ∃ (k : Nat) (dn : Bool) (o : List (Int × Thing)) (vs : Value),k ≤ V.length ∧ i = .int .i64 k ∧ d = .bool dn ∧ (V.take k).foldl (insS gt (u,(lab,wt))) (false,[]) = (dn,o) ∧
  Keep [n + 1 + 1 + 1] wI wr ∧ Blk wr (n + 1 + 1 + 1) 30 #[vs, .slice B E.length cE] ∧ wr.ownsRow wI.heap.size 141 3 vs o.length (o.flatMap encV)) (fun _ i _ => V.length - (intOf i).toNat)
 case atStart => exact ⟨0,false,[],_,Nat.zero_le _,rfl,rfl,rfl,Keep.refl _ _,hb5,World.ownsRow_nil _ _ _ _⟩
 case round =>
  obtain ⟨k,dn,o,vs,hk,rfl,rfl,hfold,hkeep,hbk,hown⟩ := hrel
  have hkeep' := hide hkeep
  have hbk' := hide hbk
  have hown' := hide hown
  have hol := ins_take_len hfold hk
  have hsz' := hide (show wI.heap.size ≤ wr.heap.size from hkeep.size)
  have hnI' := hide (show n + 1 + 1 + 1 < wI.heap.size by omega)
  have hxr : Ext w wr := hxI.of_new hkeep (by simp <;> omega)
  have d0 := (hb2.keep hkeep (by simp <;> omega)).cells 0 (v := .slice A V.length cV) rfl
  have hq3 := hb3.keep hkeep (by simp <;> omega)
  have e0 := hq3.cells 0 (v := .int .i64 u) rfl
  have e1 := hq3.cells 1 (v := .int .u8 lab) rfl
  have e2 := hq3.cells 2 (v := .int .i64 wt) rfl
  have r0 := hbk.cells 0 (v := vs) rfl
  have r1 := hbk.cells 1 (v := .slice B E.length cE) rfl
  have hhb2 := hide hb2
  have hhb3 := hide hb3
  have hhb4 := hide hb4
  have hhI := hide hxI
  have hsI' := hide hsI
  clear hkeep hbk hown hb2 hb3 hb4 hb5 hq3 hxI hsI
  have hol' := hide (show o.length ≤ 5000 by omega)
  clear hol
  by_cases hlt : k < V.length
  ·obtain ⟨b,off,rfl,c1,c2,c3⟩ := atV (unhide hV') hlt
   have st := ins_take hlt hfold
   generalize hy : V[k] = y at c1 c2 c3 st
   obtain ⟨a,⟨l,t⟩⟩ := y
   clear hy hfold
   have st' := hide st
   clear st
   simp only at c1 c2 c3
   clear e0 e1 e2 r0 r1
   cases dn
   ·by_cases hc : u < a
    ·go_wp2
     clear d0
     have c1_ := fun (W : World) (hW : Ext wr W) => c1 W (Ext.trans hxr hW)
     have c2_ := fun (W : World) (hW : Ext wr W) => c2 W (Ext.trans hxr hW)
     have c3_ := fun (W : World) (hW : Ext wr W) => c3 W (Ext.trans hxr hW)
     have d0_ := ((unhide hhb2).keep (unhide hkeep') (by simp <;> omega)).cells 0 (v := .slice (some ⟨b,off,none⟩) V.length cV) rfl
     have hq3_ := (unhide hhb3).keep (unhide hkeep') (by simp <;> omega)
     have e0_ := hq3_.cells 0 (v := .int .i64 u) rfl
     have e1_ := hq3_.cells 1 (v := .int .u8 lab) rfl
     have e2_ := hq3_.cells 2 (v := .int .i64 wt) rfl
     have r0_ := (unhide hbk').cells 0 (v := vs) rfl
     have r1_ := (unhide hbk').cells 1 (v := .slice B E.length cE) rfl
     clear hq3_
     refine wp_region_still (P := Tryz.prog) [0,1,2,3,4,5,6,7,8,9,10,11,12] [] 0 #[true,true,true,true,true,true,true,true,true,true,true,true,true] (by kernel_rfl) (by kernel_rfl) rfl (by rfl) ?_
     iterate 13
      refine ql_want (v := ?_) rfl (by rfl) (fun W hW => ?_) ?_
      rotate_left
      ·go_simp
       first | done | rfl
      go_frame
     refine wpQL_nil (fun w2 hx2 => ?_)
     refine wpX_done (by kernel_rfl) ?_
     clear c1_ c2_ c3_ d0_ e0_ e1_ e2_ r0_ r1_
     have hxw2 : Ext w w2 := Ext.trans hxr hx2
     have hk2 : Keep [n + 1 + 1 + 1] wI w2 := (unhide hkeep').trans (hx2.keep _)
     have hb2 := (unhide hbk').ext hx2
     have ho2 := own_ext (unhide hown') hx2
     have hk2' := hide hk2
     have hb2' := hide hb2
     have ho2' := hide ho2
     have hsz2' := hide hk2.size
     clear hk2 hb2 ho2
     have c1_ := fun (W : World) (hW : Ext w2 W) => c1 W (Ext.trans hxw2 hW)
     have c2_ := fun (W : World) (hW : Ext w2 W) => c2 W (Ext.trans hxw2 hW)
     have c3_ := fun (W : World) (hW : Ext w2 W) => c3 W (Ext.trans hxw2 hW)
     have d0_ := ((unhide hhb2).keep (unhide hk2') (by simp <;> omega)).cells 0 (v := .slice (some ⟨b,off,none⟩) V.length cV) rfl
     have hq3_ := (unhide hhb3).keep (unhide hk2') (by simp <;> omega)
     have e0_ := hq3_.cells 0 (v := .int .i64 u) rfl
     have e1_ := hq3_.cells 1 (v := .int .u8 lab) rfl
     have e2_ := hq3_.cells 2 (v := .int .i64 wt) rfl
     have r0_ := (unhide hb2').cells 0 (v := vs) rfl
     have r1_ := (unhide hb2').cells 1 (v := .slice B E.length cE) rfl
     clear hq3_
     go_wp2_with (at_builtin; refine wp_rV w2 rfl _ _ rfl wI.heap.size vs o.length o (u,(lab,wt)) rfl w2.heap.size _ (by rfl) rfl (by rfl) (by rfl) (unhide ho2') (Nat.le_trans (unhide hol') (by omega)) (unhide hsz2') ?_; intro A1 k1 w4 ho4 hg4; obtain ⟨W5,hW5,f1,f2,hk5,hb5,ho5,_,_⟩ := fld_step (i := 0) (unhide hk2') (unhide hnI') (unhide hb2') (unhide ho2') (ext_self1 w2 _) ho4 hg4 (by simp); have hk5' := hide hk5; have hb5' := hide hb5; have ho5' := hide ho5; clear hk5 hb5 ho5 ho4 hg4)
     have hx5 : Ext w W5 := (unhide hhI).of_new (unhide hk5') (by simp <;> omega)
     clear c1_ c2_ c3_ d0_ e0_ e1_ e2_ r0_ r1_
     have c1_ := fun (W : World) (hW : Ext W5 W) => c1 W (Ext.trans hx5 hW)
     have c2_ := fun (W : World) (hW : Ext W5 W) => c2 W (Ext.trans hx5 hW)
     have c3_ := fun (W : World) (hW : Ext W5 W) => c3 W (Ext.trans hx5 hW)
     have d0_ := ((unhide hhb2).keep (unhide hk5') (by simp <;> omega)).cells 0 (v := .slice (some ⟨b,off,none⟩) V.length cV) rfl
     have hq3_ := (unhide hhb3).keep (unhide hk5') (by simp <;> omega)
     have e0_ := hq3_.cells 0 (v := .int .i64 u) rfl
     have e1_ := hq3_.cells 1 (v := .int .u8 lab) rfl
     have e2_ := hq3_.cells 2 (v := .int .i64 wt) rfl
     have r0_ := (unhide hb5').cells 0 (v := (.slice A1 (o.length + 1) k1)) rfl
     have r1_ := (unhide hb5').cells 1 (v := .slice B E.length cE) rfl
     clear hq3_
     refine wp_region_still (P := Tryz.prog) [0,1,2,3,4,5,6] [8,9,10] 4 #[true,true,true,true,true,true,true,false,false,false,false] (by kernel_rfl) (by kernel_rfl) rfl (by rfl) ?_
     iterate 7
      refine ql_want (v := ?_) rfl (by rfl) (fun W hW => ?_) ?_
      rotate_left
      ·go_simp
       first | done | rfl
      go_frame
     refine wpQL_nil (fun w3 hx3 => ?_)
     clear c1_ c2_ c3_ d0_ e0_ e1_ e2_ r0_ r1_
     have hxw3 : Ext w w3 := Ext.trans hx5 hx3
     have hk3 : Keep [n + 1 + 1 + 1] wI w3 := (unhide hk5').trans (hx3.keep _)
     have hb3 := (unhide hb5').ext hx3
     have ho3 := own_ext (unhide ho5') hx3
     have hk3' := hide hk3
     have hb3' := hide hb3
     have ho3' := hide ho3
     have hsz3' := hide hk3.size
     clear hk3 hb3 ho3
     obtain ⟨v4,w4,hrun,ho4,hg4⟩ := run_rV w3 wI.heap.size (.slice A1 (o.length + 1) k1) (o ++ [(u,(lab,wt))]) (a,(l,t)) (by have := unhide ho3'; simpa using this) (by have := unhide hol'; simp; omega) (unhide hsz3') 27
     have hr0 := (unhide hb3').cells 0 (v := (.slice A1 (o.length + 1) k1)) rfl
     obtain ⟨A6,k6,rfl⟩ := own_slice ho4
     obtain ⟨W6,hW6,f1,f2,hk6,hb6,ho6,_,_⟩ := fld_step (i := 0) (unhide hk3') (unhide hnI') (unhide hb3') (unhide ho3') (ext_self1 w3 _) ho4 hg4 (by simp)
     simp at hW6
     have hk6' := hide hk6
     have hb6' := hide hb6
     have ho6' := hide ho6
     clear hk6 hb6 ho6 ho4 hg4
     simp only [encV] at hrun
     refine lx_one (i := 7) (by kernel_rfl) rfl (by rfl) #[true,true,true,true,true,true,true,true,false,false,false] (by rfl) ?_
     go_simp
     refine lx_one (i := 8) (by kernel_rfl) rfl (by rfl) #[true,true,true,true,true,true,true,true,true,false,false] (by rfl) ?_
     rw [ex_append rfl (by rfl) (by rfl) hrun]
     go_simp
     refine lx_one (i := 9) (by kernel_rfl) rfl (by rfl) #[true,true,true,true,true,true,true,true,true,true,false] (by rfl) ?_
     go_simp
     refine lx_one (i := 10) (by kernel_rfl) rfl (by rfl) #[true,true,true,true,true,true,true,true,true,true,true] (by rfl) ?_
     go_simp
     refine wpX_done (by kernel_rfl) ?_
     try go_frame
     go_wp2
     go_roundw
     case rel =>
      exact ⟨k + 1,true,o ++ [(u,(lab,wt))] ++ [(a,(l,t))],_,by omega,by go_num,rfl,by rw [unhide st']; unfold insS; rw [unhide hgt'']; simp [gtV,hc],unhide hk6',unhide hb6',by have := unhide ho6'; simpa using this⟩
     case measure => simp [intOf]; omega
    ·go_wp2
     clear d0
     have c1_ := fun (W : World) (hW : Ext wr W) => c1 W (Ext.trans hxr hW)
     have c2_ := fun (W : World) (hW : Ext wr W) => c2 W (Ext.trans hxr hW)
     have c3_ := fun (W : World) (hW : Ext wr W) => c3 W (Ext.trans hxr hW)
     have d0_ := ((unhide hhb2).keep (unhide hkeep') (by simp <;> omega)).cells 0 (v := .slice (some ⟨b,off,none⟩) V.length cV) rfl
     have hq3_ := (unhide hhb3).keep (unhide hkeep') (by simp <;> omega)
     have e0_ := hq3_.cells 0 (v := .int .i64 u) rfl
     have e1_ := hq3_.cells 1 (v := .int .u8 lab) rfl
     have e2_ := hq3_.cells 2 (v := .int .i64 wt) rfl
     have r0_ := (unhide hbk').cells 0 (v := vs) rfl
     have r1_ := (unhide hbk').cells 1 (v := .slice B E.length cE) rfl
     clear hq3_
     refine wp_region_still (P := Tryz.prog) [0,1,2,3,4,5,6,7,8,9,10,11,12] [] 0 #[true,true,true,true,true,true,true,true,true,true,true,true,true] (by kernel_rfl) (by kernel_rfl) rfl (by rfl) ?_
     iterate 13
      refine ql_want (v := ?_) rfl (by rfl) (fun W hW => ?_) ?_
      rotate_left
      ·go_simp
       first | done | rfl
      go_frame
     refine wpQL_nil (fun w2 hx2 => ?_)
     refine wpX_done (by kernel_rfl) ?_
     clear c1_ c2_ c3_ d0_ e0_ e1_ e2_ r0_ r1_
     have hxw2 : Ext w w2 := Ext.trans hxr hx2
     have hk2 : Keep [n + 1 + 1 + 1] wI w2 := (unhide hkeep').trans (hx2.keep _)
     have hb2 := (unhide hbk').ext hx2
     have ho2 := own_ext (unhide hown') hx2
     have hk2' := hide hk2
     have hb2' := hide hb2
     have ho2' := hide ho2
     have hsz2' := hide hk2.size
     clear hk2 hb2 ho2
     try go_frame
     go_wp2
     have c1_ := fun (W : World) (hW : Ext w2 W) => c1 W (Ext.trans hxw2 hW)
     have c2_ := fun (W : World) (hW : Ext w2 W) => c2 W (Ext.trans hxw2 hW)
     have c3_ := fun (W : World) (hW : Ext w2 W) => c3 W (Ext.trans hxw2 hW)
     have d0_ := ((unhide hhb2).keep (unhide hk2') (by simp <;> omega)).cells 0 (v := .slice (some ⟨b,off,none⟩) V.length cV) rfl
     have hq3_ := (unhide hhb3).keep (unhide hk2') (by simp <;> omega)
     have e0_ := hq3_.cells 0 (v := .int .i64 u) rfl
     have e1_ := hq3_.cells 1 (v := .int .u8 lab) rfl
     have e2_ := hq3_.cells 2 (v := .int .i64 wt) rfl
     have r0_ := (unhide hb2').cells 0 (v := vs) rfl
     have r1_ := (unhide hb2').cells 1 (v := .slice B E.length cE) rfl
     clear hq3_
     refine wp_region_still (P := Tryz.prog) [0,1,2,3,4,5,6] [8,9,10] 4 #[true,true,true,true,true,true,true,false,false,false,false] (by kernel_rfl) (by kernel_rfl) rfl (by rfl) ?_
     iterate 7
      refine ql_want (v := ?_) rfl (by rfl) (fun W hW => ?_) ?_
      rotate_left
      ·go_simp
       first | done | rfl
      go_frame
     refine wpQL_nil (fun w3 hx3 => ?_)
     clear c1_ c2_ c3_ d0_ e0_ e1_ e2_ r0_ r1_
     have hxw3 : Ext w w3 := Ext.trans hxw2 hx3
     have hk3 : Keep [n + 1 + 1 + 1] wI w3 := (unhide hk2').trans (hx3.keep _)
     have hb3 := (unhide hb2').ext hx3
     have ho3 := own_ext (unhide ho2') hx3
     have hk3' := hide hk3
     have hb3' := hide hb3
     have ho3' := hide ho3
     have hsz3' := hide hk3.size
     clear hk3 hb3 ho3
     obtain ⟨v4,w4,hrun,ho4,hg4⟩ := run_rV w3 wI.heap.size vs (o) (a,(l,t)) (by have := unhide ho3'; simpa using this) (by have := unhide hol'; simp; omega) (unhide hsz3') 27
     have hr0 := (unhide hb3').cells 0 (v := vs) rfl
     obtain ⟨A6,k6,rfl⟩ := own_slice ho4
     obtain ⟨W6,hW6,f1,f2,hk6,hb6,ho6,_,_⟩ := fld_step (i := 0) (unhide hk3') (unhide hnI') (unhide hb3') (unhide ho3') (ext_self1 w3 _) ho4 hg4 (by simp)
     simp at hW6
     have hk6' := hide hk6
     have hb6' := hide hb6
     have ho6' := hide ho6
     clear hk6 hb6 ho6 ho4 hg4
     simp only [encV] at hrun
     refine lx_one (i := 7) (by kernel_rfl) rfl (by rfl) #[true,true,true,true,true,true,true,true,false,false,false] (by rfl) ?_
     go_simp
     refine lx_one (i := 8) (by kernel_rfl) rfl (by rfl) #[true,true,true,true,true,true,true,true,true,false,false] (by rfl) ?_
     rw [ex_append rfl (by rfl) (by rfl) hrun]
     go_simp
     refine lx_one (i := 9) (by kernel_rfl) rfl (by rfl) #[true,true,true,true,true,true,true,true,true,true,false] (by rfl) ?_
     go_simp
     refine lx_one (i := 10) (by kernel_rfl) rfl (by rfl) #[true,true,true,true,true,true,true,true,true,true,true] (by rfl) ?_
     go_simp
     refine wpX_done (by kernel_rfl) ?_
     try go_frame
     go_wp2
     go_roundw
     case rel =>
      exact ⟨k + 1,false,o ++ [(a,(l,t))],_,by omega,by go_num,rfl,by rw [unhide st']; unfold insS; rw [unhide hgt'']; simp [gtV,hc],unhide hk6',unhide hb6',by have := unhide ho6'; simpa using this⟩
     case measure => simp [intOf]; omega
   ·go_wp2
    clear d0
    have c1_ := fun (W : World) (hW : Ext wr W) => c1 W (Ext.trans hxr hW)
    have c2_ := fun (W : World) (hW : Ext wr W) => c2 W (Ext.trans hxr hW)
    have c3_ := fun (W : World) (hW : Ext wr W) => c3 W (Ext.trans hxr hW)
    have d0_ := ((unhide hhb2).keep (unhide hkeep') (by simp <;> omega)).cells 0 (v := .slice (some ⟨b,off,none⟩) V.length cV) rfl
    have hq3_ := (unhide hhb3).keep (unhide hkeep') (by simp <;> omega)
    have e0_ := hq3_.cells 0 (v := .int .i64 u) rfl
    have e1_ := hq3_.cells 1 (v := .int .u8 lab) rfl
    have e2_ := hq3_.cells 2 (v := .int .i64 wt) rfl
    have r0_ := (unhide hbk').cells 0 (v := vs) rfl
    have r1_ := (unhide hbk').cells 1 (v := .slice B E.length cE) rfl
    clear hq3_
    refine wp_region_still (P := Tryz.prog) [0,1,2,3,4,5,6,7,8,9,10,11,12] [] 0 #[true,true,true,true,true,true,true,true,true,true,true,true,true] (by kernel_rfl) (by kernel_rfl) rfl (by rfl) ?_
    iterate 3
     refine ql_want (v := ?_) rfl (by rfl) (fun W hW => ?_) ?_
     rotate_left
     ·go_simp
      first | done | rfl
     go_frame
    iterate 9
     refine ql_skip rfl (by rfl) ?_
     try go_frame
    iterate 1
     refine ql_want (v := ?_) rfl (by rfl) (fun W hW => ?_) ?_
     rotate_left
     ·go_simp
      first | done | rfl
     go_frame
    refine wpQL_nil (fun w2 hx2 => ?_)
    refine wpX_done (by kernel_rfl) ?_
    clear c1_ c2_ c3_ d0_ e0_ e1_ e2_ r0_ r1_
    have hxw2 : Ext w w2 := Ext.trans hxr hx2
    have hk2 : Keep [n + 1 + 1 + 1] wI w2 := (unhide hkeep').trans (hx2.keep _)
    have hb2 := (unhide hbk').ext hx2
    have ho2 := own_ext (unhide hown') hx2
    have hk2' := hide hk2
    have hb2' := hide hb2
    have ho2' := hide ho2
    have hsz2' := hide hk2.size
    clear hk2 hb2 ho2
    try go_frame
    go_wp2
    have c1_ := fun (W : World) (hW : Ext w2 W) => c1 W (Ext.trans hxw2 hW)
    have c2_ := fun (W : World) (hW : Ext w2 W) => c2 W (Ext.trans hxw2 hW)
    have c3_ := fun (W : World) (hW : Ext w2 W) => c3 W (Ext.trans hxw2 hW)
    have d0_ := ((unhide hhb2).keep (unhide hk2') (by simp <;> omega)).cells 0 (v := .slice (some ⟨b,off,none⟩) V.length cV) rfl
    have hq3_ := (unhide hhb3).keep (unhide hk2') (by simp <;> omega)
    have e0_ := hq3_.cells 0 (v := .int .i64 u) rfl
    have e1_ := hq3_.cells 1 (v := .int .u8 lab) rfl
    have e2_ := hq3_.cells 2 (v := .int .i64 wt) rfl
    have r0_ := (unhide hb2').cells 0 (v := vs) rfl
    have r1_ := (unhide hb2').cells 1 (v := .slice B E.length cE) rfl
    clear hq3_
    refine wp_region_still (P := Tryz.prog) [0,1,2,3,4,5,6] [8,9,10] 4 #[true,true,true,true,true,true,true,false,false,false,false] (by kernel_rfl) (by kernel_rfl) rfl (by rfl) ?_
    iterate 7
     refine ql_want (v := ?_) rfl (by rfl) (fun W hW => ?_) ?_
     rotate_left
     ·go_simp
      first | done | rfl
     go_frame
    refine wpQL_nil (fun w3 hx3 => ?_)
    clear c1_ c2_ c3_ d0_ e0_ e1_ e2_ r0_ r1_
    have hxw3 : Ext w w3 := Ext.trans hxw2 hx3
    have hk3 : Keep [n + 1 + 1 + 1] wI w3 := (unhide hk2').trans (hx3.keep _)
    have hb3 := (unhide hb2').ext hx3
    have ho3 := own_ext (unhide ho2') hx3
    have hk3' := hide hk3
    have hb3' := hide hb3
    have ho3' := hide ho3
    have hsz3' := hide hk3.size
    clear hk3 hb3 ho3
    obtain ⟨v4,w4,hrun,ho4,hg4⟩ := run_rV w3 wI.heap.size vs (o) (a,(l,t)) (by have := unhide ho3'; simpa using this) (by have := unhide hol'; simp; omega) (unhide hsz3') 27
    have hr0 := (unhide hb3').cells 0 (v := vs) rfl
    obtain ⟨A6,k6,rfl⟩ := own_slice ho4
    obtain ⟨W6,hW6,f1,f2,hk6,hb6,ho6,_,_⟩ := fld_step (i := 0) (unhide hk3') (unhide hnI') (unhide hb3') (unhide ho3') (ext_self1 w3 _) ho4 hg4 (by simp)
    simp at hW6
    have hk6' := hide hk6
    have hb6' := hide hb6
    have ho6' := hide ho6
    clear hk6 hb6 ho6 ho4 hg4
    simp only [encV] at hrun
    refine lx_one (i := 7) (by kernel_rfl) rfl (by rfl) #[true,true,true,true,true,true,true,true,false,false,false] (by rfl) ?_
    go_simp
    refine lx_one (i := 8) (by kernel_rfl) rfl (by rfl) #[true,true,true,true,true,true,true,true,true,false,false] (by rfl) ?_
    rw [ex_append rfl (by rfl) (by rfl) hrun]
    go_simp
    refine lx_one (i := 9) (by kernel_rfl) rfl (by rfl) #[true,true,true,true,true,true,true,true,true,true,false] (by rfl) ?_
    go_simp
    refine lx_one (i := 10) (by kernel_rfl) rfl (by rfl) #[true,true,true,true,true,true,true,true,true,true,true] (by rfl) ?_
    go_simp
    refine wpX_done (by kernel_rfl) ?_
    try go_frame
    go_wp2
    go_roundw
    case rel =>
     exact ⟨k + 1,true,o ++ [(a,(l,t))],_,by omega,by go_num,rfl,by rw [unhide st']; unfold insS; simp,unhide hk6',unhide hb6',by have := unhide ho6'; simpa using this⟩
    case measure => simp [intOf]; omega
  ·have hkE : k = V.length := by omega
   rw [hkE,List.take_length] at hfold
   have hres : insF gt (u,(lab,wt)) V = if dn = true then o else o ++ [(u,(lab,wt))] := by
    unfold insF
    rw [hfold]
   have hres' := hide hres
   clear hres hfold
   obtain ⟨As,ks,rfl⟩ := own_slice (unhide hown')
   cases dn
   ·go_wp2_with (at_builtin; refine wp_rV wr rfl _ _ rfl wI.heap.size (.slice As o.length ks) o.length o (u,(lab,wt)) rfl wr.heap.size _ (by rfl) rfl (by rfl) (by rfl) (unhide hown') (Nat.le_trans (unhide hol') (by omega)) (unhide hsz') ?_; intro A1 k1 w4 ho4 hg4; obtain ⟨W5,hW5,f1,f2,hk5,hb5,ho5,hbb5,hs5⟩ := fld_step (i := 0) (unhide hkeep') (unhide hnI') (unhide hbk') (unhide hown') (ext_self1 wr _) ho4 hg4 (by simp); have r0' := hb5.cell 0; have r1' := hb5.cell 1; have hq4 := (unhide hhb4).keep hk5 (by simp); have s0 := hq4.cell 0; have s1 := hq4.cell 1; have s2 := hq4.frozen 0; have s3 := hq4.frozen 1; simp at r0' r1' s0 s1; have hk5' := hide hk5; have hb5' := hide hb5; have ho5' := hide ho5; clear hk5 hb5 ho5 hbb5 hs5 ho4 hg4 hq4)
    refine bodyPost_ret (ret_cell1 rfl rfl (load_G2 W5 (n + 1 + 1) _ _ _ _ s0 s1)) rfl ?_
    have hx5 : Ext w W5 := (unhide hhI).of_new (unhide hk5') (by simp <;> omega)
    obtain ⟨q1,q2⟩ := fin_row hx5 (b4 := n + 1 + 1) (by omega) (unhide ho5') (by have := unhide hsI'; omega) (.slice A1 (o.length + 1) k1) (.slice B E.length cE)
    have hres2 := unhide hres'
    simp only [Bool.false_eq_true,if_false] at hres2
    rw [hres2]
    obtain ⟨A2,c2,he,hs⟩ := SlAt.of_own (enc := encV) (xs := o ++ [(u,(lab,wt))]) (by simpa using q2) (fun _ => rfl)
    simp only [Value.slice.injEq] at he
    obtain ⟨rfl,_,rfl⟩ := he
    first | exact ⟨A1,k1,by simp,hs,q1⟩ | exact ⟨A1,⟨k1,by simp⟩,hs,q1⟩
   ·have r0' := (unhide hbk').cell 0
    have r1' := (unhide hbk').cell 1
    have hq4 := (unhide hhb4).keep (unhide hkeep') (by simp)
    have s0 := hq4.cell 0
    have s1 := hq4.cell 1
    have s2 := hq4.frozen 0
    have s3 := hq4.frozen 1
    simp at r0' r1' s0 s1
    go_wp2
    refine bodyPost_ret (ret_cell1 rfl rfl (load_G2 wr (n + 1 + 1) _ _ _ _ s0 s1)) rfl ?_
    obtain ⟨q1,q2⟩ := fin_row hxr (b4 := n + 1 + 1) (by omega) (unhide hown') (by have := unhide hsI'; omega) (.slice As o.length ks) (.slice B E.length cE)
    have hres2 := unhide hres'
    simp only [if_true] at hres2
    rw [hres2]
    obtain ⟨A2,c2,he,hs⟩ := SlAt.of_own (enc := encV) (xs := o) q2 (fun _ => rfl)
    simp only [Value.slice.injEq] at he
    obtain ⟨rfl,_,rfl⟩ := he
    first | exact ⟨As,ks,rfl,hs,q1⟩ | exact ⟨As,⟨ks,rfl⟩,hs,q1⟩
end Go.Proofs.YtmokciekndllpaaGreatDoor
namespace Go.Proofs.YtmokciekndllpaaGreatDoor
open Go Go.RowKit
theorem blk3 (w : World) (X Y Z : Array Value) (S T R : TypeId) : Blk (((w.alloc (.cells X S)).alloc (.cells Y T)).alloc (.cells Z R)) w.heap.size S X ∧ Blk (((w.alloc (.cells X S)).alloc (.cells Y T)).alloc (.cells Z R)) (w.heap.size + 1) T Y ∧
  Blk (((w.alloc (.cells X S)).alloc (.cells Y T)).alloc (.cells Z R)) (w.heap.size + 1 + 1) R Z := by
 have h1 := Blk.new w S X
 have h2 := Blk.new (w.alloc (.cells X S)) T Y
 have h3 := Blk.new ((w.alloc (.cells X S)).alloc (.cells Y T)) R Z
 simp only [World.size_alloc] at h2 h3
 exact ⟨h1.ext (ext_self2 _ _ _),h2.ext (ext_self1 _ _),h3⟩
def fV (op u lab wt : Int) (x : Int × Thing) : List (Int × Thing) :=
 if op = 1 ∧ x.1 = u then [] else if op = 4 ∧ x.1 = u then [(x.1,(lab,x.2.2))] else if op = 5 ∧ x.1 = u then [(x.1,(x.2.1,wt))] else [x]
def fE (op u lab wt pos : Int) (x : ((Int × Int) × Thing) × Nat) : List ((Int × Int) × Thing) :=
 if op = 1 ∧ (x.1.1.1 = u ∨ x.1.1.2 = u) then [] else if op = 3 ∧ (x.2 : Int) = pos then [] else if op = 6 ∧ (x.2 : Int) = pos then [(x.1.1,(lab,x.1.2.2))] else if op = 7 ∧ (x.2 : Int) = pos then [(x.1.1,(x.1.2.1,wt))] else [x.1]
def posD (op u v : Int) (E : List ((Int × Int) × Thing)) : Int := if pairsB op then posI (isE u v) E else -1
theorem fV_len (op u lab wt : Int) (x : Int × Thing) : (fV op u lab wt x).length ≤ 1 := by
 unfold fV
 repeat' split
 all_goals simp
theorem fE_len (op u lab wt pos : Int) (x : ((Int × Int) × Thing) × Nat) : (fE op u lab wt pos x).length ≤ 1 := by
 unfold fE
 repeat' split
 all_goals simp
theorem flat_le {α β : Type} {f : α → List β} (h : ∀ x,(f x).length ≤ 1) : ∀ l : List α,(l.flatMap f).length ≤ l.length
 | [] => by simp
 | x :: r => by
  rw [List.flatMap_cons,List.length_append,List.length_cons]
  have := h x
  have := flat_le h r
  omega
theorem flat_take {α β : Type} {f : α → List β} {l : List α} {k : Nat} (hk : k < l.length) {o : List β} (h : (l.take k).flatMap f = o) : (l.take (k + 1)).flatMap f = o ++ f l[k] := by
 rw [List.take_succ_eq_append_getElem hk,List.flatMap_append,h]
 simp
set_option maxRecDepth 100000 in
set_option maxHeartbeats 4000000 in
theorem do_err (A B : Option Addr) (V : List (Int × Thing)) (E : List ((Int × Int) × Thing)) (cV cE : Nat) (op u v lab wt no : Int) (w : World) (hno : no ≠ 0)
  (hW : ∀ W,Ext w W → Calls Tryz.prog 155 #[.agg #[.slice A V.length cV, .slice B E.length cE], .agg #[.int .i64 op, .int .i64 u, .int .i64 v, .int .u8 lab, .int .i64 wt]] W fun e w' => e = .returned (.int .i64 no) ∧ Ext W w') :
  Calls Tryz.prog 108 #[.agg #[.slice A V.length cV, .slice B E.length cE], .agg #[.int .i64 op, .int .i64 u, .int .i64 v, .int .u8 lab, .int .i64 wt]] w fun e w' => e = .returned (.tuple #[.agg #[.slice A V.length cV, .slice B E.length cE], .int .i64 no]) ∧ Ext w w' := by
 have hW' := hide hW
 clear hW
 obtain ⟨hb2,hb3,hb4⟩ := blk3 w #[.slice A V.length cV, .slice B E.length cE] #[.int .i64 op, .int .i64 u, .int .i64 v, .int .u8 lab, .int .i64 wt] #[.slice none 0 0, .slice none 0 0] 30 160 30
 have d0 := hb2.cells 0 (v := .slice A V.length cV) rfl
 have d1 := hb2.cells 1 (v := .slice B E.length cE) rfl
 have hb4' := hide hb4
 clear hb2 hb3 hb4
 go_enter Tryz.func108,Tryz.ntmps108
 go_wp2_with (go_at_call 155; refine (unhide hW' _ (ext_self3 _ _ _ _)).mono ?_; rintro e w2 ⟨rfl,hx2⟩; have hq := (unhide hb4').ext hx2; have s0 := hq.cell 0; have s1 := hq.cell 1; have s2 := hq.frozen 0; have s3 := hq.frozen 1; simp at s0 s1; clear hq)
 refine bodyPost_ret (ret_cell2 rfl rfl (load_G2 w2 (w.heap.size + 1 + 1) _ _ _ _ s0 s1)) rfl ?_
 exact ⟨rfl,Below.setCell (Below.setCell ((ext_self3 _ _ _ _).trans hx2) (by simp; omega) _) (by simp; omega) _⟩
end Go.Proofs.YtmokciekndllpaaGreatDoor
