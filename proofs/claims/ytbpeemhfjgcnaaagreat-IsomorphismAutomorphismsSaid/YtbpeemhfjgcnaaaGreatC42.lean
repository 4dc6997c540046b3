/- Parts of a proof, laid together. Each part says its own conditions. -/
import Derived.Test.YtbpeemhfjgcnaaaGreatC22
namespace Go.Proofs.YtbpeemhfjgcnaaaGreat
open Go Go.RowKit
attribute [local go_sem] qUpon lUpon
theorem bInv1 : ∀ (L : List (Int × Thing)) (s : GS),GInv s.1 s.2 → GInv (L.foldl stV s).1 (L.foldl stV s).2
 | [],_,h => h
 | d :: L,s,h => bInv1 L (stV s d) (h.next _ _ _ _ _)
theorem bInv2 : ∀ (L : List ((Int × Int) × Thing)) (s : GS),GInv s.1 s.2 → GInv (L.foldl stE s).1 (L.foldl stE s).2
 | [],_,h => h
 | d :: L,s,h => bInv2 L (stE s d) (h.next _ _ _ _ _)
theorem bS1_inv (Vs : List (Int × Thing)) : GInv (bS1 Vs).1 (bS1 Vs).2 := bInv1 _ _ GInv.nil
def rS (Vs : List (Int × Thing)) (Es : List ((Int × Int) × Thing)) : GS := if bErr Vs Es = 0 then bS Vs Es else ([],[])
theorem rS_yes {Vs : List (Int × Thing)} {Es : List ((Int × Int) × Thing)} (h : bErr Vs Es = 0) : rS Vs Es = bS Vs Es := if_pos h
theorem rS_no {Vs : List (Int × Thing)} {Es : List ((Int × Int) × Thing)} (h : bErr Vs Es ≠ 0) : rS Vs Es = ([],[]) := if_neg h
def OfPost (Vs : List (Int × Thing)) (Es : List ((Int × Int) × Thing)) (w : World) (e : Ending) (w' : World) : Prop :=
 ∃ A1 cA B1 cB,e = .returned (.tuple #[.agg #[.slice A1 (rS Vs Es).1.length cA, .slice B1 (rS Vs Es).2.length cB], .int .i64 (bErr Vs Es)]) ∧ SlAt encV 3 w' A1 (rS Vs Es).1 ∧ SlAt encE 4 w' B1 (rS Vs Es).2 ∧ Ext w w'
set_option maxRecDepth 100000 in
set_option maxHeartbeats 4000000 in
theorem of_any (A B : Option Addr) (Vs : List (Int × Thing)) (Es : List ((Int × Int) × Thing)) (cV cE : Nat) (w : World) (hV : SlAt encV 3 w A Vs) (hE : SlAt encE 4 w B Es) (hl : Vs.length ≤ 9223372036854775807) (hle : Es.length ≤ 9223372036854775807) :
  Calls Tryz.prog 54 #[.slice A Vs.length cV, .slice B Es.length cE] w (OfPost Vs Es w) := by
 have hV' := hide hV
 have hE' := hide hE
 clear hV hE
 have hb0 := (Blk.new w 28 #[.slice none 0 0, .slice none 0 0]).ext (ext_self1 _ (.cells #[.slice none 0 0, .slice none 0 0] 28))
 have hb1 := Blk.new (w.alloc (.cells #[.slice none 0 0, .slice none 0 0] 28)) 28 #[.slice none 0 0, .slice none 0 0]
 simp only [World.size_alloc] at hb1
 have hb0' := hide hb0
 have hb1' := hide hb1
 clear hb0 hb1
 go_enter Tryz.func54,Tryz.ntmps54
 go_wp2_with fail
 refine wp_abs (fun W => Blk W w.heap.size 28 #[.slice none 0 0, .slice none 0 0] ∧ MdRel w W (w.heap.size + 1) ([],[]) none none 0 0) ⟨unhide hb0',unhide hb1',SlAt.nil,SlAt.nil,ext_self2 _ _ _,by omega⟩ ?_
 rintro w2 ⟨hq0,hr0⟩
 have hr0' := hide hr0
 have hq0' := hide hq0
 have hne' := hide (show w.heap.size ≠ w.heap.size + 1 by omega)
 clear hr0 hq0 hb0' hb1'
 generalize hr1 : w.heap.size + 1 = gw at *
 generalize hr2 : w.heap.size = ge at *
 have hge' := hide hr2
 clear hr1 hr2
 go_loopw [8] (fun i wr => ∃ (k : Nat) (A1 B1 : Option Addr) (cA cB : Nat),k ≤ Vs.length ∧ i = .int .i64 k ∧ fe erV stV (Vs.take k) ([],[]) = 0 ∧ Blk wr ge 28 #[.slice none 0 0, .slice none 0 0] ∧ MdRel w wr gw ((Vs.take k).foldl stV ([],[])) A1 B1 cA cB) (fun i _ => Vs.length - (intOf i).toNat)
 case atStart => exact ⟨0,none,none,0,0,Nat.zero_le _,rfl,rfl,unhide hq0',unhide hr0'⟩
 case round =>
  obtain ⟨k,A1,B1,cA,cB,hk,rfl,hf,hq,hr⟩ := hrel
  have hr' := hide hr
  have hq' := hide hq
  have hf' := hide hf
  clear hr hr0' hq hq0' hf
  by_cases hlt : k < Vs.length
  ·obtain ⟨b,off,rfl,c0,c1,c2⟩ := atV ((unhide hV').ext (unhide hr').ext) hlt
   have hst := hide (fold_step (st := stV) (s := ([],[])) hlt)
   have hfs := hide (fun h => fe_step (er := erV) (st := stV) (s := ([],[])) hlt (unhide hf') h)
   have hfe := hide (fun h => fe_stop (er := erV) (st := stV) (s := ([],[])) hlt (unhide hf') h)
   have hin := hide (bInv1 (Vs.take k) ([],[]) GInv.nil)
   generalize (Vs.take k).foldl stV ([],[]) = S at *
   obtain ⟨V,E⟩ := S
   generalize hy : Vs[k] = y at c0 c1 c2 hst hfs hfe
   obtain ⟨u,lab,wt⟩ := y
   have hB0 := (unhide hr').blk
   have q0 := hB0.cells 0 (v := .slice A1 V.length cA) rfl
   have q1 := hB0.cells 1 (v := .slice B1 E.length cB) rfl
   clear hy hB0
   simp only at c0 c1 c2
   by_cases h0 : wrongR 0 u 0 wt V E = 0
   ·have h0' := hide h0
    clear h0
    go_wp2_with fail
    refine wp_region_ext (P := Tryz.prog) [0,1,2,3,4,5,6,7,8,9,10,11,12,13,14,15,16] [17,18,19,20,21,22] 6 #[true,true,true,true,true,true,true,true,true,true,true,true,true,true,true,true,true,false,false,false,false,false,false] (by kernel_rfl) (by kernel_rfl) rfl (by rfl) ?_
    iterate 17
     refine ql_want (v := ?_) rfl (by rfl) (fun W hW => ?_) ?_
     rotate_left
     ·go_simp
      first | done | rfl
     go_frame
    refine wpQL_nil (fun w3 hx3 => ?_)
    clear q0 q1 c0 c1 c2
    refine lx_one (i := 17) (by kernel_rfl) rfl (by rfl) #[true,true,true,true,true,true,true,true,true,true,true,true,true,true,true,true,true,true,false,false,false,false,false] (by rfl) ?_
    go_simp
    have hr3 := (unhide hr').go hx3
    have hq3 := (unhide hq').ext hx3
    refine (do_any A1 B1 V E cA cB 0 u 0 lab wt _ hr3.sv hr3.se (Nat.le_trans (unhide hin).nv (by omega)) (Nat.le_trans (unhide hin).ne (by omega))).mono ?_
    rintro e w4 ⟨A2,cA2,B2,cB2,rfl,hs4,he4,hx4⟩
    refine ⟨_,rfl,fun w5 hx5 => ?_⟩
    have hx35 := hx4.trans hx5
    have hb5 := hr3.blk.ext hx35
    have hc5 := hide (GCls.refl hb5)
    have hG5 : ∃ A n c B m d,Blk w5 gw 28 #[.slice A n c, .slice B m d] := ⟨_,_,_,_,_,_,hb5⟩
    have hG5' := hide hG5
    have hq5 := hide (hq3.ext hx35)
    have hs5 := hide (hs4.ext hx5)
    have he5 := hide (he4.ext hx5)
    have hxw5 := hide (hr3.ext.trans hx35)
    have hlo := hide hr3.lo
    clear hr3 hq3 hs4 he4 hx4 hx5 hx35 hb5 hG5 hx3 hr' hq'
    refine lx_re (GCls gw w5) [18,19,20] 2 5 #[true,true,true,true,true,true,true,true,true,true,true,true,true,true,true,true,true,true,false,false,false,false,false] #[true,true,true,true,true,true,true,true,true,true,true,true,true,true,true,true,true,true,true,true,true,false,false] (by kernel_rfl) (by kernel_rfl) rfl (by rfl) Ext.refl (fun _ _ _ => Ext.trans) (fun _ _ h k => h.ext k) (unhide hc5) ?_
    iterate 3
     refine ql_want (v := ?_) rfl (by rfl) (fun W hW => ?_) ?_
     rotate_left
     ·go_simp
      first | done | rfl
     go_frame
    refine wpQL_nil (fun w6 hc6 => ?_)
    have hc6' := hide hc6
    obtain ⟨hk6,A0,n0,k0,B0,m0,d0,hb6⟩ := hc6
    have s0 := hb6.cell 0
    have s1 := hb6.cell 1
    have f0 := hb6.frozen 0
    have f1 := hb6.frozen 1
    have hb6' := hide hb6
    simp at s0 s1
    clear hk6 hb6
    refine lx_one (i := 21) (by kernel_rfl) rfl (by rfl) #[true,true,true,true,true,true,true,true,true,true,true,true,true,true,true,true,true,true,true,true,true,true,false] (by rfl) ?_
    go_simp
    clear s0 s1 f0 f1
    have hc7 := (unhide hc6').set A2 B2 (nxV 0 u 0 lab wt V E).length cA2 (nxE 0 u 0 lab wt V E).length cB2
    have hb7 := (unhide hb6').set2 (p' := .slice A2 (nxV 0 u 0 lab wt V E).length cA2) (q' := .slice B2 (nxE 0 u 0 lab wt V E).length cB2)
    generalize ((w6.setCell ⟨gw,0,none⟩ (.slice A2 (nxV 0 u 0 lab wt V E).length cA2)).setCell ⟨gw,1,none⟩ (.slice B2 (nxE 0 u 0 lab wt V E).length cB2)) = w7 at *
    first | refine ⟨hc7, ?_⟩ | skip
    intro w8 hx8
    refine lx_one (i := 22) (by kernel_rfl) rfl (by rfl) #[true,true,true,true,true,true,true,true,true,true,true,true,true,true,true,true,true,true,true,true,true,true,true] (by rfl) ?_
    go_simp
    have hc8 := hc7.ext hx8
    first | refine ⟨hc8, ?_⟩ | skip
    intro w9 hx9
    have hrel := MdRel.go (w := w) (S := stV (V,E) (u,(lab,wt))) ⟨hb7,(unhide hs5).cls hc7 (unhide hG5') encV_ns encV0,(unhide he5).cls hc7 (unhide hG5') encE_ns encE0,(unhide hxw5).of_new hc7.1 (by have := unhide hlo; simpa using this),unhide hlo⟩ (hx8.trans hx9)
    have hq8 := hide (((unhide hq5).keep hc7.1 (by simpa using unhide hne')).ext (hx8.trans hx9))
    have hrel' := hide hrel
    clear hrel hc7 hc8 hb7 hc6' hb6' hx8 hx9 hc5 hG5' hq5 hs5 he5 hxw5 hlo
    refine wpX_done (by kernel_rfl) ?_
    try go_frame
    rw [unhide h0']
    go_wp2_with fail
    go_roundw
    case rel => exact ⟨k + 1,A2,B2,cA2,cB2,by omega,by go_num,unhide hfs (unhide h0'),unhide hq8,by rw [unhide hst]; exact unhide hrel'⟩
    case measure => simp [intOf]; omega
   ·have hbe : bErr Vs Es = wrongR 0 u 0 wt V E := by
     have h1 := unhide hfe h0
     unfold bErr
     rw [h1]
     exact if_neg h0
    have hbe' := hide hbe
    have h0' := hide h0
    have hb := bne0 h0
    have hb' := hide hb
    clear hbe h0 hb
    go_wp2_with fail
    refine wp_region_ext (P := Tryz.prog) [0,1,2,3,4,5,6,7,8,9,10,11,12,13,14,15,16] [17,18,19,20,21,22] 6 #[true,true,true,true,true,true,true,true,true,true,true,true,true,true,true,true,true,false,false,false,false,false,false] (by kernel_rfl) (by kernel_rfl) rfl (by rfl) ?_
    iterate 17
     refine ql_want (v := ?_) rfl (by rfl) (fun W hW => ?_) ?_
     rotate_left
     ·go_simp
      first | done | rfl
     go_frame
    refine wpQL_nil (fun w3 hx3 => ?_)
    clear q0 q1 c0 c1 c2
    refine lx_one (i := 17) (by kernel_rfl) rfl (by rfl) #[true,true,true,true,true,true,true,true,true,true,true,true,true,true,true,true,true,true,false,false,false,false,false] (by rfl) ?_
    go_simp
    have hr3 := (unhide hr').go hx3
    have hq3 := (unhide hq').ext hx3
    refine (do_any A1 B1 V E cA cB 0 u 0 lab wt _ hr3.sv hr3.se (Nat.le_trans (unhide hin).nv (by omega)) (Nat.le_trans (unhide hin).ne (by omega))).mono ?_
    rintro e w4 ⟨A2,cA2,B2,cB2,rfl,hs4,he4,hx4⟩
    refine ⟨_,rfl,fun w5 hx5 => ?_⟩
    have hx35 := hx4.trans hx5
    have hb5 := hr3.blk.ext hx35
    have hc5 := hide (GCls.refl hb5)
    have hG5 : ∃ A n c B m d,Blk w5 gw 28 #[.slice A n c, .slice B m d] := ⟨_,_,_,_,_,_,hb5⟩
    have hG5' := hide hG5
    have hq5 := hide (hq3.ext hx35)
    have hs5 := hide (hs4.ext hx5)
    have he5 := hide (he4.ext hx5)
    have hxw5 := hide (hr3.ext.trans hx35)
    have hlo := hide hr3.lo
    clear hr3 hq3 hs4 he4 hx4 hx5 hx35 hb5 hG5 hx3 hr' hq'
    refine lx_re (GCls gw w5) [18,19,20] 2 5 #[true,true,true,true,true,true,true,true,true,true,true,true,true,true,true,true,true,true,false,false,false,false,false] #[true,true,true,true,true,true,true,true,true,true,true,true,true,true,true,true,true,true,true,true,true,false,false] (by kernel_rfl) (by kernel_rfl) rfl (by rfl) Ext.refl (fun _ _ _ => Ext.trans) (fun _ _ h k => h.ext k) (unhide hc5) ?_
    iterate 3
     refine ql_want (v := ?_) rfl (by rfl) (fun W hW => ?_) ?_
     rotate_left
     ·go_simp
      first | done | rfl
     go_frame
    refine wpQL_nil (fun w6 hc6 => ?_)
    have hc6' := hide hc6
    obtain ⟨hk6,A0,n0,k0,B0,m0,d0,hb6⟩ := hc6
    have s0 := hb6.cell 0
    have s1 := hb6.cell 1
    have f0 := hb6.frozen 0
    have f1 := hb6.frozen 1
    have hb6' := hide hb6
    simp at s0 s1
    clear hk6 hb6
    refine lx_one (i := 21) (by kernel_rfl) rfl (by rfl) #[true,true,true,true,true,true,true,true,true,true,true,true,true,true,true,true,true,true,true,true,true,true,false] (by rfl) ?_
    go_simp
    clear s0 s1 f0 f1
    have hc7 := (unhide hc6').set A2 B2 (nxV 0 u 0 lab wt V E).length cA2 (nxE 0 u 0 lab wt V E).length cB2
    have hb7 := (unhide hb6').set2 (p' := .slice A2 (nxV 0 u 0 lab wt V E).length cA2) (q' := .slice B2 (nxE 0 u 0 lab wt V E).length cB2)
    generalize ((w6.setCell ⟨gw,0,none⟩ (.slice A2 (nxV 0 u 0 lab wt V E).length cA2)).setCell ⟨gw,1,none⟩ (.slice B2 (nxE 0 u 0 lab wt V E).length cB2)) = w7 at *
    first | refine ⟨hc7, ?_⟩ | skip
    intro w8 hx8
    refine lx_one (i := 22) (by kernel_rfl) rfl (by rfl) #[true,true,true,true,true,true,true,true,true,true,true,true,true,true,true,true,true,true,true,true,true,true,true] (by rfl) ?_
    go_simp
    have hc8 := hc7.ext hx8
    first | refine ⟨hc8, ?_⟩ | skip
    intro w9 hx9
    have hrel := MdRel.go (w := w) (S := stV (V,E) (u,(lab,wt))) ⟨hb7,(unhide hs5).cls hc7 (unhide hG5') encV_ns encV0,(unhide he5).cls hc7 (unhide hG5') encE_ns encE0,(unhide hxw5).of_new hc7.1 (by have := unhide hlo; simpa using this),unhide hlo⟩ (hx8.trans hx9)
    have hq8 := hide (((unhide hq5).keep hc7.1 (by simpa using unhide hne')).ext (hx8.trans hx9))
    have hrel' := hide hrel
    clear hrel hc7 hc8 hb7 hc6' hb6' hx8 hx9 hc5 hG5' hq5 hs5 he5 hxw5 hlo
    refine wpX_done (by kernel_rfl) ?_
    try go_frame
    have hb := unhide hb'
    generalize hno : wrongR 0 u 0 wt V E = no at *
    have hno' := hide hno
    clear hno
    have s0 := (unhide hq8).cell 0
    have s1 := (unhide hq8).cell 1
    have f0 := (unhide hq8).frozen 0
    have f1 := (unhide hq8).frozen 1
    simp at s0 s1
    go_wp2_with fail
    refine bodyPost_ret (ret_cell2 rfl rfl (load_G2 w9 ge _ _ _ _ s0 s1)) rfl ?_
    have hk := Keep.set2 w9 ge (.slice none 0 0) (.slice none 0 0)
    have hne := unhide h0'
    unfold OfPost
    refine ⟨none,0,none,0, ?_, ?_, ?_,(unhide hrel').ext.of_new hk (by have := unhide hge'; simp; omega)⟩
    ·rw [rS_no (by rw [unhide hbe']; exact hne),unhide hbe']; rfl
    ·rw [rS_no (by rw [unhide hbe']; exact hne)]; exact SlAt.nil
    ·rw [rS_no (by rw [unhide hbe']; exact hne)]; exact SlAt.nil
  ·have hkV : k = Vs.length := by omega
   subst hkV
   rw [List.take_length] at hf' hr'
   have hF := hide (unhide hf')
   have hQ := hide (unhide hq')
   have hR := hide (unhide hr')
   rename World => wV
   clear hf' hq' hr'
   go_wp2_with fail
   go_loopw [9] (fun i wr => ∃ (k : Nat) (A1 B1 : Option Addr) (cA cB : Nat),k ≤ Es.length ∧ i = .int .i64 k ∧ fe erE stE (Es.take k) (bS1 Vs) = 0 ∧ Blk wr ge 28 #[.slice none 0 0, .slice none 0 0] ∧ MdRel w wr gw ((Es.take k).foldl stE (bS1 Vs)) A1 B1 cA cB) (fun i _ => Es.length - (intOf i).toNat)
   case atStart => exact ⟨0,A1,B1,cA,cB,Nat.zero_le _,rfl,rfl,unhide hQ,unhide hR⟩
   case round =>
    obtain ⟨k,A1,B1,cA,cB,hk,rfl,hf,hq,hr⟩ := hrel
    have hr' := hide hr
    have hq' := hide hq
    have hf' := hide hf
    clear hr hq hf hQ hR
    by_cases hlt : k < Es.length
    ·obtain ⟨b,off,rfl,c0,c1,c2,c3⟩ := atE ((unhide hE').ext (unhide hr').ext) hlt
     have hst := hide (fold_step (st := stE) (s := (bS1 Vs)) hlt)
     have hfs := hide (fun h => fe_step (er := erE) (st := stE) (s := (bS1 Vs)) hlt (unhide hf') h)
     have hfe := hide (fun h => fe_stop (er := erE) (st := stE) (s := (bS1 Vs)) hlt (unhide hf') h)
     have hin := hide (bInv2 (Es.take k) _ (bS1_inv Vs))
     generalize (Es.take k).foldl stE (bS1 Vs) = S at *
     obtain ⟨V,E⟩ := S
     generalize hy : Es[k] = y at c0 c1 c2 c3 hst hfs hfe
     obtain ⟨⟨u,v⟩,⟨lab,wt⟩⟩ := y
     have hB0 := (unhide hr').blk
     have q0 := hB0.cells 0 (v := .slice A1 V.length cA) rfl
     have q1 := hB0.cells 1 (v := .slice B1 E.length cB) rfl
     clear hy hB0
     simp only at c0 c1 c2 c3
     by_cases h0 : wrongR 2 u v wt V E = 0
     ·have h0' := hide h0
      clear h0
      go_wp2_with fail
      refine wp_region_ext (P := Tryz.prog) [0,1,2,3,4,5,6,7,8,9,10,11,12,13,14,15,16,17,18,19,20,21] [22,23,24,25,26,27] 6 #[true,true,true,true,true,true,true,true,true,true,true,true,true,true,true,true,true,true,true,true,true,true,false,false,false,false,false,false] (by kernel_rfl) (by kernel_rfl) rfl (by rfl) ?_
      iterate 22
       refine ql_want (v := ?_) rfl (by rfl) (fun W hW => ?_) ?_
       rotate_left
       ·go_simp
        first | done | rfl
       go_frame
      refine wpQL_nil (fun w3 hx3 => ?_)
      clear q0 q1 c0 c1 c2 c3
      refine lx_one (i := 22) (by kernel_rfl) rfl (by rfl) #[true,true,true,true,true,true,true,true,true,true,true,true,true,true,true,true,true,true,true,true,true,true,true,false,false,false,false,false] (by rfl) ?_
      go_simp
      have hr3 := (unhide hr').go hx3
      have hq3 := (unhide hq').ext hx3
      refine (do_any A1 B1 V E cA cB 2 u v lab wt _ hr3.sv hr3.se (Nat.le_trans (unhide hin).nv (by omega)) (Nat.le_trans (unhide hin).ne (by omega))).mono ?_
      rintro e w4 ⟨A2,cA2,B2,cB2,rfl,hs4,he4,hx4⟩
      refine ⟨_,rfl,fun w5 hx5 => ?_⟩
      have hx35 := hx4.trans hx5
      have hb5 := hr3.blk.ext hx35
      have hc5 := hide (GCls.refl hb5)
      have hG5 : ∃ A n c B m d,Blk w5 gw 28 #[.slice A n c, .slice B m d] := ⟨_,_,_,_,_,_,hb5⟩
      have hG5' := hide hG5
      have hq5 := hide (hq3.ext hx35)
      have hs5 := hide (hs4.ext hx5)
      have he5 := hide (he4.ext hx5)
      have hxw5 := hide (hr3.ext.trans hx35)
      have hlo := hide hr3.lo
      clear hr3 hq3 hs4 he4 hx4 hx5 hx35 hb5 hG5 hx3 hr' hq'
      refine lx_re (GCls gw w5) [23,24,25] 2 5 #[true,true,true,true,true,true,true,true,true,true,true,true,true,true,true,true,true,true,true,true,true,true,true,false,false,false,false,false] #[true,true,true,true,true,true,true,true,true,true,true,true,true,true,true,true,true,true,true,true,true,true,true,true,true,true,false,false] (by kernel_rfl) (by kernel_rfl) rfl (by rfl) Ext.refl (fun _ _ _ => Ext.trans) (fun _ _ h k => h.ext k) (unhide hc5) ?_
      iterate 3
       refine ql_want (v := ?_) rfl (by rfl) (fun W hW => ?_) ?_
       rotate_left
       ·go_simp
        first | done | rfl
       go_frame
      refine wpQL_nil (fun w6 hc6 => ?_)
      have hc6' := hide hc6
      obtain ⟨hk6,A0,n0,k0,B0,m0,d0,hb6⟩ := hc6
      have s0 := hb6.cell 0
      have s1 := hb6.cell 1
      have f0 := hb6.frozen 0
      have f1 := hb6.frozen 1
      have hb6' := hide hb6
      simp at s0 s1
      clear hk6 hb6
      refine lx_one (i := 26) (by kernel_rfl) rfl (by rfl) #[true,true,true,true,true,true,true,true,true,true,true,true,true,true,true,true,true,true,true,true,true,true,true,true,true,true,true,false] (by rfl) ?_
      go_simp
      clear s0 s1 f0 f1
      have hc7 := (unhide hc6').set A2 B2 (nxV 2 u v lab wt V E).length cA2 (nxE 2 u v lab wt V E).length cB2
      have hb7 := (unhide hb6').set2 (p' := .slice A2 (nxV 2 u v lab wt V E).length cA2) (q' := .slice B2 (nxE 2 u v lab wt V E).length cB2)
      generalize ((w6.setCell ⟨gw,0,none⟩ (.slice A2 (nxV 2 u v lab wt V E).length cA2)).setCell ⟨gw,1,none⟩ (.slice B2 (nxE 2 u v lab wt V E).length cB2)) = w7 at *
      first | refine ⟨hc7, ?_⟩ | skip
      intro w8 hx8
      refine lx_one (i := 27) (by kernel_rfl) rfl (by rfl) #[true,true,true,true,true,true,true,true,true,true,true,true,true,true,true,true,true,true,true,true,true,true,true,true,true,true,true,true] (by rfl) ?_
      go_simp
      have hc8 := hc7.ext hx8
      first | refine ⟨hc8, ?_⟩ | skip
      intro w9 hx9
      have hrel := MdRel.go (w := w) (S := stE (V,E) ((u,v),(lab,wt))) ⟨hb7,(unhide hs5).cls hc7 (unhide hG5') encV_ns encV0,(unhide he5).cls hc7 (unhide hG5') encE_ns encE0,(unhide hxw5).of_new hc7.1 (by have := unhide hlo; simpa using this),unhide hlo⟩ (hx8.trans hx9)
      have hq8 := hide (((unhide hq5).keep hc7.1 (by simpa using unhide hne')).ext (hx8.trans hx9))
      have hrel' := hide hrel
      clear hrel hc7 hc8 hb7 hc6' hb6' hx8 hx9 hc5 hG5' hq5 hs5 he5 hxw5 hlo
      refine wpX_done (by kernel_rfl) ?_
      try go_frame
      rw [unhide h0']
      go_wp2_with fail
      go_roundw
      case rel => exact ⟨k + 1,A2,B2,cA2,cB2,by omega,by go_num,unhide hfs (unhide h0'),unhide hq8,by rw [unhide hst]; exact unhide hrel'⟩
      case measure => simp [intOf]; omega
     ·have hbe : bErr Vs Es = wrongR 2 u v wt V E := by
       have h1 := unhide hfe h0
       unfold bErr
       rw [if_pos (unhide hF),h1]
       rfl
      have hbe' := hide hbe
      have h0' := hide h0
      have hb := bne0 h0
      have hb' := hide hb
      clear hbe h0 hb
      go_wp2_with fail
      refine wp_region_ext (P := Tryz.prog) [0,1,2,3,4,5,6,7,8,9,10,11,12,13,14,15,16,17,18,19,20,21] [22,23,24,25,26,27] 6 #[true,true,true,true,true,true,true,true,true,true,true,true,true,true,true,true,true,true,true,true,true,true,false,false,false,false,false,false] (by kernel_rfl) (by kernel_rfl) rfl (by rfl) ?_
      iterate 22
       refine ql_want (v := ?_) rfl (by rfl) (fun W hW => ?_) ?_
       rotate_left
       ·go_simp
        first | done | rfl
       go_frame
      refine wpQL_nil (fun w3 hx3 => ?_)
      clear q0 q1 c0 c1 c2 c3
      refine lx_one (i := 22) (by kernel_rfl) rfl (by rfl) #[true,true,true,true,true,true,true,true,true,true,true,true,true,true,true,true,true,true,true,true,true,true,true,false,false,false,false,false] (by rfl) ?_
      go_simp
      have hr3 := (unhide hr').go hx3
      have hq3 := (unhide hq').ext hx3
      refine (do_any A1 B1 V E cA cB 2 u v lab wt _ hr3.sv hr3.se (Nat.le_trans (unhide hin).nv (by omega)) (Nat.le_trans (unhide hin).ne (by omega))).mono ?_
      rintro e w4 ⟨A2,cA2,B2,cB2,rfl,hs4,he4,hx4⟩
      refine ⟨_,rfl,fun w5 hx5 => ?_⟩
      have hx35 := hx4.trans hx5
      have hb5 := hr3.blk.ext hx35
      have hc5 := hide (GCls.refl hb5)
      have hG5 : ∃ A n c B m d,Blk w5 gw 28 #[.slice A n c, .slice B m d] := ⟨_,_,_,_,_,_,hb5⟩
      have hG5' := hide hG5
      have hq5 := hide (hq3.ext hx35)
      have hs5 := hide (hs4.ext hx5)
      have he5 := hide (he4.ext hx5)
      have hxw5 := hide (hr3.ext.trans hx35)
      have hlo := hide hr3.lo
      clear hr3 hq3 hs4 he4 hx4 hx5 hx35 hb5 hG5 hx3 hr' hq'
      refine lx_re (GCls gw w5) [23,24,25] 2 5 #[true,true,true,true,true,true,true,true,true,true,true,true,true,true,true,true,true,true,true,true,true,true,true,false,false,false,false,false] #[true,true,true,true,true,true,true,true,true,true,true,true,true,true,true,true,true,true,true,true,true,true,true,true,true,true,false,false] (by kernel_rfl) (by kernel_rfl) rfl (by rfl) Ext.refl (fun _ _ _ => Ext.trans) (fun _ _ h k => h.ext k) (unhide hc5) ?_
      iterate 3
       refine ql_want (v := ?_) rfl (by rfl) (fun W hW => ?_) ?_
       rotate_left
       ·go_simp
        first | done | rfl
       go_frame
      refine wpQL_nil (fun w6 hc6 => ?_)
      have hc6' := hide hc6
      obtain ⟨hk6,A0,n0,k0,B0,m0,d0,hb6⟩ := hc6
      have s0 := hb6.cell 0
      have s1 := hb6.cell 1
      have f0 := hb6.frozen 0
      have f1 := hb6.frozen 1
      have hb6' := hide hb6
      simp at s0 s1
      clear hk6 hb6
      refine lx_one (i := 26) (by kernel_rfl) rfl (by rfl) #[true,true,true,true,true,true,true,true,true,true,true,true,true,true,true,true,true,true,true,true,true,true,true,true,true,true,true,false] (by rfl) ?_
      go_simp
      clear s0 s1 f0 f1
      have hc7 := (unhide hc6').set A2 B2 (nxV 2 u v lab wt V E).length cA2 (nxE 2 u v lab wt V E).length cB2
      have hb7 := (unhide hb6').set2 (p' := .slice A2 (nxV 2 u v lab wt V E).length cA2) (q' := .slice B2 (nxE 2 u v lab wt V E).length cB2)
      generalize ((w6.setCell ⟨gw,0,none⟩ (.slice A2 (nxV 2 u v lab wt V E).length cA2)).setCell ⟨gw,1,none⟩ (.slice B2 (nxE 2 u v lab wt V E).length cB2)) = w7 at *
      first | refine ⟨hc7, ?_⟩ | skip
      intro w8 hx8
      refine lx_one (i := 27) (by kernel_rfl) rfl (by rfl) #[true,true,true,true,true,true,true,true,true,true,true,true,true,true,true,true,true,true,true,true,true,true,true,true,true,true,true,true] (by rfl) ?_
      go_simp
      have hc8 := hc7.ext hx8
      first | refine ⟨hc8, ?_⟩ | skip
      intro w9 hx9
      have hrel := MdRel.go (w := w) (S := stE (V,E) ((u,v),(lab,wt))) ⟨hb7,(unhide hs5).cls hc7 (unhide hG5') encV_ns encV0,(unhide he5).cls hc7 (unhide hG5') encE_ns encE0,(unhide hxw5).of_new hc7.1 (by have := unhide hlo; simpa using this),unhide hlo⟩ (hx8.trans hx9)
      have hq8 := hide (((unhide hq5).keep hc7.1 (by simpa using unhide hne')).ext (hx8.trans hx9))
      have hrel' := hide hrel
      clear hrel hc7 hc8 hb7 hc6' hb6' hx8 hx9 hc5 hG5' hq5 hs5 he5 hxw5 hlo
      refine wpX_done (by kernel_rfl) ?_
      try go_frame
      have hb := unhide hb'
      generalize hno : wrongR 2 u v wt V E = no at *
      have hno' := hide hno
      clear hno
      have s0 := (unhide hq8).cell 0
      have s1 := (unhide hq8).cell 1
      have f0 := (unhide hq8).frozen 0
      have f1 := (unhide hq8).frozen 1
      simp at s0 s1
      go_wp2_with fail
      refine bodyPost_ret (ret_cell2 rfl rfl (load_G2 w9 ge _ _ _ _ s0 s1)) rfl ?_
      have hk := Keep.set2 w9 ge (.slice none 0 0) (.slice none 0 0)
      have hne := unhide h0'
      unfold OfPost
      refine ⟨none,0,none,0, ?_, ?_, ?_,(unhide hrel').ext.of_new hk (by have := unhide hge'; simp; omega)⟩
      ·rw [rS_no (by rw [unhide hbe']; exact hne),unhide hbe']; rfl
      ·rw [rS_no (by rw [unhide hbe']; exact hne)]; exact SlAt.nil
      ·rw [rS_no (by rw [unhide hbe']; exact hne)]; exact SlAt.nil
    ·have hkE : k = Es.length := by omega
     subst hkE
     rw [List.take_length] at hf' hr'
     have hbe : bErr Vs Es = 0 := by unfold bErr; rw [if_pos (unhide hF),unhide hf']
     have hbe' := hide hbe
     have hbS' := hide (show (bS Vs Es) = Es.foldl stE (bS1 Vs) from rfl)
     clear hbe
     generalize Es.foldl stE (bS1 Vs) = S at *
     have hB0 := (unhide hr').blk
     have q0 := hB0.cell 0
     have q1 := hB0.cell 1
     have s0 := (unhide hq').cell 0
     have s1 := (unhide hq').cell 1
     have f0 := (unhide hq').frozen 0
     have f1 := (unhide hq').frozen 1
     clear hB0
     simp at q0 q1 s0 s1
     go_wp2_with fail
     refine bodyPost_ret (ret_cell2 rfl rfl (load_G2 wr ge _ _ _ _ s0 s1)) rfl ?_
     unfold OfPost
     rw [rS_yes (unhide hbe'),unhide hbe',unhide hbS']
     have hk := Keep.set2 wr ge (.slice A1 S.1.length cA) (.slice B1 S.2.length cB)
     exact ⟨A1,cA,B1,cB,rfl,(unhide hr').sv.keep_G (unhide hq') ⟨_,_,_,rfl⟩ ⟨_,_,_,rfl⟩ encV_ns encV0 hk,(unhide hr').se.keep_G (unhide hq') ⟨_,_,_,rfl⟩ ⟨_,_,_,rfl⟩ encE_ns encE0 hk,(unhide hr').ext.of_new hk (by have := unhide hge'; simp; omega)⟩
end Go.Proofs.YtbpeemhfjgcnaaaGreat
