/- Parts of a proof, laid together. Each part says its own conditions. -/
import Derived.Test.YtoacpebmhbkmbaaGreatDoorC18
import Derived.Test.YtoacpebmhbkmbaaGreatDoorC17
import Derived.Test.YtoacpebmhbkmbaaGreatDoorC43
namespace Go.Proofs.YtoacpebmhbkmbaaGreatDoor
open Go Go.RowKit
attribute [local go_sem] qUpon lUpon
def inN (N : Nat) (x : Int) : Bool := fitB x && N.testBit x.toNat
structure IdRel (w wr : World) (B g bv be b3 o ov oe : Nat) (V : List (Int × Thing)) (E : List ((Int × Int) × Thing)) (N : Nat) (M : List (Int × Thing)) (F : List ((Int × Int) × Thing)) : Prop where
 isg : GraphAt wr g bv be V E
 set : Blk wr b3 76 (setC N)
 out : GraphAt wr o ov oe M F
 ext : Ext w wr
 lo : g < B ∧ bv < B ∧ be < B ∧ b3 < B ∧ B ≤ o ∧ B ≤ ov ∧ B ≤ oe ∧ w.heap.size ≤ B
section
variable {w wr wr' : World} {B g bv be b3 o ov oe : Nat} {V : List (Int × Thing)} {E : List ((Int × Int) × Thing)} {N : Nat} {M M' : List (Int × Thing)} {F F' : List ((Int × Int) × Thing)}
theorem IdRel.go (h : IdRel w wr B g bv be b3 o ov oe V E N M F) (k : Ext wr wr') : IdRel w wr' B g bv be b3 o ov oe V E N M F :=
 ⟨h.isg.ext k,h.set.ext k,h.out.ext k,h.ext.trans k,h.lo⟩
theorem GraphAt.keep2 {S : List Nat} (h : GraphAt wr g bv be V E) (k : Keep S wr wr') (h1 : g ∉ S) (h2 : bv ∉ S) (h3 : be ∉ S) : GraphAt wr' g bv be V E :=
 ⟨h.blk.keep k h1,h.vs.keep k h2,h.es.keep k h3,h.ne⟩
theorem IdRel.iter {r : Nat} (h : IdRel w wr B g bv be b3 o ov oe V E N M F) (k : Keep [r] wr wr') (hr : B ≤ r) (h1 : o ≠ r) (h2 : ov ≠ r) (h3 : oe ≠ r) : IdRel w wr' B g bv be b3 o ov oe V E N M F := by
 have hl := h.lo
 exact ⟨h.isg.keep2 k (by simp; omega) (by simp; omega) (by simp; omega),h.set.keep k (by simp; omega),h.out.keep2 k (by simpa using h1) (by simpa using h2) (by simpa using h3),h.ext.of_new k (by simp; omega),hl⟩
theorem IdRel.updV (h : IdRel w wr B g bv be b3 o ov oe V E N M F) (k : Keep [ov] wr wr') (hm : MapIs ekV evT i64ok wr' ov M') : IdRel w wr' B g bv be b3 o ov oe V E N M' F := by
 have hl := h.lo
 exact ⟨h.isg.keep2 k (by simp; omega) (by simp; omega) (by simp; omega),h.set.keep k (by simp; omega),h.out.setV hm k,h.ext.of_new k (by simp; omega),hl⟩
theorem IdRel.updE (h : IdRel w wr B g bv be b3 o ov oe V E N M F) (k : Keep [oe] wr wr') (hm : MapIs ekE evT okE wr' oe F') : IdRel w wr' B g bv be b3 o ov oe V E N M F' := by
 have hl := h.lo
 exact ⟨h.isg.keep2 k (by simp; omega) (by simp; omega) (by simp; omega),h.set.keep k (by simp; omega),h.out.setE hm k,h.ext.of_new k (by simp; omega),hl⟩
end
theorem perm_left {α : Type} {V done l1 l2 : List α} {p : α} (h : V.Perm (done ++ (l1 ++ p :: l2))) : V.Perm ((done ++ [p]) ++ (l1 ++ l2)) := by
 refine h.trans ?_
 rw [List.append_assoc]
 exact List.Perm.append_left _ (by rw [List.singleton_append]; exact List.perm_middle)
theorem perm_snoc {α : Type} {M done : List α} {f : α → Bool} {p : α} (h : M.Perm (done.filter f)) : (f p = true → (M ++ [p]).Perm ((done ++ [p]).filter f)) ∧ (f p = false → M.Perm ((done ++ [p]).filter f)) := by
 refine ⟨fun hf => ?_,fun hf => ?_⟩
 ·rw [List.filter_append]
  simp only [List.filter_cons,hf,if_true,List.filter_nil]
  exact h.append_right _
 ·rw [List.filter_append]
  simp [hf]
  exact h
theorem put_fresh {κ τ : Type} [DecidableEq κ] {V M done l1 l2 : List (κ × τ)} {p : κ × τ} {f : κ × τ → Bool} (hn : (V.map (·.1)).Nodup) (hV : V.Perm (done ++ (l1 ++ p :: l2))) (hM : M.Perm (done.filter f)) : putM M p.1 p.2 = M ++ [p] := by
 refine putM_new ?_
 rw [Bool.eq_false_iff]
 intro h
 obtain ⟨q,hq,hk⟩ := lookM_isSome.1 h
 have hq2 : q ∈ done := (List.mem_filter.1 (hM.mem_iff.1 hq)).1
 have hn2 : ((done ++ (l1 ++ p :: l2)).map (·.1)).Nodup := (hV.map _).nodup_iff.1 hn
 rw [List.map_append,List.nodup_append] at hn2
 exact hn2.2.2 q.1 (List.mem_map.2 ⟨q,hq2,rfl⟩) p.1 (List.mem_map.2 ⟨p,by simp,rfl⟩) hk
set_option maxRecDepth 100000 in
set_option maxHeartbeats 8000000 in
theorem induced_any (g bv be : Nat) (V : List (Int × Thing)) (E : List ((Int × Int) × Thing)) (N : Nat) (w : World) (hg : GraphAt w g bv be V E) :
  Calls Tryz.prog 38 #[.pointer (some ⟨g,0,none⟩), .agg (setC N)] w fun e w' => ∃ o ov oe M F,e = .returned (.pointer (some ⟨o,0,none⟩)) ∧ GraphAt w' o ov oe M F ∧ M.Perm (V.filter fun p => inN N p.1) ∧ F.Perm (E.filter fun x => inN N x.1.1 && inN N x.1.2) ∧ Ext w w' ∧ w.heap.size ≤ o ∧ w.heap.size ≤ ov ∧ w.heap.size ≤ oe := by
 have hB := Blk.new w 76 (setC N)
 have hx0 := ext_self1 w (.cells (setC N) 76)
 have hg0 := hide (hg.ext hx0)
 have hlo := hide (show g < w.heap.size + 1 ∧ bv < w.heap.size + 1 ∧ be < w.heap.size + 1 by have h1 := hg.blk.lt; have h2 := hg.vs.lt; have h3 := hg.es.lt; omega)
 have hB' := hide hB
 have hx0' := hide hx0
 clear hg hB hx0
 go_enter Tryz.func38,Tryz.ntmps38
 go_wp2_with fail
 refine (new_any _).mono ?_
 rintro e w1 ⟨o,ov,oe,rfl,hout,hx1,n1,n2,n3⟩
 have hI : Hid (IdRel w w1 (w.heap.size + 1) g bv be w.heap.size o ov oe V E N [] []) := by
  refine hide ⟨(unhide hg0).ext hx1,(unhide hB').ext hx1,hout,(unhide hx0').trans hx1, ?_⟩
  have := unhide hlo
  simp at n1 n2 n3
  omega
 generalize hb3 : w.heap.size = b3 at *
 have hb3' := hide hb3
 clear hg0 hB' hx0' hlo hout hx1 n1 n2 n3 hb3
 obtain ⟨w2,hrun,hit,hx2,hs2⟩ := (unhide hI).isg.vs.range Tryz.underlying87
 have d0 := (unhide hI).isg.ptr0
 have hself := Ext.refl w1
 have hit' := hide hit
 have hI2 := hide ((unhide hI).go hx2)
 have hr := hide (show b3 + 1 ≤ w1.heap.size ∧ o < w1.heap.size ∧ ov < w1.heap.size ∧ oe < w1.heap.size by
  have h1 := (unhide hI).out.blk.lt
  have h2 := (unhide hI).out.vs.lt
  have h3 := (unhide hI).out.es.lt
  have h4 := (unhide hI).lo
  omega)
 have hid : (fun p : Int × Thing => (ekV p.1,evT p.2)) = (fun p => (ekV p.1,evT p.2)) := rfl
 clear hid hit hx2 hs2 hI
 go_wp2_with fail
 clear hrun d0 hself
 try go_frame
 generalize w1.heap.size = r at *
 clear w1
 go_loopw [] (fun wr => ∃ done left M : List (Int × Thing),V.Perm (done ++ left) ∧ IterIs ekV evT i64ok wr r bv V left ∧ IdRel w wr (b3 + 1) g bv be b3 o ov oe V E N M [] ∧ M.Perm (done.filter fun p => inN N p.1)) (fun wr => wr.rangeLeft bv r)
 case atStart => exact ⟨[],V,[],List.Perm.refl _,unhide hit',unhide hI2,List.Perm.refl _⟩
 case round =>
  obtain ⟨done,left,M,hpd,hit,hI,hM⟩ := hrel
  have hlt := hit.left_eq
  have hnd := hide hit.map.nodup
  rcases hit.next (P := Tryz.prog) 0 with ⟨hl0,hrun⟩ | ⟨p,l1,l2,w2,hl0,hrun,hit2,hk2,hs2,hen⟩
  ·have hrun : ∀ ty,(Instr.next (.pointer (some ⟨r,0,none⟩)) false ty).run Tryz.prog wr = .ok (.tuple #[.bool false]) wr := fun _ => hrun
   subst hl0
   rw [List.append_nil] at hpd
   have hM1 := hide (hM.trans (List.Perm.filter _ hpd.symm))
   have hI1 := hide hI
   obtain ⟨w3,hrun3,hit3,hx3,hs3⟩ := hI.isg.es.range Tryz.underlying88
   have d1 := hI.isg.ptr1
   have hself := Ext.refl wr
   have hit3' := hide hit3
   have hI3 := hide (hI.go hx3)
   have hr3 := hide (show b3 + 1 ≤ wr.heap.size ∧ o < wr.heap.size ∧ ov < wr.heap.size ∧ oe < wr.heap.size by
    have h1 := hI.out.blk.lt
    have h2 := hI.out.vs.lt
    have h3 := hI.out.es.lt
    have h4 := hI.lo
    omega)
   clear hlt hnd hpd hit hI hM hit' hI2 hr hit3 hx3 hs3
   go_wp2_with fail
   clear hrun hrun3 d1 hself
   try go_frame
   generalize wr.heap.size = r2 at *
   go_loopw [] (fun wr => ∃ done left F : List ((Int × Int) × Thing),E.Perm (done ++ left) ∧ IterIs ekE evT okE wr r2 be E left ∧ IdRel w wr (b3 + 1) g bv be b3 o ov oe V E N M F ∧ F.Perm (done.filter fun x => inN N x.1.1 && inN N x.1.2)) (fun wr => wr.rangeLeft be r2)
   case atStart => exact ⟨[],E,[],List.Perm.refl _,unhide hit3',unhide hI3,List.Perm.refl _⟩
   case round =>
    clear hit3' hI3 hI1
    obtain ⟨done,left,F,hpd,hit,hI,hF⟩ := hrel
    have hlt := hit.left_eq
    have hnd := hide hit.map.nodup
    rcases hit.next (P := Tryz.prog) 0 with ⟨hl0,hrun⟩ | ⟨p,l1,l2,w2,hl0,hrun,hit2,hk2,hs2,hen⟩
    ·have hrun : ∀ ty,(Instr.next (.pointer (some ⟨r2,0,none⟩)) false ty).run Tryz.prog wr = .ok (.tuple #[.bool false]) wr := fun _ => hrun
     subst hl0
     rw [List.append_nil] at hpd
     have hF1 := hide (hF.trans (List.Perm.filter _ hpd.symm))
     have hI1 := hide hI
     clear hlt hnd hpd hit hI hF
     go_wp2_with fail
     go_ret
     have hlo := (unhide hI1).lo
     have h3 := unhide hb3'
     exact ⟨o,ov,oe,M,F,rfl,(unhide hI1).out,unhide hM1,unhide hF1,(unhide hI1).ext,by omega,by omega,by omega⟩
    ·have hrun : ∀ ty,(Instr.next (.pointer (some ⟨r2,0,none⟩)) false ty).run Tryz.prog wr = .ok (.tuple #[.bool true,ekE p.1,evT p.2]) w2 := fun _ => hrun
     subst hl0
     have hp := hpd.mem_iff.2 (show p ∈ done ++ (l1 ++ p :: l2) by simp)
     have hu := hide (hit.map.okk p hp)
     have hput := hide (put_fresh (unhide hnd) hpd hF)
     have hpd2 := hide (perm_left hpd)
     have hsn := hide (perm_snoc (f := fun x : (Int × Int) × Thing => inN N x.1.1 && inN N x.1.2) (p := p) hF)
     have hI2 := hI.iter hk2 (unhide hr3).1 (by have := (unhide hr3); omega) (by have := (unhide hr3); omega) (by have := (unhide hr3); omega)
     have hI2' := hide hI2
     have hit2' := hide hit2
     have hlt' := hide hlt
     have hself := Ext.refl w2
     have e0 := hI2.set.cells 0 (v := .int .u64 (wd N 0)) rfl
     have e1 := hI2.set.cells 1 (v := .int .u64 (wd N 1)) rfl
     have e2 := hI2.set.cells 2 (v := .int .u64 (wd N 2)) rfl
     have e3 := hI2.set.cells 3 (v := .int .u64 (wd N 3)) rfl
     have e4 := hI2.set.cells 4 (v := .int .u64 (wd N 4)) rfl
     have e5 := hI2.set.cells 5 (v := .int .u64 (wd N 5)) rfl
     have e6 := hI2.set.cells 6 (v := .int .u64 (wd N 6)) rfl
     have e7 := hI2.set.cells 7 (v := .int .u64 (wd N 7)) rfl
     have e8 := hI2.set.cells 8 (v := .int .u64 (wd N 8)) rfl
     have e9 := hI2.set.cells 9 (v := .int .u64 (wd N 9)) rfl
     have e10 := hI2.set.cells 10 (v := .int .u64 (wd N 10)) rfl
     have e11 := hI2.set.cells 11 (v := .int .u64 (wd N 11)) rfl
     have e12 := hI2.set.cells 12 (v := .int .u64 (wd N 12)) rfl
     have e13 := hI2.set.cells 13 (v := .int .u64 (wd N 13)) rfl
     have e14 := hI2.set.cells 14 (v := .int .u64 (wd N 14)) rfl
     have e15 := hI2.set.cells 15 (v := .int .u64 (wd N 15)) rfl
     clear hp hnd hpd hF hit hI hI2 hit2 hk2 hs2 hlt
     obtain ⟨⟨a,b⟩,⟨lab,wt⟩⟩ := p
     simp only [ekE,evT] at hrun hen
     have hba := (Blk.new w2 139 #[.int .i64 a, .int .i64 b]).ext (ext_self1 _ (.cells #[.int .u8 lab, .int .i64 wt] 122))
     have hbt := Blk.new (w2.alloc (.cells #[.int .i64 a, .int .i64 b] 139)) 122 #[.int .u8 lab, .int .i64 wt]
     rw [World.size_alloc] at hbt
     have hba' := hide hba
     have hbt' := hide hbt
     clear hba hbt
     go_wp2_with fail
     refine (has_any N a _).mono ?_
     have hxa := hide (ext_self2 w2 (.cells #[.int .i64 a, .int .i64 b] 139) (.cells #[.int .u8 lab, .int .i64 wt] 122))
     rw [show (fitB a && N.testBit a.toNat) = inN N a from rfl]
     clear hrun hen hself
     rcases hina : inN N a
     ·rintro e w4 ⟨rfl,hx4⟩
      have hx24 := (unhide hxa).trans hx4
      have hI4 := hide ((unhide hI2').go hx24)
      have hit4 := hide ((unhide hit2').ext hx24)
      have hin' := hide (show (inN N a && inN N b) = false by rw [hina]; rfl)
      clear hx4 hx24 hI2' hit2' hxa hba' hbt' hina e0 e1 e2 e3 e4 e5 e6 e7 e8 e9 e10 e11 e12 e13 e14 e15
      go_wp2_with fail
      go_roundw
      case rel => exact ⟨done ++ [((a,b),(lab,wt))],l1 ++ l2,F,unhide hpd2,unhide hit4,unhide hI4,(unhide hsn).2 (unhide hin')⟩
      case measure =>
       rw [(unhide hit4).left_eq,unhide hlt']
       simp
     ·rintro e w4 ⟨rfl,hx4⟩
      have hx24 := (unhide hxa).trans hx4
      have hI4 := hide ((unhide hI2').go hx24)
      have hit4 := hide ((unhide hit2').ext hx24)
      have hba4 := (unhide hba').ext hx4
      have hbt4 := hide ((unhide hbt').ext hx4)
      have p0 := hba4.cells 0 (v := .int .i64 a) rfl
      have p1 := hba4.cells 1 (v := .int .i64 b) rfl
      have hba4' := hide hba4
      have hself := Ext.refl w4
      have hina' := hide hina
      clear hx4 hI2' hit2' hxa hba' hbt' hina hba4
      go_wp2_with fail
      refine (has_any N b _).mono ?_
      rw [show (fitB b && N.testBit b.toNat) = inN N b from rfl]
      clear p0 p1 hself hx24 e0 e1 e2 e3 e4 e5 e6 e7 e8 e9 e10 e11 e12 e13 e14 e15
      rcases hinb : inN N b
      ·rintro e w5 ⟨rfl,hx5⟩
       have hI5 := hide ((unhide hI4).go hx5)
       have hit5 := hide ((unhide hit4).ext hx5)
       have hin' := hide (show (inN N a && inN N b) = false by rw [hinb,Bool.and_false])
       clear hx5 hI4 hit4 hba4' hbt4 hinb
       go_wp2_with fail
       go_roundw
       case rel => exact ⟨done ++ [((a,b),(lab,wt))],l1 ++ l2,F,unhide hpd2,unhide hit5,unhide hI5,(unhide hsn).2 (unhide hin')⟩
       case measure =>
        rw [(unhide hit5).left_eq,unhide hlt']
        simp
      ·rintro e w5 ⟨rfl,hx5⟩
       have hI5 := hide ((unhide hI4).go hx5)
       have hit5 := hide ((unhide hit4).ext hx5)
       have hin' := hide (show (inN N a && inN N b) = true by rw [unhide hina',hinb]; rfl)
       have p0 := ((unhide hba4').ext hx5).cells 0 (v := .int .i64 a) rfl
       have p1 := ((unhide hba4').ext hx5).cells 1 (v := .int .i64 b) rfl
       have q0 := ((unhide hbt4).ext hx5).cells 0 (v := .int .u8 lab) rfl
       have q1 := ((unhide hbt4).ext hx5).cells 1 (v := .int .i64 wt) rfl
       have d0 := (unhide hI5).out.ptr1
       have hself := Ext.refl w5
       clear hx5 hI4 hit4 hba4' hbt4 hinb
       go_wp2_with fail
       refine wp_region_still (P := Tryz.prog) [0,1,2,3,4,5] [6] 1 #[true,true,true,true,true,true,false] (by kernel_rfl) (by kernel_rfl) rfl (by rfl) ?_
       iterate 6
        refine ql_want (v := ?_) rfl (by rfl) (fun W hW => ?_) ?_
        rotate_left
        ·go_simp
         first | done | rfl
        go_frame
       refine wpQL_nil (fun w6 hx6 => ?_)
       obtain ⟨w7,hrun,hm7,hk7,hs7⟩ := ((unhide hI5).out.es.ext hx6).update keE Tryz.underlying88 (unhide hu) (lab,wt)
       simp only [ekE,evT] at hrun
       refine lx_one (i := 6) (by kernel_rfl) rfl (by rfl) #[true,true,true,true,true,true,true] (by rfl) ?_
       go_simp
       refine wpX_done (by kernel_rfl) ?_
       try go_frame
       have hI7 := hide (((unhide hI5).go hx6).updE hk7 hm7)
       have hit7 := hide (((unhide hit5).ext hx6).keep hk7 (by have := (unhide hr3); simp; omega) (by have := (unhide hI5).lo; simp; omega))
       clear hrun hm7 hk7 hs7 hx6 p0 p1 q0 q1 d0 hself hI5 hit5
       go_wp2_with fail
       go_roundw
       case rel => exact ⟨done ++ [((a,b),(lab,wt))],l1 ++ l2,_,unhide hpd2,unhide hit7,by have h := unhide hI7; rw [unhide hput] at h; exact h,(unhide hsn).1 (unhide hin')⟩
       case measure =>
        rw [(unhide hit7).left_eq,unhide hlt']
        simp
  ·have hrun : ∀ ty,(Instr.next (.pointer (some ⟨r,0,none⟩)) false ty).run Tryz.prog wr = .ok (.tuple #[.bool true,ekV p.1,evT p.2]) w2 := fun _ => hrun
   subst hl0
   have hp := hpd.mem_iff.2 (show p ∈ done ++ (l1 ++ p :: l2) by simp)
   have hu := hide (hit.map.okk p hp)
   have hput := hide (put_fresh (unhide hnd) hpd hM)
   have hpd2 := hide (perm_left hpd)
   have hsn := hide (perm_snoc (f := fun p : Int × Thing => inN N p.1) (p := p) hM)
   have hI2 := hI.iter hk2 (unhide hr).1 (by have := (unhide hr); omega) (by have := (unhide hr); omega) (by have := (unhide hr); omega)
   have hI2' := hide hI2
   have hit2' := hide hit2
   have hlt' := hide hlt
   have hself := Ext.refl w2
   have e0 := hI2.set.cells 0 (v := .int .u64 (wd N 0)) rfl
   have e1 := hI2.set.cells 1 (v := .int .u64 (wd N 1)) rfl
   have e2 := hI2.set.cells 2 (v := .int .u64 (wd N 2)) rfl
   have e3 := hI2.set.cells 3 (v := .int .u64 (wd N 3)) rfl
   have e4 := hI2.set.cells 4 (v := .int .u64 (wd N 4)) rfl
   have e5 := hI2.set.cells 5 (v := .int .u64 (wd N 5)) rfl
   have e6 := hI2.set.cells 6 (v := .int .u64 (wd N 6)) rfl
   have e7 := hI2.set.cells 7 (v := .int .u64 (wd N 7)) rfl
   have e8 := hI2.set.cells 8 (v := .int .u64 (wd N 8)) rfl
   have e9 := hI2.set.cells 9 (v := .int .u64 (wd N 9)) rfl
   have e10 := hI2.set.cells 10 (v := .int .u64 (wd N 10)) rfl
   have e11 := hI2.set.cells 11 (v := .int .u64 (wd N 11)) rfl
   have e12 := hI2.set.cells 12 (v := .int .u64 (wd N 12)) rfl
   have e13 := hI2.set.cells 13 (v := .int .u64 (wd N 13)) rfl
   have e14 := hI2.set.cells 14 (v := .int .u64 (wd N 14)) rfl
   have e15 := hI2.set.cells 15 (v := .int .u64 (wd N 15)) rfl
   clear hp hnd hpd hM hit hI hI2 hit2 hk2 hs2 hlt hit'
   obtain ⟨a,⟨lab,wt⟩⟩ := p
   simp only [ekV,evT] at hrun hen
   go_wp2_with fail
   refine (has_any N a _).mono ?_
   have hxa := hide (ext_self1 w2 (.cells #[.int .u8 lab, .int .i64 wt] 122))
   have hba := hide (Blk.new w2 122 #[.int .u8 lab, .int .i64 wt])
   rw [show (fitB a && N.testBit a.toNat) = inN N a from rfl]
   clear hrun hen hself e0 e1 e2 e3 e4 e5 e6 e7 e8 e9 e10 e11 e12 e13 e14 e15
   rcases hin : inN N a
   ·rintro e w4 ⟨rfl,hx4⟩
    have hx24 := (unhide hxa).trans hx4
    have hI4 := hide ((unhide hI2').go hx24)
    have hit4 := hide ((unhide hit2').ext hx24)
    have hin' := hide hin
    clear hx4 hx24 hI2' hit2' hxa hba hin
    go_wp2_with fail
    go_roundw
    case rel => exact ⟨done ++ [(a,(lab,wt))],l1 ++ l2,M,unhide hpd2,unhide hit4,unhide hI4,(unhide hsn).2 (unhide hin')⟩
    case measure =>
     rw [(unhide hit4).left_eq,unhide hlt']
     simp
   ·rintro e w4 ⟨rfl,hx4⟩
    have hx24 := (unhide hxa).trans hx4
    have hI4 := hide ((unhide hI2').go hx24)
    have hit4 := hide ((unhide hit2').ext hx24)
    have hb4 := (unhide hba).ext hx4
    have q0 := hb4.cells 0 (v := .int .u8 lab) rfl
    have q1 := hb4.cells 1 (v := .int .i64 wt) rfl
    have d0 := (unhide hI4).out.ptr0
    have hself := Ext.refl w4
    have hin' := hide hin
    clear hx4 hx24 hI2' hit2' hxa hba hin hb4
    go_wp2_with fail
    refine wp_region_still (P := Tryz.prog) [0,1,2,3,4,5] [6] 1 #[true,true,true,true,true,true,false] (by kernel_rfl) (by kernel_rfl) rfl (by rfl) ?_
    iterate 6
     refine ql_want (v := ?_) rfl (by rfl) (fun W hW => ?_) ?_
     rotate_left
     ·go_simp
      first | done | rfl
     go_frame
    refine wpQL_nil (fun w5 hx5 => ?_)
    obtain ⟨w6,hrun,hm6,hk6,hs6⟩ := ((unhide hI4).out.vs.ext hx5).update keV Tryz.underlying87 (unhide hu) (lab,wt)
    simp only [ekV,evT] at hrun
    refine lx_one (i := 6) (by kernel_rfl) rfl (by rfl) #[true,true,true,true,true,true,true] (by rfl) ?_
    go_simp
    refine wpX_done (by kernel_rfl) ?_
    try go_frame
    have hI6 := hide (((unhide hI4).go hx5).updV hk6 hm6)
    have hit6 := hide (((unhide hit4).ext hx5).keep hk6 (by have := (unhide hr); simp; omega) (by have := (unhide hI4).lo; simp; omega))
    clear hrun hm6 hk6 hs6 hx5 q0 q1 d0 hself hI4 hit4
    go_wp2_with fail
    go_roundw
    case rel => exact ⟨done ++ [(a,(lab,wt))],l1 ++ l2,_,unhide hpd2,unhide hit6,by have h := unhide hI6; rw [unhide hput] at h; exact h,(unhide hsn).1 (unhide hin')⟩
    case measure =>
     rw [(unhide hit6).left_eq,unhide hlt']
     simp
def subV (N : Nat) (V : List (Int × Thing)) : List (Int × Thing) := V.filter fun p => inN N p.1
def subE (N : Nat) (E : List ((Int × Int) × Thing)) : List ((Int × Int) × Thing) := E.filter fun x => inN N x.1.1 && inN N x.1.2
theorem GInv.sub {V : List (Int × Thing)} {E : List ((Int × Int) × Thing)} (h : GInv V E) (N : Nat) : GInv (subV N V) (subE N E) where
 sv := h.sv.filter _
 se := h.se.filter _
 lo := fun e he => h.lo e (List.mem_filter.1 he).1
 ends := fun e he => by
  obtain ⟨h1,h2⟩ := List.mem_filter.1 he
  simp only [Bool.and_eq_true] at h2
  obtain ⟨⟨t1,m1⟩,⟨t2,m2⟩⟩ := h.ends e h1
  exact ⟨⟨t1,List.mem_filter.2 ⟨m1,h2.1⟩⟩,⟨t2,List.mem_filter.2 ⟨m2,h2.2⟩⟩⟩
 ids := fun p hp => h.ids p (List.mem_filter.1 hp).1
 wv := fun p hp => h.wv p (List.mem_filter.1 hp).1
 we := fun p hp => h.we p (List.mem_filter.1 hp).1
 ne := Nat.le_trans (List.length_filter_le _ _) h.ne
theorem induced_rel (g bv be : Nat) (V : List (Int × Thing)) (E : List ((Int × Int) × Thing)) (N : Nat) (w : World) (hg : IsG w g bv be V E) :
  Calls Tryz.prog 38 #[.pointer (some ⟨g,0,none⟩), .agg (setC N)] w fun e w' => ∃ o ov oe,e = .returned (.pointer (some ⟨o,0,none⟩)) ∧ IsG w' o ov oe (subV N V) (subE N E) ∧ Ext w w' ∧ w.heap.size ≤ o ∧ w.heap.size ≤ ov ∧ w.heap.size ≤ oe := by
 obtain ⟨V',E',h1,hV,hE,hi⟩ := hg
 refine (induced_any g bv be V' E' N w h1).mono ?_
 rintro e w' ⟨o,ov,oe,M,F,rfl,ho,hM,hF,hx,n1,n2,n3⟩
 exact ⟨o,ov,oe,rfl,⟨M,F,ho,(hV.filter _).trans hM.symm,(hE.filter _).trans hF.symm,hi.sub N⟩,hx,n1,n2,n3⟩
end Go.Proofs.YtoacpebmhbkmbaaGreatDoor
namespace Go.Proofs.YtoacpebmhbkmbaaGreatDoor
open Go
variable {V : List (Int × Thing)} {E : List ((Int × Int) × Thing)}
theorem hasE_ex (hlo : ∀ e ∈ E,e.1.1 < e.1.2) (u v : Int) : hasE u v E = true ↔ ∃ e ∈ E,e.1 = (min u v,max u v) := by
 unfold hasE
 rw [decide_eq_true_eq,posI_nonneg]
 constructor
 ·rintro ⟨e,he,h⟩; exact ⟨e,he,(isE_iff (hlo e he)).1 h⟩
 ·rintro ⟨e,he,h⟩; exact ⟨e,he,(isE_iff (hlo e he)).2 h⟩
theorem nr0_adj (hi : GInv V E) (u v : Int) : nr0 E u v = true ↔ Adj0 E u v := hasE_ex hi.lo u v
theorem nr0_sub (hi : GInv V E) {N : Nat} {u v : Int} (hu : inN N u = true) (hv : inN N v = true) : nr0 (subE N E) u v = nr0 E u v := by
 rw [Bool.eq_iff_iff,nr0_adj (hi.sub N),nr0_adj hi]
 constructor
 ·rintro ⟨e,he,h⟩; exact ⟨e,(List.mem_filter.1 he).1,h⟩
 ·rintro ⟨e,he,h⟩
  refine ⟨e,List.mem_filter.2 ⟨he, ?_⟩,h⟩
  rw [h,Bool.and_eq_true]
  rcases Int.le_total u v with h1 | h1
  ·rw [Int.min_eq_left h1,Int.max_eq_right h1]; exact ⟨hu,hv⟩
  ·rw [Int.min_eq_right h1,Int.max_eq_left h1]; exact ⟨hv,hu⟩
theorem degS_congr {n1 n2 : Int → Int → Bool} : ∀ (k : Nat) (L : List Int),(∀ u ∈ L, ∀ v ∈ L,n1 u v = n2 u v) → degS n1 k L = degS n2 k L
 | 0,_,_ => rfl
 | _ + 1,[],_ => rfl
 | k + 1,a :: l,h => by
  have h1 : ∀ x ∈ a :: l,degP n1 (a :: l) x = degP n2 (a :: l) x := fun x hx => degP_congr fun v hv => h x hx v hv
  have h2 : leastP (degP n1 (a :: l)) (a :: l) = leastP (degP n2 (a :: l)) (a :: l) := leastP_congr h1
  have hm := leastP_mem (degP n2 (a :: l)) (L := a :: l) (by simp)
  unfold degS
  simp only
  rw [h2,h1 _ hm,degS_congr k _ fun u hu v hv => h u (List.mem_of_mem_erase hu) v (List.mem_of_mem_erase hv)]
theorem dgn_ge (near : Int → Int → Bool) (n : Nat) (L : List Int) : -1 ≤ dgnP near n L := (foldl_max_le (fun p : Int × Nat => (p.2 : Int)) _ (-1)).1
theorem subV_mem (hi : GInv V E) {N : Nat} {x : Int} (hx : x ∈ toL (vS (subV N V))) : x ∈ toL (vS V) ∧ inN N x = true := by
 rw [mem_vS (hi.sub N)] at hx
 obtain ⟨p,hp,rfl⟩ := List.mem_map.1 hx
 obtain ⟨h1,h2⟩ := List.mem_filter.1 hp
 exact ⟨(mem_vS hi).2 (List.mem_map.2 ⟨p,h1,rfl⟩),h2⟩
theorem dgn_sub (hi : GInv V E) (N : Nat) : dgnP (nr0 (subE N E)) (toL (vS (subV N V))).length (toL (vS (subV N V))) ≤ dgnP (nr0 E) (toL (vS V)).length (toL (vS V)) := by
 have hs : ∀ x ∈ toL (vS (subV N V)),x ∈ toL (vS V) ∧ inN N x = true := fun x hx => subV_mem hi hx
 have h1 : (rep_of (hi.sub N)).nodup = (rep_of (hi.sub N)).nodup := rfl
 have hn1 := (rep_of (hi.sub N)).nodup
 have hn2 := (rep_of hi).nodup
 generalize toL (vS (subV N V)) = M at hs hn1 ⊢
 generalize toL (vS V) = L at hs hn2 ⊢
 have e : dgnP (nr0 (subE N E)) M.length M = dgnP (nr0 E) M.length M := by
  unfold dgnP
  rw [degS_congr M.length M fun u hu v hv => nr0_sub hi (hs u hu).2 (hs v hv).2]
 rw [e]
 by_cases hM : M = []
 ·subst hM
  have : dgnP (nr0 E) ([] : List Int).length [] = -1 := rfl
  rw [this]
  exact dgn_ge _ _ _
 ·exact dgn_mono (Nat.le_refl _) (Nat.le_refl _) hn2 hn1 (fun x hx => (hs x hx).1) hM
theorem grc_max {m : List (Int × Nat)} {L : List Int} {near : Int → Int → Bool} (h : Rep m L near) (hne : L ≠ []) {v : Int} (hv : v ∈ L) : v ∈ grcS near L ↔ ∀ c ∈ grcS near L,c ≠ v → near v c = true := by
 obtain ⟨x,hx,e⟩ := grcS_in (near := near) hne
 rw [e]
 unfold clqS
 have hp := cliS_pair (near := near) 1025 (L.filter (near x))
 constructor
 ·intro hm c hc hcv
  rcases List.mem_cons.1 hm with rfl | hm
  ·rcases List.mem_cons.1 hc with rfl | hc
   ·exact absurd rfl hcv
   ·exact (List.mem_filter.1 (cliS_mem _ _ c hc)).2
  ·rcases List.mem_cons.1 hc with rfl | hc
   ·rw [h.symm]; exact (List.mem_filter.1 (cliS_mem _ _ v hm)).2
   ·obtain ⟨i,hi,rfl⟩ := List.getElem_of_mem hm
    obtain ⟨j,hj,rfl⟩ := List.getElem_of_mem hc
    rcases Nat.lt_trichotomy i j with h1 | h1 | h1
    ·exact List.pairwise_iff_getElem.1 hp i j hi hj h1
    ·subst h1; exact absurd rfl hcv
    ·rw [h.symm]; exact List.pairwise_iff_getElem.1 hp j i hj hi h1
 ·intro hc
  by_cases hvx : v = x
  ·rw [hvx]; simp
  ·have h1 := hc x (by simp) (fun e => hvx e.symm)
   have h2 : v ∈ L.filter (near x) := List.mem_filter.2 ⟨hv,by rw [h.symm]; exact h1⟩
   rcases cliS_max 1025 (L.filter (near x)) (Nat.le_trans (Nat.le_trans (List.length_filter_le _ _) h.le) (by omega)) v h2 with h3 | ⟨c,h3,h4⟩
   ·exact List.mem_cons_of_mem _ h3
   ·by_cases hcv : c = v
    ·rw [← hcv]; exact List.mem_cons_of_mem _ h3
    ·have h5 := hc c (List.mem_cons_of_mem _ h3) hcv
     rw [h.symm,h4] at h5
     cases h5
theorem grcL_mem {near : Int → Int → Bool} {L : List Int} {m : List (Int × Nat)} (h : Rep m L near) (hne : L ≠ []) {x : Int} : x ∈ grcL near L ↔ x ∈ grcS near L := (grc_perm h hne).symm.mem_iff
theorem widK_ge (E : List ((Int × Int) × Thing)) (L : List Int) (k : Nat) : -1 ≤ widK E L k := (foldl_max_le (fun i : Nat => (cntF (sAt E L i) 1024 : Int)) _ (-1)).1
theorem widK_cnt {L : List Int} {i k : Nat} (h : i < k) : (cntF (sAt E L i) 1024 : Int) ≤ widK E L k := (foldl_max_le (fun i : Nat => (cntF (sAt E L i) 1024 : Int)) _ (-1)).2 i (List.mem_range.2 h)
theorem lb_sound (hi : GInv V E) {o : List Int} (ho : Ord V o) : lbS (nr0 E) (toL (vS V)) ≤ widK E o o.length := by
 have hR := rep_of hi
 have hmem : ∀ x,x ∈ toL (vS V) ↔ x ∈ o := fun x => by rw [mem_vS hi,ho.mem]
 have hE0 : ∀ u v,nr0 E u v = true ↔ Adj0 E u v := nr0_adj hi
 generalize hne0 : nr0 E = near at hR hE0 ⊢
 by_cases hLe : toL (vS V) = []
 ·rw [hLe]
  have : lbS near [] = -1 := rfl
  rw [this]
  exact widK_ge _ _ _
 ·have hon : 0 < o.length := by
   obtain ⟨x,hx⟩ := List.exists_mem_of_ne_nil _ hLe
   exact List.length_pos_of_mem ((hmem x).1 hx)
  have hw0 : 0 ≤ widK E o o.length := by
   have := widK_cnt (E := E) (L := o) (i := 0) hon
   omega
  obtain ⟨w,hw⟩ : ∃ w : Nat,(w : Int) = widK E o o.length := ⟨(widK E o o.length).toNat,by omega⟩
  have hwd : Wd (Adj0 E) o w := wd_of_cnt hi ho fun k hk => by
   have := widK_cnt (E := E) (L := o) (i := k) hk
   omega
  have hwd2 : Wd (fun a b => near a b = true) o w := hwd.sub fun u v _ _ h => (hE0 u v).1 h
  have hsub : ∀ x ∈ toL (vS V),x ∈ o := fun x hx => (hmem x).1 hx
  have hnd := hR.nodup
  have hsy : ∀ u v,near u v = true → near v u = true := fun u v h => by rw [hR.symm]; exact h
  rw [← hw]
  have h1 : dgnP near (toL (vS V)).length (toL (vS V)) ≤ (w : Int) := by
   unfold dgnP
   rcases foldl_max_mem (fun p : Int × Nat => (p.2 : Int)) (degS near (toL (vS V)).length (toL (vS V))) (-1) with h | ⟨p,hp,h⟩
   ·rw [h]; omega
   ·rw [h]
    have := degS_low hR.irr hwd2 _ _ hnd hsub p hp
    omega
  have h2 : (conS (toL (vS V)).length near (toL (vS V))).foldl (fun m p => max m (p.2 : Int)) (-1) ≤ (w : Int) := by
   rcases foldl_max_mem (fun p : (Int × Int) × Nat => (p.2 : Int)) (conS (toL (vS V)).length near (toL (vS V))) (-1) with h | ⟨p,hp,h⟩
   ·rw [h]; omega
   ·rw [h]
    have := conS_low _ near _ o w hR.irr hsy hwd2 hnd ho.nodup hmem p hp
    omega
  have h3 : (grcL near (toL (vS V))).length ≤ w + 1 := by
   refine clique_low hwd2 (hnd.filter _) (fun x hx => hsub x (List.mem_filter.1 hx).1) fun x hx y hy hxy => ?_
   rw [grcL_mem hR hLe] at hx hy
   have hxL : x ∈ toL (vS V) := by
    obtain ⟨z,hz,e⟩ := grcS_in (near := near) hLe
    rw [e] at hx
    exact clqS_sub hz x hx
   exact (grc_max hR hLe hxL).1 hx y hy (Ne.symm hxy)
  unfold lbS
  omega
theorem ub_spec (hi : GInv V E) : (ubS E (nr0 E) (toL (vS V))).1 = widK E (ubS E (nr0 E) (toL (vS V))).2 (ubS E (nr0 E) (toL (vS V))).2.length ∧ Ord V (ubS E (nr0 E) (toL (vS V))).2 := by
 have hV0 := toL_vS hi
 have hpa := ordS_perm (key := degP) (toL (vS V)).length (nr0 E) (toL (vS V)) (Nat.le_refl _)
 have hpb := ordS_perm (key := filP) (toL (vS V)).length (nr0 E) (toL (vS V)) (Nat.le_refl _)
 unfold ubS
 generalize ordS degP (toL (vS V)).length (nr0 E) (toL (vS V)) = a at hpa ⊢
 generalize ordS filP (toL (vS V)).length (nr0 E) (toL (vS V)) = b at hpb ⊢
 split
 ·exact ⟨rfl,perm_ord hV0 hpb⟩
 ·exact ⟨rfl,perm_ord hV0 hpa⟩
end Go.Proofs.YtoacpebmhbkmbaaGreatDoor
