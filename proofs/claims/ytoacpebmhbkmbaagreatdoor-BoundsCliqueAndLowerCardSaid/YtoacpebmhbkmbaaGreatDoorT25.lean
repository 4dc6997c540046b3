/- Parts of a proof, laid together. Each part says its own conditions. -/
import Derived.Test.YtoacpebmhbkmbaaGreatDoorT16
import Derived.Test.YtoacpebmhbkmbaaGreatDoorT24
import Derived.Test.YtoacpebmhbkmbaaGreatDoorT12
import Derived.ChangeKeysEq
import Derived.Test.YtoacpebmhbkmbaaGreatDoorT19
import Derived.Test.YtoacpebmhbkmbaaGreatDoorT17
import Derived.Test.YtoacpebmhbkmbaaGreatDoorT15
import Derived.Test.YtoacpebmhbkmbaaGreatDoorT22
namespace Go.Proofs.YtoacpebmhbkmbaaGreatDoor
open Go Go.RowKit
def nearL (id : Int) (E : List ((Int × Int) × Thing)) : List Int := E.flatMap fun e => if id = e.1.1 then [e.1.2] else if id = e.1.2 then [e.1.1] else []
theorem nearS_fold (id : Int) (E : List ((Int × Int) × Thing)) : ∀ a,E.foldl (nearF id) a = (nearL id E).foldl withS a := by
 induction E with
 | nil => intro a; rfl
 | cons e r ih =>
  intro a
  have h : nearL id (e :: r) = (if id = e.1.1 then [e.1.2] else if id = e.1.2 then [e.1.1] else []) ++ nearL id r := by unfold nearL; rw [List.flatMap_cons]
  rw [List.foldl_cons,ih,h,List.foldl_append]
  congr 1
  unfold nearF
  split
  ·rfl
  ·split <;> rfl
theorem nearS_eq (id : Int) (E : List ((Int × Int) × Thing)) : nearS id E = fromS (nearL id E) := nearS_fold id E 0
theorem mem_nearL {id x : Int} {E : List ((Int × Int) × Thing)} (hlo : ∀ e ∈ E,e.1.1 < e.1.2) : x ∈ nearL id E ↔ ∃ e ∈ E,e.1 = (min id x,max id x) := by
 unfold nearL
 rw [List.mem_flatMap]
 constructor
 ·rintro ⟨e,he,h⟩
  have := hlo e he
  refine ⟨e,he, ?_⟩
  split at h
  ·simp at h; apply Prod.ext <;> simp <;> omega
  ·split at h
   ·simp at h; apply Prod.ext <;> simp <;> omega
   ·simp at h
 ·rintro ⟨e,he,h⟩
  have hl := hlo e he
  rw [h] at hl
  simp at hl
  refine ⟨e,he, ?_⟩
  rw [h]
  simp
  by_cases h1 : id = min id x
  ·rw [if_pos h1]; simp; omega
  ·rw [if_neg h1,if_pos (by omega)]; simp; omega
def rnear (id : Int) (V : List (Int × Thing)) (E : List ((Int × Int) × Thing)) : List Int := (V.filter fun p => decide (0 ≤ posI (isE p.1 id) E)).map (·.1)
theorem rnear_eq {id : Int} {V : List (Int × Thing)} {E : List ((Int × Int) × Thing)} (hi : GInv V E) : fromS (rnear id V E) = nearS id E := by
 rw [nearS_eq]
 apply fromS_congr
 intro x
 rw [mem_nearL hi.lo]
 unfold rnear
 rw [List.mem_map]
 constructor
 ·rintro ⟨p,hp,rfl⟩
  rw [List.mem_filter,decide_eq_true_eq,posI_nonneg] at hp
  obtain ⟨_,e,he,h⟩ := hp
  rw [isE_iff (hi.lo e he)] at h
  exact ⟨e,he,by rw [h]; apply Prod.ext <;> simp <;> omega⟩
 ·rintro ⟨e,he,h⟩
  have hv : ∃ t,(x,t) ∈ V := by
   have h2 := hi.ends e he
   have hl := hi.lo e he
   rw [h] at h2 hl
   simp at hl
   by_cases hx : x = min id x
   ·rw [← hx] at h2; exact h2.1
   ·have : x = max id x := by omega
    rw [← this] at h2; exact h2.2
  obtain ⟨t,ht⟩ := hv
  refine ⟨(x,t), ?_,rfl⟩
  rw [List.mem_filter,decide_eq_true_eq,posI_nonneg]
  exact ⟨ht,e,he,by rw [isE_iff (hi.lo e he),h]; apply Prod.ext <;> simp <;> omega⟩
end Go.Proofs.YtoacpebmhbkmbaaGreatDoor
namespace Go.Proofs.YtoacpebmhbkmbaaGreatDoor
open Go Go.RowKit
def eqW (N M : Nat) (is : List Nat) : Bool := is.all fun i => decide (wdN N i = wdN M i)
def eqS (N M : Nat) : Bool := eqW N M (List.range 16)
theorem eqS_iff {N M : Nat} : eqS N M = true ↔ ∀ k,k < 1024 → N.testBit k = M.testBit k := by
 unfold eqS eqW
 rw [List.all_eq_true]
 simp only [List.mem_range,decide_eq_true_eq]
 constructor
 ·intro h k hk
  have h1 := h (k / 64) (by omega)
  have h2 := congrArg (fun x => x.testBit (k % 64)) h1
  simp only [wdN_bit] at h2
  rw [show 64 * (k / 64) + k % 64 = k by omega] at h2
  have h3 : decide (k % 64 < 64) = true := by simp; omega
  simpa [h3] using h2
 ·intro h i hi
  apply Nat.eq_of_testBit_eq
  intro k
  rw [wdN_bit,wdN_bit]
  by_cases hk : k < 64
  ·rw [h (64 * i + k) (by omega)]
  ·simp [hk]
theorem items_words {P : Program} (w : World) (d : Nat) (e : TypeId) (he : P.underlying e = some (.int .u64)) (N M : Nat) :
  ∀ is : List Nat,(∀ i ∈ is,i < 16) → (Op.eqItems (d + 1) e 1 (setC N) (setC M) is).run P w = .ok (eqW N M is) w
 | [],_ => by simp [Op.eqItems,eqW]
 | i :: is,hi => by
  have hN := setC_get N (hi i (by simp))
  have hM := setC_get M (hi i (by simp))
  have px : (part e (setC N) (i * 1)).run P w = .ok (.int .u64 (wd N i)) w := by
   simp [part,isAgg,run_underlying he,hN]
  have py : (part e (setC M) (i * 1)).run P w = .ok (.int .u64 (wd M i)) w := by
   simp [part,isAgg,run_underlying he,hM]
  have pe : (Op.equalIn (d + 1) e (.int .u64 (wd N i)) (.int .u64 (wd M i))).run P w = .ok (decide (wdN N i = wdN M i)) w := by
   rw [run_equalIn_int w d e .u64 .u64 _ _ he]
   unfold wd
   congr 1
   rw [Bool.eq_iff_iff]
   simp [Int.ofNat_inj]
  have ih := items_words w d e he N M is (fun j hj => hi j (by simp [hj]))
  simp only [Op.eqItems,Sem.run_bind,px,py,pe,Result.andThen_ok]
  by_cases hd : wdN N i = wdN M i
  ·simp [hd,eqW,ih]
  ·simp [hd,eqW]
set_option maxRecDepth 100000 in
theorem cmp_Set (w : World) (N M : Nat) : (Op.equalIn 10000 76 (.agg (setC N)) (.agg (setC M))).run Tryz.prog w = .ok (eqS N M) w := by
 have hc : Tryz.prog.cellsOf 74 = 1 := by kernel_rfl
 obtain ⟨i,hi⟩ : ∃ i,Tryz.prog.info? 74 = some i := ⟨_,rfl⟩
 have h := run_equalIn_array w 9999 (setC N) (setC M) Tryz.underlying76 hi
 rw [hc] at h
 exact h.trans (items_words w 9998 74 Tryz.underlying74 N M (List.range 16) (fun i hi => List.mem_range.1 hi))
theorem run_neq_Set {ρ : Operand → Value} {o : Oper} {x y : Operand} {w : World} {N M : Nat} {t : TypeId} (ho : o.op = .binOp .neq 76 x y t) (hx : ρ x = .agg (setC N)) (hy : ρ y = .agg (setC M)) : (execOp ρ o).run Tryz.prog w = .ok (.value (.bool (!eqS N M))) w := by
 have h := cmp_Set w N M
 generalize setC N = C at *
 generalize setC M = D at *
 unfold execOp
 simp only [ho,hx,hy]
 simp [go_sem,h]
theorem run_eql_Set {ρ : Operand → Value} {o : Oper} {x y : Operand} {w : World} {N M : Nat} {t : TypeId} (ho : o.op = .binOp .eql 76 x y t) (hx : ρ x = .agg (setC N)) (hy : ρ y = .agg (setC M)) : (execOp ρ o).run Tryz.prog w = .ok (.value (.bool (eqS N M))) w := by
 have h := cmp_Set w N M
 generalize setC N = C at *
 generalize setC M = D at *
 unfold execOp
 simp only [ho,hx,hy]
 simp [go_sem,h]
end Go.Proofs.YtoacpebmhbkmbaaGreatDoor
namespace Go.Proofs.YtoacpebmhbkmbaaGreatDoor
open Go Go.RowKit
attribute [local go_sem] qUpon lUpon
def stD (s : GS) (d : Ed) : GS := (nxV d.1 d.2.1 d.2.2.1 d.2.2.2.1 d.2.2.2.2 s.1 s.2,nxE d.1 d.2.1 d.2.2.1 d.2.2.2.1 d.2.2.2.2 s.1 s.2)
def mdS (L : List Ed) : GS := (L.take 60).foldl stD ([],[])
theorem fold_inv : ∀ (L : List Ed) (s : GS),GInv s.1 s.2 → GInv (L.foldl stD s).1 (L.foldl stD s).2
 | [],_,h => h
 | d :: L,s,h => fold_inv L (stD s d) (h.next _ _ _ _ _)
theorem mdS_inv (L : List Ed) : GInv (mdS L).1 (mdS L).2 := fold_inv _ _ GInv.nil
structure MdRel (w wr : World) (gw : Nat) (S : GS) (A B : Option Addr) (cA cB : Nat) : Prop where
 blk : Blk wr gw 41 #[.slice A S.1.length cA, .slice B S.2.length cB]
 sv : SlAt encV 3 wr A S.1
 se : SlAt encE 4 wr B S.2
 ext : Ext w wr
 lo : w.heap.size ≤ gw
theorem MdRel.go {w wr wr' : World} {gw : Nat} {S : GS} {A B : Option Addr} {cA cB : Nat} (h : MdRel w wr gw S A B cA cB) (k : Ext wr wr') : MdRel w wr' gw S A B cA cB :=
 ⟨h.blk.ext k,h.sv.ext k,h.se.ext k,h.ext.trans k,h.lo⟩
set_option maxRecDepth 100000 in
set_option maxHeartbeats 4000000 in
theorem made_any (A : Option Addr) (L : List Ed) (cL : Nat) (w : World) (hL : SlAt encD 5 w A L) :
  Calls Tryz.prog 52 #[.slice A L.length cL] w fun e w' => ∃ A1 cA B1 cB,e = .returned (.agg #[.slice A1 (mdS L).1.length cA, .slice B1 (mdS L).2.length cB]) ∧ SlAt encV 3 w' A1 (mdS L).1 ∧ SlAt encE 4 w' B1 (mdS L).2 ∧ Ext w w' := by
 have hL' := hide hL
 clear hL
 have hb0 := (Blk.new w 41 #[.slice none 0 0, .slice none 0 0]).ext (ext_self1 _ (.cells #[.slice none 0 0, .slice none 0 0] 41))
 have hb1 := Blk.new (w.alloc (.cells #[.slice none 0 0, .slice none 0 0] 41)) 41 #[.slice none 0 0, .slice none 0 0]
 simp only [World.size_alloc] at hb1
 have hb0' := hide hb0
 have hb1' := hide hb1
 clear hb0 hb1
 go_enter Tryz.func52,Tryz.ntmps52
 go_wp2_with fail
 refine wp_abs (fun W => Blk W w.heap.size 41 #[.slice none 0 0, .slice none 0 0] ∧ MdRel w W (w.heap.size + 1) ([],[]) none none 0 0) ⟨unhide hb0',unhide hb1',SlAt.nil,SlAt.nil,ext_self2 _ _ _,by omega⟩ ?_
 rintro w2 ⟨hq0,hr0⟩
 have hr0' := hide hr0
 have hq0' := hide hq0
 have hne' := hide (show w.heap.size ≠ w.heap.size + 1 by omega)
 clear hr0 hq0 hb0' hb1'
 generalize hr1 : w.heap.size + 1 = gw at *
 generalize hr2 : w.heap.size = ge at *
 have hge' := hide hr2
 clear hr1 hr2
 go_loopw [4] (fun i wr => ∃ (k : Nat) (A1 B1 : Option Addr) (cA cB : Nat),k ≤ L.length ∧ k ≤ 60 ∧ i = .int .i64 k ∧ Blk wr ge 41 #[.slice none 0 0, .slice none 0 0] ∧ MdRel w wr gw ((L.take k).foldl stD ([],[])) A1 B1 cA cB) (fun i _ => L.length - (intOf i).toNat)
 case atStart => exact ⟨0,none,none,0,0,Nat.zero_le _,by omega,rfl,unhide hq0',unhide hr0'⟩
 case round =>
  obtain ⟨k,A1,B1,cA,cB,hk,hk60,rfl,hq,hr⟩ := hrel
  have hr' := hide hr
  have hq' := hide hq
  clear hr hr0' hq hq0'
  by_cases hlt : k < L.length
  ·by_cases h60 : k < 60
   ·obtain ⟨b,off,rfl,c0,c1,c2,c3,c4⟩ := atD ((unhide hL').ext (unhide hr').ext) hlt
    have hst := hide (fold_step (st := stD) (s := (([],[]) : GS)) hlt)
    have hin := hide (fold_inv (L.take k) ([],[]) GInv.nil)
    generalize (L.take k).foldl stD ([],[]) = S at *
    obtain ⟨V,E⟩ := S
    generalize hy : L[k] = y at c0 c1 c2 c3 c4 hst
    obtain ⟨op,u,v,lab,wt⟩ := y
    have hB0 := (unhide hr').blk
    have q0 := hB0.cells 0 (v := .slice A1 V.length cA) rfl
    have q1 := hB0.cells 1 (v := .slice B1 E.length cB) rfl
    clear hy hB0
    simp only at c0 c1 c2 c3 c4
    go_wp2_with fail
    refine wp_region_ext (P := Tryz.prog) [0,1,2,3,4] [5,6,7,8,9] 5 #[true,true,true,true,true,false,false,false,false,false] (by kernel_rfl) (by kernel_rfl) rfl (by rfl) ?_
    iterate 5
     refine ql_want (v := ?_) rfl (by rfl) (fun W hW => ?_) ?_
     rotate_left
     ·go_simp
      first | done | rfl
     go_frame
    refine wpQL_nil (fun w3 hx3 => ?_)
    clear q0 q1 c0 c1 c2 c3 c4
    refine lx_one (i := 5) (by kernel_rfl) rfl (by rfl) #[true,true,true,true,true,true,false,false,false,false] (by rfl) ?_
    go_simp
    have hr3 := (unhide hr').go hx3
    have hq3 := (unhide hq').ext hx3
    refine (do_any A1 B1 V E cA cB op u v lab wt _ hr3.sv hr3.se (Nat.le_trans (unhide hin).nv (by omega)) (Nat.le_trans (unhide hin).ne (by omega))).mono ?_
    rintro e w4 ⟨A2,cA2,B2,cB2,rfl,hs4,he4,hx4⟩
    refine ⟨_,rfl,fun w5 hx5 => ?_⟩
    have hx35 := hx4.trans hx5
    have hb5 := hr3.blk.ext hx35
    have hc5 := hide (GCls.refl hb5)
    have hG5 : ∃ A n c B m d,Blk w5 gw 41 #[.slice A n c, .slice B m d] := ⟨_,_,_,_,_,_,hb5⟩
    have hG5' := hide hG5
    have hq5 := hide (hq3.ext hx35)
    have hs5 := hide (hs4.ext hx5)
    have he5 := hide (he4.ext hx5)
    have hxw5 := hide (hr3.ext.trans hx35)
    have hlo := hide hr3.lo
    clear hr3 hq3 hs4 he4 hx4 hx5 hx35 hb5 hG5 hx3 hr' hq'
    refine lx_re (GCls gw w5) [6,7,8] 1 4 #[true,true,true,true,true,true,false,false,false,false] #[true,true,true,true,true,true,true,true,true,false] (by kernel_rfl) (by kernel_rfl) rfl (by rfl) Ext.refl (fun _ _ _ => Ext.trans) (fun _ _ h k => h.ext k) (unhide hc5) ?_
    iterate 3
     refine ql_want (v := ?_) rfl (by rfl) (fun W hW => ?_) ?_
     rotate_left
     ·go_simp
      first | done | rfl
     go_frame
    refine wpQL_nil (fun w6 hc6 => ?_)
    have hc6' := hide hc6
    obtain ⟨hk6,A0,n0,k0,B0,m0,d0,hb6⟩ := hc6
    have s0 := hb6.cell 0
    have s1 := hb6.cell 1
    have f0 := hb6.frozen 0
    have f1 := hb6.frozen 1
    have hb6' := hide hb6
    simp at s0 s1
    clear hk6 hb6
    refine lx_one (i := 9) (by kernel_rfl) rfl (by rfl) #[true,true,true,true,true,true,true,true,true,true] (by rfl) ?_
    go_simp
    clear s0 s1 f0 f1
    have hc7 := (unhide hc6').set A2 B2 (nxV op u v lab wt V E).length cA2 (nxE op u v lab wt V E).length cB2
    have hb7 := (unhide hb6').set2 (p' := .slice A2 (nxV op u v lab wt V E).length cA2) (q' := .slice B2 (nxE op u v lab wt V E).length cB2)
    generalize ((w6.setCell ⟨gw,0,none⟩ (.slice A2 (nxV op u v lab wt V E).length cA2)).setCell ⟨gw,1,none⟩ (.slice B2 (nxE op u v lab wt V E).length cB2)) = w7 at *
    first | refine ⟨hc7, ?_⟩ | skip
    intro w8 hx8
    have hrel := MdRel.go (w := w) (S := stD (V,E) (op,(u,(v,(lab,wt))))) ⟨hb7,(unhide hs5).cls hc7 (unhide hG5') encV_ns encV0,(unhide he5).cls hc7 (unhide hG5') encE_ns encE0,(unhide hxw5).of_new hc7.1 (by have := unhide hlo; simpa using this),unhide hlo⟩ hx8
    have hq8 := hide (((unhide hq5).keep hc7.1 (by simpa using unhide hne')).ext hx8)
    have hrel' := hide hrel
    clear hrel hc7 hb7 hc6' hb6' hx8 hc5 hG5' hq5 hs5 he5 hxw5 hlo
    refine wpX_done (by kernel_rfl) ?_
    try go_frame
    go_wp2_with fail
    go_roundw
    case rel => exact ⟨k + 1,A2,B2,cA2,cB2,by omega,by omega,by go_num,unhide hq8,by rw [unhide hst]; exact unhide hrel'⟩
    case measure => simp [intOf]; omega
   ·have hS : L.take k = L.take 60 := by rw [show k = 60 by omega]
    rw [hS] at hr'
    clear hS
    generalize hmd : (L.take 60).foldl stD ([],[]) = S at *
    have hmd' : mdS L = S := hmd
    have hmd'' := hide hmd'
    clear hmd hmd'
    have hB0 := (unhide hr').blk
    have q0 := hB0.cell 0
    have q1 := hB0.cell 1
    have s0 := (unhide hq').cell 0
    have s1 := (unhide hq').cell 1
    have f0 := (unhide hq').frozen 0
    have f1 := (unhide hq').frozen 1
    clear hB0
    simp at q0 q1 s0 s1
    go_wp2_with fail
    refine bodyPost_ret (ret_cell1 rfl rfl (load_G2 wr ge _ _ _ _ s0 s1)) rfl ?_
    rw [unhide hmd'']
    have hk := Keep.set2 wr ge (.slice A1 S.1.length cA) (.slice B1 S.2.length cB)
    exact ⟨A1,cA,B1,cB,rfl,(unhide hr').sv.keep_G (unhide hq') ⟨_,_,_,rfl⟩ ⟨_,_,_,rfl⟩ encV_ns encV0 hk,(unhide hr').se.keep_G (unhide hq') ⟨_,_,_,rfl⟩ ⟨_,_,_,rfl⟩ encE_ns encE0 hk,(unhide hr').ext.of_new hk (by have := unhide hge'; simp; omega)⟩
  ·have hS : L.take k = L.take 60 := by rw [List.take_of_length_le (by omega),List.take_of_length_le (by omega)]
   rw [hS] at hr'
   clear hS
   generalize hmd : (L.take 60).foldl stD ([],[]) = S at *
   have hmd' : mdS L = S := hmd
   have hmd'' := hide hmd'
   clear hmd hmd'
   have hB0 := (unhide hr').blk
   have q0 := hB0.cell 0
   have q1 := hB0.cell 1
   have s0 := (unhide hq').cell 0
   have s1 := (unhide hq').cell 1
   have f0 := (unhide hq').frozen 0
   have f1 := (unhide hq').frozen 1
   clear hB0
   simp at q0 q1 s0 s1
   go_wp2_with fail
   refine bodyPost_ret (ret_cell1 rfl rfl (load_G2 wr ge _ _ _ _ s0 s1)) rfl ?_
   rw [unhide hmd'']
   have hk := Keep.set2 wr ge (.slice A1 S.1.length cA) (.slice B1 S.2.length cB)
   exact ⟨A1,cA,B1,cB,rfl,(unhide hr').sv.keep_G (unhide hq') ⟨_,_,_,rfl⟩ ⟨_,_,_,rfl⟩ encV_ns encV0 hk,(unhide hr').se.keep_G (unhide hq') ⟨_,_,_,rfl⟩ ⟨_,_,_,rfl⟩ encE_ns encE0 hk,(unhide hr').ext.of_new hk (by have := unhide hge'; simp; omega)⟩
end Go.Proofs.YtoacpebmhbkmbaaGreatDoor
namespace Go.Proofs.YtoacpebmhbkmbaaGreatDoor
open Go Go.RowKit
theorem hasV_iff {u : Int} {V : List (Int × Thing)} : hasV u V = true ↔ u ∈ V.map (·.1) := by
 rw [hasV_look,lookM_isSome,List.mem_map]
section
variable {u v lab wt : Int} {E : List ((Int × Int) × Thing)} (hlo : ∀ e ∈ E,e.1.1 < e.1.2) (hn : (E.map (·.1)).Nodup)
include hlo hn
end
end Go.Proofs.YtoacpebmhbkmbaaGreatDoor
namespace Go.Proofs.YtoacpebmhbkmbaaGreatDoor
open Go
theorem withoutS_bit2 (N : Nat) (x : Int) (k : Nat) : (withoutS N x).testBit k = (N.testBit k && !(decide (k < 1024) && decide (x = (k : Int)))) := by
 unfold withoutS fitB
 by_cases h : 0 ≤ x ∧ x < 1024
 ·rw [if_pos (by simp [h.1,h.2]),minusS_bit,Nat.testBit_two_pow]
  congr 2
  rw [Bool.eq_iff_iff]
  simp only [Bool.and_eq_true,decide_eq_true_eq]
  omega
 ·rw [if_neg (by simp; omega)]
  have : (decide (k < 1024) && decide (x = (k : Int))) = false := by
   rw [Bool.eq_false_iff]
   simp only [ne_eq,Bool.and_eq_true,decide_eq_true_eq]
   omega
  rw [this,Bool.not_false,Bool.and_true]
theorem len_le_sub : ∀ (l m : List Int),l.Nodup → (∀ x ∈ l,x ∈ m) → l.length ≤ m.length
 | [],_,_,_ => Nat.zero_le _
 | a :: r,m,hn,hs => by
  have ha : a ∈ m := hs a (by simp)
  obtain ⟨hna,hnr⟩ := List.nodup_cons.1 hn
  have h1 := len_le_sub r (m.erase a) hnr (fun x hx => (List.mem_erase_of_ne (fun e => hna (by rw [← e]; exact hx))).2 (hs x (by simp [hx])))
  have h2 := (List.perm_cons_erase ha).length_eq
  simp only [List.length_cons] at h2 ⊢
  omega
theorem mem_and {N M : Nat} {x : Int} : x ∈ toL (N &&& M) ↔ x ∈ toL N ∧ x ∈ toL M := by
 rw [mem_toL',mem_toL',mem_toL',Nat.testBit_and,Bool.and_eq_true]
 constructor
 ·rintro ⟨h1,h2,h3,h4⟩; exact ⟨⟨h1,h2,h3⟩,h1,h2,h4⟩
 ·rintro ⟨⟨h1,h2,h3⟩,_,_,h4⟩; exact ⟨h1,h2,h3,h4⟩
theorem mem_without {N : Nat} {x v : Int} : x ∈ toL (withoutS N v) ↔ x ∈ toL N ∧ x ≠ v := by
 rw [mem_toL',mem_toL',withoutS_bit2]
 constructor
 ·rintro ⟨h1,h2,h3⟩
  simp only [Bool.and_eq_true,Bool.not_eq_true',Bool.and_eq_false_iff,decide_eq_false_iff_not] at h3
  refine ⟨⟨h1,h2,h3.1⟩,fun e => ?_⟩
  rcases h3.2 with h | h <;> omega
 ·rintro ⟨⟨h1,h2,h3⟩,h4⟩
  refine ⟨h1,h2, ?_⟩
  rw [h3]
  simp
  omega
theorem sorted_ext {l m : List Int} (hl : l.Pairwise (· < ·)) (hm : m.Pairwise (· < ·)) (h : ∀ x,x ∈ l ↔ x ∈ m) : l = m :=
 ((List.perm_ext_iff_of_nodup (hl.imp fun {_ _} h => by omega) (hm.imp fun {_ _} h => by omega)).2 h).eq_of_pairwise (fun a b _ _ h h' => by omega) hl hm
section
variable {V : List (Int × Thing)} {E : List ((Int × Int) × Thing)}
theorem hasE_symm {u v : Int} (h : hasE u v E = true) : hasE v u E = true := by
 unfold hasE at h ⊢
 rw [decide_eq_true_eq,posI_nonneg] at h ⊢
 obtain ⟨p,hp,h1⟩ := h
 refine ⟨p,hp, ?_⟩
 unfold isE at h1 ⊢
 rw [Bool.or_comm] at h1
 exact h1
theorem hasE_ne (hi : GInv V E) {u v : Int} (h : hasE u v E = true) : u ≠ v := by
 unfold hasE at h
 rw [decide_eq_true_eq,posI_nonneg] at h
 obtain ⟨p,hp,h1⟩ := h
 have h2 := hi.lo p hp
 unfold isE at h1
 simp at h1
 omega
theorem hasE_rng (hi : GInv V E) {u v : Int} (h : hasE u v E = true) : u ∈ V.map (·.1) ∧ v ∈ V.map (·.1) := by
 obtain ⟨h1,h2⟩ := has_ends hi h
 exact ⟨hasV_iff.1 h1,hasV_iff.1 h2⟩
theorem ids_rng (hi : GInv V E) {x : Int} (h : x ∈ V.map (·.1)) : 0 ≤ x ∧ x < 1024 := by
 obtain ⟨p,hp,rfl⟩ := List.mem_map.1 h
 have := hi.ids p hp
 simpa [idB] using this
theorem mem_near (hi : GInv V E) {v x : Int} : x ∈ toL (nearS v E) ↔ hasE v x E = true := by
 rw [← rnear_eq hi,mem_toL',fromS_bit,Bool.and_eq_true,decide_eq_true_eq,decide_eq_true_eq]
 unfold rnear
 constructor
 ·rintro ⟨h1,h2,h3,h4⟩
  rw [show ((x.toNat : Nat) : Int) = x by omega] at h4
  obtain ⟨p,hp,rfl⟩ := List.mem_map.1 h4
  exact hasE_symm (List.mem_filter.1 hp).2
 ·intro h
  have hm := (hasE_rng hi h).2
  have hr := ids_rng hi hm
  refine ⟨hr.1,hr.2,by omega, ?_⟩
  rw [show ((x.toNat : Nat) : Int) = x by omega]
  obtain ⟨p,hp,rfl⟩ := List.mem_map.1 hm
  exact List.mem_map.2 ⟨p,List.mem_filter.2 ⟨hp,hasE_symm h⟩,rfl⟩
theorem mem_vS (hi : GInv V E) {x : Int} : x ∈ toL (vS V) ↔ x ∈ V.map (·.1) := by
 rw [vS_eq,mem_toL',fromS_bit,Bool.and_eq_true,decide_eq_true_eq,decide_eq_true_eq]
 constructor
 ·rintro ⟨h1,h2,h3,h4⟩
  rwa [show ((x.toNat : Nat) : Int) = x by omega] at h4
 ·intro h
  have hr := ids_rng hi h
  refine ⟨hr.1,hr.2,by omega, ?_⟩
  rwa [show ((x.toNat : Nat) : Int) = x by omega]
theorem toL_vS (hi : GInv V E) : toL (vS V) = V.map (·.1) := sorted_ext (toL_sorted _) (sv_map.1 hi.sv) fun _ => mem_vS hi
end
section
open Classical
variable {V : List (Int × Thing)} {E : List ((Int × Int) × Thing)}
end
end Go.Proofs.YtoacpebmhbkmbaaGreatDoor
namespace Go.Proofs.YtoacpebmhbkmbaaGreatDoor
open Go Go.RowKit
attribute [local go_sem] qUpon lUpon
def belS (n : Int) : Nat := 2 ^ (min n.toNat 1024) - 1
theorem wdN_mod (N k i : Nat) : wdN (N % 2 ^ (64 * k)) i = if i < k then wdN N i else 0 := by
 apply Nat.eq_of_testBit_eq
 intro j
 rw [wdN_bit,Nat.testBit_mod_two_pow]
 by_cases h : i < k
 ·rw [if_pos h,wdN_bit,Bool.eq_iff_iff]
  simp only [Bool.and_eq_true,decide_eq_true_eq]
  constructor
  ·rintro ⟨a,_,b⟩; exact ⟨a,b⟩
  ·rintro ⟨a,b⟩; exact ⟨a,by omega,b⟩
 ·rw [if_neg h,Nat.zero_testBit,Bool.eq_iff_iff]
  simp only [Bool.and_eq_true,decide_eq_true_eq,Bool.false_eq_true,iff_false]
  omega
theorem setC_next (N k : Nat) : (setC (N % 2 ^ (64 * k))).setIfInBounds k (.int .u64 (wd N k)) = setC (N % 2 ^ (64 * (k + 1))) := by
 apply Array.ext_getElem?
 intro i
 by_cases hi : i < 16
 ·rw [setC_get _ hi]
  by_cases he : k = i
  ·subst he
   rw [Array.getElem?_setIfInBounds_self_of_lt (by rw [setC_size]; omega)]
   unfold wd
   rw [wdN_mod,if_pos (by omega)]
  ·rw [Array.getElem?_setIfInBounds_ne he,setC_get _ hi]
   unfold wd
   rw [wdN_mod,wdN_mod]
   by_cases h1 : i < k
   ·rw [if_pos h1,if_pos (by omega)]
   ·rw [if_neg h1,if_neg (by omega)]
 ·have h1 : ∀ a : Array Value,a.size = 16 → a[i]? = none := fun a h => Array.getElem?_eq_none (by omega)
  rw [h1 _ (by simp [setC_size]),h1 _ (setC_size _)]
theorem bel_lt {m K : Nat} (h : m ≤ K) : 2 ^ m - 1 < 2 ^ K := by
 have : 2 ^ m ≤ 2 ^ K := Nat.pow_le_pow_right (by decide) h
 have hp : 0 < 2 ^ m := Nat.pow_pos (by decide)
 omega
theorem bel_word (m k c : Nat) (hc : c = min (m - 64 * k) 64) : IntKind.u64.wrap (IntKind.u64.wrap (2 ^ c) - 1) = wd (2 ^ m - 1) k := by
 have h1 : wd (2 ^ m - 1) k = ((2 ^ c - 1 : Nat) : Int) := by unfold wd; rw [wdN_below,hc]
 have hp : 0 < 2 ^ c := Nat.pow_pos (by decide)
 have hle : 2 ^ c ≤ 2 ^ 64 := Nat.pow_le_pow_right (by decide) (by omega)
 have e : ((2 : Int) ^ c) = ((2 ^ c : Nat) : Int) := by simp
 rw [h1,IntKind.wrap_u64,IntKind.wrap_u64,e]
 generalize 2 ^ c = p at *
 omega
set_option maxRecDepth 100000 in
set_option maxHeartbeats 4000000 in
theorem below_any (n : Int) (w : World) :
  Calls Tryz.prog 126 #[.int .i64 n] w fun e w' => e = .returned (.agg (setC (belS n))) ∧ Ext w w' := by
 obtain ⟨m,hm⟩ : ∃ m : Nat,m = min n.toNat 1024 := ⟨_,rfl⟩
 have hm1 : max 0 (min n 1024) = (m : Int) := by omega
 have hm2 : m ≤ 1024 := by omega
 have hbe : belS n = 2 ^ m - 1 := by rw [belS, ← hm]
 have hbe' := hide hbe
 have hB0 := hide (Blk.new w 76 (setC 0))
 clear hbe hm
 go_enter Tryz.func126,Tryz.ntmps126
 go_wp2_with fail
 have hx1 := hide ((ext_self1 w (.cells (setC 0) 76)).trans (ext_self1 _ (.cells (setC 0) 76)))
 have hB2 := hide ((unhide hB0).ext (ext_self1 (w.alloc (.cells (setC 0) 76)) (.cells (setC 0) 76)))
 have hB4 := hide (Blk.new (w.alloc (.cells (setC 0) 76)) 76 (setC 0))
 have hs : (w.alloc (.cells (setC 0) 76)).heap.size = w.heap.size + 1 := World.size_alloc _ _
 rw [hs] at hB4
 clear hs hB0
 have hz : setC 0 = #[.int .u64 0, .int .u64 0, .int .u64 0, .int .u64 0, .int .u64 0, .int .u64 0, .int .u64 0, .int .u64 0, .int .u64 0, .int .u64 0, .int .u64 0, .int .u64 0, .int .u64 0, .int .u64 0, .int .u64 0, .int .u64 0] := rfl
 rw [hz] at hx1 hB2 hB4
 generalize (w.alloc (.cells #[.int .u64 0, .int .u64 0, .int .u64 0, .int .u64 0, .int .u64 0, .int .u64 0, .int .u64 0, .int .u64 0, .int .u64 0, .int .u64 0, .int .u64 0, .int .u64 0, .int .u64 0, .int .u64 0, .int .u64 0, .int .u64 0] 76)).alloc (.cells #[.int .u64 0, .int .u64 0, .int .u64 0, .int .u64 0, .int .u64 0, .int .u64 0, .int .u64 0, .int .u64 0, .int .u64 0, .int .u64 0, .int .u64 0, .int .u64 0, .int .u64 0, .int .u64 0, .int .u64 0, .int .u64 0] 76) = W1 at *
 rw [← hz] at hB4 hB2
 clear hz
 generalize hb4e : w.heap.size + 1 = b4 at *
 generalize hb2e : w.heap.size = b2 at *
 obtain ⟨N,hN⟩ : ∃ N,N = 2 ^ m - 1 := ⟨_,rfl⟩
 have hN' := hide hN
 have hlt2 := hide (bel_lt (K := 64 * 16) hm2)
 rw [← hN] at hlt2
 clear hN
 go_loopw [8] (fun i wr => ∃ k : Nat,k ≤ 16 ∧ i = .int .i64 k ∧ Blk wr b4 76 (setC (N % 2 ^ (64 * k))) ∧ Blk wr b2 76 (setC 0) ∧ Ext w wr) (fun i _ => 16 - (intOf i).toNat)
 case atStart => exact ⟨0,Nat.zero_le _,rfl,by rw [Nat.mul_zero,Nat.pow_zero,Nat.mod_one]; exact unhide hB4,unhide hB2,unhide hx1⟩
 case round =>
  obtain ⟨k,hk,rfl,hB,hA,hx⟩ := hrel
  have hB' := hide hB
  have hA' := hide hA
  have hx' := hide hx
  clear hB4 hB2 hx1
  by_cases hlt : k < 16
  ·obtain ⟨c,hc⟩ : ∃ c : Nat,c = min (m - 64 * k) 64 := ⟨_,rfl⟩
   have w1 : IntKind.i64.wrap (64 * (k : Int)) = 64 * (k : Int) := IntWalk.i64_in _ (by omega)
   have w2 : IntKind.i64.wrap ((m : Int) - 64 * (k : Int)) = (m : Int) - 64 * (k : Int) := IntWalk.i64_in _ (by omega)
   have w3 : max 0 (min ((m : Int) - 64 * (k : Int)) 64) = (c : Int) := by omega
   have w4 := bel_word m k c hc
   rw [← unhide hN'] at w4
   have c0 := hB.cell k
   have f0 := hB.frozen k
   rw [setC_get _ hlt] at c0
   clear hB hA hx hc
   go_wp2_with fail
   go_roundw
   case rel => exact ⟨k + 1,by omega,by go_num,by have h := (unhide hB').set k (.int .u64 (wd N k)); rw [setC_next] at h; exact h,(unhide hA').keep (Keep.setCell _ _ _ _) (by simp; omega),(unhide hx').of_new (Keep.setCell _ _ _ _) (by simp; omega)⟩
   case measure => simp [intOf]; omega
  ·have hke : k = 16 := by omega
   subst hke
   rw [Nat.mod_eq_of_lt (unhide hlt2)] at hB hB'
   rw [← unhide hN'] at hbe'
   have hself := Ext.refl wr
   clear hx hlt2 hN'
   have e0 := hB.cells 0 (v := .int .u64 (wd N 0)) rfl
   have e1 := hB.cells 1 (v := .int .u64 (wd N 1)) rfl
   have e2 := hB.cells 2 (v := .int .u64 (wd N 2)) rfl
   have e3 := hB.cells 3 (v := .int .u64 (wd N 3)) rfl
   have e4 := hB.cells 4 (v := .int .u64 (wd N 4)) rfl
   have e5 := hB.cells 5 (v := .int .u64 (wd N 5)) rfl
   have e6 := hB.cells 6 (v := .int .u64 (wd N 6)) rfl
   have e7 := hB.cells 7 (v := .int .u64 (wd N 7)) rfl
   have e8 := hB.cells 8 (v := .int .u64 (wd N 8)) rfl
   have e9 := hB.cells 9 (v := .int .u64 (wd N 9)) rfl
   have e10 := hB.cells 10 (v := .int .u64 (wd N 10)) rfl
   have e11 := hB.cells 11 (v := .int .u64 (wd N 11)) rfl
   have e12 := hB.cells 12 (v := .int .u64 (wd N 12)) rfl
   have e13 := hB.cells 13 (v := .int .u64 (wd N 13)) rfl
   have e14 := hB.cells 14 (v := .int .u64 (wd N 14)) rfl
   have e15 := hB.cells 15 (v := .int .u64 (wd N 15)) rfl
   have g0 := hA.frozen 0
   have g1 := hA.frozen 1
   have g2 := hA.frozen 2
   have g3 := hA.frozen 3
   have g4 := hA.frozen 4
   have g5 := hA.frozen 5
   have g6 := hA.frozen 6
   have g7 := hA.frozen 7
   have g8 := hA.frozen 8
   have g9 := hA.frozen 9
   have g10 := hA.frozen 10
   have g11 := hA.frozen 11
   have g12 := hA.frozen 12
   have g13 := hA.frozen 13
   have g14 := hA.frozen 14
   have g15 := hA.frozen 15
   have z0 := hA.cells 0 (v := .int .u64 (wd 0 0)) rfl
   have z1 := hA.cells 1 (v := .int .u64 (wd 0 1)) rfl
   have z2 := hA.cells 2 (v := .int .u64 (wd 0 2)) rfl
   have z3 := hA.cells 3 (v := .int .u64 (wd 0 3)) rfl
   have z4 := hA.cells 4 (v := .int .u64 (wd 0 4)) rfl
   have z5 := hA.cells 5 (v := .int .u64 (wd 0 5)) rfl
   have z6 := hA.cells 6 (v := .int .u64 (wd 0 6)) rfl
   have z7 := hA.cells 7 (v := .int .u64 (wd 0 7)) rfl
   have z8 := hA.cells 8 (v := .int .u64 (wd 0 8)) rfl
   have z9 := hA.cells 9 (v := .int .u64 (wd 0 9)) rfl
   have z10 := hA.cells 10 (v := .int .u64 (wd 0 10)) rfl
   have z11 := hA.cells 11 (v := .int .u64 (wd 0 11)) rfl
   have z12 := hA.cells 12 (v := .int .u64 (wd 0 12)) rfl
   have z13 := hA.cells 13 (v := .int .u64 (wd 0 13)) rfl
   have z14 := hA.cells 14 (v := .int .u64 (wd 0 14)) rfl
   have z15 := hA.cells 15 (v := .int .u64 (wd 0 15)) rfl
   clear hB hA
   go_wp2_with fail
   rw [unhide hbe']
   refine bodyPost_ret (ret_cell1 rfl rfl (load_Set _ b2 N (Blk.set16 N (unhide hA')))) rfl ?_
   exact ⟨rfl,(unhide hx').of_new (Keep.set16 wr b2 N) (by simp; omega)⟩
end Go.Proofs.YtoacpebmhbkmbaaGreatDoor
namespace Go.Proofs.YtoacpebmhbkmbaaGreatDoor
open Go
theorem toL_len_le (N : Nat) : (toL N).length ≤ 1024 := by
 have := len_le_sub (toL N) ((List.range 1024).map fun (i : Nat) => (i : Int)) (toL_nodup N) (fun x hx => by
  obtain ⟨h1,h2,_⟩ := mem_toL'.1 hx
  exact List.mem_map.2 ⟨x.toNat,List.mem_range.2 (by omega),by omega⟩)
 simpa using this
theorem mem_or {N M : Nat} {x : Int} : x ∈ toL (N ||| M) ↔ x ∈ toL N ∨ x ∈ toL M := by
 rw [mem_toL',mem_toL',mem_toL',Nat.testBit_or,Bool.or_eq_true]
 constructor
 ·rintro ⟨h1,h2,h3 | h3⟩
  ·exact .inl ⟨h1,h2,h3⟩
  ·exact .inr ⟨h1,h2,h3⟩
 ·rintro (⟨h1,h2,h3⟩ | ⟨h1,h2,h3⟩)
  ·exact ⟨h1,h2, .inl h3⟩
  ·exact ⟨h1,h2, .inr h3⟩
theorem mem_minus {N M : Nat} {x : Int} : x ∈ toL (minusS N M) ↔ x ∈ toL N ∧ x ∉ toL M := by
 rw [mem_toL',mem_toL',mem_toL',minusS_bit,Bool.and_eq_true,Bool.not_eq_true']
 constructor
 ·rintro ⟨h1,h2,h3,h4⟩; exact ⟨⟨h1,h2,h3⟩,fun h => by rw [h.2.2] at h4; cases h4⟩
 ·rintro ⟨⟨h1,h2,h3⟩,h4⟩; exact ⟨h1,h2,h3,by
   cases hb : M.testBit x.toNat
   ·rfl
   ·exact absurd ⟨h1,h2,hb⟩ h4⟩
end Go.Proofs.YtoacpebmhbkmbaaGreatDoor
