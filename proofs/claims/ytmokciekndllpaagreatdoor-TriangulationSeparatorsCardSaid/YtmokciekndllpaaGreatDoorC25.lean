/- Parts of a proof, laid together. Each part says its own conditions. -/
import Derived.Test.YtmokciekndllpaaGreatDoorC15
import Derived.Test.YtmokciekndllpaaGreatDoorC13
import Derived.Test.YtmokciekndllpaaGreatDoorC20
import Derived.Test.YtmokciekndllpaaGreatDoorC24
import Derived.Test.YtmokciekndllpaaGreatDoorC14
import Derived.Test.YtmokciekndllpaaGreatDoorC19
import Derived.Below
import Derived.Lib.SlKeysI
namespace Go.Proofs.YtmokciekndllpaaGreatDoor
open Go Go.RowKit
attribute [local go_sem] qUpon lUpon
def stD (s : GS) (d : Ed) : GS := (nxV d.1 d.2.1 d.2.2.1 d.2.2.2.1 d.2.2.2.2 s.1 s.2,nxE d.1 d.2.1 d.2.2.1 d.2.2.2.1 d.2.2.2.2 s.1 s.2)
def mdS (L : List Ed) : GS := (L.take 60).foldl stD ([],[])
theorem fold_inv : ∀ (L : List Ed) (s : GS),GInv s.1 s.2 → GInv (L.foldl stD s).1 (L.foldl stD s).2
 | [],_,h => h
 | d :: L,s,h => fold_inv L (stD s d) (h.next _ _ _ _ _)
theorem mdS_inv (L : List Ed) : GInv (mdS L).1 (mdS L).2 := fold_inv _ _ GInv.nil
structure MdRel (w wr : World) (gw : Nat) (S : GS) (A B : Option Addr) (cA cB : Nat) : Prop where
 blk : Blk wr gw 30 #[.slice A S.1.length cA, .slice B S.2.length cB]
 sv : SlAt encV 3 wr A S.1
 se : SlAt encE 4 wr B S.2
 ext : Ext w wr
 lo : w.heap.size ≤ gw
theorem MdRel.go {w wr wr' : World} {gw : Nat} {S : GS} {A B : Option Addr} {cA cB : Nat} (h : MdRel w wr gw S A B cA cB) (k : Ext wr wr') : MdRel w wr' gw S A B cA cB :=
 ⟨h.blk.ext k,h.sv.ext k,h.se.ext k,h.ext.trans k,h.lo⟩
set_option maxRecDepth 100000 in
set_option maxHeartbeats 4000000 in
theorem made_any (A : Option Addr) (L : List Ed) (cL : Nat) (w : World) (hL : SlAt encD 5 w A L) :
  Calls Tryz.prog 47 #[.slice A L.length cL] w fun e w' => ∃ A1 cA B1 cB,e = .returned (.agg #[.slice A1 (mdS L).1.length cA, .slice B1 (mdS L).2.length cB]) ∧ SlAt encV 3 w' A1 (mdS L).1 ∧ SlAt encE 4 w' B1 (mdS L).2 ∧ Ext w w' := by
 have hL' := hide hL
 clear hL
 have hb0 := (Blk.new w 30 #[.slice none 0 0, .slice none 0 0]).ext (ext_self1 _ (.cells #[.slice none 0 0, .slice none 0 0] 30))
 have hb1 := Blk.new (w.alloc (.cells #[.slice none 0 0, .slice none 0 0] 30)) 30 #[.slice none 0 0, .slice none 0 0]
 simp only [World.size_alloc] at hb1
 have hb0' := hide hb0
 have hb1' := hide hb1
 clear hb0 hb1
 go_enter Tryz.func47,Tryz.ntmps47
 go_wp2_with fail
 refine wp_abs (fun W => Blk W w.heap.size 30 #[.slice none 0 0, .slice none 0 0] ∧ MdRel w W (w.heap.size + 1) ([],[]) none none 0 0) ⟨unhide hb0',unhide hb1',SlAt.nil,SlAt.nil,ext_self2 _ _ _,by omega⟩ ?_
 rintro w2 ⟨hq0,hr0⟩
 have hr0' := hide hr0
 have hq0' := hide hq0
 have hne' := hide (show w.heap.size ≠ w.heap.size + 1 by omega)
 clear hr0 hq0 hb0' hb1'
 generalize hr1 : w.heap.size + 1 = gw at *
 generalize hr2 : w.heap.size = ge at *
 have hge' := hide hr2
 clear hr1 hr2
 go_loopw [4] (fun i wr => ∃ (k : Nat) (A1 B1 : Option Addr) (cA cB : Nat),k ≤ L.length ∧ k ≤ 60 ∧ i = .int .i64 k ∧ Blk wr ge 30 #[.slice none 0 0, .slice none 0 0] ∧ MdRel w wr gw ((L.take k).foldl stD ([],[])) A1 B1 cA cB) (fun i _ => L.length - (intOf i).toNat)
 case atStart => exact ⟨0,none,none,0,0,Nat.zero_le _,by omega,rfl,unhide hq0',unhide hr0'⟩
 case round =>
  obtain ⟨k,A1,B1,cA,cB,hk,hk60,rfl,hq,hr⟩ := hrel
  have hr' := hide hr
  have hq' := hide hq
  clear hr hr0' hq hq0'
  by_cases hlt : k < L.length
  ·by_cases h60 : k < 60
   ·obtain ⟨b,off,rfl,c0,c1,c2,c3,c4⟩ := atD ((unhide hL').ext (unhide hr').ext) hlt
    have hst := hide (fold_step (st := stD) (s := (([],[]) : GS)) hlt)
    have hin := hide (fold_inv (L.take k) ([],[]) GInv.nil)
    generalize (L.take k).foldl stD ([],[]) = S at *
    obtain ⟨V,E⟩ := S
    generalize hy : L[k] = y at c0 c1 c2 c3 c4 hst
    obtain ⟨op,u,v,lab,wt⟩ := y
    have hB0 := (unhide hr').blk
    have q0 := hB0.cells 0 (v := .slice A1 V.length cA) rfl
    have q1 := hB0.cells 1 (v := .slice B1 E.length cB) rfl
    clear hy hB0
    simp only at c0 c1 c2 c3 c4
    go_wp2_with fail
    refine wp_region_ext (P := Tryz.prog) [0,1,2,3,4] [5,6,7,8,9] 5 #[true,true,true,true,true,false,false,false,false,false] (by kernel_rfl) (by kernel_rfl) rfl (by rfl) ?_
    iterate 5
     refine ql_want (v := ?_) rfl (by rfl) (fun W hW => ?_) ?_
     rotate_left
     ·go_simp
      first | done | rfl
     go_frame
    refine wpQL_nil (fun w3 hx3 => ?_)
    clear q0 q1 c0 c1 c2 c3 c4
    refine lx_one (i := 5) (by kernel_rfl) rfl (by rfl) #[true,true,true,true,true,true,false,false,false,false] (by rfl) ?_
    go_simp
    have hr3 := (unhide hr').go hx3
    have hq3 := (unhide hq').ext hx3
    refine (do_any A1 B1 V E cA cB op u v lab wt _ hr3.sv hr3.se (Nat.le_trans (unhide hin).nv (by omega)) (Nat.le_trans (unhide hin).ne (by omega))).mono ?_
    rintro e w4 ⟨A2,cA2,B2,cB2,rfl,hs4,he4,hx4⟩
    refine ⟨_,rfl,fun w5 hx5 => ?_⟩
    have hx35 := hx4.trans hx5
    have hb5 := hr3.blk.ext hx35
    have hc5 := hide (GCls.refl hb5)
    have hG5 : ∃ A n c B m d,Blk w5 gw 30 #[.slice A n c, .slice B m d] := ⟨_,_,_,_,_,_,hb5⟩
    have hG5' := hide hG5
    have hq5 := hide (hq3.ext hx35)
    have hs5 := hide (hs4.ext hx5)
    have he5 := hide (he4.ext hx5)
    have hxw5 := hide (hr3.ext.trans hx35)
    have hlo := hide hr3.lo
    clear hr3 hq3 hs4 he4 hx4 hx5 hx35 hb5 hG5 hx3 hr' hq'
    refine lx_re (GCls gw w5) [6,7,8] 1 4 #[true,true,true,true,true,true,false,false,false,false] #[true,true,true,true,true,true,true,true,true,false] (by kernel_rfl) (by kernel_rfl) rfl (by rfl) Ext.refl (fun _ _ _ => Ext.trans) (fun _ _ h k => h.ext k) (unhide hc5) ?_
    iterate 3
     refine ql_want (v := ?_) rfl (by rfl) (fun W hW => ?_) ?_
     rotate_left
     ·go_simp
      first | done | rfl
     go_frame
    refine wpQL_nil (fun w6 hc6 => ?_)
    have hc6' := hide hc6
    obtain ⟨hk6,A0,n0,k0,B0,m0,d0,hb6⟩ := hc6
    have s0 := hb6.cell 0
    have s1 := hb6.cell 1
    have f0 := hb6.frozen 0
    have f1 := hb6.frozen 1
    have hb6' := hide hb6
    simp at s0 s1
    clear hk6 hb6
    refine lx_one (i := 9) (by kernel_rfl) rfl (by rfl) #[true,true,true,true,true,true,true,true,true,true] (by rfl) ?_
    go_simp
    clear s0 s1 f0 f1
    have hc7 := (unhide hc6').set A2 B2 (nxV op u v lab wt V E).length cA2 (nxE op u v lab wt V E).length cB2
    have hb7 := (unhide hb6').set2 (p' := .slice A2 (nxV op u v lab wt V E).length cA2) (q' := .slice B2 (nxE op u v lab wt V E).length cB2)
    generalize ((w6.setCell ⟨gw,0,none⟩ (.slice A2 (nxV op u v lab wt V E).length cA2)).setCell ⟨gw,1,none⟩ (.slice B2 (nxE op u v lab wt V E).length cB2)) = w7 at *
    first | refine ⟨hc7, ?_⟩ | skip
    intro w8 hx8
    have hrel := MdRel.go (w := w) (S := stD (V,E) (op,(u,(v,(lab,wt))))) ⟨hb7,(unhide hs5).cls hc7 (unhide hG5') encV_ns encV0,(unhide he5).cls hc7 (unhide hG5') encE_ns encE0,(unhide hxw5).of_new hc7.1 (by have := unhide hlo; simpa using this),unhide hlo⟩ hx8
    have hq8 := hide (((unhide hq5).keep hc7.1 (by simpa using unhide hne')).ext hx8)
    have hrel' := hide hrel
    clear hrel hc7 hb7 hc6' hb6' hx8 hc5 hG5' hq5 hs5 he5 hxw5 hlo
    refine wpX_done (by kernel_rfl) ?_
    try go_frame
    go_wp2_with fail
    go_roundw
    case rel => exact ⟨k + 1,A2,B2,cA2,cB2,by omega,by omega,by go_num,unhide hq8,by rw [unhide hst]; exact unhide hrel'⟩
    case measure => simp [intOf]; omega
   ·have hS : L.take k = L.take 60 := by rw [show k = 60 by omega]
    rw [hS] at hr'
    clear hS
    generalize hmd : (L.take 60).foldl stD ([],[]) = S at *
    have hmd' : mdS L = S := hmd
    have hmd'' := hide hmd'
    clear hmd hmd'
    have hB0 := (unhide hr').blk
    have q0 := hB0.cell 0
    have q1 := hB0.cell 1
    have s0 := (unhide hq').cell 0
    have s1 := (unhide hq').cell 1
    have f0 := (unhide hq').frozen 0
    have f1 := (unhide hq').frozen 1
    clear hB0
    simp at q0 q1 s0 s1
    go_wp2_with fail
    refine bodyPost_ret (ret_cell1 rfl rfl (load_G2 wr ge _ _ _ _ s0 s1)) rfl ?_
    rw [unhide hmd'']
    have hk := Keep.set2 wr ge (.slice A1 S.1.length cA) (.slice B1 S.2.length cB)
    exact ⟨A1,cA,B1,cB,rfl,(unhide hr').sv.keep_G (unhide hq') ⟨_,_,_,rfl⟩ ⟨_,_,_,rfl⟩ encV_ns encV0 hk,(unhide hr').se.keep_G (unhide hq') ⟨_,_,_,rfl⟩ ⟨_,_,_,rfl⟩ encE_ns encE0 hk,(unhide hr').ext.of_new hk (by have := unhide hge'; simp; omega)⟩
  ·have hS : L.take k = L.take 60 := by rw [List.take_of_length_le (by omega),List.take_of_length_le (by omega)]
   rw [hS] at hr'
   clear hS
   generalize hmd : (L.take 60).foldl stD ([],[]) = S at *
   have hmd' : mdS L = S := hmd
   have hmd'' := hide hmd'
   clear hmd hmd'
   have hB0 := (unhide hr').blk
   have q0 := hB0.cell 0
   have q1 := hB0.cell 1
   have s0 := (unhide hq').cell 0
   have s1 := (unhide hq').cell 1
   have f0 := (unhide hq').frozen 0
   have f1 := (unhide hq').frozen 1
   clear hB0
   simp at q0 q1 s0 s1
   go_wp2_with fail
   refine bodyPost_ret (ret_cell1 rfl rfl (load_G2 wr ge _ _ _ _ s0 s1)) rfl ?_
   rw [unhide hmd'']
   have hk := Keep.set2 wr ge (.slice A1 S.1.length cA) (.slice B1 S.2.length cB)
   exact ⟨A1,cA,B1,cB,rfl,(unhide hr').sv.keep_G (unhide hq') ⟨_,_,_,rfl⟩ ⟨_,_,_,rfl⟩ encV_ns encV0 hk,(unhide hr').se.keep_G (unhide hq') ⟨_,_,_,rfl⟩ ⟨_,_,_,rfl⟩ encE_ns encE0 hk,(unhide hr').ext.of_new hk (by have := unhide hge'; simp; omega)⟩
end Go.Proofs.YtmokciekndllpaaGreatDoor
namespace Go.Proofs.YtmokciekndllpaaGreatDoor
open Go Go.RowKit
theorem hasV_iff {u : Int} {V : List (Int × Thing)} : hasV u V = true ↔ u ∈ V.map (·.1) := by
 rw [hasV_look,lookM_isSome,List.mem_map]
theorem hasE_iff {u v : Int} {E : List ((Int × Int) × Thing)} (hlo : ∀ e ∈ E,e.1.1 < e.1.2) : hasE u v E = true ↔ (min u v,max u v) ∈ E.map (·.1) := by
 rw [hasE_look hlo,lookM_isSome,List.mem_map]
section
variable {u v lab wt : Int} {E : List ((Int × Int) × Thing)} (hlo : ∀ e ∈ E,e.1.1 < e.1.2) (hn : (E.map (·.1)).Nodup)
include hlo hn
end
theorem stD_ok {op u v lab wt : Int} {V : List (Int × Thing)} {E : List ((Int × Int) × Thing)} (h : wrongR op u v wt V E = 0) : stD (V,E) (op,(u,(v,(lab,wt)))) = (refV op u lab wt V,refE op u v lab wt E) := by
 unfold stD nxV nxE
 simp only [h,if_true]
end Go.Proofs.YtmokciekndllpaaGreatDoor
namespace Go.Proofs.YtmokciekndllpaaGreatDoor
open Go
theorem withoutS_bit2 (N : Nat) (x : Int) (k : Nat) : (withoutS N x).testBit k = (N.testBit k && !(decide (k < 1024) && decide (x = (k : Int)))) := by
 unfold withoutS fitB
 by_cases h : 0 ≤ x ∧ x < 1024
 ·rw [if_pos (by simp [h.1,h.2]),minusS_bit,Nat.testBit_two_pow]
  congr 2
  rw [Bool.eq_iff_iff]
  simp only [Bool.and_eq_true,decide_eq_true_eq]
  omega
 ·rw [if_neg (by simp; omega)]
  have : (decide (k < 1024) && decide (x = (k : Int))) = false := by
   rw [Bool.eq_false_iff]
   simp only [ne_eq,Bool.and_eq_true,decide_eq_true_eq]
   omega
  rw [this,Bool.not_false,Bool.and_true]
theorem len_le_sub : ∀ (l m : List Int),l.Nodup → (∀ x ∈ l,x ∈ m) → l.length ≤ m.length
 | [],_,_,_ => Nat.zero_le _
 | a :: r,m,hn,hs => by
  have ha : a ∈ m := hs a (by simp)
  obtain ⟨hna,hnr⟩ := List.nodup_cons.1 hn
  have h1 := len_le_sub r (m.erase a) hnr (fun x hx => (List.mem_erase_of_ne (fun e => hna (by rw [← e]; exact hx))).2 (hs x (by simp [hx])))
  have h2 := (List.perm_cons_erase ha).length_eq
  simp only [List.length_cons] at h2 ⊢
  omega
def subS (N M : Nat) : Bool := eqS (minusS N M) 0
theorem subS_iff {N M : Nat} : subS N M = true ↔ ∀ x ∈ toL N,x ∈ toL M := by
 unfold subS
 rw [eqS_iff]
 constructor
 ·intro h x hx
  obtain ⟨h1,h2,h3⟩ := mem_toL'.1 hx
  have := h x.toNat (by omega)
  rw [minusS_bit,h3,Nat.zero_testBit] at this
  exact mem_toL'.2 ⟨h1,h2,by simpa using this⟩
 ·intro h k hk
  rw [minusS_bit,Nat.zero_testBit]
  cases hb : N.testBit k
  ·rfl
  ·have := (mem_toL'.1 (h k (mem_toL'.2 ⟨by omega,by omega,hb⟩))).2.2
   simp at this
   simp [this]
theorem mem_and {N M : Nat} {x : Int} : x ∈ toL (N &&& M) ↔ x ∈ toL N ∧ x ∈ toL M := by
 rw [mem_toL',mem_toL',mem_toL',Nat.testBit_and,Bool.and_eq_true]
 constructor
 ·rintro ⟨h1,h2,h3,h4⟩; exact ⟨⟨h1,h2,h3⟩,h1,h2,h4⟩
 ·rintro ⟨⟨h1,h2,h3⟩,_,_,h4⟩; exact ⟨h1,h2,h3,h4⟩
theorem mem_without {N : Nat} {x v : Int} : x ∈ toL (withoutS N v) ↔ x ∈ toL N ∧ x ≠ v := by
 rw [mem_toL',mem_toL',withoutS_bit2]
 constructor
 ·rintro ⟨h1,h2,h3⟩
  simp only [Bool.and_eq_true,Bool.not_eq_true',Bool.and_eq_false_iff,decide_eq_false_iff_not] at h3
  refine ⟨⟨h1,h2,h3.1⟩,fun e => ?_⟩
  rcases h3.2 with h | h <;> omega
 ·rintro ⟨⟨h1,h2,h3⟩,h4⟩
  refine ⟨h1,h2, ?_⟩
  rw [h3]
  simp
  omega
theorem sorted_ext {l m : List Int} (hl : l.Pairwise (· < ·)) (hm : m.Pairwise (· < ·)) (h : ∀ x,x ∈ l ↔ x ∈ m) : l = m :=
 ((List.perm_ext_iff_of_nodup (hl.imp fun {_ _} h => by omega) (hm.imp fun {_ _} h => by omega)).2 h).eq_of_pairwise (fun a b _ _ h h' => by omega) hl hm
theorem toL_without (N : Nat) (v : Int) : toL (withoutS N v) = (toL N).filter (fun x => decide (x ≠ v)) :=
 sorted_ext (toL_sorted _) ((toL_sorted _).filter _) fun x => by rw [mem_without,List.mem_filter,decide_eq_true_eq]
section
variable {V : List (Int × Thing)} {E : List ((Int × Int) × Thing)}
theorem hasE_symm {u v : Int} (h : hasE u v E = true) : hasE v u E = true := by
 unfold hasE at h ⊢
 rw [decide_eq_true_eq,posI_nonneg] at h ⊢
 obtain ⟨p,hp,h1⟩ := h
 refine ⟨p,hp, ?_⟩
 unfold isE at h1 ⊢
 rw [Bool.or_comm] at h1
 exact h1
theorem hasE_rng (hi : GInv V E) {u v : Int} (h : hasE u v E = true) : u ∈ V.map (·.1) ∧ v ∈ V.map (·.1) := by
 obtain ⟨h1,h2⟩ := has_ends hi h
 exact ⟨hasV_iff.1 h1,hasV_iff.1 h2⟩
theorem ids_rng (hi : GInv V E) {x : Int} (h : x ∈ V.map (·.1)) : 0 ≤ x ∧ x < 1024 := by
 obtain ⟨p,hp,rfl⟩ := List.mem_map.1 h
 have := hi.ids p hp
 simpa [idB] using this
theorem mem_near (hi : GInv V E) {v x : Int} : x ∈ toL (nearS v E) ↔ hasE v x E = true := by
 rw [← rnear_eq hi,mem_toL',fromS_bit,Bool.and_eq_true,decide_eq_true_eq,decide_eq_true_eq]
 unfold rnear
 constructor
 ·rintro ⟨h1,h2,h3,h4⟩
  rw [show ((x.toNat : Nat) : Int) = x by omega] at h4
  obtain ⟨p,hp,rfl⟩ := List.mem_map.1 h4
  exact hasE_symm (List.mem_filter.1 hp).2
 ·intro h
  have hm := (hasE_rng hi h).2
  have hr := ids_rng hi hm
  refine ⟨hr.1,hr.2,by omega, ?_⟩
  rw [show ((x.toNat : Nat) : Int) = x by omega]
  obtain ⟨p,hp,rfl⟩ := List.mem_map.1 hm
  exact List.mem_map.2 ⟨p,List.mem_filter.2 ⟨hp,hasE_symm h⟩,rfl⟩
theorem mem_vS (hi : GInv V E) {x : Int} : x ∈ toL (vS V) ↔ x ∈ V.map (·.1) := by
 rw [vS_eq,mem_toL',fromS_bit,Bool.and_eq_true,decide_eq_true_eq,decide_eq_true_eq]
 constructor
 ·rintro ⟨h1,h2,h3,h4⟩
  rwa [show ((x.toNat : Nat) : Int) = x by omega] at h4
 ·intro h
  have hr := ids_rng hi h
  refine ⟨hr.1,hr.2,by omega, ?_⟩
  rwa [show ((x.toNat : Nat) : Int) = x by omega]
theorem toL_vS (hi : GInv V E) : toL (vS V) = V.map (·.1) := sorted_ext (toL_sorted _) (sv_map.1 hi.sv) fun _ => mem_vS hi
def cliqueS (E : List ((Int × Int) × Thing)) (r : Nat) : Bool := (toL r).all fun v => subS (withoutS r v) (nearS v E)
def simpleS (E : List ((Int × Int) × Thing)) (id : Int) (left : Nat) : Bool := cliqueS E (nearS id E &&& left)
def outR (l : List Int) (v : Int) : List Int := l.filter fun x => decide (x ≠ v)
theorem mem_out {l : List Int} {v x : Int} : x ∈ outR l v ↔ x ∈ l ∧ x ≠ v := by unfold outR; rw [List.mem_filter,decide_eq_true_eq]
theorem out_lt {l : List Int} {v : Int} (h : v ∈ l) : (outR l v).length < l.length := by
 unfold outR
 refine Nat.lt_of_le_of_ne (List.length_filter_le _ _) fun e => ?_
 have := (List.length_filter_eq_length_iff.1 e) v h
 simp at this
theorem perm_out1 {l : List Int} (hn : l.Nodup) {v : Int} (h : v ∈ l) : (v :: outR l v).Perm l := by
 refine (List.perm_ext_iff_of_nodup (List.nodup_cons.2 ⟨fun h => (mem_out.1 h).2 rfl,hn.filter _⟩) hn).2 fun x => ?_
 rw [List.mem_cons,mem_out]
 constructor
 ·rintro (rfl | h1)
  ·exact h
  ·exact h1.1
 ·intro h1
  by_cases e : x = v
  ·exact .inl e
  ·exact .inr ⟨h1,e⟩
end
section
open Classical
variable {V : List (Int × Thing)} {E : List ((Int × Int) × Thing)}
end
def poS (E : List ((Int × Int) × Thing)) : Nat → Nat → Option (List Int)
 | 0,_ => none
 | f + 1,N => if anyB N = true then ((toL N).find? fun v => simpleS E v N).bind fun v => (poS E f (withoutS N v)).map (v :: ·) else some []
theorem anyB_iff {N : Nat} : anyB N = true ↔ toL N ≠ [] := by
 unfold anyB
 cases toL N <;> simp
end Go.Proofs.YtmokciekndllpaaGreatDoor
namespace Go.Proofs.YtmokciekndllpaaGreatDoor
open Go
theorem toL_len_le (N : Nat) : (toL N).length ≤ 1024 := by
 have := len_le_sub (toL N) ((List.range 1024).map fun (i : Nat) => (i : Int)) (toL_nodup N) (fun x hx => by
  obtain ⟨h1,h2,_⟩ := mem_toL'.1 hx
  exact List.mem_map.2 ⟨x.toNat,List.mem_range.2 (by omega),by omega⟩)
 simpa using this
theorem mem_or {N M : Nat} {x : Int} : x ∈ toL (N ||| M) ↔ x ∈ toL N ∨ x ∈ toL M := by
 rw [mem_toL',mem_toL',mem_toL',Nat.testBit_or,Bool.or_eq_true]
 constructor
 ·rintro ⟨h1,h2,h3 | h3⟩
  ·exact .inl ⟨h1,h2,h3⟩
  ·exact .inr ⟨h1,h2,h3⟩
 ·rintro (⟨h1,h2,h3⟩ | ⟨h1,h2,h3⟩)
  ·exact ⟨h1,h2, .inl h3⟩
  ·exact ⟨h1,h2, .inr h3⟩
theorem mem_minus {N M : Nat} {x : Int} : x ∈ toL (minusS N M) ↔ x ∈ toL N ∧ x ∉ toL M := by
 rw [mem_toL',mem_toL',mem_toL',minusS_bit,Bool.and_eq_true,Bool.not_eq_true']
 constructor
 ·rintro ⟨h1,h2,h3,h4⟩; exact ⟨⟨h1,h2,h3⟩,fun h => by rw [h.2.2] at h4; cases h4⟩
 ·rintro ⟨⟨h1,h2,h3⟩,h4⟩; exact ⟨h1,h2,h3,by
   cases hb : M.testBit x.toNat
   ·rfl
   ·exact absurd ⟨h1,h2,hb⟩ h4⟩
def peoS (V : List (Int × Thing)) (E : List ((Int × Int) × Thing)) : Option (List Int) := poS E 1025 (vS V)
end Go.Proofs.YtmokciekndllpaaGreatDoor
namespace Go.Proofs.YtmokciekndllpaaGreatDoor
open Go Go.RowKit
attribute [local go_sem] qUpon lUpon
set_option maxRecDepth 100000 in
set_option maxHeartbeats 4000000 in
theorem of_any (A : Option Addr) (L : List Int) (cL : Nat) (w : World) (hL : SlAt encI 1 w A L) (hl : L.length ≤ 4611686018427387904) :
  Calls Tryz.prog 50 #[.slice A L.length cL] w fun e w' => e = .returned (.agg (setC (fromS L))) ∧ Ext w w' := by
 have hL' := hide hL
 have hB2 := hide ((Blk.new w 25 (setC 0)).ext (ext_self1 _ (.cells (setC 0) 25)))
 have hB3 := hide (Blk.new (w.alloc (.cells (setC 0) 25)) 25 (setC 0))
 have hx1 := hide (ext_self2 w (.cells (setC 0) 25) (.cells (setC 0) 25))
 simp only [World.size_alloc] at hB3
 clear hL
 go_enter Tryz.func50,Tryz.ntmps50
 go_wp2_with fail
 have hz : setC 0 = #[.int .u64 0, .int .u64 0, .int .u64 0, .int .u64 0, .int .u64 0, .int .u64 0, .int .u64 0, .int .u64 0, .int .u64 0, .int .u64 0, .int .u64 0, .int .u64 0, .int .u64 0, .int .u64 0, .int .u64 0, .int .u64 0] := rfl
 rw [hz] at hx1 hB2 hB3
 generalize (w.alloc (.cells #[.int .u64 0, .int .u64 0, .int .u64 0, .int .u64 0, .int .u64 0, .int .u64 0, .int .u64 0, .int .u64 0, .int .u64 0, .int .u64 0, .int .u64 0, .int .u64 0, .int .u64 0, .int .u64 0, .int .u64 0, .int .u64 0] 25)).alloc (.cells #[.int .u64 0, .int .u64 0, .int .u64 0, .int .u64 0, .int .u64 0, .int .u64 0, .int .u64 0, .int .u64 0, .int .u64 0, .int .u64 0, .int .u64 0, .int .u64 0, .int .u64 0, .int .u64 0, .int .u64 0, .int .u64 0] 25) = W1 at *
 rw [← hz] at hB2 hB3
 clear hz
 go_loopw [8] (fun i wr => ∃ k : Nat,k ≤ L.length ∧ i = .int .i64 k ∧ Blk wr w.heap.size 25 (setC 0) ∧ Blk wr (w.heap.size + 1) 25 (setC (fromS (L.take k))) ∧ Ext w wr) (fun i _ => L.length - (intOf i).toNat)
 case atStart => exact ⟨0,Nat.zero_le _,rfl,unhide hB2,by rw [List.take_zero]; exact unhide hB3,unhide hx1⟩
 case round =>
  obtain ⟨k,hk,rfl,hB,hC,hx⟩ := hrel
  have hB' := hide hB
  have hC' := hide hC
  have hx' := hide hx
  clear hB2 hB3 hx1
  by_cases hlt : k < L.length
  ·have hLr := (unhide hL').ext hx
   obtain ⟨b,off,rfl,c0⟩ := atI hLr hlt
   have hst := hide (fromS_next L k hlt)
   generalize L[k] = x at c0 hst
   have hself := Ext.refl wr
   clear hB hC hx hLr
   try dsimp only
   repeat (first | (with_reducible refine wp_reg (id := 5) ?_) | go_values | go_step | go_guarded | go_upon | go_in | go_back | fail)
   refine wpO_val rfl (load_SetR (N := fromS (L.take k)) rfl rfl (unhide hC').whole) ?_
   refine wpO_want rfl ?_
   go_simp
   refine wpO_want rfl ?_
   go_simp
   refine (with_any (fromS (L.take k)) x wr).mono ?_
   rintro e W7 ⟨rfl,hx7⟩
   refine ⟨_,rfl, ?_⟩
   have hC7 := (unhide hC').ext hx7
   refine wpO_skip rfl (store_SetR (N := withS (fromS (L.take k)) x) rfl rfl rfl hC7) (wpO_done ?_)
   rw [← unhide hst]
   have hC8 := hide (hC7.row (setC (fromS (L.take (k + 1)))))
   have hB8 := hide (((unhide hB').ext hx7).keep (Keep.setRow W7 (w.heap.size + 1) (setC (fromS (L.take (k + 1))))) (by simp))
   have hx8 := hide (((unhide hx').trans hx7).of_new (Keep.setRow W7 (w.heap.size + 1) (setC (fromS (L.take (k + 1))))) (by simp))
   clear hB' hC' hx' hx7 hC7 c0 hself
   generalize W7.setRow (w.heap.size + 1) (setC (fromS (L.take (k + 1)))) = W8 at *
   go_wp2_with fail
   go_roundw
   case rel => exact ⟨k + 1,by omega,by go_num,unhide hB8,unhide hC8,unhide hx8⟩
   case measure => simp [intOf]; omega
  ·have hke : k = L.length := by omega
   subst hke
   rw [List.take_length] at hC'
   clear hB hC hx
   try dsimp only
   repeat (first | (with_reducible refine wp_reg (id := 7) ?_) | go_values | go_step | go_guarded | go_upon | go_in | go_back | fail)
   refine wpO_val rfl (load_SetR (N := fromS L) rfl rfl (unhide hC').whole) ?_
   refine wpO_skip rfl (store_SetR (N := fromS L) rfl rfl rfl (unhide hB')) (wpO_done ?_)
   go_wp2_with fail
   refine bodyPost_ret (ret_cell1 rfl rfl (load_Set _ w.heap.size (fromS L) ((unhide hB').row _))) rfl ?_
   exact ⟨rfl,(unhide hx').of_new (Keep.setRow wr w.heap.size _) (by simp)⟩
end Go.Proofs.YtmokciekndllpaaGreatDoor
namespace Go.Proofs.YtmokciekndllpaaGreatDoor
open Go Go.RowKit
theorem vertices_rel (g bv be : Nat) (V : List (Int × Thing)) (E : List ((Int × Int) × Thing)) (w : World) (hg : IsG w g bv be V E) :
  Calls Tryz.prog 95 #[.pointer (some ⟨g,0,none⟩)] w fun e w' => ∃ A c,e = .returned (.slice A V.length c) ∧ w'.ownsRow w.heap.size 93 3 (.slice A V.length c) V.length (V.flatMap encV) ∧ Ext w w' := by
 have n1 := hg.nV
 obtain ⟨V',E',h1,hV,hE,hi⟩ := hg
 refine (vertices_any g bv be V' E' V w h1 hV hi.sv (by rw [← hV.length_eq]; exact n1)).mono fun e w' ⟨v,he,ho,hx⟩ => ?_
 obtain ⟨A,c,rfl⟩ := own_slice ho
 exact ⟨A,c,he,ho,hx⟩
theorem edges_rel (g bv be : Nat) (V : List (Int × Thing)) (E : List ((Int × Int) × Thing)) (w : World) (hg : IsG w g bv be V E) :
  Calls Tryz.prog 96 #[.pointer (some ⟨g,0,none⟩)] w fun e w' => ∃ A c,e = .returned (.slice A E.length c) ∧ w'.ownsRow w.heap.size 61 4 (.slice A E.length c) E.length (E.flatMap encE) ∧ Ext w w' := by
 have n1 := hg.nE
 obtain ⟨V',E',h1,hV,hE,hi⟩ := hg
 refine (edges_any g bv be V' E' E w h1 hE hi.se (by rw [← hE.length_eq]; exact n1)).mono fun e w' ⟨v,he,ho,hx⟩ => ?_
 obtain ⟨A,c,rfl⟩ := own_slice ho
 exact ⟨A,c,he,ho,hx⟩
end Go.Proofs.YtmokciekndllpaaGreatDoor
namespace Go.Proofs.YtmokciekndllpaaGreatDoor
open Go Go.RowKit
theorem near_rel (g bv be : Nat) (V : List (Int × Thing)) (E : List ((Int × Int) × Thing)) (id : Int) (w : World) (hg : IsG w g bv be V E) : Calls Tryz.prog 55 #[.pointer (some ⟨g,0,none⟩), .int .i64 id] w fun e w' => e = .returned (.agg (setC (nearS id E))) ∧ Ext w w' :=
 near_gen _ id E w hg.nE fun W hW => (edges_rel g bv be V E W (hg.ext hW)).mono fun e w' h => by
  obtain ⟨A,c,he,ho,hx⟩ := h
  exact ⟨A,c,he,own_at ho (fun _ => rfl),hx⟩
theorem vset_rel (g bv be : Nat) (V : List (Int × Thing)) (E : List ((Int × Int) × Thing)) (w : World) (hg : IsG w g bv be V E) : Calls Tryz.prog 53 #[.pointer (some ⟨g,0,none⟩)] w fun e w' => e = .returned (.agg (setC (vS V))) ∧ Ext w w' :=
 vset_gen _ V w hg.nV fun W hW => (vertices_rel g bv be V E W (hg.ext hW)).mono fun e w' h => by
  obtain ⟨A,c,he,ho,hx⟩ := h
  exact ⟨A,c,he,own_at ho (fun _ => rfl),hx⟩
end Go.Proofs.YtmokciekndllpaaGreatDoor
namespace Go.Proofs.YtmokciekndllpaaGreatDoor
open Go Go.RowKit
def nrM (M : List (Int × Nat)) (u : Int) : Nat := (lookM M u).getD 0
def m0 (E : List ((Int × Int) × Thing)) (o : List Int) : List (Int × Nat) := o.foldl (fun M id => putM M id (nearS id E)) []
end Go.Proofs.YtmokciekndllpaaGreatDoor
namespace Go.Proofs.YtmokciekndllpaaGreatDoor
open Go Go.RowKit
structure Ord (V : List (Int × Thing)) (L : List Int) : Prop where
 nodup : L.Nodup
 mem : ∀ x,x ∈ L ↔ x ∈ V.map (·.1)
def Adj0 (E : List ((Int × Int) × Thing)) (u v : Int) : Prop := ∃ e ∈ E,e.1 = (min u v,max u v)
def Adj (E : List ((Int × Int) × Thing)) (L : List Int) : Nat → Int → Int → Prop
 | 0,u,v => Adj0 E u v
 | k + 1,u,v => Adj E L k u v ∨ (u ≠ v ∧ u ∈ L.drop (k + 1) ∧ v ∈ L.drop (k + 1) ∧ Adj E L k (L[k]?.getD 0) u ∧ Adj E L k (L[k]?.getD 0) v)
section
variable {V : List (Int × Thing)} {E : List ((Int × Int) × Thing)} {L : List Int}
theorem Adj.symm : ∀ {k : Nat} {u v : Int},Adj E L k u v → Adj E L k v u
 | 0,u,v,⟨e,he,h⟩ => ⟨e,he,by rw [h]; simp only [Prod.mk.injEq]; omega⟩
 | k + 1,u,v,h => h.imp (Adj.symm) fun ⟨h1,h2,h3,h4,h5⟩ => ⟨h1.symm,h3,h2,h5,h4⟩
theorem Adj.ne (hi : GInv V E) : ∀ {k : Nat} {u v : Int},Adj E L k u v → u ≠ v
 | 0,u,v,⟨e,he,h⟩ => by
  have := hi.lo e he
  rw [h] at this
  simp at this
  omega
 | k + 1,u,v,h => by
  rcases h with h | h
  ·exact Adj.ne hi h
  ·exact h.1
theorem Adj.mem (hi : GInv V E) (ho : Ord V L) : ∀ {k : Nat} {u v : Int},Adj E L k u v → u ∈ L ∧ v ∈ L
 | 0,u,v,⟨e,he,h⟩ => by
  obtain ⟨⟨t1,h1⟩,t2,h2⟩ := hi.ends e he
  rw [h] at h1 h2
  have h3 := (ho.mem _).2 (List.mem_map_of_mem (f := (·.1)) h1)
  have h4 := (ho.mem _).2 (List.mem_map_of_mem (f := (·.1)) h2)
  simp only at h3 h4
  rcases Int.le_total u v with h5 | h5
  ·rw [show min u v = u by omega] at h3
   rw [show max u v = v by omega] at h4
   exact ⟨h3,h4⟩
  ·rw [show min u v = v by omega] at h3
   rw [show max u v = u by omega] at h4
   exact ⟨h4,h3⟩
 | k + 1,u,v,h => by
  rcases h with h | ⟨_,h1,h2,_⟩
  ·exact Adj.mem hi ho h
  ·exact ⟨List.mem_of_mem_drop h1,List.mem_of_mem_drop h2⟩
theorem Adj.mono {k m : Nat} {u v : Int} (h : Adj E L k u v) (hkm : k ≤ m) : Adj E L m u v := by
 induction m with
 | zero => rw [Nat.le_zero.1 hkm] at h; exact h
 | succ m ih =>
  by_cases e : k = m + 1
  ·rw [← e]; exact h
  ·exact .inl (ih (by omega))
theorem Adj.back (hn : L.Nodup) {k m : Nat} {v : Int} (hkm : k ≤ m) (hk : k < L.length) (h : Adj E L m L[k] v) : Adj E L k L[k] v := by
 induction m with
 | zero =>
  obtain rfl : k = 0 := Nat.le_zero.1 hkm
  exact h
 | succ m ih =>
  by_cases e : k = m + 1
  ·subst e; exact h
  ·rcases h with h | ⟨_,h1,_⟩
   ·exact ih (by omega) h
   ·exfalso
    obtain ⟨i,hi,he⟩ := List.getElem_of_mem h1
    rw [List.getElem_drop] at he
    have := (List.getElem_inj hn).1 he
    omega
theorem drop_get {k : Nat} (hk : k < L.length) : L.drop k = L[k] :: L.drop (k + 1) := List.drop_eq_getElem_cons hk
theorem not_drop (hn : L.Nodup) {k : Nat} (hk : k < L.length) : L[k] ∉ L.drop (k + 1) := by
 have h := (List.drop_sublist k L).nodup hn
 rw [drop_get hk] at h
 exact (List.nodup_cons.1 h).1
theorem mem_drop_iff (hn : L.Nodup) {k : Nat} (hk : k < L.length) {x : Int} : x ∈ L.drop (k + 1) ↔ x ∈ L.drop k ∧ x ≠ L[k] := by
 rw [drop_get hk,List.mem_cons]
 constructor
 ·intro h
  exact ⟨.inr h,fun e => not_drop hn hk (by rw [← e]; exact h)⟩
 ·rintro ⟨h | h,h2⟩
  ·exact absurd h h2
  ·exact h
theorem lookM_map (u x : Int) (v : Nat) : ∀ M : List (Int × Nat),lookM (M.map fun p => if p.1 = u then (u,v) else p) x = if x = u ∧ (lookM M u).isSome = true then some v else lookM M x
 | [] => by simp [lookM]
 | p :: r => by
  have ih := lookM_map u x v r
  unfold lookM at ih ⊢
  rw [List.map_cons,List.find?_cons,List.find?_cons,List.find?_cons]
  by_cases h1 : p.1 = u
  ·by_cases h2 : x = u
   ·subst h2; simp [h1]
   ·have h3 : ¬ u = x := fun e => h2 e.symm
    rw [if_pos h1,decide_eq_false h3,decide_eq_false (show ¬ p.1 = x from fun e => h3 (h1.symm.trans e)),ih,if_neg (fun h => h2 h.1),if_neg (fun h => h2 h.1)]
  ·rw [if_neg h1,decide_eq_false h1]
   by_cases h2 : p.1 = x
   ·have h3 : ¬ x = u := fun e => h1 (h2.trans e)
    rw [decide_eq_true h2,if_neg (fun h => h3 h.1)]
   ·rw [decide_eq_false h2,ih]
theorem lookM_putM (M : List (Int × Nat)) (u x : Int) (v : Nat) : lookM (putM M u v) x = if x = u then some v else lookM M x := by
 unfold putM
 split
 ·rename_i h
  rw [lookM_map]
  by_cases h2 : x = u
  ·rw [if_pos ⟨h2,h⟩,if_pos h2]
  ·rw [if_neg (fun h => h2 h.1),if_neg h2]
 ·rename_i h
  have h0 : lookM M u = none := by simpa using h
  unfold lookM at h0 ⊢
  rw [List.find?_append]
  by_cases h2 : x = u
  ·subst h2
   have h1 : M.find? (fun p => decide (p.1 = x)) = none := by simpa using h0
   rw [h1,if_pos rfl]
   simp
  ·rw [if_neg h2]
   have h3 : ¬ u = x := fun e => h2 e.symm
   simp [h3]
theorem nr_put (M : List (Int × Nat)) (u x : Int) (v : Nat) : nrM (putM M u v) x = if x = u then v else nrM M x := by
 unfold nrM
 rw [lookM_putM]
 split <;> rfl
theorem m0_nr : ∀ {x : Int},x ∈ L → nrM (m0 E L) x = nearS x E := by
 have key : ∀ (l : List Int) (M : List (Int × Nat)) (x : Int),nrM (l.foldl (fun M id => putM M id (nearS id E)) M) x = if x ∈ l then nearS x E else nrM M x := by
  intro l
  induction l with
  | nil => intro M x; simp
  | cons a r ih =>
   intro M x
   rw [List.foldl_cons,ih,nr_put]
   by_cases h1 : x ∈ r
   ·rw [if_pos h1,if_pos (by simp [h1])]
   ·by_cases h2 : x = a
    ·subst h2; rw [if_neg h1,if_pos rfl,if_pos (by simp)]
    ·rw [if_neg h1,if_neg h2,if_neg (by simp [h1,h2])]
 intro x hx
 unfold m0
 rw [key,if_pos hx]
end
end Go.Proofs.YtmokciekndllpaaGreatDoor
namespace Go.Proofs.YtmokciekndllpaaGreatDoor
inductive Rch (A : Int → Int → Prop) (S : Int → Prop) : Int → Int → Prop
 | edge {u v : Int} (h : A u v) : Rch A S u v
 | step {u s v : Int} (h : A u s) (hs : S s) (t : Rch A S s v) : Rch A S u v
section
variable {A B : Int → Int → Prop} {S T : Int → Prop}
theorem Rch.trans {u s v : Int} (h : Rch A S u s) (hs : S s) (t : Rch A S s v) : Rch A S u v := by
 induction h with
 | edge h => exact .step h hs t
 | step h hs' _ ih => exact .step h hs' (ih hs t)
theorem Rch.lift (hA : ∀ u v,A u v → Rch B T u v) (hS : ∀ x,S x → T x) {u v : Int} (h : Rch A S u v) : Rch B T u v := by
 induction h with
 | edge h => exact hA _ _ h
 | step h hs _ ih => exact (hA _ _ h).trans (hS _ hs) ih
theorem Rch.split {c u v : Int} (h : Rch A (fun x => S x ∨ x = c) u v) : Rch A S u v ∨ (Rch A S u c ∧ Rch A S c v) := by
 induction h with
 | edge h => exact .inl (.edge h)
 | step h hs _ ih =>
  rcases hs with hs | rfl
  ·rcases ih with ih | ⟨h1,h2⟩
   ·exact .inl (.step h hs ih)
   ·exact .inr ⟨.step h hs h1,h2⟩
  ·rcases ih with ih | ⟨_,h2⟩
   ·exact .inr ⟨.edge h,ih⟩
   ·exact .inr ⟨.edge h,h2⟩
end
section
variable {A B : Int → Int → Prop} {o : List Int} {w : Nat}
end
section
variable {A : Int → Int → Prop} {o : List Int} {w : Nat}
end
end Go.Proofs.YtmokciekndllpaaGreatDoor
namespace Go.Proofs.YtmokciekndllpaaGreatDoor
open Go
section
variable {m : List (Int × Nat)} {L : List Int} {near : Int → Int → Bool}
def turnM (f : Nat → Int → Nat) (l : List Int) (m : List (Int × Nat)) : List (Int × Nat) := l.foldl (fun M o => putM M o (f (nrM M o) o)) m
theorem turn_nr (f : Nat → Int → Nat) : ∀ (l : List Int) (m : List (Int × Nat)),l.Nodup → ∀ u,nrM (turnM f l m) u = if u ∈ l then f (nrM m u) u else nrM m u
 | [],m,_,u => by simp [turnM]
 | o :: l,m,hn,u => by
  obtain ⟨h1,h2⟩ := List.nodup_cons.1 hn
  have ih := turn_nr f l (putM m o (f (nrM m o) o)) h2 u
  have e : turnM f (o :: l) m = turnM f l (putM m o (f (nrM m o) o)) := rfl
  rw [e,ih,nr_put]
  by_cases hu : u = o
  ·subst hu
   rw [if_neg h1,if_pos rfl,if_pos (by simp)]
  ·rw [if_neg hu]
   by_cases hl : u ∈ l
   ·rw [if_pos hl,if_pos (by simp [hl])]
   ·rw [if_neg hl,if_neg (by simp [hl,hu])]
end
section
variable {V : List (Int × Thing)} {E : List ((Int × Int) × Thing)}
end
end Go.Proofs.YtmokciekndllpaaGreatDoor
