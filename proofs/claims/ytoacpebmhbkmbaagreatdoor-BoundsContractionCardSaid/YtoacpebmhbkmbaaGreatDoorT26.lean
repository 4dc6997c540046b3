/- Parts of a proof, laid together. Each part says its own conditions. -/
import Derived.Test.YtoacpebmhbkmbaaGreatDoorT21
import Derived.Test.YtoacpebmhbkmbaaGreatDoorT17
import Derived.Test.YtoacpebmhbkmbaaGreatDoorT15
import Derived.Test.YtoacpebmhbkmbaaGreatDoorT24
import Derived.Test.YtoacpebmhbkmbaaGreatDoorT25
import Derived.Test.YtoacpebmhbkmbaaGreatDoorT22
import Derived.Below
import Derived.Test.YtoacpebmhbkmbaaGreatDoorT23
namespace Go.Proofs.YtoacpebmhbkmbaaGreatDoor
open Go Go.RowKit
attribute [local go_sem] qUpon lUpon
set_option maxRecDepth 100000 in
set_option maxHeartbeats 4000000 in
theorem of_any (A : Option Addr) (L : List Int) (cL : Nat) (w : World) (hL : SlAt encI 1 w A L) (hl : L.length ≤ 4611686018427387904) :
  Calls Tryz.prog 39 #[.slice A L.length cL] w fun e w' => e = .returned (.agg (setC (fromS L))) ∧ Ext w w' := by
 have hL' := hide hL
 have hB2 := hide ((Blk.new w 76 (setC 0)).ext (ext_self1 _ (.cells (setC 0) 76)))
 have hB3 := hide (Blk.new (w.alloc (.cells (setC 0) 76)) 76 (setC 0))
 have hx1 := hide (ext_self2 w (.cells (setC 0) 76) (.cells (setC 0) 76))
 simp only [World.size_alloc] at hB3
 clear hL
 go_enter Tryz.func39,Tryz.ntmps39
 go_wp2_with fail
 have hz : setC 0 = #[.int .u64 0, .int .u64 0, .int .u64 0, .int .u64 0, .int .u64 0, .int .u64 0, .int .u64 0, .int .u64 0, .int .u64 0, .int .u64 0, .int .u64 0, .int .u64 0, .int .u64 0, .int .u64 0, .int .u64 0, .int .u64 0] := rfl
 rw [hz] at hx1 hB2 hB3
 generalize (w.alloc (.cells #[.int .u64 0, .int .u64 0, .int .u64 0, .int .u64 0, .int .u64 0, .int .u64 0, .int .u64 0, .int .u64 0, .int .u64 0, .int .u64 0, .int .u64 0, .int .u64 0, .int .u64 0, .int .u64 0, .int .u64 0, .int .u64 0] 76)).alloc (.cells #[.int .u64 0, .int .u64 0, .int .u64 0, .int .u64 0, .int .u64 0, .int .u64 0, .int .u64 0, .int .u64 0, .int .u64 0, .int .u64 0, .int .u64 0, .int .u64 0, .int .u64 0, .int .u64 0, .int .u64 0, .int .u64 0] 76) = W1 at *
 rw [← hz] at hB2 hB3
 clear hz
 go_loopw [8] (fun i wr => ∃ k : Nat,k ≤ L.length ∧ i = .int .i64 k ∧ Blk wr w.heap.size 76 (setC 0) ∧ Blk wr (w.heap.size + 1) 76 (setC (fromS (L.take k))) ∧ Ext w wr) (fun i _ => L.length - (intOf i).toNat)
 case atStart => exact ⟨0,Nat.zero_le _,rfl,unhide hB2,by rw [List.take_zero]; exact unhide hB3,unhide hx1⟩
 case round =>
  obtain ⟨k,hk,rfl,hB,hC,hx⟩ := hrel
  have hB' := hide hB
  have hC' := hide hC
  have hx' := hide hx
  clear hB2 hB3 hx1
  by_cases hlt : k < L.length
  ·have hLr := (unhide hL').ext hx
   obtain ⟨b,off,rfl,c0⟩ := atI hLr hlt
   have hst := hide (fromS_next L k hlt)
   generalize L[k] = x at c0 hst
   have hself := Ext.refl wr
   clear hB hC hx hLr
   try dsimp only
   repeat (first | (with_reducible refine wp_reg (id := 5) ?_) | go_values | go_step | go_guarded | go_upon | go_in | go_back | fail)
   refine wpO_val rfl (load_SetR (N := fromS (L.take k)) rfl rfl (unhide hC').whole) ?_
   refine wpO_want rfl ?_
   go_simp
   refine wpO_want rfl ?_
   go_simp
   refine (with_any (fromS (L.take k)) x wr).mono ?_
   rintro e W7 ⟨rfl,hx7⟩
   refine ⟨_,rfl, ?_⟩
   have hC7 := (unhide hC').ext hx7
   refine wpO_skip rfl (store_SetR (N := withS (fromS (L.take k)) x) rfl rfl rfl hC7) (wpO_done ?_)
   rw [← unhide hst]
   have hC8 := hide (hC7.row (setC (fromS (L.take (k + 1)))))
   have hB8 := hide (((unhide hB').ext hx7).keep (Keep.setRow W7 (w.heap.size + 1) (setC (fromS (L.take (k + 1))))) (by simp))
   have hx8 := hide (((unhide hx').trans hx7).of_new (Keep.setRow W7 (w.heap.size + 1) (setC (fromS (L.take (k + 1))))) (by simp))
   clear hB' hC' hx' hx7 hC7 c0 hself
   generalize W7.setRow (w.heap.size + 1) (setC (fromS (L.take (k + 1)))) = W8 at *
   go_wp2_with fail
   go_roundw
   case rel => exact ⟨k + 1,by omega,by go_num,unhide hB8,unhide hC8,unhide hx8⟩
   case measure => simp [intOf]; omega
  ·have hke : k = L.length := by omega
   subst hke
   rw [List.take_length] at hC'
   clear hB hC hx
   try dsimp only
   repeat (first | (with_reducible refine wp_reg (id := 7) ?_) | go_values | go_step | go_guarded | go_upon | go_in | go_back | fail)
   refine wpO_val rfl (load_SetR (N := fromS L) rfl rfl (unhide hC').whole) ?_
   refine wpO_skip rfl (store_SetR (N := fromS L) rfl rfl rfl (unhide hB')) (wpO_done ?_)
   go_wp2_with fail
   refine bodyPost_ret (ret_cell1 rfl rfl (load_Set _ w.heap.size (fromS L) ((unhide hB').row _))) rfl ?_
   exact ⟨rfl,(unhide hx').of_new (Keep.setRow wr w.heap.size _) (by simp)⟩
end Go.Proofs.YtoacpebmhbkmbaaGreatDoor
namespace Go.Proofs.YtoacpebmhbkmbaaGreatDoor
open Go Go.RowKit
attribute [local go_sem] qUpon lUpon
theorem len_any (g bv be : Nat) (V : List (Int × Thing)) (E : List ((Int × Int) × Thing)) (w : World) (hg : GraphAt w g bv be V E) :
  Calls Tryz.prog 154 #[.pointer (some ⟨g,0,none⟩)] w fun e w' => e = .returned (.tuple #[.int .i64 V.length, .int .i64 E.length]) ∧ Ext w w' := by
 have d0 := hg.ptr0
 have d1 := hg.ptr1
 have l0 := fun (W : World) (hW : Ext w W) => (hg.vs.ext hW).len Tryz.underlying87
 have l1 := fun (W : World) (hW : Ext w W) => (hg.es.ext hW).len Tryz.underlying88
 clear hg
 go_enter Tryz.func154,Tryz.ntmps154
 go_wp2
 refine wp_region_still (P := Tryz.prog) [0,1,2,3,4,5,6,7,8,9,10,11] [] 0 #[true,true,true,true,true,true,true,true,true,true,true,true] (by kernel_rfl) (by kernel_rfl) rfl (by rfl) ?_
 iterate 12
  refine ql_want (v := ?_) rfl (by rfl) (fun W hW => ?_) ?_
  rotate_left
  ·go_simp
   first | done | rfl | (fail)
  go_frame
 refine wpQL_nil (fun w2 hx2 => ?_)
 refine wpX_done (by kernel_rfl) ?_
 try go_frame
 go_wp2
 go_ret2
 exact ⟨rfl,hx2⟩
end Go.Proofs.YtoacpebmhbkmbaaGreatDoor
namespace Go.Proofs.YtoacpebmhbkmbaaGreatDoor
open Go Go.RowKit
theorem vertices_rel (g bv be : Nat) (V : List (Int × Thing)) (E : List ((Int × Int) × Thing)) (w : World) (hg : IsG w g bv be V E) :
  Calls Tryz.prog 30 #[.pointer (some ⟨g,0,none⟩)] w fun e w' => ∃ A c,e = .returned (.slice A V.length c) ∧ w'.ownsRow w.heap.size 64 3 (.slice A V.length c) V.length (V.flatMap encV) ∧ Ext w w' := by
 have n1 := hg.nV
 obtain ⟨V',E',h1,hV,hE,hi⟩ := hg
 refine (vertices_any g bv be V' E' V w h1 hV hi.sv (by rw [← hV.length_eq]; exact n1)).mono fun e w' ⟨v,he,ho,hx⟩ => ?_
 obtain ⟨A,c,rfl⟩ := own_slice ho
 exact ⟨A,c,he,ho,hx⟩
theorem edges_rel (g bv be : Nat) (V : List (Int × Thing)) (E : List ((Int × Int) × Thing)) (w : World) (hg : IsG w g bv be V E) :
  Calls Tryz.prog 80 #[.pointer (some ⟨g,0,none⟩)] w fun e w' => ∃ A c,e = .returned (.slice A E.length c) ∧ w'.ownsRow w.heap.size 137 4 (.slice A E.length c) E.length (E.flatMap encE) ∧ Ext w w' := by
 have n1 := hg.nE
 obtain ⟨V',E',h1,hV,hE,hi⟩ := hg
 refine (edges_any g bv be V' E' E w h1 hE hi.se (by rw [← hE.length_eq]; exact n1)).mono fun e w' ⟨v,he,ho,hx⟩ => ?_
 obtain ⟨A,c,rfl⟩ := own_slice ho
 exact ⟨A,c,he,ho,hx⟩
end Go.Proofs.YtoacpebmhbkmbaaGreatDoor
namespace Go.Proofs.YtoacpebmhbkmbaaGreatDoor
open Go Go.RowKit
theorem near_rel (g bv be : Nat) (V : List (Int × Thing)) (E : List ((Int × Int) × Thing)) (id : Int) (w : World) (hg : IsG w g bv be V E) : Calls Tryz.prog 44 #[.pointer (some ⟨g,0,none⟩), .int .i64 id] w fun e w' => e = .returned (.agg (setC (nearS id E))) ∧ Ext w w' :=
 near_gen _ id E w hg.nE fun W hW => (edges_rel g bv be V E W (hg.ext hW)).mono fun e w' h => by
  obtain ⟨A,c,he,ho,hx⟩ := h
  exact ⟨A,c,he,own_at ho (fun _ => rfl),hx⟩
theorem vset_rel (g bv be : Nat) (V : List (Int × Thing)) (E : List ((Int × Int) × Thing)) (w : World) (hg : IsG w g bv be V E) : Calls Tryz.prog 40 #[.pointer (some ⟨g,0,none⟩)] w fun e w' => e = .returned (.agg (setC (vS V))) ∧ Ext w w' :=
 vset_gen _ V w hg.nV fun W hW => (vertices_rel g bv be V E W (hg.ext hW)).mono fun e w' h => by
  obtain ⟨A,c,he,ho,hx⟩ := h
  exact ⟨A,c,he,own_at ho (fun _ => rfl),hx⟩
end Go.Proofs.YtoacpebmhbkmbaaGreatDoor
namespace Go.Proofs.YtoacpebmhbkmbaaGreatDoor
open Go Go.RowKit
theorem len_rel (g bv be : Nat) (V : List (Int × Thing)) (E : List ((Int × Int) × Thing)) (w : World) (hg : IsG w g bv be V E) : Calls Tryz.prog 154 #[.pointer (some ⟨g,0,none⟩)] w fun e w' => e = .returned (.tuple #[.int .i64 V.length, .int .i64 E.length]) ∧ Ext w w' := by
 obtain ⟨V',E',h1,hV,hE,hi⟩ := hg
 rw [hV.length_eq,hE.length_eq]
 exact len_any g bv be V' E' w h1
end Go.Proofs.YtoacpebmhbkmbaaGreatDoor
namespace Go.Proofs.YtoacpebmhbkmbaaGreatDoor
open Go Go.RowKit
attribute [local go_sem] qUpon lUpon
def checkS (L : List Int) (V : List (Int × Thing)) : Int := if L.length = V.length ∧ eqS (fromS L) (vS V) = true then 0 else 3
set_option maxRecDepth 100000 in
set_option maxHeartbeats 4000000 in
theorem check_any (A : Option Addr) (L : List Int) (cL : Nat) (g bv be : Nat) (V : List (Int × Thing)) (E : List ((Int × Int) × Thing)) (w : World) (hL : SlAt encI 1 w A L) (hl : L.length ≤ 4611686018427387904) (hg : IsG w g bv be V E) :
  Calls Tryz.prog 125 #[.slice A L.length cL, .pointer (some ⟨g,0,none⟩)] w fun e w' => e = .returned (.int .i64 (checkS L V)) ∧ Ext w w' := by
 have hL' := hide hL
 have hg' := hide hg
 have hl' := hide hl
 have nV := hg.nV
 clear hL hg
 go_enter Tryz.func125,Tryz.ntmps125
 go_wp2_with fail
 refine (len_rel g bv be V E w (unhide hg')).mono ?_
 rintro e w1 ⟨rfl,hx1⟩
 have hx1' := hide hx1
 clear hx1
 try dsimp only
 repeat (first | (with_reducible refine wp_reg (id := 4) ?_) | go_values | go_step | go_guarded | go_upon | go_in | go_back | fail)
 iterate 5
  refine wpO_want rfl ?_
  go_simp
 by_cases hn : L.length = V.length
 ·have e1 : ((L.length : Int) != (V.length : Int)) = false := by simp [hn]
  have hck : checkS L V = if eqS (fromS L) (vS V) = true then 0 else 3 := by unfold checkS; simp [hn]
  have hck' := hide hck
  clear hck hn
  simp only [e1]
  clear e1
  refine wpO_want rfl ?_
  go_simp
  refine wpO_want rfl ?_
  go_simp
  refine (of_any A L cL w1 ((unhide hL').ext (unhide hx1')) (unhide hl')).mono ?_
  rintro e w2 ⟨rfl,hx2⟩
  refine ⟨_,rfl, ?_⟩
  refine wpO_want rfl ?_
  go_simp
  refine wpO_want rfl ?_
  go_simp
  refine (vset_rel g bv be V E w2 ((unhide hg').ext ((unhide hx1').trans hx2))).mono ?_
  rintro e w3 ⟨rfl,hx3⟩
  refine ⟨_,rfl, ?_⟩
  refine wpO_val rfl (run_neq_Set rfl rfl rfl) ?_
  go_frame
  refine wpO_want rfl ?_
  go_simp
  refine wpO_done ?_
  have hx := hide (((unhide hx1').trans hx2).trans hx3)
  clear hx2 hx3 hx1'
  generalize eqS (fromS L) (vS V) = q at *
  cases q
  ·go_wp2_with fail
   go_ret
   rw [unhide hck']
   exact ⟨rfl,unhide hx⟩
  ·go_wp2_with fail
   go_ret
   rw [unhide hck']
   exact ⟨rfl,unhide hx⟩
 ·have e1 : ((L.length : Int) != (V.length : Int)) = true := by simp; omega
  have hck : checkS L V = 3 := by unfold checkS; rw [if_neg (fun h => hn h.1)]
  have hck' := hide hck
  clear hck hn
  simp only [e1]
  clear e1
  iterate 5
   refine wpO_out (by rfl) ?_
   go_frame
  refine wpO_want rfl ?_
  go_simp
  refine wpO_done ?_
  go_wp2_with fail
  go_ret
  rw [unhide hck']
  exact ⟨rfl,unhide hx1'⟩
end Go.Proofs.YtoacpebmhbkmbaaGreatDoor
namespace Go.Proofs.YtoacpebmhbkmbaaGreatDoor
open Go Go.RowKit
def nrM (M : List (Int × Nat)) (u : Int) : Nat := (lookM M u).getD 0
def comeU (M : List (Int × Nat)) (s : Nat) (u : Int) : List (Int × Int) := (toL (minusS (minusS s (belS (u + 1))) (nrM M u))).map fun v => (u,v)
def comeS (M : List (Int × Nat)) (s : Nat) : List (Int × Int) := (toL s).flatMap (comeU M s)
def updF (s : Nat) (id : Int) (M : List (Int × Nat)) (u : Int) : List (Int × Nat) := putM M u (withoutS (withoutS (nrM M u ||| s) u) id)
def updM (M : List (Int × Nat)) (s : Nat) (id : Int) : List (Int × Nat) := (toL s).foldl (updF s id) M
def stM (M : List (Int × Nat)) (id : Int) : List (Int × Nat) := updM M (nrM M id) id
def m0 (E : List ((Int × Int) × Thing)) (o : List Int) : List (Int × Nat) := o.foldl (fun M id => putM M id (nearS id E)) []
def mAt (E : List ((Int × Int) × Thing)) (o : List Int) (k : Nat) : List (Int × Nat) := (o.take k).foldl stM (m0 E o)
def sAt (E : List ((Int × Int) × Thing)) (o : List Int) (k : Nat) : Nat := nrM (mAt E o k) (o[k]?.getD 0)
def cAt (E : List ((Int × Int) × Thing)) (o : List Int) (k : Nat) : List (Int × Int) := comeS (mAt E o k) (sAt E o k)
theorem mAt_next (E : List ((Int × Int) × Thing)) (o : List Int) (k : Nat) (h : k < o.length) : mAt E o (k + 1) = stM (mAt E o k) o[k] := by
 unfold mAt
 rw [List.take_succ_eq_append_getElem h,List.foldl_append,List.foldl_cons,List.foldl_nil]
theorem m0_next (E : List ((Int × Int) × Thing)) (o : List Int) (k : Nat) (h : k < o.length) : m0 E (o.take (k + 1)) = putM (m0 E (o.take k)) o[k] (nearS o[k] E) := by
 unfold m0
 rw [List.take_succ_eq_append_getElem h,List.foldl_append,List.foldl_cons,List.foldl_nil]
theorem sAt_eq (E : List ((Int × Int) × Thing)) (o : List Int) (k : Nat) (h : k < o.length) : sAt E o k = nrM (mAt E o k) o[k] := by
 unfold sAt
 rw [List.getElem?_eq_getElem h,Option.getD_some]
theorem toL_le (N : Nat) : (toL N).length ≤ 1024 := toK_le N 1024
theorem comeU_le (M : List (Int × Nat)) (s : Nat) (u : Int) : (comeU M s u).length ≤ 1024 := by
 unfold comeU
 rw [List.length_map]
 exact toL_le _
theorem flat_len {α β : Type} {f : α → List β} {c : Nat} (h : ∀ x,(f x).length ≤ c) : ∀ l : List α,(l.flatMap f).length ≤ l.length * c
 | [] => by simp
 | x :: r => by
  rw [List.flatMap_cons,List.length_append,List.length_cons,Nat.add_mul,Nat.one_mul]
  have := h x
  have := flat_len h r
  omega
theorem checkS_mem {L : List Int} {V : List (Int × Thing)} {E : List ((Int × Int) × Thing)} (hi : GInv V E) (h : checkS L V = 0) : ∀ x ∈ V.map (·.1),x ∈ L := by
 intro x hx
 have h2 : eqS (fromS L) (vS V) = true := by
  unfold checkS at h
  split at h
  ·rename_i h2; exact h2.2
  ·cases h
 obtain ⟨p,hp,rfl⟩ := List.mem_map.1 hx
 have hid : idB p.1 = true := hi.ids _ hp
 have h0 : 0 ≤ p.1 ∧ p.1 < 1024 := by simpa [idB] using hid
 have h3 := eqS_iff.1 h2 p.1.toNat (by omega)
 rw [vS_eq,fromS_bit,fromS_bit] at h3
 have e : ((p.1.toNat : Nat) : Int) = p.1 := by omega
 rw [e,decide_eq_true hx] at h3
 have h4 : decide (p.1.toNat < 1024) = true := by simp; omega
 rw [h4] at h3
 simpa using h3
end Go.Proofs.YtoacpebmhbkmbaaGreatDoor
namespace Go.Proofs.YtoacpebmhbkmbaaGreatDoor
open Go Go.RowKit
theorem nodup_of_sub : ∀ (l m : List Int),l.Nodup → (∀ x ∈ l,x ∈ m) → m.length ≤ l.length → m.Nodup ∧ ∀ x ∈ m,x ∈ l
 | [],m,_,_,h => by
  have : m = [] := List.eq_nil_of_length_eq_zero (by simpa using h)
  subst this
  exact ⟨.nil,by simp⟩
 | a :: r,m,hn,hs,hl => by
  have ha : a ∈ m := hs a (by simp)
  have hp := List.perm_cons_erase ha
  obtain ⟨hna,hnr⟩ := List.nodup_cons.1 hn
  have hlen := hp.length_eq
  simp only [List.length_cons] at hlen hl
  obtain ⟨h1,h2⟩ := nodup_of_sub r (m.erase a) hnr (fun x hx => (List.mem_erase_of_ne (fun e => hna (by rw [← e]; exact hx))).2 (hs x (by simp [hx]))) (by omega)
  refine ⟨hp.nodup_iff.2 (List.nodup_cons.2 ⟨fun h => hna (h2 a h),h1⟩),fun x hx => ?_⟩
  rcases List.mem_cons.1 (hp.mem_iff.1 hx) with rfl | h
  ·simp
  ·exact List.mem_cons_of_mem _ (h2 x h)
structure Ord (V : List (Int × Thing)) (L : List Int) : Prop where
 nodup : L.Nodup
 mem : ∀ x,x ∈ L ↔ x ∈ V.map (·.1)
theorem check_ord {L : List Int} {V : List (Int × Thing)} {E : List ((Int × Int) × Thing)} (hi : GInv V E) (h : checkS L V = 0) : Ord V L := by
 have hm := checkS_mem hi h
 have hl : L.length = V.length := by
  unfold checkS at h
  split at h
  ·rename_i h2; exact h2.1
  ·cases h
 obtain ⟨h1,h2⟩ := nodup_of_sub (V.map (·.1)) L (sv_nodup hi.sv) hm (by simp [hl])
 exact ⟨h1,fun x => ⟨h2 x,hm x⟩⟩
theorem ord_check {L : List Int} {V : List (Int × Thing)} (h : Ord V L) (hl : L.length = V.length) : checkS L V = 0 := by
 unfold checkS
 have he : eqS (fromS L) (vS V) = true := by
  rw [eqS_iff]
  intro k hk
  rw [vS_eq,fromS_bit,fromS_bit]
  congr 1
  rw [decide_eq_decide]
  exact h.mem _
 rw [if_pos ⟨hl,he⟩]
theorem Ord.rng {V : List (Int × Thing)} {E : List ((Int × Int) × Thing)} {L : List Int} (h : Ord V L) (hi : GInv V E) {x : Int} (hx : x ∈ L) : 0 ≤ x ∧ x < 1024 := by
 obtain ⟨p,hp,rfl⟩ := List.mem_map.1 ((h.mem x).1 hx)
 have hid := hi.ids p hp
 simpa [idB] using hid
def Adj0 (E : List ((Int × Int) × Thing)) (u v : Int) : Prop := ∃ e ∈ E,e.1 = (min u v,max u v)
section
variable {V : List (Int × Thing)} {E : List ((Int × Int) × Thing)} {L : List Int}
theorem lookM_map (u x : Int) (v : Nat) : ∀ M : List (Int × Nat),lookM (M.map fun p => if p.1 = u then (u,v) else p) x = if x = u ∧ (lookM M u).isSome = true then some v else lookM M x
 | [] => by simp [lookM]
 | p :: r => by
  have ih := lookM_map u x v r
  unfold lookM at ih ⊢
  rw [List.map_cons,List.find?_cons,List.find?_cons,List.find?_cons]
  by_cases h1 : p.1 = u
  ·by_cases h2 : x = u
   ·subst h2; simp [h1]
   ·have h3 : ¬ u = x := fun e => h2 e.symm
    rw [if_pos h1,decide_eq_false h3,decide_eq_false (show ¬ p.1 = x from fun e => h3 (h1.symm.trans e)),ih,if_neg (fun h => h2 h.1),if_neg (fun h => h2 h.1)]
  ·rw [if_neg h1,decide_eq_false h1]
   by_cases h2 : p.1 = x
   ·have h3 : ¬ x = u := fun e => h1 (h2.trans e)
    rw [decide_eq_true h2,if_neg (fun h => h3 h.1)]
   ·rw [decide_eq_false h2,ih]
theorem lookM_putM (M : List (Int × Nat)) (u x : Int) (v : Nat) : lookM (putM M u v) x = if x = u then some v else lookM M x := by
 unfold putM
 split
 ·rename_i h
  rw [lookM_map]
  by_cases h2 : x = u
  ·rw [if_pos ⟨h2,h⟩,if_pos h2]
  ·rw [if_neg (fun h => h2 h.1),if_neg h2]
 ·rename_i h
  have h0 : lookM M u = none := by simpa using h
  unfold lookM at h0 ⊢
  rw [List.find?_append]
  by_cases h2 : x = u
  ·subst h2
   have h1 : M.find? (fun p => decide (p.1 = x)) = none := by simpa using h0
   rw [h1,if_pos rfl]
   simp
  ·rw [if_neg h2]
   have h3 : ¬ u = x := fun e => h2 e.symm
   simp [h3]
theorem nr_put (M : List (Int × Nat)) (u x : Int) (v : Nat) : nrM (putM M u v) x = if x = u then v else nrM M x := by
 unfold nrM
 rw [lookM_putM]
 split <;> rfl
theorem m0_nr : ∀ {x : Int},x ∈ L → nrM (m0 E L) x = nearS x E := by
 have key : ∀ (l : List Int) (M : List (Int × Nat)) (x : Int),nrM (l.foldl (fun M id => putM M id (nearS id E)) M) x = if x ∈ l then nearS x E else nrM M x := by
  intro l
  induction l with
  | nil => intro M x; simp
  | cons a r ih =>
   intro M x
   rw [List.foldl_cons,ih,nr_put]
   by_cases h1 : x ∈ r
   ·rw [if_pos h1,if_pos (by simp [h1])]
   ·by_cases h2 : x = a
    ·subst h2; rw [if_neg h1,if_pos rfl,if_pos (by simp)]
    ·rw [if_neg h1,if_neg h2,if_neg (by simp [h1,h2])]
 intro x hx
 unfold m0
 rw [key,if_pos hx]
end
end Go.Proofs.YtoacpebmhbkmbaaGreatDoor
namespace Go.Proofs.YtoacpebmhbkmbaaGreatDoor
def pickP (key : Int → Nat) (a : Int) (l : List Int) : Int := l.foldl (fun m x => if key x < key m then x else m) a
def leastP (key : Int → Nat) : List Int → Int
 | [] => 0
 | a :: l => pickP key a l
theorem pickP_spec (key : Int → Nat) : ∀ (l : List Int) (a : Int),pickP key a l ∈ a :: l ∧ ∀ x ∈ a :: l,key (pickP key a l) ≤ key x
 | [],a => by simp [pickP]
 | b :: l,a => by
  have hstep : pickP key a (b :: l) = pickP key (if key b < key a then b else a) l := rfl
  rw [hstep]
  obtain ⟨h1,h2⟩ := pickP_spec key l (if key b < key a then b else a)
  refine ⟨?_,fun x hx => ?_⟩
  ·rcases List.mem_cons.1 h1 with h | h
   ·rw [h]
    split <;> simp
   ·exact List.mem_cons_of_mem _ (List.mem_cons_of_mem _ h)
  ·have h3 := h2 _ (List.mem_cons_self)
   rcases List.mem_cons.1 hx with rfl | hx
   ·split at h3 <;> rename_i e
    ·rw [if_pos e]; omega
    ·rw [if_neg e]; exact h3
   ·rcases List.mem_cons.1 hx with rfl | hx
    ·split at h3 <;> rename_i e
     ·rw [if_pos e]; exact h3
     ·rw [if_neg e]; omega
    ·exact h2 x (List.mem_cons_of_mem _ hx)
theorem leastP_mem (key : Int → Nat) {L : List Int} (h : L ≠ []) : leastP key L ∈ L := by
 cases L with
 | nil => exact absurd rfl h
 | cons a l => exact (pickP_spec key l a).1
theorem pickP_congr {k1 k2 : Int → Nat} : ∀ (l : List Int) (a : Int),(∀ x ∈ a :: l,k1 x = k2 x) → pickP k1 a l = pickP k2 a l
 | [],_,_ => rfl
 | b :: l,a,h => by
  have hstep : ∀ key : Int → Nat,pickP key a (b :: l) = pickP key (if key b < key a then b else a) l := fun _ => rfl
  rw [hstep,hstep,h a (by simp),h b (by simp)]
  refine pickP_congr l _ fun x hx => ?_
  rcases List.mem_cons.1 hx with e | hx
  ·rw [e]
   split
   ·exact h b (by simp)
   ·exact h a (by simp)
  ·exact h x (by simp [hx])
theorem leastP_congr {k1 k2 : Int → Nat} {L : List Int} (h : ∀ x ∈ L,k1 x = k2 x) : leastP k1 L = leastP k2 L := by
 cases L with
 | nil => rfl
 | cons a l => exact pickP_congr l a h
theorem len_sub : ∀ (l m : List Int),l.Nodup → (∀ x ∈ l,x ∈ m) → l.length ≤ m.length
 | [],_,_,_ => Nat.zero_le _
 | a :: r,m,hn,hs => by
  have ha : a ∈ m := hs a (by simp)
  obtain ⟨hna,hnr⟩ := List.nodup_cons.1 hn
  have h1 := len_sub r (m.erase a) hnr (fun x hx => (List.mem_erase_of_ne (fun e => hna (by rw [← e]; exact hx))).2 (hs x (by simp [hx])))
  rw [List.length_erase_of_mem ha] at h1
  have h2 := List.length_pos_of_mem ha
  simp only [List.length_cons]
  omega
def degP (near : Int → Int → Bool) (L : List Int) (x : Int) : Nat := (L.filter (near x)).length
def degS (near : Int → Int → Bool) : Nat → List Int → List (Int × Nat)
 | 0,_ => []
 | _ + 1,[] => []
 | n + 1,a :: l =>
  let x := leastP (degP near (a :: l)) (a :: l)
  (x,degP near (a :: l) x) :: degS near n ((a :: l).erase x)
def mrgB (near : Int → Int → Bool) (x y u v : Int) : Bool := near u v || (decide (u = y) && near x v && decide (v ≠ y)) || (decide (v = y) && near x u && decide (u ≠ y))
def conS : Nat → (Int → Int → Bool) → List Int → List ((Int × Int) × Nat)
 | 0,_,_ => []
 | _ + 1,_,[] => []
 | n + 1,near,a :: l =>
  let L := a :: l
  let x := leastP (degP near L) L
  let N := L.filter (near x)
  if N = [] then ((x, -1),0) :: conS n near (L.erase x)
  else ((x,leastP (degP near L) N),N.length) :: conS n (mrgB near x (leastP (degP near L) N)) (L.erase x)
section
variable {near : Int → Int → Bool}
end
end Go.Proofs.YtoacpebmhbkmbaaGreatDoor
namespace Go.Proofs.YtoacpebmhbkmbaaGreatDoor
section
variable {near : Int → Int → Bool} {k : Int}
def dgnP (near : Int → Int → Bool) (n : Nat) (L : List Int) : Int := (degS near n L).foldl (fun m p => max m (p.2 : Int)) (-1)
def cliS (near : Int → Int → Bool) : Nat → List Int → List Int
 | 0,_ => []
 | _ + 1,[] => []
 | n + 1,o :: r => o :: cliS near n (r.filter (near o))
theorem cliS_mem : ∀ (n : Nat) (may : List Int), ∀ x ∈ cliS near n may,x ∈ may
 | 0,_,x,h => by cases h
 | _ + 1,[],x,h => by cases h
 | n + 1,o :: r,x,h => by
  unfold cliS at h
  rcases List.mem_cons.1 h with rfl | h
  ·simp
  ·exact List.mem_cons_of_mem _ (List.mem_filter.1 (cliS_mem n _ x h)).1
theorem cliS_pair : ∀ (n : Nat) (may : List Int),(cliS near n may).Pairwise fun x y => near x y = true
 | 0,_ => .nil
 | _ + 1,[] => .nil
 | n + 1,o :: r => by
  unfold cliS
  exact List.Pairwise.cons (fun y hy => (List.mem_filter.1 (cliS_mem n _ y hy)).2) (cliS_pair n _)
end
def eliB (near : Int → Int → Bool) (x u v : Int) : Bool := near u v || (decide (u ≠ v) && near x u && near x v)
def ordS (key : (Int → Int → Bool) → List Int → Int → Nat) : Nat → (Int → Int → Bool) → List Int → List Int
 | 0,_,_ => []
 | _ + 1,_,[] => []
 | n + 1,near,a :: l =>
  let x := leastP (key near (a :: l)) (a :: l)
  x :: ordS key n (eliB near x) ((a :: l).erase x)
section
variable {near : Int → Int → Bool}
theorem eliB_iff {x u v : Int} : eliB near x u v = true ↔ near u v = true ∨ (u ≠ v ∧ near x u = true ∧ near x v = true) := by
 unfold eliB
 simp [and_assoc]
end
end Go.Proofs.YtoacpebmhbkmbaaGreatDoor
namespace Go.Proofs.YtoacpebmhbkmbaaGreatDoor
section
variable {key : (Int → Int → Bool) → List Int → Int → Nat}
theorem ordS_perm : ∀ (n : Nat) (near : Int → Int → Bool) (L : List Int),L.length ≤ n → (ordS key n near L).Perm L
 | 0,_,L,hl => by
  have : L = [] := List.eq_nil_of_length_eq_zero (by omega)
  subst this
  exact .refl _
 | _ + 1,_,[],_ => .refl _
 | n + 1,near,a :: l,hl => by
  unfold ordS
  simp only
  have hx := leastP_mem (key near (a :: l)) (L := a :: l) (by simp)
  generalize leastP (key near (a :: l)) (a :: l) = x at hx ⊢
  exact (List.Perm.cons x (ordS_perm n (eliB near x) ((a :: l).erase x) (by rw [List.length_erase_of_mem hx]; simp at hl ⊢; omega))).trans (List.perm_cons_erase hx).symm
end
end Go.Proofs.YtoacpebmhbkmbaaGreatDoor
namespace Go.Proofs.YtoacpebmhbkmbaaGreatDoor
def lackP (near : Int → Int → Bool) : List Int → Nat
 | [] => 0
 | a :: r => (r.filter (fun b => !near a b)).length + lackP near r
def missP (near : Int → Int → Bool) (N : List Int) (o : Int) : Nat := (N.filter (fun v => !near o v && decide (v ≠ o))).length
section
variable {near : Int → Int → Bool}
theorem sum_filter (p : Int → Bool) (f : Int → Nat) : ∀ r : List Int,(r.map fun o => (if p o then 1 else 0) + f o).sum = (r.filter p).length + (r.map f).sum
 | [] => rfl
 | a :: r => by
  rw [List.map_cons,List.sum_cons,sum_filter p f r,List.map_cons,List.sum_cons]
  by_cases h : p a = true
  ·rw [if_pos h,List.filter_cons_of_pos h,List.length_cons]; omega
  ·rw [if_neg h,List.filter_cons_of_neg h]; omega
theorem miss_sum (hs : ∀ u v,near u v = near v u) : ∀ N : List Int,N.Nodup → (N.map (missP near N)).sum = 2 * lackP near N
 | [],_ => rfl
 | a :: r,hn => by
  obtain ⟨ha,hr⟩ := List.nodup_cons.1 hn
  have h1 : missP near (a :: r) a = (r.filter (fun b => !near a b)).length := by
   unfold missP
   rw [List.filter_cons_of_neg (by simp)]
   refine congrArg _ (List.filter_congr fun v hv => ?_)
   have : v ≠ a := fun e => ha (e ▸ hv)
   simp [this]
  have h2 : r.map (missP near (a :: r)) = r.map fun o => (if (!near a o) = true then 1 else 0) + missP near r o := by
   refine List.map_congr_left fun o ho => ?_
   have hne : a ≠ o := fun e => ha (e ▸ ho)
   unfold missP
   by_cases h : near o a = true
   ·rw [List.filter_cons_of_neg (by simp [h]),if_neg (by rw [hs a o]; simp [h])]; omega
   ·rw [List.filter_cons_of_pos (by simp [h,hne]),if_pos (by rw [hs a o]; simp [h]),List.length_cons]; omega
  rw [List.map_cons,List.sum_cons,h1,h2,sum_filter (fun o => !near a o) (missP near r),miss_sum hs r hr]
  have h3 : lackP near (a :: r) = (r.filter (fun b => !near a b)).length + lackP near r := rfl
  rw [h3]
  omega
theorem fill_half (hs : ∀ u v,near u v = near v u) {N : List Int} (hn : N.Nodup) : (N.map (missP near N)).sum / 2 = lackP near N := by
 rw [miss_sum hs N hn]
 omega
variable {k : Int}
end
end Go.Proofs.YtoacpebmhbkmbaaGreatDoor
namespace Go.Proofs.YtoacpebmhbkmbaaGreatDoor
open Go Go.RowKit
section
variable {V : List (Int × Thing)} {E : List ((Int × Int) × Thing)} {L : List Int}
theorem cnt_toK3 (N : Nat) : ∀ k,cntF N k = (toK N k).length
 | 0 => rfl
 | k + 1 => by
  rw [toK_next]
  show cntF N k + (N.testBit k).toNat = _
  rw [cnt_toK3 N k]
  cases N.testBit k <;> simp
end
end Go.Proofs.YtoacpebmhbkmbaaGreatDoor
