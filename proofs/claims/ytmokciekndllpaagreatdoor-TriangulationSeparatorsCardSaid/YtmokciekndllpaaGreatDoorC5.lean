/- Parts of a proof, laid together. Each part says its own conditions. -/
import Derived.Test.YtmokciekndllpaaGreatDoorC4
import Derived.Shelf.Abstract
import Derived.Sort.Grow
import Derived.Deep.Draws
namespace Go.Proofs.YtmokciekndllpaaGreatDoor
open Go Go.RowKit
attribute [local go_sem] qUpon lUpon
set_option maxHeartbeats 1000000 in
theorem new_any (w : World) : Calls Tryz.prog 46 #[] w fun e w' => ∃ g bv be,e = .returned (.pointer (some ⟨g,0,none⟩)) ∧ GraphAt w' g bv be [] [] ∧ Ext w w' ∧ w.heap.size ≤ g ∧ w.heap.size ≤ bv ∧ w.heap.size ≤ be := by
 have hmm := @run_makeMap Tryz.prog
 go_enter Tryz.func46,Tryz.ntmps46
 go_wp2
 go_ret
 have m1 : MapIs ekV evT i64ok (w.alloc (.map #[] 0)) w.heap.size [] := MapIs.made w
 have m2 : MapIs ekE evT okE ((w.alloc (.map #[] 0)).alloc (.map #[] 0)) (w.heap.size + 1) [] := by
  have := MapIs.made (ek := ekE) (ev := evT) (ok := okE) (w.alloc (.map #[] 0))
  simpa using this
 have m3 : Blk (((w.alloc (.map #[] 0)).alloc (.map #[] 0)).alloc (.cells #[.map (some w.heap.size), .map (some (w.heap.size + 1))] 157)) (w.heap.size + 1 + 1) 157 #[.map (some w.heap.size), .map (some (w.heap.size + 1))] := by
  have := Blk.new ((w.alloc (.map #[] 0)).alloc (.map #[] 0)) 157 #[.map (some w.heap.size), .map (some (w.heap.size + 1))]
  simpa using this
 exact ⟨w.heap.size + 1 + 1,w.heap.size,w.heap.size + 1,rfl,⟨m3,m1.ext (ext_self2 _ _ _),m2.ext (ext_self1 _ _),by omega⟩,ext_self3 _ _ _ _,by omega,by omega,by omega⟩
def deedsV : Value := .agg #[.func (.func 138) #[] #[], .func (.func 139) #[] #[], .func (.func 140) #[] #[], .func (.func 141) #[] #[], .func (.func 142) #[] #[], .func (.func 143) #[] #[], .func (.func 144) #[] #[], .func (.func 145) #[] #[]]
theorem deeds_any (w : World) : Calls Tryz.prog 83 #[] w fun e w' => e = .returned deedsV ∧ Ext w w' := by
 go_enter Tryz.func83,Tryz.ntmps83
 go_wp2
 exact bodyPost_ret (by simp [results,Tryz.results83,go_sem,deedsV]) rfl ⟨rfl,ext_self1 _ _⟩
def doV (op u lab wt : Int) (V : List (Int × Thing)) : List (Int × Thing) :=
 if op = 0 then putM V u (lab,wt) else if op = 1 then delM V u else if op = 4 then putM V u (lab,((lookM V u).getD (0,0)).2) else if op = 5 then putM V u (((lookM V u).getD (0,0)).1,wt) else V
def doE (op u v lab wt : Int) (E : List ((Int × Int) × Thing)) : List ((Int × Int) × Thing) :=
 if op = 1 then E.filter fun q => !atB u q.1 else if op = 2 then putM E (min u v,max u v) (lab,wt) else if op = 3 then delM E (min u v,max u v) else if op = 6 then putM E (min u v,max u v) (lab,((lookM E (min u v,max u v)).getD (0,0)).2)
 else if op = 7 then putM E (min u v,max u v) (((lookM E (min u v,max u v)).getD (0,0)).1,wt) else E
def errG (op u v wt : Int) (V : List (Int × Thing)) (E : List ((Int × Int) × Thing)) : Int := wrongF op u v wt (lookM V u).isSome (lookM V v).isSome (lookM E (min u v,max u v)).isSome E.length
theorem errG_op {op u v wt : Int} {V : List (Int × Thing)} {E : List ((Int × Int) × Thing)} (h : errG op u v wt V E = 0) : op = 0 ∨ op = 1 ∨ op = 2 ∨ op = 3 ∨ op = 4 ∨ op = 5 ∨ op = 6 ∨ op = 7 := by
 unfold errG wrongF at h
 split at h
 ·omega
 ·rename_i h1
  simp [w1B] at h1
  omega
def deedN (op : Int) : Nat := if op = 0 then 138 else if op = 1 then 139 else if op = 2 then 140 else if op = 3 then 141 else if op = 4 then 142 else if op = 5 then 143 else if op = 6 then 144 else 145
theorem deedI0 (W : World) : (Instr.index 126 deedsV (.int .i64 0)).run Tryz.prog W = .ok (.func (.func 138) #[] #[]) W := by kernel_rfl
theorem deedI1 (W : World) : (Instr.index 126 deedsV (.int .i64 1)).run Tryz.prog W = .ok (.func (.func 139) #[] #[]) W := by kernel_rfl
theorem deedI2 (W : World) : (Instr.index 126 deedsV (.int .i64 2)).run Tryz.prog W = .ok (.func (.func 140) #[] #[]) W := by kernel_rfl
theorem deedI3 (W : World) : (Instr.index 126 deedsV (.int .i64 3)).run Tryz.prog W = .ok (.func (.func 141) #[] #[]) W := by kernel_rfl
theorem deedI4 (W : World) : (Instr.index 126 deedsV (.int .i64 4)).run Tryz.prog W = .ok (.func (.func 142) #[] #[]) W := by kernel_rfl
theorem deedI5 (W : World) : (Instr.index 126 deedsV (.int .i64 5)).run Tryz.prog W = .ok (.func (.func 143) #[] #[]) W := by kernel_rfl
theorem deedI6 (W : World) : (Instr.index 126 deedsV (.int .i64 6)).run Tryz.prog W = .ok (.func (.func 144) #[] #[]) W := by kernel_rfl
theorem deedI7 (W : World) : (Instr.index 126 deedsV (.int .i64 7)).run Tryz.prog W = .ok (.func (.func 145) #[] #[]) W := by kernel_rfl
theorem deedI (op : Int) (h : op = 0 ∨ op = 1 ∨ op = 2 ∨ op = 3 ∨ op = 4 ∨ op = 5 ∨ op = 6 ∨ op = 7) (W : World) : (Instr.index 126 deedsV (.int .i64 op)).run Tryz.prog W = .ok (.func (.func (deedN op)) #[] #[]) W := by
 rcases h with rfl | rfl | rfl | rfl | rfl | rfl | rfl | rfl
 ·exact deedI0 W
 ·exact deedI1 W
 ·exact deedI2 W
 ·exact deedI3 W
 ·exact deedI4 W
 ·exact deedI5 W
 ·exact deedI6 W
 ·exact deedI7 W
theorem wrong_err (g bv be : Nat) (V : List (Int × Thing)) (E : List ((Int × Int) × Thing)) (op u v lab wt : Int) (w : World) (hg : GraphAt w g bv be V E) (hu : i64ok u) (hv : i64ok v) :
  Calls Tryz.prog 82 #[.pointer (some ⟨g,0,none⟩), .agg #[.int .i64 op, .int .i64 u, .int .i64 v, .int .u8 lab, .int .i64 wt]] w fun e w' => e = .returned (.int .i64 (errG op u v wt V E)) ∧ Ext w w' := wrong_any g bv be V E op u v lab wt w hg hu hv
set_option maxHeartbeats 2000000 in
theorem apply_no (g bv be : Nat) (V : List (Int × Thing)) (E : List ((Int × Int) × Thing)) (op u v lab wt : Int) (w : World) (hg : GraphAt w g bv be V E) (hu : i64ok u) (hv : i64ok v) (he : errG op u v wt V E ≠ 0) :
  Calls Tryz.prog 31 #[.pointer (some ⟨g,0,none⟩), .agg #[.int .i64 op, .int .i64 u, .int .i64 v, .int .u8 lab, .int .i64 wt]] w fun e w' => e = .returned (.int .i64 (errG op u v wt V E)) ∧ Ext w w' := by
 have hb : (errG op u v wt V E != 0) = true := by simpa using he
 have G1 := hg.ext (ext_self1 w (.cells #[.int .i64 op, .int .i64 u, .int .i64 v, .int .u8 lab, .int .i64 wt] 63))
 clear hg he
 go_enter Tryz.func31,Tryz.ntmps31
 go_wp2_with (go_at_call 82; refine (wrong_err g bv be V E op u v lab wt _ G1 hu hv).mono ?_; rintro e w1 ⟨rfl,hx⟩)
 go_ret
 exact ⟨rfl,(ext_self1 _ _).trans hx⟩
theorem deed_call (g bv be : Nat) (V : List (Int × Thing)) (E : List ((Int × Int) × Thing)) (op u v lab wt : Int) (w : World) (hg : GraphAt w g bv be V E) (hu : i64ok u) (hv : i64ok v) (hop : op = 0 ∨ op = 1 ∨ op = 2 ∨ op = 3 ∨ op = 4 ∨ op = 5 ∨ op = 6 ∨ op = 7) :
  Calls Tryz.prog (deedN op) #[.pointer (some ⟨g,0,none⟩), .agg #[.int .i64 op, .int .i64 u, .int .i64 v, .int .u8 lab, .int .i64 wt]] w fun e w' => e = .returned (.tuple #[]) ∧ GraphAt w' g bv be (doV op u lab wt V) (doE op u v lab wt E) ∧ Keep [bv,be] w w' := by
 rcases hop with rfl | rfl | rfl | rfl | rfl | rfl | rfl | rfl
 ·exact (add_any g bv be V E 0 u v lab wt w hg hu hv).mono fun _ _ h => ⟨h.1,h.2.1,h.2.2.mono (by simp)⟩
 ·exact drop_any g bv be V E 1 u v lab wt w hg hu
 ·exact (join_any g bv be V E 2 u v lab wt w hg hu hv).mono fun _ _ h => ⟨h.1,h.2.1,h.2.2.mono (by simp)⟩
 ·exact (part_any g bv be V E 3 u v lab wt w hg hu hv).mono fun _ _ h => ⟨h.1,h.2.1,h.2.2.mono (by simp)⟩
 ·exact (mark_any g bv be V E 4 u v lab wt w hg hu hv).mono fun _ _ h => ⟨h.1,h.2.1,h.2.2.mono (by simp)⟩
 ·exact (weigh_any g bv be V E 5 u v lab wt w hg hu hv).mono fun _ _ h => ⟨h.1,h.2.1,h.2.2.mono (by simp)⟩
 ·exact (markEdge_any g bv be V E 6 u v lab wt w hg hu hv).mono fun _ _ h => ⟨h.1,h.2.1,h.2.2.mono (by simp)⟩
 ·exact (weighEdge_any g bv be V E 7 u v lab wt w hg hu hv).mono fun _ _ h => ⟨h.1,h.2.1,h.2.2.mono (by simp)⟩
theorem deed_enters (op : Int) (hop : op = 0 ∨ op = 1 ∨ op = 2 ∨ op = 3 ∨ op = 4 ∨ op = 5 ∨ op = 6 ∨ op = 7) (args : Array Value) (w : World) : (callFunc (deedN op) args).run Tryz.prog w = .ok (.enter (deedN op) args) w := by
 rcases hop with rfl | rfl | rfl | rfl | rfl | rfl | rfl | rfl
 ·exact Go.Proofs.enters_of Tryz.func138 (by kernel_rfl) rfl _ _
 ·exact Go.Proofs.enters_of Tryz.func139 (by kernel_rfl) rfl _ _
 ·exact Go.Proofs.enters_of Tryz.func140 (by kernel_rfl) rfl _ _
 ·exact Go.Proofs.enters_of Tryz.func141 (by kernel_rfl) rfl _ _
 ·exact Go.Proofs.enters_of Tryz.func142 (by kernel_rfl) rfl _ _
 ·exact Go.Proofs.enters_of Tryz.func143 (by kernel_rfl) rfl _ _
 ·exact Go.Proofs.enters_of Tryz.func144 (by kernel_rfl) rfl _ _
 ·exact Go.Proofs.enters_of Tryz.func145 (by kernel_rfl) rfl _ _
set_option maxHeartbeats 2000000 in
theorem apply_yes (g bv be : Nat) (V : List (Int × Thing)) (E : List ((Int × Int) × Thing)) (op u v lab wt : Int) (w : World) (hg : GraphAt w g bv be V E) (hu : i64ok u) (hv : i64ok v) (he : errG op u v wt V E = 0) :
  Calls Tryz.prog 31 #[.pointer (some ⟨g,0,none⟩), .agg #[.int .i64 op, .int .i64 u, .int .i64 v, .int .u8 lab, .int .i64 wt]] w fun e w' => e = .returned (.int .i64 0) ∧ GraphAt w' g bv be (doV op u lab wt V) (doE op u v lab wt E) ∧ Keep [bv,be] w w' := by
 have hop := errG_op he
 have he' := hide he
 clear he
 go_enter Tryz.func31,Tryz.ntmps31
 have G1 := hg.ext (ext_self1 w (.cells #[.int .i64 op, .int .i64 u, .int .i64 v, .int .u8 lab, .int .i64 wt] 63))
 go_wp2_with (go_at_call 82; refine (wrong_err g bv be V E op u v lab wt _ G1 hu hv).mono ?_; rw [unhide he']; rintro e w1 ⟨rfl,hx⟩)
 refine wp_abs (fun W => Ext w W ∧ EditAt W w.heap.size op u v lab wt) ⟨(ext_self1 _ _).trans hx,(box_edit w op u v lab wt).ext hx⟩ ?_
 rintro w2 ⟨hx2,c0,c1,c2,c3,c4⟩
 clear G1 hx
 have hop' := hide hop
 have hix := deedI op hop
 have hent := deed_enters op hop
 clear hop
 refine wp_region_ext (P := Tryz.prog) [0,1,2,3,4,5] [6] 1 #[true,true,true,true,true,true,false] (by kernel_rfl) (by kernel_rfl) rfl (by rfl) ?_
 iterate 6
  refine ql_want (v := ?_) rfl (by rfl) (fun W hW => ?_) ?_
  rotate_left
  ·go_simp
   first | done | rfl | ((go_at_call 83; refine (deeds_any _).mono ?_; rintro _ _ ⟨h1,h2⟩; refine ⟨_,h1, ?_,h2⟩; rfl))
  go_frame
 refine wpQL_nil (fun w3 hx3 => ?_)
 refine lx_one (i := 6) (by kernel_rfl) rfl (by rfl) #[true,true,true,true,true,true,true] (by rfl) ?_
 go_simp
 refine (deed_call g bv be V E op u v lab wt _ (hg.ext (hx2.trans hx3)) hu hv (unhide hop')).mono ?_
 rintro e w4 ⟨rfl,hG,hk⟩
 refine ⟨_,rfl,fun w5 hx5 => ?_⟩
 refine wpX_done (by kernel_rfl) ?_
 try go_frame
 go_wp2
 go_ret
 exact ⟨rfl,hG.ext hx5,(Keep.of_ext (hx2.trans hx3) hk).trans (hx5.keep _)⟩
end Go.Proofs.YtmokciekndllpaaGreatDoor
namespace Go.Proofs.YtmokciekndllpaaGreatDoor
open Go Go.RowKit Go.Sort
attribute [local go_sem] qUpon lUpon
def Gr (w w' : World) : Prop := ∃ q os,w' = grow (w.drewN q) os
theorem Gr.refl (w : World) : Gr w w := ⟨0, #[],by rw [grow_empty]; rfl⟩
theorem Gr.trans {a b c : World} (h : Gr a b) (k : Gr b c) : Gr a c := by
 obtain ⟨q,os,rfl⟩ := h
 obtain ⟨r,os',rfl⟩ := k
 refine ⟨q + r,os ++ os', ?_⟩
 simp [grow,World.drewN,Nat.add_assoc]
theorem Gr.alloc {a b : World} (h : Gr a b) (o : Obj) : Gr a (b.alloc o) := h.trans ⟨0, #[o],alloc_eq_grow b o⟩
theorem Gr.drew {a b : World} (h : Gr a b) : Gr a b.drew := h.trans ⟨1, #[],by rw [grow_empty]; rfl⟩
theorem Gr.ext {a b : World} (h : Gr a b) : Ext a b := by
 obtain ⟨q,os,rfl⟩ := h
 refine ⟨rfl,rfl,rfl, ?_,fun k hk => ?_⟩
 ·show a.heap.size ≤ (a.heap ++ os).size
  simp
 ·show (a.heap ++ os)[k]? = a.heap[k]?
  rw [Array.getElem?_append_left hk]
def cmpI (a b : Int) : Int := if a < b then -1 else if b < a then 1 else 0
theorem nan_any (a : Int) (w : World) : Calls Tryz.prog 124 #[.int .i64 a] w fun e w' => e = .returned (.bool false) ∧ w' = w := by
 go_enter Tryz.func124,Tryz.ntmps124
 go_wp2
 go_ret
 exact ⟨rfl,rfl⟩
theorem cmp_any (a b : Int) (w : World) : Calls Tryz.prog 81 #[.int .i64 a, .int .i64 b] w fun e w' => e = .returned (.int .i64 (cmpI a b)) ∧ w' = w := by
 go_enter Tryz.func81,Tryz.ntmps81
 go_wp2_with (go_at_call 124; refine (nan_any _ _).mono ?_; rintro e w' ⟨rfl,rfl⟩)
 all_goals (go_ret; exact ⟨ret_int (by unfold cmpI; first | (rw [if_pos (by omega)]) | (rw [if_neg (by omega),if_pos (by omega)]) | (rw [if_neg (by omega),if_neg (by omega)])),rfl⟩)
theorem vert1_any (a la wa b lb wb : Int) (w : World) :
  Calls Tryz.prog 151 #[.agg #[.int .i64 a, .int .u8 la, .int .i64 wa], .agg #[.int .i64 b, .int .u8 lb, .int .i64 wb]] w fun e w' => e = .returned (.int .i64 (cmpI a b)) ∧ Gr w w' := by
 go_enter Tryz.func151,Tryz.ntmps151
 go_wp2_with (go_at_call 81; refine (cmp_any _ _ _).mono ?_; rintro e w' ⟨rfl,rfl⟩)
 go_ret
 exact ⟨rfl,((Gr.refl w).alloc _).alloc _⟩
def orI (x y : Int) : Int := if x = 0 then y else x
theorem or_any (x y : Int) (b c : Nat) (w : World) (h0 : w.cell? ⟨b,0,none⟩ = some (.int .i64 x)) (h1 : w.cell? ⟨b,1,none⟩ = some (.int .i64 y)) :
  Calls Tryz.prog 80 #[.slice (some ⟨b,0,none⟩) 2 c] w fun e w' => e = .returned (.int .i64 (orI x y)) ∧ w' = w := by
 by_cases hx : x = 0
 ·subst hx
  by_cases hy : y = 0
  ·subst hy
   go_enter Tryz.func80,Tryz.ntmps80
   go_wp2
   refine wp_loop_rounds 3 ?_
   rw [rounds_succ]
   go_wp2
   rw [rounds_succ]
   go_wp2
   rw [rounds_succ]
   go_wp2
   go_ret
   exact ⟨rfl,rfl⟩
  ·have hy' : (y != 0) = true := by simpa using hy
   clear hy
   go_enter Tryz.func80,Tryz.ntmps80
   go_wp2
   refine wp_loop_rounds 3 ?_
   rw [rounds_succ]
   go_wp2
   rw [rounds_succ]
   go_wp2
   go_ret
   exact ⟨ret_int (by simp [orI]),rfl⟩
 ·have hx' : (x != 0) = true := by simpa using hx
  have hx2 := hide hx
  clear hx
  go_enter Tryz.func80,Tryz.ntmps80
  go_wp2
  refine wp_loop_rounds 3 ?_
  rw [rounds_succ]
  go_wp2
  go_ret
  exact ⟨ret_int (by simp [orI,unhide hx2]),rfl⟩
def cmpE (x y : Int × Int) : Int := orI (cmpI x.1 y.1) (cmpI x.2 y.2)
set_option maxHeartbeats 1000000 in
theorem edge1_any (a b la wa c d lb wb : Int) (w : World) :
  Calls Tryz.prog 152 #[.agg #[.int .i64 a, .int .i64 b, .int .u8 la, .int .i64 wa], .agg #[.int .i64 c, .int .i64 d, .int .u8 lb, .int .i64 wb]] w fun e w' => e = .returned (.int .i64 (cmpE (a,b) (c,d))) ∧ Gr w w' := by
 go_enter Tryz.func152,Tryz.ntmps152
 go_wp2
 refine wp_abs (fun W => Gr w W ∧ Blk W w.heap.size 61 #[.int .i64 a, .int .i64 b, .int .u8 la, .int .i64 wa] ∧ Blk W (w.heap.size + 1) 61 #[.int .i64 c, .int .i64 d, .int .u8 lb, .int .i64 wb]) ⟨((Gr.refl w).alloc _).alloc _,(Blk.new w _ _).ext (ext_self1 _ _),by have := Blk.new (w.alloc (.cells #[.int .i64 a, .int .i64 b, .int .u8 la, .int .i64 wa] 61)) 61 #[.int .i64 c, .int .i64 d, .int .u8 lb, .int .i64 wb]; simpa using this⟩ ?_
 rintro w1 ⟨hx1,hb0,hb1⟩
 have c0 : ∀ W,Gr w1 W → W.cell? ⟨w.heap.size,0,none⟩ = some (.int .i64 a) := fun W h => hb0.cells 0 rfl W h.ext
 have c1 : ∀ W,Gr w1 W → W.cell? ⟨w.heap.size,1,none⟩ = some (.int .i64 b) := fun W h => hb0.cells 1 rfl W h.ext
 have c2 : ∀ W,Gr w1 W → W.cell? ⟨w.heap.size + 1,0,none⟩ = some (.int .i64 c) := fun W h => hb1.cells 0 rfl W h.ext
 have c3 : ∀ W,Gr w1 W → W.cell? ⟨w.heap.size + 1,1,none⟩ = some (.int .i64 d) := fun W h => hb1.cells 1 rfl W h.ext
 clear hb0 hb1
 refine wp_region_ql (P := Tryz.prog) (fun a b => b = a) (Gr w1) [0,1,2,3,4,5,6,7,8,9] [] 3 #[true,true,true,true,true,true,true,true,true,true,false,false,false] (by kernel_rfl) (by kernel_rfl) rfl (by rfl) (fun _ => rfl) (fun _ _ _ h1 h2 => h2.trans h1) (fun _ _ h e => by rw [e]; exact h) (Gr.refl w1).drew ?_
 iterate 10
  refine ql_want (v := ?_) rfl (by rfl) (fun W hW => ?_) ?_
  rotate_left
  ·go_simp
   first | done | rfl | (go_at_call 81; refine (cmp_any _ _ _).mono ?_; rintro _ _ ⟨h1,h2⟩; refine ⟨_,h1, ?_,h2⟩; rfl)
  go_frame
 refine wpQL_nil (fun w2 hx2 => ?_)
 refine lx_one (i := 10) (by kernel_rfl) rfl (by rfl) #[true,true,true,true,true,true,true,true,true,true,true,false,false] (by rfl) ?_
 go_simp
 refine ⟨hx2.alloc _, ?_⟩
 try go_frame
 refine lx_one (i := 11) (by kernel_rfl) rfl (by rfl) #[true,true,true,true,true,true,true,true,true,true,true,true,false] (by rfl) ?_
 go_simp
 refine (or_any (cmpI a c) (cmpI b d) w2.heap.size 2 _ (by go_simp) (by go_simp)).mono ?_
 rintro e w3 ⟨rfl,rfl⟩
 refine ⟨_,rfl,hx2.alloc _, ?_⟩
 try go_frame
 refine lx_one (i := 12) (by kernel_rfl) rfl (by rfl) #[true,true,true,true,true,true,true,true,true,true,true,true,true] (by rfl) ?_
 go_simp
 refine ⟨hx2.alloc _, ?_⟩
 refine wpX_done (by kernel_rfl) ?_
 try go_frame
 go_wp2
 go_ret
 exact ⟨rfl,(hx1.trans hx2).alloc _⟩
end Go.Proofs.YtmokciekndllpaaGreatDoor
namespace Go.Proofs.YtmokciekndllpaaGreatDoor
open Go Go.RowKit
def SlAt {α : Type} (enc : α → List Value) (k : Nat) (w : World) (A : Option Addr) (xs : List α) : Prop :=
  xs ≠ [] → ∃ b off, A = some ⟨b, off, none⟩ ∧ b < w.heap.size ∧ ∀ i x, xs[i]? = some x → ∀ j u, (enc x)[j]? = some u → w.cell? ⟨b, off + i * k + j, none⟩ = some u
theorem SlAt.of_blocks {α : Type} {enc : α → List Value} {k : Nat} {w w' : World} {A : Option Addr} {xs : List α} (h : SlAt enc k w A xs) (hs : w.heap.size ≤ w'.heap.size) (hb : ∀ b off, A = some ⟨b, off, none⟩ → b < w.heap.size → w'.heap[b]? = w.heap[b]?) : SlAt enc k w' A xs := fun hne => by
  obtain ⟨b, off, hA, hlt, hc⟩ := h hne
  refine ⟨b, off, hA, by omega, fun i x hx j u hu => ?_⟩
  rw [World.cell?_of_block (hb b off hA hlt)]
  exact hc i x hx j u hu
theorem SlAt.ext {α : Type} {enc : α → List Value} {k : Nat} {w w' : World} {A : Option Addr} {xs : List α} (h : SlAt enc k w A xs) (hx : Ext w w') : SlAt enc k w' A xs :=
  h.of_blocks (Below.size hx) (fun b _ _ hlt => hx.block b hlt)
theorem SlAt.nil {α : Type} {enc : α → List Value} {k : Nat} {w : World} {A : Option Addr} : SlAt enc k w A ([] : List α) := fun h => absurd rfl h
theorem SlAt.at_ {α : Type} {enc : α → List Value} {k : Nat} {w : World} {A : Option Addr} {xs : List α} (h : SlAt enc k w A xs) {i : Nat} (hi : i < xs.length) :
    ∃ b off, A = some ⟨b, off, none⟩ ∧ ∀ j u, (enc xs[i])[j]? = some u → ∀ W, Ext w W → W.cell? ⟨b, off + i * k + j, none⟩ = some u := by
  obtain ⟨b, off, hA, _, hc⟩ := h (by intro e; rw [e] at hi; simp at hi)
  exact ⟨b, off, hA, fun j u hu => cell_ext (hc i xs[i] (List.getElem?_eq_getElem hi) j u hu)⟩
def encV (x : Int × Thing) : List Value := [.int .i64 x.1, .int .u8 x.2.1, .int .i64 x.2.2]
def encE (x : (Int × Int) × Thing) : List Value := [.int .i64 x.1.1, .int .i64 x.1.2, .int .u8 x.2.1, .int .i64 x.2.2]
theorem atV {w : World} {A : Option Addr} {V : List (Int × Thing)} (h : SlAt encV 3 w A V) {i : Nat} (hi : i < V.length) :
    ∃ b off, A = some ⟨b, off, none⟩ ∧ (∀ W, Ext w W → W.cell? ⟨b, off + i * 3, none⟩ = some (.int .i64 V[i].1)) ∧ (∀ W, Ext w W → W.cell? ⟨b, off + i * 3 + 1, none⟩ = some (.int .u8 V[i].2.1)) ∧ (∀ W, Ext w W → W.cell? ⟨b, off + i * 3 + 2, none⟩ = some (.int .i64 V[i].2.2)) := by
  obtain ⟨b, off, hA, hc⟩ := h.at_ hi
  exact ⟨b, off, hA, hc 0 _ rfl, hc 1 _ rfl, hc 2 _ rfl⟩
theorem atE {w : World} {A : Option Addr} {E : List ((Int × Int) × Thing)} (h : SlAt encE 4 w A E) {i : Nat} (hi : i < E.length) :
    ∃ b off, A = some ⟨b, off, none⟩ ∧ (∀ W, Ext w W → W.cell? ⟨b, off + i * 4, none⟩ = some (.int .i64 E[i].1.1)) ∧ (∀ W, Ext w W → W.cell? ⟨b, off + i * 4 + 1, none⟩ = some (.int .i64 E[i].1.2)) ∧
      (∀ W, Ext w W → W.cell? ⟨b, off + i * 4 + 2, none⟩ = some (.int .u8 E[i].2.1)) ∧ (∀ W, Ext w W → W.cell? ⟨b, off + i * 4 + 3, none⟩ = some (.int .i64 E[i].2.2)) := by
  obtain ⟨b, off, hA, hc⟩ := h.at_ hi
  exact ⟨b, off, hA, hc 0 _ rfl, hc 1 _ rfl, hc 2 _ rfl, hc 3 _ rfl⟩
def posI {α : Type} (p : α → Bool) (xs : List α) : Int := match xs.findIdx? p with | some i => (i : Int) | none => -1
theorem posI_hit {α : Type} {p : α → Bool} {xs : List α} {i : Nat} (hi : i < xs.length) (hp : p xs[i] = true) (hno : ∀ j (hj : j < i), p (xs[j]'(by omega)) = false) : posI p xs = i := by
  unfold posI
  rw [show xs.findIdx? p = some i from List.findIdx?_eq_some_iff_getElem.2 ⟨hi, hp, fun j hj => by rw [hno j hj]; simp⟩]
theorem posI_miss {α : Type} {p : α → Bool} {xs : List α} (hno : ∀ j (hj : j < xs.length), p xs[j] = false) : posI p xs = -1 := by
  unfold posI
  rw [show xs.findIdx? p = none from List.findIdx?_eq_none_iff.2 fun x hx => by
    obtain ⟨j, hj, rfl⟩ := List.getElem_of_mem hx
    exact hno j hj]
theorem pair_any (op u v lab wt : Int) (w : World) : Calls Tryz.prog 158 #[.agg #[.int .i64 op, .int .i64 u, .int .i64 v, .int .u8 lab, .int .i64 wt]] w fun e w' => e = .returned (.bool (pairsB op)) ∧ Ext w w' := by
  go_enter Tryz.func158, Tryz.ntmps158
  go_wp2
  all_goals (go_ret; exact ⟨ret_bool (by unfold pairsB; simp [*]), ext_self1 _ _⟩)
theorem rheavy_any (op u v lab wt : Int) (w : World) : Calls Tryz.prog 188 #[.agg #[.int .i64 op, .int .i64 u, .int .i64 v, .int .u8 lab, .int .i64 wt]] w fun e w' => e = .returned (.bool (weighsB op)) ∧ Ext w w' := by
  go_enter Tryz.func188, Tryz.ntmps188
  go_wp2
  all_goals (go_ret; exact ⟨ret_bool (by unfold weighsB; simp [*]), ext_self1 _ _⟩)
set_option maxHeartbeats 1000000 in
theorem find_any (A B : Option Addr) (V : List (Int × Thing)) (cV nE cE : Nat) (id : Int) (w : World) (hV : SlAt encV 3 w A V) (hl : V.length ≤ 4096) :
    Calls Tryz.prog 189 #[.agg #[.slice A V.length cV, .slice B nE cE], .int .i64 id] w fun e w' => e = .returned (.int .i64 (posI (fun p => p.1 == id) V)) ∧ Ext w w' := by
  go_enter Tryz.func189, Tryz.ntmps189
  go_wp2
  refine wp_abs (fun W => Ext w W ∧ Blk W w.heap.size 30 #[.slice A V.length cV, .slice B nE cE]) ⟨ext_self1 _ _, Blk.new w _ _⟩ ?_
  rintro w1 ⟨hx1, hb⟩
  have c0 : ∀ W, Ext w1 W → W.cell? ⟨w.heap.size, 0, none⟩ = some (.slice A V.length cV) := hb.cells 0 rfl
  have hV1 := hV.ext hx1
  clear hb hV
  go_loop [5] (fun i => ∃ k : Nat, k ≤ V.length ∧ i = .int .i64 k ∧ ∀ j (hj : j < k) (hj' : j < V.length), (V[j].1 == id) = false) (fun i => V.length - (intOf i).toNat)
  case atStart => exact ⟨0, Nat.zero_le _, rfl, fun j hj => by omega⟩
  case round =>
    obtain ⟨k, hk, rfl, hno⟩ := hrel
    have hno' := hide hno
    clear hno
    by_cases hlt : k < V.length
    · obtain ⟨b, off, rfl, c1, _, _⟩ := atV hV1 hlt
      clear hV1
      cases hh : V[k].1 == id
      · have hh' := hide hh
        go_wp2
        go_round
        case rel =>
          refine ⟨k + 1, by omega, by go_num, fun j hj hj' => ?_⟩
          rcases Nat.lt_or_ge j k with h | h
          · exact unhide hno' j h hj'
          · have : j = k := by omega
            subst this
            exact unhide hh'
        case measure => simp [intOf]; omega
      · have hh' := hide hh
        go_wp2
        go_ret
        exact ⟨ret_int (posI_hit hlt (unhide hh') (fun j hj => unhide hno' j hj (by omega))).symm, hx1⟩
    · go_wp2
      go_ret
      exact ⟨ret_int (posI_miss (fun j hj => unhide hno' j (by omega) hj)).symm, hx1⟩
def isE (u v : Int) (p : (Int × Int) × Thing) : Bool := p.1.1 == u && p.1.2 == v || p.1.1 == v && p.1.2 == u
set_option maxHeartbeats 1000000 in
theorem redge_any (A B : Option Addr) (E : List ((Int × Int) × Thing)) (nV cV cE : Nat) (u v : Int) (w : World) (hE : SlAt encE 4 w B E) (hl : E.length ≤ 4096) :
    Calls Tryz.prog 119 #[.agg #[.slice A nV cV, .slice B E.length cE], .int .i64 u, .int .i64 v] w fun e w' => e = .returned (.int .i64 (posI (isE u v) E)) ∧ Ext w w' := by
  generalize hq : isE u v = q
  have hq' : ∀ p, q p = isE u v p := fun p => by rw [hq]
  have hq'' := hide hq'
  clear hq hq'
  go_enter Tryz.func119, Tryz.ntmps119
  go_wp2
  refine wp_abs (fun W => Ext w W ∧ Blk W w.heap.size 30 #[.slice A nV cV, .slice B E.length cE]) ⟨ext_self1 _ _, Blk.new w _ _⟩ ?_
  rintro w1 ⟨hx1, hb⟩
  have c0 : ∀ W, Ext w1 W → W.cell? ⟨w.heap.size, 1, none⟩ = some (.slice B E.length cE) := hb.cells 1 rfl
  have hE1 := hE.ext hx1
  clear hb hE
  go_loop [7] (fun i => ∃ k : Nat, k ≤ E.length ∧ i = .int .i64 k ∧ ∀ j (hj : j < k) (hj' : j < E.length), q E[j] = false) (fun i => E.length - (intOf i).toNat)
  case atStart => exact ⟨0, Nat.zero_le _, rfl, fun j hj => by omega⟩
  case round =>
    obtain ⟨k, hk, rfl, hno⟩ := hrel
    have hno' := hide hno
    clear hno
    by_cases hlt : k < E.length
    · obtain ⟨b, off, rfl, c1, c2, _, _⟩ := atE hE1 hlt
      clear hE1
      generalize hp : E[k] = p at c1 c2
      obtain ⟨⟨a, b'⟩, t⟩ := p
      have hp' := hide hp
      clear hp
      have no : q ((a, b'), t) = false → ∀ j (hj : j < k + 1) (hj' : j < E.length), q E[j] = false := fun h j hj hj' => by
        rcases Nat.lt_or_ge j k with h1 | h1
        · exact unhide hno' j h1 hj'
        · have : j = k := by omega
          subst this
          rw [unhide hp']
          exact h
      have yes : q ((a, b'), t) = true → posI q E = k := fun h => posI_hit hlt (by rw [unhide hp']; exact h) (fun j hj => unhide hno' j hj (by omega))
      have no' := hide no
      have yes' := hide yes
      clear no yes
      go_wp2
      all_goals first
        | (go_ret; exact ⟨ret_int (unhide yes' (by rw [unhide hq'']; unfold isE; simp_all)).symm, hx1⟩)
        | (go_round
           case rel => exact ⟨k + 1, by omega, by go_num, unhide no' (by rw [unhide hq'']; unfold isE; simp_all)⟩
           case measure => simp [intOf]; omega)
    · go_wp2
      go_ret
      exact ⟨ret_int (posI_miss (fun j hj => unhide hno' j (by omega) hj)).symm, hx1⟩
end Go.Proofs.YtmokciekndllpaaGreatDoor
namespace Go.Proofs.YtmokciekndllpaaGreatDoor
open Go Go.RowKit
theorem blk2 (w : World) (X Y : Array Value) (S T : TypeId) : Blk ((w.alloc (.cells X S)).alloc (.cells Y T)) w.heap.size S X ∧ Blk ((w.alloc (.cells X S)).alloc (.cells Y T)) (w.heap.size + 1) T Y :=
 ⟨(Blk.new w S X).ext (ext_self1 _ _),by have := Blk.new (w.alloc (.cells X S)) T Y; simpa using this⟩
theorem EditAt.of' {T : TypeId} {w : World} {g : Nat} {op u v lab wt : Int} (h : Blk w g T #[.int .i64 op, .int .i64 u, .int .i64 v, .int .u8 lab, .int .i64 wt]) : EditAt w g op u v lab wt :=
 ⟨h.cells 0 rfl,h.cells 1 rfl,h.cells 2 rfl,h.cells 3 rfl,h.cells 4 rfl⟩
def hasV (u : Int) (V : List (Int × Thing)) : Bool := decide (0 ≤ posI (fun p => p.1 == u) V)
def hasE (u v : Int) (E : List ((Int × Int) × Thing)) : Bool := decide (0 ≤ posI (isE u v) E)
def wrongR (op u v wt : Int) (V : List (Int × Thing)) (E : List ((Int × Int) × Thing)) : Int :=
 if w1B op then 11 else if w2B op u v wt then 2 else if w3B op u v then 15 else if op = 0 then (if hasV u V then 7 else 0)
 else if !hasV u V || op == 2 && !hasV v V then 9 else if op = 2 then (if hasE u v E then 7 else if 1024 ≤ E.length then 8 else 0) else if pairsB op && !hasE u v E then 9 else 0
set_option maxHeartbeats 4000000 in
theorem wrongR_bad (A B : Option Addr) (V : List (Int × Thing)) (E : List ((Int × Int) × Thing)) (cV cE : Nat) (op u v lab wt : Int) (w : World) (h1 : w1B op = true) :
  Calls Tryz.prog 155 #[.agg #[.slice A V.length cV, .slice B E.length cE], .agg #[.int .i64 op, .int .i64 u, .int .i64 v, .int .u8 lab, .int .i64 wt]] w fun e w' => e = .returned (.int .i64 (wrongR op u v wt V E)) ∧ Ext w w' := by
 have hr : wrongR op u v wt V E = 11 := by unfold wrongR; rw [if_pos h1]
 rw [hr]
 have h2 : op < 0 ∨ 7 < op := by unfold w1B at h1; simp at h1; omega
 clear h1 hr
 rcases h2 with h2 | h2
 ·go_enter Tryz.func155,Tryz.ntmps155
  go_wp2_with fail
  go_ret
  exact ⟨rfl,ext_self2 _ _ _⟩
 ·have h3 : ¬ op < 0 := by omega
  go_enter Tryz.func155,Tryz.ntmps155
  go_wp2_with fail
  go_ret
  exact ⟨rfl,ext_self2 _ _ _⟩
end Go.Proofs.YtmokciekndllpaaGreatDoor
