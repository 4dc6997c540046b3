/- Parts of a proof, laid together. Each part says its own conditions. -/
import Derived.Test.YtoacpebmhbkmbaaGreatDoorT6
import Derived.Test.YtoacpebmhbkmbaaGreatDoorT24
import Derived.Test.YtoacpebmhbkmbaaGreatDoorT22
import Derived.Test.YtoacpebmhbkmbaaGreatDoorT26
namespace Go.Proofs.YtoacpebmhbkmbaaGreatDoor
open Go Go.RowKit Go.Shelf
attribute [local go_sem] qUpon lUpon
attribute [local irreducible] wpO wpX wpQL
def pf {α : Type} (key : α → Int) (m x : α) : α := if key x < key m then x else m
def LeastIs {α : Type} (key : α → Int) (L : List α) (m : α) : Prop := ∃ a,L.head? = some a ∧ m = L.foldl (pf key) a
theorem pf_mem {α : Type} (key : α → Int) (L : List α) : ∀ (l : List α) (a : α),a ∈ L → (∀ x ∈ l,x ∈ L) → l.foldl (pf key) a ∈ L
 | [],a,h,_ => h
 | x :: l,a,h,hl => by
  rw [List.foldl_cons]
  refine pf_mem key L l _ ?_ (fun y hy => hl y (by simp [hy]))
  unfold pf
  split
  ·exact hl x (by simp)
  ·exact h
theorem LeastIs.mem {α : Type} {key : α → Int} {L : List α} {m : α} (h : LeastIs key L m) : m ∈ L := by
 obtain ⟨a,h1,rfl⟩ := h
 exact pf_mem key L L a (List.mem_of_mem_head? h1) (fun _ h => h)
theorem LeastIs.eq {k : Int → Nat} {L : List Int} {m : Int} (h : LeastIs (fun x => (k x : Int)) L m) : m = leastP k L := by
 obtain ⟨a,h1,rfl⟩ := h
 cases L with
 | nil => cases h1
 | cons b l =>
  injection h1 with h1
  rw [← h1]
  have h0 : pf (fun x => (k x : Int)) b b = b := by unfold pf; split <;> rfl
  rw [List.foldl_cons,h0]
  show _ = pickP k b l
  unfold pickP
  congr 1
  funext m x
  unfold pf
  by_cases h : k x < k m
  ·rw [if_pos h,if_pos (show ((k x : Nat) : Int) < ((k m : Nat) : Int) by omega)]
  ·rw [if_neg h,if_neg (show ¬ ((k x : Nat) : Int) < ((k m : Nat) : Int) by omega)]
theorem cmp_neg {a b : Int} : cmpI a b < 0 ↔ a < b := by
 unfold cmpI
 split
 ·simp [*]
 ·split <;> simp <;> omega
theorem sl1 {α : Type} {ev : α → Value} {w : World} {b off : Nat} {L : List α} (h : SlAt (fun x => [ev x]) 1 w (some ⟨b,off,none⟩) L) {i : Nat} (hi : i < L.length) : ∀ W,Ext w W → W.cell? ⟨b,off + i,none⟩ = some (ev L[i]) := by
 obtain ⟨b',off',e,hlt,hc⟩ := h (by rintro rfl; simp at hi)
 injection e with e
 injection e with e1 e2
 subst e1
 subst e2
 intro W hW
 have h1 := hc i L[i] (List.getElem?_eq_getElem hi) 0 (ev L[i]) rfl
 rw [show off + i * 1 + 0 = off + i by omega] at h1
 unfold World.cell? at h1 ⊢
 rw [hW.block b hlt]
 exact h1
theorem sl1_some {α : Type} {enc : α → List Value} {k : Nat} {w : World} {A : Option Addr} {L : List α} (h : SlAt enc k w A L) (hi : 0 < L.length) : ∃ b off,A = some ⟨b,off,none⟩ ∧ b < w.heap.size := by
 obtain ⟨b,off,e,hlt,_⟩ := h (by rintro rfl; simp at hi)
 exact ⟨b,off,e,hlt⟩
structure KeyF {α : Type} (ev : α → Value) (key : α → Int) (L : List α) (fd : Nat) (fb cb : Array Value) (w0 : World) : Prop where
 enters : ∀ args w,(callFunc fd args).run Tryz.prog w = .ok (.enter fd args) w
 step : ∀ W,Ext w0 W → ∀ x ∈ L, ∀ args,args = fb ++ (#[ev x] ++ cb) → Calls Tryz.prog fd args W fun e W' => e = .returned (.int .i64 (key x)) ∧ Ext W W'
theorem KeyF.ext {α : Type} {ev : α → Value} {key : α → Int} {L : List α} {fd : Nat} {fb cb : Array Value} {w0 w1 : World} (h : KeyF ev key L fd fb cb w0) (hx : Ext w0 w1) : KeyF ev key L fd fb cb w1 := ⟨h.enters,fun W hW => h.step W (hx.trans hW)⟩
set_option maxRecDepth 100000 in
set_option maxHeartbeats 16000000 in
theorem lesc_any {α : Type} (ev : α → Value) (key : α → Int) (L : List α) (fd : Nat) (fb cb : Array Value) (bx : Nat) (x y : α) (w : World) (hk : KeyF ev key L fd fb cb w) (hB : Blk w bx 101 #[.func (.func fd) fb cb]) (hx : x ∈ L) (hy : y ∈ L) :
  Calls Tryz.prog 110 #[ev x,ev y, .pointer (some ⟨bx,0,none⟩)] w fun e w' => e = .returned (.int .i64 (cmpI (key x) (key y))) ∧ Ext w w' := by
 have hen := hk.enters
 have hk' := hide hk
 have hB' := hide hB
 have hx' := hide hx
 have hy' := hide hy
 clear hk hB hx hy
 have hP := hide (Sp.new w)
 refine callsIn_wide.1 (callsIn_of_wp_marks (n := 0) Tryz.func110 rfl trivial (wpIn_wide.2 ?_))
 simp only [Tryz.ntmps110,List.size_toArray,List.length_cons,List.length_nil,Nat.reduceAdd,Nat.reduceSub,Array.replicate_succ,Array.replicate_zero,List.push_toArray,List.append_toArray,List.nil_append,List.cons_append]
 go_wp2_with fail
 have qb := Blk.cellsK (unhide hB') (S := []) (by simp) 0 (v := .func (.func fd) fb cb) rfl
 have hself := Keep.refl [] w
 refine wp_regionK (P := Tryz.prog) [] [0,1,2,3,4,5,6,7] [] 0 #[true,true,true,true,true,true,true,true] (by kernel_rfl) (by kernel_rfl) rfl (by rfl) ?_
 iterate 2
  refine ql_want (v := ?_) rfl (by rfl) (fun W hW => ?_) ?_
  rotate_left
  ·go_simp
   first | done | rfl
  go_frame
 refine ql_want (v := .int .i64 (key x)) rfl (by rfl) (fun W hW => ?_) ?_
 ·go_simp
  refine ((unhide hk').step W hW.ext x (unhide hx') _ (by apply Array.ext'; simp)).mono ?_
  rintro _ _ ⟨h1,h2⟩
  exact ⟨_,h1,rfl,h2⟩
 go_frame
 iterate 2
  refine ql_want (v := ?_) rfl (by rfl) (fun W hW => ?_) ?_
  rotate_left
  ·go_simp
   first | done | rfl
  go_frame
 refine ql_want (v := .int .i64 (key y)) rfl (by rfl) (fun W hW => ?_) ?_
 ·go_simp
  refine ((unhide hk').step W hW.ext y (unhide hy') _ (by apply Array.ext'; simp)).mono ?_
  rintro _ _ ⟨h1,h2⟩
  exact ⟨_,h1,rfl,h2⟩
 go_frame
 refine ql_want (v := .int .i64 (cmpI (key x) (key y))) rfl (by rfl) (fun W hW => ?_) ?_
 ·go_simp
  refine (cmp_any _ _ W).mono ?_
  rintro _ _ ⟨h1,h2⟩
  exact ⟨_,h1,rfl,by rw [h2]; exact Ext.refl _⟩
 go_frame
 iterate 1
  refine ql_want (v := ?_) rfl (by rfl) (fun W hW => ?_) ?_
  rotate_left
  ·go_simp
   first | done | rfl
  go_frame
 refine wpQL_nil (fun y1 hxq => ?_)
 replace hP : Hid (Sp w [] w [] [] [] y1) := hide ((unhide hP).ext hxq)
 clear hxq
 refine wpX_done (by kernel_rfl) ?_
 try go_frame
 clear qb hself
 go_wp2_with fail
 refine Sp.leaves0 ?_
 exact ⟨_,results_tmp (t := 5) rfl _ _ _,rfl,(unhide hP).extf⟩
set_option maxRecDepth 100000 in
set_option maxHeartbeats 16000000 in
theorem minf_any {α : Type} (ev : α → Value) (key : α → Int) (A : Option Addr) (L : List α) (n c fd : Nat) (fb cb : Array Value) (w : World) (hL : SlAt (fun x => [ev x]) 1 w A L) (hn : n = L.length) (h0 : 0 < n) (hl : n ≤ 100000)
  (hen : ∀ args w,(callFunc fd args).run Tryz.prog w = .ok (.enter fd args) w) (hc : ∀ W,Ext w W → ∀ x ∈ L, ∀ y ∈ L,Calls Tryz.prog fd (fb ++ (#[ev x,ev y] ++ cb)) W fun e W' => e = .returned (.int .i64 (cmpI (key x) (key y))) ∧ Ext W W') :
  Calls Tryz.prog 109 #[.slice A n c, .func (.func fd) fb cb] w fun e w' => ∃ m,LeastIs key L m ∧ e = .returned (ev m) ∧ Ext w w' := by
 obtain ⟨b,off,rfl,_⟩ := sl1_some hL (by omega)
 obtain ⟨a,ha⟩ : ∃ a,a = L[0]'(by omega) := ⟨_,rfl⟩
 have c0 := sl1 hL (i := 0) (by omega)
 rw [Nat.add_zero, ← ha] at c0
 have hah := hide (show L.head? = some a by rw [ha,List.head?_eq_getElem?,List.getElem?_eq_getElem])
 have ham := hide (show a ∈ L by rw [ha]; exact List.getElem_mem _)
 have h1 := hide (show (L.take 1).foldl (pf key) a = a by
  have hz : L.take 1 = [a] := by rw [ha]; have h := List.take_succ_eq_append_getElem (l := L) (i := 0) (by omega); simpa using h
  rw [hz,List.foldl_cons,List.foldl_nil]; unfold pf; split <;> rfl)
 have hL' := hide hL
 have hn' := hide hn
 have hl' := hide hl
 have hc' := hide hc
 have hz0 : ¬ (n : Int) < 1 := by omega
 have hz1 : (0 : Int) < (n : Int) := by omega
 have hz2 : 0 < n := h0
 have h0' := hide h0
 clear hL hn hl hc h0 ha
 have hP := hide (Sp.new w)
 refine callsIn_wide.1 (callsIn_of_wp_marks (n := 0) Tryz.func109 rfl trivial (wpIn_wide.2 ?_))
 simp only [Tryz.ntmps109,List.size_toArray,List.length_cons,List.length_nil,Nat.reduceAdd,Nat.reduceSub,Array.replicate_succ,Array.replicate_zero,List.push_toArray,List.append_toArray,List.nil_append,List.cons_append]
 try dsimp only
 repeat ((fail_if_success (with_reducible refine wp_reg (id := 1) ?_)); (first | go_values | go_skip | go_step | go_guarded | go_upon | go_in | go_back | fail))
 with_reducible refine wp_reg (id := 1) ?_
 iterate 3
  refine wpO_want rfl ?_
  go_simp
 refine wpO_done ?_
 try go_frame
 have hself := Ext.refl w
 try dsimp only
 repeat ((fail_if_success (with_reducible refine wp_reg (id := 3) ?_)); (first | go_values | go_skip | go_step | go_guarded | go_upon | go_in | go_back | fail))
 with_reducible refine wp_reg (id := 3) ?_
 iterate 4
  refine wpO_want rfl ?_
  go_simp
 refine wpO_done ?_
 try go_frame
 clear c0 hself hz0 hz1 hz2
 try dsimp only
 repeat ((fail_if_success (with_reducible refine wp_reg (id := 4) ?_)); (first | go_values | go_skip | go_step | go_guarded | go_upon | go_in | go_back | fail))
 with_reducible refine wp_reg (id := 4) ?_
 refine wpO_want rfl ?_
 go_simp
 refine wpO_done ?_
 try go_frame
 go_wp2_with fail
 obtain ⟨I0_2,hI0_20⟩ : ∃ I : Nat → Act → World → Prop,I = fun fi a' wr => ∃ (i : Nat), ∃ (m : α),a'.tmps.size = 33 ∧ a'.tmps.getD 0 undef = .slice (some ⟨b,off,none⟩) n c ∧ a'.tmps.getD 1 undef = .func (.func fd) fb cb ∧ a'.tmps.getD 5 undef = ev m ∧ a'.tmps.getD 6 undef = .int .i64 (i : Nat) ∧ a'.defers = [] ∧ 1 ≤ i ∧ i ≤ n ∧ m = (L.take i).foldl (pf key) a ∧ m ∈ L ∧ Sp w [] w [] [] [] wr ∧ fi = n - i := ⟨_,rfl⟩
 have hI0_2 := hide hI0_20
 clear hI0_20
 refine wp_loop_ix I0_2 (n - 1) ?_ ?_
 ·rw [unhide hI0_2]; exact ⟨1,a,rfl,rfl,rfl,rfl,rfl,rfl,Nat.le_refl _,unhide h0',(unhide h1).symm,unhide ham,unhide hP,rfl⟩
 ·rintro fi ⟨tm,dfs⟩ wr hrel
  rw [unhide hI0_2] at hrel
  obtain ⟨i,m,hsz,e0,e1,e5,e6,hdf,hi1,hin,hm,hmL,hPr,hfm⟩ := hrel
  obtain ⟨us,rfl⟩ : ∃ us : Nat → Value,tm = #[us 0,us 1,us 2,us 3,us 4,us 5,us 6,us 7,us 8,us 9,us 10,us 11,us 12,us 13,us 14,us 15,us 16,us 17,us 18,us 19,us 20,us 21,us 22,us 23,us 24,us 25,us 26,us 27,us 28,us 29,us 30,us 31,us 32] := ⟨fun i => tm.getD i undef,arr_fn hsz⟩
  have h0 : us 0 = .slice (some ⟨b,off,none⟩) n c := e0
  have h1 : us 1 = .func (.func fd) fb cb := e1
  have h5 : us 5 = ev m := e5
  have h6 : us 6 = .int .i64 (i : Nat) := e6
  have hdf2 : dfs = [] := hdf
  subst hdf2
  clear hdf hsz e0 e1 e5 e6
  simp only [h0,h1,h5,h6]
  clear h0 h1 h5 h6
  clear hP h1
  have hP := hide hPr
  have hm' := hide hm
  have hmL' := hide hmL
  have hfm' := hide hfm
  have hib := hide (And.intro hi1 hin)
  clear hPr hm hmL hfm hi1 hin
  by_cases hlt : i < n
  ·have hil : (i : Int) < (n : Int) := by omega
   have hk2 := hide hlt
   have hiL : i < L.length := by have := unhide hn'; omega
   have hkb : (i : Int) ≤ 100000 := by have := unhide hl'; omega
   have c0 := sl1 (unhide hL') hiL
   have hst := hide (show (L.take (i + 1)).foldl (pf key) a = pf key m L[i] by rw [List.take_succ_eq_append_getElem hiL,List.foldl_append, ← unhide hm']; rfl)
   have hxL := hide (show L[i] ∈ L from List.getElem_mem _)
   obtain ⟨x,hx⟩ : ∃ x,x = L[i] := ⟨_,rfl⟩
   rw [← hx] at c0 hst hxL
   have hc1 := hide c0
   clear c0
   have c0 := fun (W' : World) (hW : Ext wr W') => unhide hc1 W' ((unhide hP).extf.trans hW)
   clear hlt hx hm'
   have hself := Ext.refl wr
   try dsimp only
   repeat ((fail_if_success (with_reducible refine wp_reg (id := 5) ?_)); (first | go_values | go_skip | go_step | go_guarded | go_upon | go_in | go_back | fail))
   with_reducible refine wp_reg (id := 5) ?_
   iterate 4
    refine wpO_want rfl ?_
    go_simp
   refine wpO_done ?_
   try go_frame
   try dsimp only
   repeat ((fail_if_success (with_reducible refine wp_reg (id := 7) ?_)); (first | go_values | go_skip | go_step | go_guarded | go_upon | go_in | go_back | fail))
   with_reducible refine wp_reg (id := 7) ?_
   iterate 6
    refine wpO_want rfl ?_
    go_simp
   clear c0 hself
   refine wpO_want rfl ?_
   go_simp
   have hca := unhide hc' _ (unhide hP).extf x (unhide hxL) m (unhide hmL')
   obtain ⟨cv,hcv⟩ : ∃ cv,cv = cmpI (key x) (key m) := ⟨_,rfl⟩
   rw [← hcv] at hca
   have hcv' := hide (show cv < 0 ↔ key x < key m by rw [hcv]; exact cmp_neg)
   clear hcv
   refine (hca).mono ?_
   rintro _ y1 ⟨rfl,hxc⟩
   clear hca
   refine ⟨_,rfl, ?_⟩
   replace hP : Hid (Sp w [] w [] [] [] y1) := hide ((unhide hP).ext hxc)
   clear hxc
   by_cases hneg : cv < 0
   ·skip
    refine wpO_want rfl ?_
    go_simp
    refine wpO_done ?_
    try go_frame
    replace hneg := hide hneg
    have hself := Ext.refl y1
    have c1 := fun (W' : World) (hW : Ext y1 W') => unhide hc1 W' ((unhide hP).extf.trans hW)
    try dsimp only
    repeat ((fail_if_success (with_reducible refine wp_reg (id := 8) ?_)); (first | go_values | go_skip | go_step | go_guarded | go_upon | go_in | go_back | fail))
    with_reducible refine wp_reg (id := 8) ?_
    iterate 5
     refine wpO_want rfl ?_
     go_simp
    refine wpO_done ?_
    try go_frame
    clear c1 hself
    have hw1 : IntKind.i64.wrap ((i : Int) + 1) = (i : Int) + 1 := IntWalk.i64_in _ (by omega)
    go_wp2_with fail
    have h2 := unhide hk2
    refine ⟨n - (i + 1), ?_,by have := unhide hfm'; omega⟩
    rw [unhide hI0_2]
    exact ⟨i + 1,x,(by first | rfl | trivial),(by first | rfl | trivial),(by first | rfl | trivial),(by first | rfl | trivial),(by first | rfl | (show _ = Value.int _ _; go_num) | go_num),(by first | rfl | trivial),by omega,by omega,by rw [unhide hst]; unfold pf; rw [if_pos ((unhide hcv').1 (unhide hneg))],unhide hxL,unhide hP,rfl⟩
   ·skip
    refine wpO_want rfl ?_
    go_simp
    refine wpO_done ?_
    try go_frame
    have hng := hide hneg
    clear hneg
    have hw1 : IntKind.i64.wrap ((i : Int) + 1) = (i : Int) + 1 := IntWalk.i64_in _ (by omega)
    go_wp2_with fail
    have h2 := unhide hk2
    refine ⟨n - (i + 1), ?_,by have := unhide hfm'; omega⟩
    rw [unhide hI0_2]
    exact ⟨i + 1,m,(by first | rfl | trivial),(by first | rfl | trivial),(by first | rfl | trivial),(by first | rfl | trivial),(by first | rfl | (show _ = Value.int _ _; go_num) | go_num),(by first | rfl | trivial),by omega,by omega,by rw [unhide hst]; unfold pf; rw [if_neg (fun h => by have h3 := unhide hng; have h4 := (unhide hcv').2 h; omega)],unhide hmL',unhide hP,rfl⟩
  ·have hil : ¬ (i : Int) < (n : Int) := by omega
   obtain rfl : i = n := by have := unhide hib; omega
   clear hlt
   try dsimp only
   repeat ((fail_if_success (with_reducible refine wp_reg (id := 5) ?_)); (first | go_values | go_skip | go_step | go_guarded | go_upon | go_in | go_back | fail))
   with_reducible refine wp_reg (id := 5) ?_
   iterate 4
    refine wpO_want rfl ?_
    go_simp
   refine wpO_done ?_
   try go_frame
   go_wp2_with fail
   refine Sp.leaves0 ?_
   exact ⟨_,results_tmp (t := 4) rfl _ _ _,m,⟨a,unhide hah,by rw [unhide hm',List.take_of_length_le (by have := unhide hn'; omega)]⟩,rfl,(unhide hP).extf⟩
set_option maxRecDepth 100000 in
set_option maxHeartbeats 16000000 in
theorem least_any {α : Type} (ev : α → Value) (key : α → Int) (A : Option Addr) (L : List α) (n c fd : Nat) (fb cb : Array Value) (w : World) (hL : SlAt (fun x => [ev x]) 1 w A L) (hn : n = L.length) (h0 : 0 < n) (hl : n ≤ 100000) (hk : KeyF ev key L fd fb cb w) :
  Calls Tryz.prog 55 #[.slice A n c, .func (.func fd) fb cb] w fun e w' => ∃ m,LeastIs key L m ∧ e = .returned (ev m) ∧ Ext w w' := by
 have hL' := hide hL
 have hn' := hide hn
 have hl' := hide hl
 have h0' := hide h0
 have hk' := hide hk
 clear hL hn hl h0 hk
 have hP := hide (Sp.new w)
 refine callsIn_wide.1 (callsIn_of_wp_marks (n := 0) Tryz.func55 rfl trivial (wpIn_wide.2 ?_))
 simp only [Tryz.ntmps55,List.size_toArray,List.length_cons,List.length_nil,Nat.reduceAdd,Nat.reduceSub,Array.replicate_succ,Array.replicate_zero,List.push_toArray,List.append_toArray,List.nil_append,List.cons_append]
 try dsimp only
 repeat ((fail_if_success (with_reducible refine wp_reg (id := 0) ?_)); (first | go_values | go_skip | go_step | go_guarded | go_upon | go_in | go_back | fail))
 with_reducible refine wp_reg (id := 0) ?_
 refine (unhide hP).allocO 101 #[.func (.func fd) fb cb] rfl (run_box (v := .func (.func fd) fb cb) rfl rfl) ?_
 intro bx y1 hQ
 replace hP : Hid (Sp w [] w [] [(bx,101, #[.func (.func fd) fb cb])] [] y1) := hide hQ
 clear hQ
 refine wpO_want rfl ?_
 go_simp
 refine wpO_done ?_
 try go_frame
 try dsimp only
 repeat ((fail_if_success (with_reducible refine wp_reg (id := 1) ?_)); (first | go_values | go_skip | go_step | go_guarded | go_upon | go_in | go_back | fail))
 with_reducible refine wp_reg (id := 1) ?_
 iterate 2
  refine wpO_want rfl ?_
  go_simp
 refine wpO_want rfl ?_
 go_simp
 refine (minf_any ev key A L n c 110 #[] #[.pointer (some ⟨bx,0,none⟩)] _ ((unhide hL').ext (unhide hP).extf) (unhide hn') (unhide h0') (unhide hl') (enters_of Tryz.func110 (by kernel_rfl) rfl) (fun W hW x hx y hy => lesc_any ev key L fd fb cb bx x y W ((unhide hk').ext ((unhide hP).extf.trans hW)) (((unhide hP).get 0 rfl).ext hW) hx hy)).mono ?_
 rintro _ y2 ⟨m,hm,rfl,hxc⟩
 have hm' := hide hm
 refine ⟨_,rfl, ?_⟩
 replace hP : Hid (Sp w [] w [] [(bx,101, #[.func (.func fd) fb cb])] [] y2) := hide ((unhide hP).ext hxc)
 clear hxc hm
 refine wpO_want rfl ?_
 go_simp
 refine wpO_done ?_
 try go_frame
 go_wp2_with fail
 refine Sp.leaves0 ?_
 exact ⟨_,results_tmp (t := 4) rfl _ _ _,m,unhide hm',rfl,(unhide hP).extf⟩
set_option maxRecDepth 100000 in
set_option maxHeartbeats 16000000 in
theorem lesc2_any {α : Type} (ev : α → Value) (key : α → Int) (L : List α) (fd : Nat) (fb cb : Array Value) (bx : Nat) (x y : α) (w : World) (hk : KeyF ev key L fd fb cb w) (hB : Blk w bx 116 #[.func (.func fd) fb cb]) (hx : x ∈ L) (hy : y ∈ L) :
  Calls Tryz.prog 117 #[ev x,ev y, .pointer (some ⟨bx,0,none⟩)] w fun e w' => e = .returned (.int .i64 (cmpI (key x) (key y))) ∧ Ext w w' := by
 have hen := hk.enters
 have hk' := hide hk
 have hB' := hide hB
 have hx' := hide hx
 have hy' := hide hy
 clear hk hB hx hy
 have hP := hide (Sp.new w)
 refine callsIn_wide.1 (callsIn_of_wp_marks (n := 0) Tryz.func117 rfl trivial (wpIn_wide.2 ?_))
 simp only [Tryz.ntmps117,List.size_toArray,List.length_cons,List.length_nil,Nat.reduceAdd,Nat.reduceSub,Array.replicate_succ,Array.replicate_zero,List.push_toArray,List.append_toArray,List.nil_append,List.cons_append]
 go_wp2_with fail
 have qb := Blk.cellsK (unhide hB') (S := []) (by simp) 0 (v := .func (.func fd) fb cb) rfl
 have hself := Keep.refl [] w
 refine wp_regionK (P := Tryz.prog) [] [0,1,2,3,4,5,6,7] [] 0 #[true,true,true,true,true,true,true,true] (by kernel_rfl) (by kernel_rfl) rfl (by rfl) ?_
 iterate 2
  refine ql_want (v := ?_) rfl (by rfl) (fun W hW => ?_) ?_
  rotate_left
  ·go_simp
   first | done | rfl
  go_frame
 refine ql_want (v := .int .i64 (key x)) rfl (by rfl) (fun W hW => ?_) ?_
 ·go_simp
  refine ((unhide hk').step W hW.ext x (unhide hx') _ (by apply Array.ext'; simp)).mono ?_
  rintro _ _ ⟨h1,h2⟩
  exact ⟨_,h1,rfl,h2⟩
 go_frame
 iterate 2
  refine ql_want (v := ?_) rfl (by rfl) (fun W hW => ?_) ?_
  rotate_left
  ·go_simp
   first | done | rfl
  go_frame
 refine ql_want (v := .int .i64 (key y)) rfl (by rfl) (fun W hW => ?_) ?_
 ·go_simp
  refine ((unhide hk').step W hW.ext y (unhide hy') _ (by apply Array.ext'; simp)).mono ?_
  rintro _ _ ⟨h1,h2⟩
  exact ⟨_,h1,rfl,h2⟩
 go_frame
 refine ql_want (v := .int .i64 (cmpI (key x) (key y))) rfl (by rfl) (fun W hW => ?_) ?_
 ·go_simp
  refine (cmp_any _ _ W).mono ?_
  rintro _ _ ⟨h1,h2⟩
  exact ⟨_,h1,rfl,by rw [h2]; exact Ext.refl _⟩
 go_frame
 iterate 1
  refine ql_want (v := ?_) rfl (by rfl) (fun W hW => ?_) ?_
  rotate_left
  ·go_simp
   first | done | rfl
  go_frame
 refine wpQL_nil (fun y1 hxq => ?_)
 replace hP : Hid (Sp w [] w [] [] [] y1) := hide ((unhide hP).ext hxq)
 clear hxq
 refine wpX_done (by kernel_rfl) ?_
 try go_frame
 clear qb hself
 go_wp2_with fail
 refine Sp.leaves0 ?_
 exact ⟨_,results_tmp (t := 5) rfl _ _ _,rfl,(unhide hP).extf⟩
set_option maxRecDepth 100000 in
set_option maxHeartbeats 16000000 in
theorem minf2_any {α : Type} (ev : α → Value) (key : α → Int) (A : Option Addr) (L : List α) (n c fd : Nat) (fb cb : Array Value) (w : World) (hL : SlAt (fun x => [ev x]) 1 w A L) (hn : n = L.length) (h0 : 0 < n) (hl : n ≤ 100000)
  (hen : ∀ args w,(callFunc fd args).run Tryz.prog w = .ok (.enter fd args) w) (hc : ∀ W,Ext w W → ∀ x ∈ L, ∀ y ∈ L,Calls Tryz.prog fd (fb ++ (#[ev x,ev y] ++ cb)) W fun e W' => e = .returned (.int .i64 (cmpI (key x) (key y))) ∧ Ext W W') :
  Calls Tryz.prog 116 #[.slice A n c, .func (.func fd) fb cb] w fun e w' => ∃ m,LeastIs key L m ∧ e = .returned (ev m) ∧ Ext w w' := by
 obtain ⟨b,off,rfl,_⟩ := sl1_some hL (by omega)
 obtain ⟨a,ha⟩ : ∃ a,a = L[0]'(by omega) := ⟨_,rfl⟩
 have c0 := sl1 hL (i := 0) (by omega)
 rw [Nat.add_zero, ← ha] at c0
 have hah := hide (show L.head? = some a by rw [ha,List.head?_eq_getElem?,List.getElem?_eq_getElem])
 have ham := hide (show a ∈ L by rw [ha]; exact List.getElem_mem _)
 have h1 := hide (show (L.take 1).foldl (pf key) a = a by
  have hz : L.take 1 = [a] := by rw [ha]; have h := List.take_succ_eq_append_getElem (l := L) (i := 0) (by omega); simpa using h
  rw [hz,List.foldl_cons,List.foldl_nil]; unfold pf; split <;> rfl)
 have hL' := hide hL
 have hn' := hide hn
 have hl' := hide hl
 have hc' := hide hc
 have hz0 : ¬ (n : Int) < 1 := by omega
 have hz1 : (0 : Int) < (n : Int) := by omega
 have hz2 : 0 < n := h0
 have h0' := hide h0
 clear hL hn hl hc h0 ha
 have hP := hide (Sp.new w)
 refine callsIn_wide.1 (callsIn_of_wp_marks (n := 0) Tryz.func116 rfl trivial (wpIn_wide.2 ?_))
 simp only [Tryz.ntmps116,List.size_toArray,List.length_cons,List.length_nil,Nat.reduceAdd,Nat.reduceSub,Array.replicate_succ,Array.replicate_zero,List.push_toArray,List.append_toArray,List.nil_append,List.cons_append]
 try dsimp only
 repeat ((fail_if_success (with_reducible refine wp_reg (id := 1) ?_)); (first | go_values | go_skip | go_step | go_guarded | go_upon | go_in | go_back | fail))
 with_reducible refine wp_reg (id := 1) ?_
 iterate 3
  refine wpO_want rfl ?_
  go_simp
 refine wpO_done ?_
 try go_frame
 have hself := Ext.refl w
 try dsimp only
 repeat ((fail_if_success (with_reducible refine wp_reg (id := 3) ?_)); (first | go_values | go_skip | go_step | go_guarded | go_upon | go_in | go_back | fail))
 with_reducible refine wp_reg (id := 3) ?_
 iterate 4
  refine wpO_want rfl ?_
  go_simp
 refine wpO_done ?_
 try go_frame
 clear c0 hself hz0 hz1 hz2
 try dsimp only
 repeat ((fail_if_success (with_reducible refine wp_reg (id := 4) ?_)); (first | go_values | go_skip | go_step | go_guarded | go_upon | go_in | go_back | fail))
 with_reducible refine wp_reg (id := 4) ?_
 refine wpO_want rfl ?_
 go_simp
 refine wpO_done ?_
 try go_frame
 go_wp2_with fail
 obtain ⟨I0_2,hI0_20⟩ : ∃ I : Nat → Act → World → Prop,I = fun fi a' wr => ∃ (i : Nat), ∃ (m : α),a'.tmps.size = 33 ∧ a'.tmps.getD 0 undef = .slice (some ⟨b,off,none⟩) n c ∧ a'.tmps.getD 1 undef = .func (.func fd) fb cb ∧ a'.tmps.getD 5 undef = ev m ∧ a'.tmps.getD 6 undef = .int .i64 (i : Nat) ∧ a'.defers = [] ∧ 1 ≤ i ∧ i ≤ n ∧ m = (L.take i).foldl (pf key) a ∧ m ∈ L ∧ Sp w [] w [] [] [] wr ∧ fi = n - i := ⟨_,rfl⟩
 have hI0_2 := hide hI0_20
 clear hI0_20
 refine wp_loop_ix I0_2 (n - 1) ?_ ?_
 ·rw [unhide hI0_2]; exact ⟨1,a,rfl,rfl,rfl,rfl,rfl,rfl,Nat.le_refl _,unhide h0',(unhide h1).symm,unhide ham,unhide hP,rfl⟩
 ·rintro fi ⟨tm,dfs⟩ wr hrel
  rw [unhide hI0_2] at hrel
  obtain ⟨i,m,hsz,e0,e1,e5,e6,hdf,hi1,hin,hm,hmL,hPr,hfm⟩ := hrel
  obtain ⟨us,rfl⟩ : ∃ us : Nat → Value,tm = #[us 0,us 1,us 2,us 3,us 4,us 5,us 6,us 7,us 8,us 9,us 10,us 11,us 12,us 13,us 14,us 15,us 16,us 17,us 18,us 19,us 20,us 21,us 22,us 23,us 24,us 25,us 26,us 27,us 28,us 29,us 30,us 31,us 32] := ⟨fun i => tm.getD i undef,arr_fn hsz⟩
  have h0 : us 0 = .slice (some ⟨b,off,none⟩) n c := e0
  have h1 : us 1 = .func (.func fd) fb cb := e1
  have h5 : us 5 = ev m := e5
  have h6 : us 6 = .int .i64 (i : Nat) := e6
  have hdf2 : dfs = [] := hdf
  subst hdf2
  clear hdf hsz e0 e1 e5 e6
  simp only [h0,h1,h5,h6]
  clear h0 h1 h5 h6
  clear hP h1
  have hP := hide hPr
  have hm' := hide hm
  have hmL' := hide hmL
  have hfm' := hide hfm
  have hib := hide (And.intro hi1 hin)
  clear hPr hm hmL hfm hi1 hin
  by_cases hlt : i < n
  ·have hil : (i : Int) < (n : Int) := by omega
   have hk2 := hide hlt
   have hiL : i < L.length := by have := unhide hn'; omega
   have hkb : (i : Int) ≤ 100000 := by have := unhide hl'; omega
   have c0 := sl1 (unhide hL') hiL
   have hst := hide (show (L.take (i + 1)).foldl (pf key) a = pf key m L[i] by rw [List.take_succ_eq_append_getElem hiL,List.foldl_append, ← unhide hm']; rfl)
   have hxL := hide (show L[i] ∈ L from List.getElem_mem _)
   obtain ⟨x,hx⟩ : ∃ x,x = L[i] := ⟨_,rfl⟩
   rw [← hx] at c0 hst hxL
   have hc1 := hide c0
   clear c0
   have c0 := fun (W' : World) (hW : Ext wr W') => unhide hc1 W' ((unhide hP).extf.trans hW)
   clear hlt hx hm'
   have hself := Ext.refl wr
   try dsimp only
   repeat ((fail_if_success (with_reducible refine wp_reg (id := 5) ?_)); (first | go_values | go_skip | go_step | go_guarded | go_upon | go_in | go_back | fail))
   with_reducible refine wp_reg (id := 5) ?_
   iterate 4
    refine wpO_want rfl ?_
    go_simp
   refine wpO_done ?_
   try go_frame
   try dsimp only
   repeat ((fail_if_success (with_reducible refine wp_reg (id := 7) ?_)); (first | go_values | go_skip | go_step | go_guarded | go_upon | go_in | go_back | fail))
   with_reducible refine wp_reg (id := 7) ?_
   iterate 6
    refine wpO_want rfl ?_
    go_simp
   clear c0 hself
   refine wpO_want rfl ?_
   go_simp
   have hca := unhide hc' _ (unhide hP).extf x (unhide hxL) m (unhide hmL')
   obtain ⟨cv,hcv⟩ : ∃ cv,cv = cmpI (key x) (key m) := ⟨_,rfl⟩
   rw [← hcv] at hca
   have hcv' := hide (show cv < 0 ↔ key x < key m by rw [hcv]; exact cmp_neg)
   clear hcv
   refine (hca).mono ?_
   rintro _ y1 ⟨rfl,hxc⟩
   clear hca
   refine ⟨_,rfl, ?_⟩
   replace hP : Hid (Sp w [] w [] [] [] y1) := hide ((unhide hP).ext hxc)
   clear hxc
   by_cases hneg : cv < 0
   ·skip
    refine wpO_want rfl ?_
    go_simp
    refine wpO_done ?_
    try go_frame
    replace hneg := hide hneg
    have hself := Ext.refl y1
    have c1 := fun (W' : World) (hW : Ext y1 W') => unhide hc1 W' ((unhide hP).extf.trans hW)
    try dsimp only
    repeat ((fail_if_success (with_reducible refine wp_reg (id := 8) ?_)); (first | go_values | go_skip | go_step | go_guarded | go_upon | go_in | go_back | fail))
    with_reducible refine wp_reg (id := 8) ?_
    iterate 5
     refine wpO_want rfl ?_
     go_simp
    refine wpO_done ?_
    try go_frame
    clear c1 hself
    have hw1 : IntKind.i64.wrap ((i : Int) + 1) = (i : Int) + 1 := IntWalk.i64_in _ (by omega)
    go_wp2_with fail
    have h2 := unhide hk2
    refine ⟨n - (i + 1), ?_,by have := unhide hfm'; omega⟩
    rw [unhide hI0_2]
    exact ⟨i + 1,x,(by first | rfl | trivial),(by first | rfl | trivial),(by first | rfl | trivial),(by first | rfl | trivial),(by first | rfl | (show _ = Value.int _ _; go_num) | go_num),(by first | rfl | trivial),by omega,by omega,by rw [unhide hst]; unfold pf; rw [if_pos ((unhide hcv').1 (unhide hneg))],unhide hxL,unhide hP,rfl⟩
   ·skip
    refine wpO_want rfl ?_
    go_simp
    refine wpO_done ?_
    try go_frame
    have hng := hide hneg
    clear hneg
    have hw1 : IntKind.i64.wrap ((i : Int) + 1) = (i : Int) + 1 := IntWalk.i64_in _ (by omega)
    go_wp2_with fail
    have h2 := unhide hk2
    refine ⟨n - (i + 1), ?_,by have := unhide hfm'; omega⟩
    rw [unhide hI0_2]
    exact ⟨i + 1,m,(by first | rfl | trivial),(by first | rfl | trivial),(by first | rfl | trivial),(by first | rfl | trivial),(by first | rfl | (show _ = Value.int _ _; go_num) | go_num),(by first | rfl | trivial),by omega,by omega,by rw [unhide hst]; unfold pf; rw [if_neg (fun h => by have h3 := unhide hng; have h4 := (unhide hcv').2 h; omega)],unhide hmL',unhide hP,rfl⟩
  ·have hil : ¬ (i : Int) < (n : Int) := by omega
   obtain rfl : i = n := by have := unhide hib; omega
   clear hlt
   try dsimp only
   repeat ((fail_if_success (with_reducible refine wp_reg (id := 5) ?_)); (first | go_values | go_skip | go_step | go_guarded | go_upon | go_in | go_back | fail))
   with_reducible refine wp_reg (id := 5) ?_
   iterate 4
    refine wpO_want rfl ?_
    go_simp
   refine wpO_done ?_
   try go_frame
   go_wp2_with fail
   refine Sp.leaves0 ?_
   exact ⟨_,results_tmp (t := 4) rfl _ _ _,m,⟨a,unhide hah,by rw [unhide hm',List.take_of_length_le (by have := unhide hn'; omega)]⟩,rfl,(unhide hP).extf⟩
set_option maxRecDepth 100000 in
set_option maxHeartbeats 16000000 in
theorem least2_any {α : Type} (ev : α → Value) (key : α → Int) (A : Option Addr) (L : List α) (n c fd : Nat) (fb cb : Array Value) (w : World) (hL : SlAt (fun x => [ev x]) 1 w A L) (hn : n = L.length) (h0 : 0 < n) (hl : n ≤ 100000) (hk : KeyF ev key L fd fb cb w) :
  Calls Tryz.prog 67 #[.slice A n c, .func (.func fd) fb cb] w fun e w' => ∃ m,LeastIs key L m ∧ e = .returned (ev m) ∧ Ext w w' := by
 have hL' := hide hL
 have hn' := hide hn
 have hl' := hide hl
 have h0' := hide h0
 have hk' := hide hk
 clear hL hn hl h0 hk
 have hP := hide (Sp.new w)
 refine callsIn_wide.1 (callsIn_of_wp_marks (n := 0) Tryz.func67 rfl trivial (wpIn_wide.2 ?_))
 simp only [Tryz.ntmps67,List.size_toArray,List.length_cons,List.length_nil,Nat.reduceAdd,Nat.reduceSub,Array.replicate_succ,Array.replicate_zero,List.push_toArray,List.append_toArray,List.nil_append,List.cons_append]
 try dsimp only
 repeat ((fail_if_success (with_reducible refine wp_reg (id := 0) ?_)); (first | go_values | go_skip | go_step | go_guarded | go_upon | go_in | go_back | fail))
 with_reducible refine wp_reg (id := 0) ?_
 refine (unhide hP).allocO 116 #[.func (.func fd) fb cb] rfl (run_box (v := .func (.func fd) fb cb) rfl rfl) ?_
 intro bx y1 hQ
 replace hP : Hid (Sp w [] w [] [(bx,116, #[.func (.func fd) fb cb])] [] y1) := hide hQ
 clear hQ
 refine wpO_want rfl ?_
 go_simp
 refine wpO_done ?_
 try go_frame
 try dsimp only
 repeat ((fail_if_success (with_reducible refine wp_reg (id := 1) ?_)); (first | go_values | go_skip | go_step | go_guarded | go_upon | go_in | go_back | fail))
 with_reducible refine wp_reg (id := 1) ?_
 iterate 2
  refine wpO_want rfl ?_
  go_simp
 refine wpO_want rfl ?_
 go_simp
 refine (minf2_any ev key A L n c 117 #[] #[.pointer (some ⟨bx,0,none⟩)] _ ((unhide hL').ext (unhide hP).extf) (unhide hn') (unhide h0') (unhide hl') (enters_of Tryz.func117 (by kernel_rfl) rfl) (fun W hW x hx y hy => lesc2_any ev key L fd fb cb bx x y W ((unhide hk').ext ((unhide hP).extf.trans hW)) (((unhide hP).get 0 rfl).ext hW) hx hy)).mono ?_
 rintro _ y2 ⟨m,hm,rfl,hxc⟩
 have hm' := hide hm
 refine ⟨_,rfl, ?_⟩
 replace hP : Hid (Sp w [] w [] [(bx,116, #[.func (.func fd) fb cb])] [] y2) := hide ((unhide hP).ext hxc)
 clear hxc hm
 refine wpO_want rfl ?_
 go_simp
 refine wpO_done ?_
 try go_frame
 go_wp2_with fail
 refine Sp.leaves0 ?_
 exact ⟨_,results_tmp (t := 4) rfl _ _ _,m,unhide hm',rfl,(unhide hP).extf⟩
end Go.Proofs.YtoacpebmhbkmbaaGreatDoor
