/- Parts of a proof, laid together. Each part says its own conditions. -/
import Derived.Test.YtbpeemhfjgcnaaaGreatC20
import Derived.Test.YtbpeemhfjgcnaaaGreatC21
import Derived.Test.YtbpeemhfjgcnaaaGreatC16
namespace Go.Proofs.YtbpeemhfjgcnaaaGreat
open Go Go.RowKit Go.Shelf
attribute [local go_sem] qUpon lUpon
attribute [local irreducible] wpO wpX wpQL
theorem isX_isE {u v : Int} {q : (Int × Int) × Thing} (h : q.1.1 < q.1.2) : isX (min u v) (max u v) q = isE u v q := by
 rw [Bool.eq_iff_iff,isE_iff h]
 unfold isX
 simp only [Bool.and_eq_true,beq_iff_eq]
 constructor
 ·intro h; exact Prod.ext h.1 h.2
 ·intro h; rw [h]; exact ⟨rfl,rfl⟩
theorem posX_find {u v : Int} {E : List ((Int × Int) × Thing)} (hlo : ∀ e ∈ E,e.1.1 < e.1.2) : (posI (isX (min u v) (max u v)) E = -1 ∧ betE E u v = none) ∨ ∃ k, ∃ h : k < E.length,posI (isX (min u v) (max u v)) E = k ∧ betE E u v = some E[k].2 := by
 have hc : E.findIdx? (isX (min u v) (max u v)) = E.findIdx? (isE u v) := by
  induction E with
  | nil => rfl
  | cons x r ih => rw [List.findIdx?_cons,List.findIdx?_cons,isX_isE (hlo x (by simp)),ih (fun y hy => hlo y (by simp [hy]))]
 unfold posI betE
 rw [hc]
 cases h : E.findIdx? (isE u v) with
 | none =>
  left
  rw [List.findIdx?_eq_none_iff] at h
  refine ⟨rfl, ?_⟩
  rw [List.find?_eq_none.2 (fun x hx => by simp [h x hx])]
  rfl
 | some i =>
  obtain ⟨h1,h2,h3⟩ := List.findIdx?_eq_some_iff_getElem.1 h
  refine .inr ⟨i,h1,rfl, ?_⟩
  rw [List.find?_eq_some_iff_getElem.2 ⟨h2,i,h1,rfl,fun j hj => by have := h3 j hj; simpa using this⟩]
  rfl
def LabB (V : List (Int × Thing)) (E : List ((Int × Int) × Thing)) : Prop := (∀ p ∈ V,0 ≤ p.2.1 ∧ p.2.1 ≤ 255) ∧ ∀ e ∈ E,0 ≤ e.2.1 ∧ e.2.1 ≤ 255
def sideV : Option Thing → Value
 | none => .agg #[.int .i64 0, .int .i64 0, .int .i64 0]
 | some t => .agg #[.int .i64 1, .int .i64 t.1, .int .i64 t.2]
theorem Sp.buildO {P : Program} {wf : World} {T0 : List Nat} {w W : World} {ds : List Deferred} {L : List Cl} {Rs : List Rw} {l : List Oper} {K : Act → World → Prop} {r : List Oper} {o : Oper} {a : Act} (h : Sp wf T0 w ds L Rs W) (n : Nat) (t : TypeId) (cs : Array Value) (hw : Region.wanted o (yielded l.toArray a.tmps) = true) (hrun : (execOp a.eval o).run P W = .ok (.value (.slice (some ⟨W.heap.size,0,none⟩) n n)) (W.alloc (.cells cs t)))
  (hk : ∀ b W',Sp wf T0 w ds (L ++ [(b,t,cs)]) Rs W' → wpO P l K r (a.put o.dst (.slice (some ⟨b,0,none⟩) n n)) W') : wpO P l K (o :: r) a W := wpO_val hw hrun (hk _ _ (h.alloc t cs))
theorem wrap_byte {l : Int} (h : 0 ≤ l ∧ l ≤ 255) : IntKind.i64.wrap l = l := by
 obtain ⟨h1,h2⟩ := h
 first
 | (rw [IntKind.wrap_i64]; unfold wrap64; omega)
 | (rw [IntKind.wrap_i64]; omega)
theorem load_Sd (W : World) (b : Nat) (p q r : Value) (h : Blk W b 138 #[p,q,r]) : (loadVar 138 ⟨b,0,none⟩).run Tryz.prog W = .ok (.agg #[p,q,r]) W := by
 have h0 := h.cell 0
 have h1 := h.cell 1
 have h2 := h.cell 2
 simp at h0 h1 h2
 simp [loadVar,h0,h1,h2,go_sem]
set_option maxRecDepth 100000 in
set_option maxHeartbeats 16000000 in
theorem side_miss (g bv be : Nat) (V : List (Int × Thing)) (E : List ((Int × Int) × Thing)) (u v : Int) (w : World) (hg : IsG w g bv be V E) (hpos : posI (isX (min u v) (max u v)) E = -1) :
  Calls Tryz.prog 78 #[.pointer (some ⟨g,0,none⟩), .int .i64 u, .int .i64 v] w fun e w' => e = .returned (sideV none) ∧ Ext w w' := by
 have n2 := hg.nE
 have hg' := hide hg
 have hpos' := hide hpos
 clear hpos hg
 have hP := hide (Sp.new w)
 refine callsIn_wide.1 (callsIn_of_wp_marks (n := 0) Tryz.func78 rfl trivial (wpIn_wide.2 ?_))
 simp only [Tryz.ntmps78,List.size_toArray,List.length_cons,List.length_nil,Nat.reduceAdd,Nat.reduceSub,Array.replicate_succ,Array.replicate_zero,List.push_toArray,List.append_toArray,List.nil_append,List.cons_append]
 try dsimp only
 repeat ((fail_if_success (with_reducible refine wp_reg (id := 0) ?_)); (first | go_values | go_skip | go_step | go_guarded | go_upon | go_in | go_back | fail))
 with_reducible refine wp_reg (id := 0) ?_
 refine (unhide hP).allocO 138 #[.int .i64 0, .int .i64 0, .int .i64 0] rfl (by go_simp) ?_
 intro r6 y1 hQ
 replace hP : Hid (Sp w [] w [] [(r6,138, #[.int .i64 0, .int .i64 0, .int .i64 0])] [] y1) := hide hQ
 clear hQ
 refine wpO_done ?_
 try go_frame
 try dsimp only
 repeat ((fail_if_success (with_reducible refine wp_reg (id := 1) ?_)); (first | go_values | go_skip | go_step | go_guarded | go_upon | go_in | go_back | fail))
 with_reducible refine wp_reg (id := 1) ?_
 iterate 4
  refine wpO_want rfl ?_
  go_simp
 obtain ⟨V',E',h1,hV,hE,hi⟩ := (unhide hg').ext (unhide hP).extf
 have hca := gedge_miss g bv be V' E' E u v y1 h1 hE hi.se (by rw [← hE.length_eq]; exact n2) (unhide hpos')
 clear h1 hV hE hi
 refine (hca).mono ?_
 rintro _ y2 ⟨rfl,hxc⟩
 refine ⟨_,rfl, ?_⟩
 replace hP : Hid (Sp w [] w [] [(r6,138, #[.int .i64 0, .int .i64 0, .int .i64 0])] [] y2) := hide ((unhide hP).ext hxc)
 clear hxc
 clear hca
 generalize htu0 : Value.tuple _ = tu
 have htu := hide htu0
 clear htu0
 refine wpO_val rfl (run_move rfl rfl) ?_
 go_frame
 refine wpO_val rfl (run_extract (i := 0) (v := .agg #[.int .i64 0, .int .i64 0, .int .u8 0, .int .i64 0]) rfl (unhide htu).symm rfl) ?_
 go_frame
 refine wpO_val rfl (run_extract (i := 1) (v := .int .i64 0) rfl (unhide htu).symm rfl) ?_
 go_frame
 refine wpO_val rfl (run_extract (i := 2) (v := .bool false) rfl (unhide htu).symm rfl) ?_
 go_frame
 refine (unhide hP).allocO 84 #[.int .i64 0, .int .i64 0, .int .u8 0, .int .i64 0] rfl (by go_simp) ?_
 intro r7 y3 hQ
 replace hP : Hid (Sp w [] w [] [(r6,138, #[.int .i64 0, .int .i64 0, .int .i64 0]),(r7,84, #[.int .i64 0, .int .i64 0, .int .u8 0, .int .i64 0])] [] y3) := hide hQ
 clear hQ
 refine (unhide hP).setO 1 #[.int .i64 0, .int .i64 0, .int .u8 0, .int .i64 0] rfl rfl (fun hb => run_store_row (v := .agg #[.int .i64 0, .int .i64 0, .int .u8 0, .int .i64 0]) rfl (by rfl) (by rfl) (by simp [go_sem]) hb rfl (fun u hu => by simp [Value.cells] at hu; rcases hu with rfl | rfl | rfl | rfl <;> rfl)) ?_
 intro y4 hQ
 replace hP : Hid (Sp w [] w [] [(r6,138, #[.int .i64 0, .int .i64 0, .int .i64 0]),(r7,84, #[.int .i64 0, .int .i64 0, .int .u8 0, .int .i64 0])] [] y4) := hide hQ
 clear hQ
 iterate 2
  refine wpO_want rfl ?_
  go_simp
 refine wpO_done ?_
 try go_frame
 try dsimp only
 repeat ((fail_if_success (with_reducible refine wp_reg (id := 2) ?_)); (first | go_values | go_skip | go_step | go_guarded | go_upon | go_in | go_back | fail))
 with_reducible refine wp_reg (id := 2) ?_
 iterate 2
  refine wpO_want rfl ?_
  go_simp
 refine wpO_done ?_
 try go_frame
 clear htu
 try dsimp only
 repeat ((fail_if_success (with_reducible refine wp_reg (id := 3) ?_)); (first | go_values | go_skip | go_step | go_guarded | go_upon | go_in | go_back | fail))
 with_reducible refine wp_reg (id := 3) ?_
 refine wpO_want rfl ?_
 go_simp
 refine (unhide hP).setO 0 #[.int .i64 0, .int .i64 0, .int .i64 0] rfl rfl (fun hb => run_store_row (v := .agg #[.int .i64 0, .int .i64 0, .int .i64 0]) rfl (by rfl) (by rfl) (by simp [go_sem]) hb rfl (fun u hu => by simp [Value.cells] at hu; rcases hu with rfl | rfl | rfl <;> rfl)) ?_
 intro y5 hQ
 replace hP : Hid (Sp w [] w [] [(r6,138, #[.int .i64 0, .int .i64 0, .int .i64 0]),(r7,84, #[.int .i64 0, .int .i64 0, .int .u8 0, .int .i64 0])] [] y5) := hide hQ
 clear hQ
 refine wpO_done ?_
 try go_frame
 go_wp2_with fail
 refine Sp.leaves0 ?_
 exact ⟨_,ret_cell1 rfl rfl (load_Sd _ _ _ _ _ ((unhide hP).get 0 rfl)),rfl,(unhide hP).extf⟩
set_option maxRecDepth 100000 in
set_option maxHeartbeats 16000000 in
theorem side_hit (g bv be : Nat) (V : List (Int × Thing)) (E : List ((Int × Int) × Thing)) (u v : Int) (w : World) (hg : IsG w g bv be V E) (k : Nat) (l t : Int) (hlb : Hid (0 ≤ l ∧ l ≤ 255)) (hq : ∃ h : k < E.length,posI (isX (min u v) (max u v)) E = k ∧ E[k].2 = (l,t)) :
  Calls Tryz.prog 78 #[.pointer (some ⟨g,0,none⟩), .int .i64 u, .int .i64 v] w fun e w' => e = .returned (.agg #[.int .i64 1, .int .i64 l, .int .i64 t]) ∧ Ext w w' := by
 have n2 := hg.nE
 have hg' := hide hg
 have hq' := hide hq
 clear hq hg
 have hP := hide (Sp.new w)
 refine callsIn_wide.1 (callsIn_of_wp_marks (n := 0) Tryz.func78 rfl trivial (wpIn_wide.2 ?_))
 simp only [Tryz.ntmps78,List.size_toArray,List.length_cons,List.length_nil,Nat.reduceAdd,Nat.reduceSub,Array.replicate_succ,Array.replicate_zero,List.push_toArray,List.append_toArray,List.nil_append,List.cons_append]
 try dsimp only
 repeat ((fail_if_success (with_reducible refine wp_reg (id := 0) ?_)); (first | go_values | go_skip | go_step | go_guarded | go_upon | go_in | go_back | fail))
 with_reducible refine wp_reg (id := 0) ?_
 refine (unhide hP).allocO 138 #[.int .i64 0, .int .i64 0, .int .i64 0] rfl (by go_simp) ?_
 intro r6 y1 hQ
 replace hP : Hid (Sp w [] w [] [(r6,138, #[.int .i64 0, .int .i64 0, .int .i64 0])] [] y1) := hide hQ
 clear hQ
 refine wpO_done ?_
 try go_frame
 try dsimp only
 repeat ((fail_if_success (with_reducible refine wp_reg (id := 1) ?_)); (first | go_values | go_skip | go_step | go_guarded | go_upon | go_in | go_back | fail))
 with_reducible refine wp_reg (id := 1) ?_
 iterate 4
  refine wpO_want rfl ?_
  go_simp
 obtain ⟨hk,hpos,ht⟩ := unhide hq'
 obtain ⟨V',E',h1,hV,hE,hi⟩ := (unhide hg').ext (unhide hP).extf
 have hca := gedge_hit g bv be V' E' E u v y1 h1 hE hi.se (by rw [← hE.length_eq]; exact n2) k hk hpos
 rw [ht] at hca
 clear h1 hV hE hi ht hpos
 generalize E[k].1.1 = ea at hca
 generalize E[k].1.2 = eb at hca
 refine (hca).mono ?_
 rintro _ y2 ⟨rfl,hxc⟩
 refine ⟨_,rfl, ?_⟩
 replace hP : Hid (Sp w [] w [] [(r6,138, #[.int .i64 0, .int .i64 0, .int .i64 0])] [] y2) := hide ((unhide hP).ext hxc)
 clear hxc
 clear hca
 generalize htu0 : Value.tuple _ = tu
 have htu := hide htu0
 clear htu0
 refine wpO_val rfl (run_move rfl rfl) ?_
 go_frame
 refine wpO_val rfl (run_extract (i := 0) (v := .agg #[.int .i64 ea, .int .i64 eb, .int .u8 l, .int .i64 t]) rfl (unhide htu).symm rfl) ?_
 go_frame
 refine wpO_val rfl (run_extract (i := 1) (v := .int .i64 k) rfl (unhide htu).symm rfl) ?_
 go_frame
 refine wpO_val rfl (run_extract (i := 2) (v := .bool true) rfl (unhide htu).symm rfl) ?_
 go_frame
 refine (unhide hP).allocO 84 #[.int .i64 0, .int .i64 0, .int .u8 0, .int .i64 0] rfl (by go_simp) ?_
 intro r7 y3 hQ
 replace hP : Hid (Sp w [] w [] [(r6,138, #[.int .i64 0, .int .i64 0, .int .i64 0]),(r7,84, #[.int .i64 0, .int .i64 0, .int .u8 0, .int .i64 0])] [] y3) := hide hQ
 clear hQ
 refine (unhide hP).setO 1 #[.int .i64 ea, .int .i64 eb, .int .u8 l, .int .i64 t] rfl rfl (fun hb => run_store_row (v := .agg #[.int .i64 ea, .int .i64 eb, .int .u8 l, .int .i64 t]) rfl (by rfl) (by rfl) (by simp [go_sem]) hb rfl (fun u hu => by simp [Value.cells] at hu; rcases hu with rfl | rfl | rfl | rfl <;> rfl)) ?_
 intro y4 hQ
 replace hP : Hid (Sp w [] w [] [(r6,138, #[.int .i64 0, .int .i64 0, .int .i64 0]),(r7,84, #[.int .i64 ea, .int .i64 eb, .int .u8 l, .int .i64 t])] [] y4) := hide hQ
 clear hQ
 iterate 2
  refine wpO_want rfl ?_
  go_simp
 refine wpO_done ?_
 try go_frame
 try dsimp only
 repeat ((fail_if_success (with_reducible refine wp_reg (id := 2) ?_)); (first | go_values | go_skip | go_step | go_guarded | go_upon | go_in | go_back | fail))
 with_reducible refine wp_reg (id := 2) ?_
 iterate 2
  refine wpO_want rfl ?_
  go_simp
 refine wpO_done ?_
 try go_frame
 clear htu
 obtain ⟨hl0,hl1⟩ := unhide hlb
 try dsimp only
 repeat ((fail_if_success (with_reducible refine wp_reg (id := 4) ?_)); (first | go_values | go_skip | go_step | go_guarded | go_upon | go_in | go_back | fail))
 with_reducible refine wp_reg (id := 4) ?_
 have q2 := (unhide hP).cell 1 2 (v := .int .u8 l) rfl rfl
 have q3 := (unhide hP).cell 1 3 (v := .int .i64 t) rfl rfl
 have hself := Ext.refl y4
 iterate 6
  refine wpO_want rfl ?_
  go_simp
 simp only [wrap_byte (unhide hlb)]
 clear q2 q3 hself
 refine (unhide hP).setO 0 #[.int .i64 1, .int .i64 l, .int .i64 t] rfl rfl (fun hb => run_store_row (v := .agg #[.int .i64 1, .int .i64 l, .int .i64 t]) rfl (by rfl) (by rfl) (by simp [go_sem]) hb rfl (fun u hu => by simp [Value.cells] at hu; rcases hu with rfl | rfl | rfl <;> rfl)) ?_
 intro y5 hQ
 replace hP : Hid (Sp w [] w [] [(r6,138, #[.int .i64 1, .int .i64 l, .int .i64 t]),(r7,84, #[.int .i64 ea, .int .i64 eb, .int .u8 l, .int .i64 t])] [] y5) := hide hQ
 clear hQ
 refine wpO_done ?_
 try go_frame
 go_wp2_with fail
 refine Sp.leaves0 ?_
 exact ⟨_,ret_cell1 rfl rfl (load_Sd _ _ _ _ _ ((unhide hP).get 0 rfl)),rfl,(unhide hP).extf⟩
theorem side_any (g bv be : Nat) (V : List (Int × Thing)) (E : List ((Int × Int) × Thing)) (u v : Int) (w : World) (hg : IsG w g bv be V E) (hb : LabB V E) : Calls Tryz.prog 78 #[.pointer (some ⟨g,0,none⟩), .int .i64 u, .int .i64 v] w fun e w' => e = .returned (sideV (betE E u v)) ∧ Ext w w' := by
 rcases posX_find (u := u) (v := v) hg.inv.lo with ⟨h1,h2⟩ | ⟨k,hk,h1,h2⟩
 ·rw [h2]
  exact side_miss g bv be V E u v w hg h1
 ·rw [h2]
  exact side_hit g bv be V E u v w hg k _ _ (hide (hb.2 _ (List.getElem_mem hk))) ⟨hk,h1,rfl⟩
set_option maxRecDepth 100000 in
set_option maxHeartbeats 16000000 in
theorem list_none (w : World) :
  Calls Tryz.prog 79 #[sideV none] w fun e w' => ∃ A c,e = .returned (.slice A 1 c) ∧ SlAt encI 1 w' A [0] ∧ Ext w w' := by
 have hP := hide (Sp.new w)
 refine callsIn_wide.1 (callsIn_of_wp_marks (n := 0) Tryz.func79 rfl trivial (wpIn_wide.2 ?_))
 simp only [Tryz.ntmps79,List.size_toArray,List.length_cons,List.length_nil,Nat.reduceAdd,Nat.reduceSub,Array.replicate_succ,Array.replicate_zero,List.push_toArray,List.append_toArray,List.nil_append,List.cons_append]
 try dsimp only
 repeat ((fail_if_success (with_reducible refine wp_reg (id := 0) ?_)); (first | go_values | go_skip | go_step | go_guarded | go_upon | go_in | go_back | fail))
 with_reducible refine wp_reg (id := 0) ?_
 refine (unhide hP).allocO 138 #[.int .i64 0, .int .i64 0, .int .i64 0] rfl (run_box (v := .agg #[.int .i64 0, .int .i64 0, .int .i64 0]) rfl rfl) ?_
 intro r1 y1 hQ
 replace hP : Hid (Sp w [] w [] [(r1,138, #[.int .i64 0, .int .i64 0, .int .i64 0])] [] y1) := hide hQ
 clear hQ
 refine wpO_want rfl ?_
 go_simp
 refine wpO_done ?_
 try go_frame
 have q0 := (unhide hP).cell 0 0 (v := .int .i64 0) rfl rfl
 have hself := Ext.refl y1
 try dsimp only
 repeat ((fail_if_success (with_reducible refine wp_reg (id := 1) ?_)); (first | go_values | go_skip | go_step | go_guarded | go_upon | go_in | go_back | fail))
 with_reducible refine wp_reg (id := 1) ?_
 iterate 3
  refine wpO_want rfl ?_
  go_simp
 refine wpO_done ?_
 try go_frame
 try dsimp only
 repeat ((fail_if_success (with_reducible refine wp_reg (id := 2) ?_)); (first | go_values | go_skip | go_step | go_guarded | go_upon | go_in | go_back | fail))
 with_reducible refine wp_reg (id := 2) ?_
 clear q0 hself
 refine (unhide hP).buildO 1 3 #[.int .i64 0] rfl (by go_simp) ?_
 intro r9 y2 hQ
 replace hP : Hid (Sp w [] w [] [(r1,138, #[.int .i64 0, .int .i64 0, .int .i64 0]),(r9,3, #[.int .i64 0])] [] y2) := hide hQ
 clear hQ
 try go_frame
 refine wpO_want rfl ?_
 go_simp
 refine wpO_done ?_
 try go_frame
 go_wp2_with fail
 refine Sp.leaves0 ?_
 exact ⟨_,results_tmp rfl _ _ _,_,_,rfl,slat_blk [0] ((unhide hP).get 1 rfl) rfl (fun _ => rfl) (by simp),(unhide hP).extf⟩
set_option maxRecDepth 100000 in
set_option maxHeartbeats 16000000 in
theorem list_some (l t : Int) (w : World) :
  Calls Tryz.prog 79 #[.agg #[.int .i64 1, .int .i64 l, .int .i64 t]] w fun e w' => ∃ A c,e = .returned (.slice A 3 c) ∧ SlAt encI 1 w' A [1,l,t] ∧ Ext w w' := by
 have hP := hide (Sp.new w)
 refine callsIn_wide.1 (callsIn_of_wp_marks (n := 0) Tryz.func79 rfl trivial (wpIn_wide.2 ?_))
 simp only [Tryz.ntmps79,List.size_toArray,List.length_cons,List.length_nil,Nat.reduceAdd,Nat.reduceSub,Array.replicate_succ,Array.replicate_zero,List.push_toArray,List.append_toArray,List.nil_append,List.cons_append]
 try dsimp only
 repeat ((fail_if_success (with_reducible refine wp_reg (id := 0) ?_)); (first | go_values | go_skip | go_step | go_guarded | go_upon | go_in | go_back | fail))
 with_reducible refine wp_reg (id := 0) ?_
 refine (unhide hP).allocO 138 #[.int .i64 1, .int .i64 l, .int .i64 t] rfl (run_box (v := .agg #[.int .i64 1, .int .i64 l, .int .i64 t]) rfl rfl) ?_
 intro r1 y1 hQ
 replace hP : Hid (Sp w [] w [] [(r1,138, #[.int .i64 1, .int .i64 l, .int .i64 t])] [] y1) := hide hQ
 clear hQ
 refine wpO_want rfl ?_
 go_simp
 refine wpO_done ?_
 try go_frame
 have q0 := (unhide hP).cell 0 0 (v := .int .i64 1) rfl rfl
 have hself := Ext.refl y1
 have q1 := (unhide hP).cell 0 1 (v := .int .i64 l) rfl rfl
 have q2 := (unhide hP).cell 0 2 (v := .int .i64 t) rfl rfl
 try dsimp only
 repeat ((fail_if_success (with_reducible refine wp_reg (id := 1) ?_)); (first | go_values | go_skip | go_step | go_guarded | go_upon | go_in | go_back | fail))
 with_reducible refine wp_reg (id := 1) ?_
 iterate 3
  refine wpO_want rfl ?_
  go_simp
 refine wpO_done ?_
 try go_frame
 try dsimp only
 repeat ((fail_if_success (with_reducible refine wp_reg (id := 3) ?_)); (first | go_values | go_skip | go_step | go_guarded | go_upon | go_in | go_back | fail))
 with_reducible refine wp_reg (id := 3) ?_
 iterate 4
  refine wpO_want rfl ?_
  go_simp
 clear q0 hself q1 q2
 refine (unhide hP).buildO 3 3 #[.int .i64 1, .int .i64 l, .int .i64 t] rfl (by go_simp) ?_
 intro r9 y2 hQ
 replace hP : Hid (Sp w [] w [] [(r1,138, #[.int .i64 1, .int .i64 l, .int .i64 t]),(r9,3, #[.int .i64 1, .int .i64 l, .int .i64 t])] [] y2) := hide hQ
 clear hQ
 try go_frame
 refine wpO_want rfl ?_
 go_simp
 refine wpO_done ?_
 try go_frame
 go_wp2_with fail
 refine Sp.leaves0 ?_
 exact ⟨_,results_tmp rfl _ _ _,_,_,rfl,slat_blk [1,l,t] ((unhide hP).get 1 rfl) rfl (fun _ => rfl) (by simp),(unhide hP).extf⟩
theorem list_any (o : Option Thing) (w : World) : Calls Tryz.prog 79 #[sideV o] w fun e w' => ∃ A c,e = .returned (.slice A (pairO o).length c) ∧ SlAt encI 1 w' A (pairO o) ∧ Ext w w' := by
 cases o with
 | none => exact list_none w
 | some t => exact list_some t.1 t.2 w
end Go.Proofs.YtbpeemhfjgcnaaaGreat
namespace Go.Proofs.YtbpeemhfjgcnaaaGreat
open Go Go.RowKit
attribute [local go_sem] qUpon lUpon
def stD (s : GS) (d : Ed) : GS := (nxV d.1 d.2.1 d.2.2.1 d.2.2.2.1 d.2.2.2.2 s.1 s.2,nxE d.1 d.2.1 d.2.2.1 d.2.2.2.1 d.2.2.2.2 s.1 s.2)
def mdS (L : List Ed) : GS := (L.take 60).foldl stD ([],[])
theorem fold_inv : ∀ (L : List Ed) (s : GS),GInv s.1 s.2 → GInv (L.foldl stD s).1 (L.foldl stD s).2
 | [],_,h => h
 | d :: L,s,h => fold_inv L (stD s d) (h.next _ _ _ _ _)
theorem mdS_inv (L : List Ed) : GInv (mdS L).1 (mdS L).2 := fold_inv _ _ GInv.nil
structure MdRel (w wr : World) (gw : Nat) (S : GS) (A B : Option Addr) (cA cB : Nat) : Prop where
 blk : Blk wr gw 28 #[.slice A S.1.length cA, .slice B S.2.length cB]
 sv : SlAt encV 3 wr A S.1
 se : SlAt encE 4 wr B S.2
 ext : Ext w wr
 lo : w.heap.size ≤ gw
theorem MdRel.go {w wr wr' : World} {gw : Nat} {S : GS} {A B : Option Addr} {cA cB : Nat} (h : MdRel w wr gw S A B cA cB) (k : Ext wr wr') : MdRel w wr' gw S A B cA cB :=
 ⟨h.blk.ext k,h.sv.ext k,h.se.ext k,h.ext.trans k,h.lo⟩
set_option maxRecDepth 100000 in
set_option maxHeartbeats 4000000 in
theorem made_any (A : Option Addr) (L : List Ed) (cL : Nat) (w : World) (hL : SlAt encD 5 w A L) :
  Calls Tryz.prog 38 #[.slice A L.length cL] w fun e w' => ∃ A1 cA B1 cB,e = .returned (.agg #[.slice A1 (mdS L).1.length cA, .slice B1 (mdS L).2.length cB]) ∧ SlAt encV 3 w' A1 (mdS L).1 ∧ SlAt encE 4 w' B1 (mdS L).2 ∧ Ext w w' := by
 have hL' := hide hL
 clear hL
 have hb0 := (Blk.new w 28 #[.slice none 0 0, .slice none 0 0]).ext (ext_self1 _ (.cells #[.slice none 0 0, .slice none 0 0] 28))
 have hb1 := Blk.new (w.alloc (.cells #[.slice none 0 0, .slice none 0 0] 28)) 28 #[.slice none 0 0, .slice none 0 0]
 simp only [World.size_alloc] at hb1
 have hb0' := hide hb0
 have hb1' := hide hb1
 clear hb0 hb1
 go_enter Tryz.func38,Tryz.ntmps38
 go_wp2_with fail
 refine wp_abs (fun W => Blk W w.heap.size 28 #[.slice none 0 0, .slice none 0 0] ∧ MdRel w W (w.heap.size + 1) ([],[]) none none 0 0) ⟨unhide hb0',unhide hb1',SlAt.nil,SlAt.nil,ext_self2 _ _ _,by omega⟩ ?_
 rintro w2 ⟨hq0,hr0⟩
 have hr0' := hide hr0
 have hq0' := hide hq0
 have hne' := hide (show w.heap.size ≠ w.heap.size + 1 by omega)
 clear hr0 hq0 hb0' hb1'
 generalize hr1 : w.heap.size + 1 = gw at *
 generalize hr2 : w.heap.size = ge at *
 have hge' := hide hr2
 clear hr1 hr2
 go_loopw [4] (fun i wr => ∃ (k : Nat) (A1 B1 : Option Addr) (cA cB : Nat),k ≤ L.length ∧ k ≤ 60 ∧ i = .int .i64 k ∧ Blk wr ge 28 #[.slice none 0 0, .slice none 0 0] ∧ MdRel w wr gw ((L.take k).foldl stD ([],[])) A1 B1 cA cB) (fun i _ => L.length - (intOf i).toNat)
 case atStart => exact ⟨0,none,none,0,0,Nat.zero_le _,by omega,rfl,unhide hq0',unhide hr0'⟩
 case round =>
  obtain ⟨k,A1,B1,cA,cB,hk,hk60,rfl,hq,hr⟩ := hrel
  have hr' := hide hr
  have hq' := hide hq
  clear hr hr0' hq hq0'
  by_cases hlt : k < L.length
  ·by_cases h60 : k < 60
   ·obtain ⟨b,off,rfl,c0,c1,c2,c3,c4⟩ := atD ((unhide hL').ext (unhide hr').ext) hlt
    have hst := hide (fold_step (st := stD) (s := (([],[]) : GS)) hlt)
    have hin := hide (fold_inv (L.take k) ([],[]) GInv.nil)
    generalize (L.take k).foldl stD ([],[]) = S at *
    obtain ⟨V,E⟩ := S
    generalize hy : L[k] = y at c0 c1 c2 c3 c4 hst
    obtain ⟨op,u,v,lab,wt⟩ := y
    have hB0 := (unhide hr').blk
    have q0 := hB0.cells 0 (v := .slice A1 V.length cA) rfl
    have q1 := hB0.cells 1 (v := .slice B1 E.length cB) rfl
    clear hy hB0
    simp only at c0 c1 c2 c3 c4
    go_wp2_with fail
    refine wp_region_ext (P := Tryz.prog) [0,1,2,3,4] [5,6,7,8,9] 5 #[true,true,true,true,true,false,false,false,false,false] (by kernel_rfl) (by kernel_rfl) rfl (by rfl) ?_
    iterate 5
     refine ql_want (v := ?_) rfl (by rfl) (fun W hW => ?_) ?_
     rotate_left
     ·go_simp
      first | done | rfl
     go_frame
    refine wpQL_nil (fun w3 hx3 => ?_)
    clear q0 q1 c0 c1 c2 c3 c4
    refine lx_one (i := 5) (by kernel_rfl) rfl (by rfl) #[true,true,true,true,true,true,false,false,false,false] (by rfl) ?_
    go_simp
    have hr3 := (unhide hr').go hx3
    have hq3 := (unhide hq').ext hx3
    refine (do_any A1 B1 V E cA cB op u v lab wt _ hr3.sv hr3.se (Nat.le_trans (unhide hin).nv (by omega)) (Nat.le_trans (unhide hin).ne (by omega))).mono ?_
    rintro e w4 ⟨A2,cA2,B2,cB2,rfl,hs4,he4,hx4⟩
    refine ⟨_,rfl,fun w5 hx5 => ?_⟩
    have hx35 := hx4.trans hx5
    have hb5 := hr3.blk.ext hx35
    have hc5 := hide (GCls.refl hb5)
    have hG5 : ∃ A n c B m d,Blk w5 gw 28 #[.slice A n c, .slice B m d] := ⟨_,_,_,_,_,_,hb5⟩
    have hG5' := hide hG5
    have hq5 := hide (hq3.ext hx35)
    have hs5 := hide (hs4.ext hx5)
    have he5 := hide (he4.ext hx5)
    have hxw5 := hide (hr3.ext.trans hx35)
    have hlo := hide hr3.lo
    clear hr3 hq3 hs4 he4 hx4 hx5 hx35 hb5 hG5 hx3 hr' hq'
    refine lx_re (GCls gw w5) [6,7,8] 1 4 #[true,true,true,true,true,true,false,false,false,false] #[true,true,true,true,true,true,true,true,true,false] (by kernel_rfl) (by kernel_rfl) rfl (by rfl) Ext.refl (fun _ _ _ => Ext.trans) (fun _ _ h k => h.ext k) (unhide hc5) ?_
    iterate 3
     refine ql_want (v := ?_) rfl (by rfl) (fun W hW => ?_) ?_
     rotate_left
     ·go_simp
      first | done | rfl
     go_frame
    refine wpQL_nil (fun w6 hc6 => ?_)
    have hc6' := hide hc6
    obtain ⟨hk6,A0,n0,k0,B0,m0,d0,hb6⟩ := hc6
    have s0 := hb6.cell 0
    have s1 := hb6.cell 1
    have f0 := hb6.frozen 0
    have f1 := hb6.frozen 1
    have hb6' := hide hb6
    simp at s0 s1
    clear hk6 hb6
    refine lx_one (i := 9) (by kernel_rfl) rfl (by rfl) #[true,true,true,true,true,true,true,true,true,true] (by rfl) ?_
    go_simp
    clear s0 s1 f0 f1
    have hc7 := (unhide hc6').set A2 B2 (nxV op u v lab wt V E).length cA2 (nxE op u v lab wt V E).length cB2
    have hb7 := (unhide hb6').set2 (p' := .slice A2 (nxV op u v lab wt V E).length cA2) (q' := .slice B2 (nxE op u v lab wt V E).length cB2)
    generalize ((w6.setCell ⟨gw,0,none⟩ (.slice A2 (nxV op u v lab wt V E).length cA2)).setCell ⟨gw,1,none⟩ (.slice B2 (nxE op u v lab wt V E).length cB2)) = w7 at *
    first | refine ⟨hc7, ?_⟩ | skip
    intro w8 hx8
    have hrel := MdRel.go (w := w) (S := stD (V,E) (op,(u,(v,(lab,wt))))) ⟨hb7,(unhide hs5).cls hc7 (unhide hG5') encV_ns encV0,(unhide he5).cls hc7 (unhide hG5') encE_ns encE0,(unhide hxw5).of_new hc7.1 (by have := unhide hlo; simpa using this),unhide hlo⟩ hx8
    have hq8 := hide (((unhide hq5).keep hc7.1 (by simpa using unhide hne')).ext hx8)
    have hrel' := hide hrel
    clear hrel hc7 hb7 hc6' hb6' hx8 hc5 hG5' hq5 hs5 he5 hxw5 hlo
    refine wpX_done (by kernel_rfl) ?_
    try go_frame
    go_wp2_with fail
    go_roundw
    case rel => exact ⟨k + 1,A2,B2,cA2,cB2,by omega,by omega,by go_num,unhide hq8,by rw [unhide hst]; exact unhide hrel'⟩
    case measure => simp [intOf]; omega
   ·have hS : L.take k = L.take 60 := by rw [show k = 60 by omega]
    rw [hS] at hr'
    clear hS
    generalize hmd : (L.take 60).foldl stD ([],[]) = S at *
    have hmd' : mdS L = S := hmd
    have hmd'' := hide hmd'
    clear hmd hmd'
    have hB0 := (unhide hr').blk
    have q0 := hB0.cell 0
    have q1 := hB0.cell 1
    have s0 := (unhide hq').cell 0
    have s1 := (unhide hq').cell 1
    have f0 := (unhide hq').frozen 0
    have f1 := (unhide hq').frozen 1
    clear hB0
    simp at q0 q1 s0 s1
    go_wp2_with fail
    refine bodyPost_ret (ret_cell1 rfl rfl (load_G2 wr ge _ _ _ _ s0 s1)) rfl ?_
    rw [unhide hmd'']
    have hk := Keep.set2 wr ge (.slice A1 S.1.length cA) (.slice B1 S.2.length cB)
    exact ⟨A1,cA,B1,cB,rfl,(unhide hr').sv.keep_G (unhide hq') ⟨_,_,_,rfl⟩ ⟨_,_,_,rfl⟩ encV_ns encV0 hk,(unhide hr').se.keep_G (unhide hq') ⟨_,_,_,rfl⟩ ⟨_,_,_,rfl⟩ encE_ns encE0 hk,(unhide hr').ext.of_new hk (by have := unhide hge'; simp; omega)⟩
  ·have hS : L.take k = L.take 60 := by rw [List.take_of_length_le (by omega),List.take_of_length_le (by omega)]
   rw [hS] at hr'
   clear hS
   generalize hmd : (L.take 60).foldl stD ([],[]) = S at *
   have hmd' : mdS L = S := hmd
   have hmd'' := hide hmd'
   clear hmd hmd'
   have hB0 := (unhide hr').blk
   have q0 := hB0.cell 0
   have q1 := hB0.cell 1
   have s0 := (unhide hq').cell 0
   have s1 := (unhide hq').cell 1
   have f0 := (unhide hq').frozen 0
   have f1 := (unhide hq').frozen 1
   clear hB0
   simp at q0 q1 s0 s1
   go_wp2_with fail
   refine bodyPost_ret (ret_cell1 rfl rfl (load_G2 wr ge _ _ _ _ s0 s1)) rfl ?_
   rw [unhide hmd'']
   have hk := Keep.set2 wr ge (.slice A1 S.1.length cA) (.slice B1 S.2.length cB)
   exact ⟨A1,cA,B1,cB,rfl,(unhide hr').sv.keep_G (unhide hq') ⟨_,_,_,rfl⟩ ⟨_,_,_,rfl⟩ encV_ns encV0 hk,(unhide hr').se.keep_G (unhide hq') ⟨_,_,_,rfl⟩ ⟨_,_,_,rfl⟩ encE_ns encE0 hk,(unhide hr').ext.of_new hk (by have := unhide hge'; simp; omega)⟩
end Go.Proofs.YtbpeemhfjgcnaaaGreat
