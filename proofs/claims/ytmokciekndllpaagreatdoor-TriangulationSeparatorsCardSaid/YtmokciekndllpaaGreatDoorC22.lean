/- Parts of a proof, laid together. Each part says its own conditions. -/
import Derived.Test.YtmokciekndllpaaGreatDoorC21
namespace Go.Proofs.YtmokciekndllpaaGreatDoor
open Go Go.RowKit Go.Shelf
attribute [local go_sem] qUpon lUpon
attribute [local irreducible] wpO wpX wpQL
def hpL (bw : Nat) (A : Option Addr) (n c : Nat) : List Cl := [(bw,211, #[.slice A n c])]
def hpR (A : Option Addr) (n c : Nat) (hs : List (Int × Int)) : List Rw := [(214,2, .slice A n c,n,hs.flatMap encP2)]
def HpJ (bw : Nat) (hs : List (Int × Int)) (T : List Nat) (W : World) : Prop := ∃ (A : Option Addr) (n c : Nat),n = hs.length ∧ St 0 (hpL bw A n c) (hpR A n c hs) W ∧ T = stT (hpL bw A n c) (hpR A n c hs)
def HpPost (bw : Nat) (hs' : List (Int × Int)) (T : List Nat) (v : Value) (w : World) (e : Ending) (w' : World) : Prop := e = .returned v ∧ ∃ T',HpJ bw hs' T' w' ∧ Keep T w w' ∧ ∀ x ∈ T',x ∈ T ∨ w.heap.size ≤ x
theorem HpPost.mk {bw : Nat} {hs' : List (Int × Int)} {T : List Nat} {v : Value} {w wf W : World} {A : Option Addr} {n c : Nat} (hP : Sp wf T w [] (hpL bw A n c) (hpR A n c hs') W) (h1 : n = hs'.length) : HpPost bw hs' T v w (.returned v) W := ⟨rfl,_,⟨A,n,c,h1,hP.st.down,rfl⟩,hP.keep,fun x hx => hP.tin x hx⟩
theorem own_cap9 {w : World} {base T k n c : Nat} {A : Option Addr} {xs : List Value} (h : w.ownsRow base T k (.slice A n c) n xs) : n ≤ c := by
 obtain ⟨_,h | ⟨g,cap',cur,hv,_,_,hm,_⟩⟩ := h
 ·omega
 ·injection hv with _ _ hv2
  omega
theorem infoW : (Tryz.prog.info? 214).map (fun i => (i.zero.map (·.cells.size),i.size,i.bytes)) = some (some 2,2,16) := by kernel_rfl
theorem run_buildW {ρ : Operand → Value} {o : Oper} {x : Operand} {w : World} {p q : Value} (ho : o.op = .buildSlice 211 1 #[(0,x)]) (hx : ρ x = .agg #[p,q]) : (execOp ρ o).run Tryz.prog w = .ok (.value (.slice (some ⟨w.heap.size,0,none⟩) 1 1)) (w.alloc (.cells #[p,q] 214)) := by
 unfold execOp
 simp only [ho]
 simp [go_sem,hx]
theorem assertW (v : Value) (w : World) : (Instr.typeAssert (.iface 214 v) 20 214 true).run Tryz.prog w = .ok (.tuple #[v, .bool true]) w := by kernel_rfl
theorem run_assertW {ρ : Operand → Value} {o : Oper} {x : Operand} {w : World} {v : Value} (ho : o.op = .typeAssert x 20 214 true) (hx : ρ x = .iface 214 v) : (execOp ρ o).run Tryz.prog w = .ok (.value (.tuple #[v, .bool true])) w := by
 unfold execOp
 simp only [ho,hx]
 rw [Sem.run_bind,assertW]
 rfl
set_option maxRecDepth 100000 in
set_option maxHeartbeats 16000000 in
theorem wpush_any (bw : Nat) (hs : List (Int × Int)) (x y : Int) (T : List Nat) (w : World) (A : Option Addr) (n c : Nat) (hn : n = hs.length) (hst : St 0 (hpL bw A n c) (hpR A n c hs) w) (hT : T = stT (hpL bw A n c) (hpR A n c hs)) (hb : hs.length ≤ 2000000) :
  Calls Tryz.prog 235 #[.pointer (some ⟨bw,0,none⟩), .iface 214 (.agg #[.int .i64 x, .int .i64 y])] w (HpPost bw (hs ++ [(x,y)]) T (.tuple #[]) w) := by
 have hnb : n ≤ 2000000 := by omega
 have hP0 := Sp.bare hst
 rw [← hT] at hP0
 have hP := hide hP0
 unfold hpL hpR at hP
 have hn' := hide hn
 have hnb' := hide hnb
 obtain ⟨wf,hwf⟩ : ∃ wf,wf = bare w := ⟨_,rfl⟩
 rw [← hwf] at hP
 obtain ⟨S,hS0⟩ : ∃ S,S = (Value.slice A n c).ownBlock.toList := ⟨_,rfl⟩
 have hS := hide hS0
 have hbS := hide (show bw ∉ S from fun hm => by
  rw [hS0] at hm
  exact (unhide hP).ne_row 0 0 rfl rfl (by decide) hm)
 clear hn hst hT hP0 hb hnb hwf hS0
 refine callsIn_wide.1 (callsIn_of_wp_marks (n := 0) Tryz.func235 rfl trivial (wpIn_wide.2 ?_))
 simp only [Tryz.ntmps235,List.size_toArray,List.length_cons,List.length_nil,Nat.reduceAdd,Nat.reduceSub,Array.replicate_succ,Array.replicate_zero,List.push_toArray,List.append_toArray,List.nil_append,List.cons_append]
 try dsimp only
 repeat ((fail_if_success (with_reducible refine wp_reg (id := 0) ?_)); (first | go_values | go_skip | go_step | go_guarded | go_upon | go_in | go_back | fail))
 with_reducible refine wp_reg (id := 0) ?_
 refine wpO_want rfl ?_
 go_simp
 refine wpO_val rfl (run_assertW (v := .agg #[.int .i64 x, .int .i64 y]) rfl rfl) ?_
 go_frame
 generalize htu0 : Value.tuple _ = tu
 have htu := hide htu0
 clear htu0
 refine wpO_val rfl (run_move rfl rfl) ?_
 go_frame
 refine wpO_val rfl (run_extract (i := 0) (v := .agg #[.int .i64 x, .int .i64 y]) rfl (unhide htu).symm rfl) ?_
 go_frame
 refine wpO_val rfl (run_extract (i := 1) (v := .bool true) rfl (unhide htu).symm rfl) ?_
 go_frame
 refine (unhide hP).allocO 214 #[.int .i64 0, .int .i64 0] rfl (by go_simp) ?_
 intro r4 y1 hQ
 replace hP : Hid (Sp wf T w [] [(bw,211, #[.slice A n c]),(r4,214, #[.int .i64 0, .int .i64 0])] [(214,2, .slice A n c,n,hs.flatMap encP2)] y1) := hide hQ
 clear hQ
 refine (unhide hP).setO 1 #[.int .i64 x, .int .i64 y] rfl rfl (fun hb => run_store_row (v := .agg #[.int .i64 x, .int .i64 y]) rfl (by rfl) (by rfl) (by simp [go_sem]) hb rfl (fun u hu => by simp [Value.cells] at hu; rcases hu with rfl | rfl <;> rfl)) ?_
 intro y2 hQ
 replace hP : Hid (Sp wf T w [] [(bw,211, #[.slice A n c]),(r4,214, #[.int .i64 x, .int .i64 y])] [(214,2, .slice A n c,n,hs.flatMap encP2)] y2) := hide hQ
 clear hQ
 refine wpO_want rfl ?_
 go_simp
 refine wpO_done ?_
 try go_frame
 clear htu
 try dsimp only
 repeat ((fail_if_success (with_reducible refine wp_reg (id := 1) ?_)); (first | go_values | go_skip | go_step | go_guarded | go_upon | go_in | go_back | fail))
 with_reducible refine wp_reg (id := 1) ?_
 refine wpO_want rfl ?_
 go_simp
 refine wpO_done ?_
 try go_frame
 go_wp2_with fail
 have h4S := hide (show r4 ∉ S from fun hm => by
  rw [unhide hS] at hm
  exact (unhide hP).ne_row 1 0 rfl rfl (by decide) hm)
 refine wp_regionK (P := Tryz.prog) S [0,1,2,3,4] [8] 4 #[true,true,true,true,true,false,false,false,false] (by kernel_rfl) (by kernel_rfl) rfl (by rfl) ?_
 iterate 3
  refine ql_want (v := ?_) rfl (by rfl) (fun W hW => ?_) ?_
  rotate_left
  ·go_simp
   first | done | rfl
  go_frame
 refine ql_want (v := .slice A n c) rfl (by rfl) (fun W hW => qUpon_ofX (load_V rfl rfl (by simp [go_sem]) ((unhide hP).cellK 0 0 rfl rfl (unhide hbS) W hW))) ?_
 go_frame
 refine ql_want (v := .agg #[.int .i64 x, .int .i64 y]) rfl (by rfl) (fun W hW => qUpon_ofX (load_Way rfl rfl ((unhide hP).cellK 1 0 rfl rfl (unhide h4S) W hW) ((unhide hP).cellK 1 1 rfl rfl (unhide h4S) W hW))) ?_
 go_frame
 refine wpQL_nil (fun y3 hxq => ?_)
 have hK := hide (hxq.keep S)
 replace hP : Hid (Sp wf T w [] [(bw,211, #[.slice A n c]),(r4,214, #[.int .i64 x, .int .i64 y])] [(214,2, .slice A n c,n,hs.flatMap encP2)] y3) := hide ((unhide hP).ext hxq)
 clear hxq
 refine lx_one (i := 5) (by kernel_rfl) rfl (by rfl) #[true,true,true,true,true,true,false,false,false] (by rfl) ?_
 refine (unhide hP).allocL (unhide hK) (v := fun b => .slice (some ⟨b,0,none⟩) 1 1) 214 #[.int .i64 x, .int .i64 y] ?_ ?_
 ·exact run_buildW rfl rfl
 intro bs y4 hQ hK2 hg2
 replace hP : Hid (Sp wf T w [] [(bw,211, #[.slice A n c]),(r4,214, #[.int .i64 x, .int .i64 y]),(bs,214, #[.int .i64 x, .int .i64 y])] [(214,2, .slice A n c,n,hs.flatMap encP2)] y4) := hide hQ
 replace hK := hide hK2
 have hge_bs := hide hg2
 clear hQ hK2 hg2
 try go_frame
 refine lx_one (i := 6) (by kernel_rfl) rfl (by rfl) #[true,true,true,true,true,true,true,false,false] (by rfl) ?_
 refine (unhide hP).ap1L (unhide hK) (enc := encP2) (T := 214) (ST := 211) 0 (v := .slice A n c) (m := n) (xs := hs) rfl (fun z hz => .inl (by rw [unhide hS]; exact hz)) infoW Tryz.underlying211 one_encP2 (fun _ => rfl) (by decide) (by decide) rfl (x,y) rfl rfl ((unhide hP).get 2 rfl) (by have := unhide hnb'; omega) ?_
 intro A9 cA9 y5 hQ hK2 hg2
 replace hP : Hid (Sp wf T w [] [(bw,211, #[.slice A n c]),(r4,214, #[.int .i64 x, .int .i64 y]),(bs,214, #[.int .i64 x, .int .i64 y])] [(214,2, .slice A9 (n + 1) cA9,n + 1,(hs ++ [(x,y)]).flatMap encP2)] y5) := hide hQ
 replace hK := hide hK2
 have hge_A9 := hide hg2
 clear hQ hK2 hg2
 try go_frame
 replace hP : Hid (Sp wf T w [] [(bw,211, #[.slice A n c]),(r4,214, #[.int .i64 x, .int .i64 y])] [(214,2, .slice A9 (n + 1) cA9,n + 1,(hs ++ [(x,y)]).flatMap encP2)] y5) := hide ((unhide hP).sub (List.sublist_append_left _ ([(bs,214, #[.int .i64 x, .int .i64 y])] : List Cl)) (List.Sublist.refl _))
 replace hP : Hid (Sp wf T w [] [(bw,211, #[.slice A n c])] [(214,2, .slice A9 (n + 1) cA9,n + 1,(hs ++ [(x,y)]).flatMap encP2)] y5) := hide ((unhide hP).sub (List.sublist_append_left _ ([(r4,214, #[.int .i64 x, .int .i64 y])] : List Cl)) (List.Sublist.refl _))
 refine lx_one (i := 7) (by kernel_rfl) rfl (by rfl) #[true,true,true,true,true,true,true,true,false] (by rfl) ?_
 refine (unhide hP).valL (unhide hK) (v := .pointer (some ⟨bw,0,none⟩)) ?_ ?_
 ·go_simp
 intro y6 hQ hK2
 replace hP : Hid (Sp wf T w [] [(bw,211, #[.slice A n c])] [(214,2, .slice A9 (n + 1) cA9,n + 1,(hs ++ [(x,y)]).flatMap encP2)] y6) := hide hQ
 replace hK := hide hK2
 clear hQ hK2
 try go_frame
 refine (unhide hP).setX 0 #[.slice A9 (n + 1) cA9] rfl (j := 8) (by kernel_rfl) rfl (by rfl) #[true,true,true,true,true,true,true,true,true] (by rfl) rfl (fun hb => run_store_row (v := .slice A9 (n + 1) cA9) rfl (by rfl) (by rfl) (by simp [go_sem]) hb rfl (by simp [Value.cells,Value.oneCell'])) ?_
 intro y7 hQ
 replace hP : Hid (Sp wf T w [] [(bw,211, #[.slice A9 (n + 1) cA9])] [(214,2, .slice A9 (n + 1) cA9,n + 1,(hs ++ [(x,y)]).flatMap encP2)] y7) := hide hQ
 clear hQ hK
 try go_frame
 refine wpX_done (by kernel_rfl) ?_
 try go_frame
 go_wp2_with fail
 refine Sp.leaves0 ?_
 refine ⟨_,results_none rfl _ _ _, ?_⟩
 exact HpPost.mk (unhide hP) (by rw [List.length_append, ← unhide hn']; rfl)
set_option maxRecDepth 100000 in
set_option maxHeartbeats 16000000 in
theorem wpop_any (bw : Nat) (hs : List (Int × Int)) (x y : Int) (T : List Nat) (w : World) (A : Option Addr) (n c : Nat) (hn : n = (hs ++ [(x,y)]).length) (hst : St 0 (hpL bw A n c) (hpR A n c (hs ++ [(x,y)])) w) (hT : T = stT (hpL bw A n c) (hpR A n c (hs ++ [(x,y)]))) (hb : (hs ++ [(x,y)]).length ≤ 2000000) :
  Calls Tryz.prog 234 #[.pointer (some ⟨bw,0,none⟩)] w (HpPost bw hs T (.iface 214 (.agg #[.int .i64 x, .int .i64 y])) w) := by
 have hnb : n ≤ 2000000 := by omega
 have hP0 := Sp.bare hst
 rw [← hT] at hP0
 have hP := hide hP0
 unfold hpL hpR at hP
 have hn' := hide hn
 have hnb' := hide hnb
 obtain ⟨wf,hwf⟩ : ∃ wf,wf = bare w := ⟨_,rfl⟩
 rw [← hwf] at hP
 obtain ⟨S,hS0⟩ : ∃ S,S = (Value.slice A n c).ownBlock.toList := ⟨_,rfl⟩
 have hS := hide hS0
 have hbS := hide (show bw ∉ S from fun hm => by
  rw [hS0] at hm
  exact (unhide hP).ne_row 0 0 rfl rfl (by decide) hm)
 clear hn hst hT hP0 hb hnb hwf hS0
 have hm0 := unhide hn'
 rw [List.length_append,List.length_singleton] at hm0
 obtain ⟨m,hm⟩ : ∃ m,m = hs.length := ⟨_,rfl⟩
 rw [← hm] at hm0
 have hm' := hide hm
 have hw1 : IntKind.i64.wrap ((n : Int) - 1) = (m : Int) := by
  have := unhide hnb'
  rw [IntWalk.i64_in _ (by omega)]
  omega
 have hmI : (m : Int) < (n : Int) := by omega
 have hmN := hide hm0
 have hmB : (m : Int) ≤ 2000000 := by have := unhide hnb'; omega
 have hcap := hide (own_cap9 ((unhide hP).row 0 rfl))
 obtain ⟨b8,rfl⟩ := own_some2 ((unhide hP).row 0 rfl) (by omega)
 have hrow := (unhide hP).row 0 rfl
 rw [unhide hn'] at hrow
 obtain ⟨b,off,he,t0,t1⟩ := atQ (own_at (enc := encP2) (A := some ⟨b8,0,none⟩) (c := c) hrow (fun _ => rfl)) (i := m) (by rw [List.length_append, ← hm]; simp)
 simp only [Option.some.injEq,Addr.mk.injEq,and_true] at he
 obtain ⟨rfl,rfl⟩ := he
 have hg : (hs ++ [(x,y)])[m]'(by rw [List.length_append, ← hm]; simp) = (x,y) := by simp [hm]
 rw [hg] at t0 t1
 dsimp only at t0 t1
 rw [Nat.zero_add] at t0 t1
 have t0' := hide t0
 have t1' := hide t1
 clear hg hrow hm0 hm hS hbS t0 t1
 refine callsIn_wide.1 (callsIn_of_wp_marks (n := 0) Tryz.func234 rfl trivial (wpIn_wide.2 ?_))
 simp only [Tryz.ntmps234,List.size_toArray,List.length_cons,List.length_nil,Nat.reduceAdd,Nat.reduceSub,Array.replicate_succ,Array.replicate_zero,List.push_toArray,List.append_toArray,List.nil_append,List.cons_append]
 try dsimp only
 repeat ((fail_if_success (with_reducible refine wp_reg (id := 0) ?_)); (first | go_values | go_skip | go_step | go_guarded | go_upon | go_in | go_back | fail))
 with_reducible refine wp_reg (id := 0) ?_
 refine wpO_want rfl ?_
 go_simp
 refine wpO_done ?_
 try go_frame
 try dsimp only
 repeat ((fail_if_success (with_reducible refine wp_reg (id := 1) ?_)); (first | go_values | go_skip | go_step | go_guarded | go_upon | go_in | go_back | fail))
 with_reducible refine wp_reg (id := 1) ?_
 iterate 2
  refine wpO_want rfl ?_
  go_simp
 refine wpO_val rfl (load_V (v := .slice (some ⟨b8,0,none⟩) n c) rfl rfl (by simp [go_sem]) (((unhide hP).get 0 rfl).cell 0)) ?_
 go_frame
 iterate 3
  refine wpO_want rfl ?_
  go_simp
 refine wpO_done ?_
 try go_frame
 try dsimp only
 repeat ((fail_if_success (with_reducible refine wp_reg (id := 2) ?_)); (first | go_values | go_skip | go_step | go_guarded | go_upon | go_in | go_back | fail))
 with_reducible refine wp_reg (id := 2) ?_
 iterate 2
  refine wpO_want rfl ?_
  go_simp
 refine wpO_val rfl (load_V (v := .slice (some ⟨b8,0,none⟩) n c) rfl rfl (by simp [go_sem]) (((unhide hP).get 0 rfl).cell 0)) ?_
 go_frame
 iterate 2
  refine wpO_want rfl ?_
  go_simp
 refine wpO_val rfl (load_Way rfl rfl (unhide t0' _ (Ext.refl _)) (unhide t1' _ (Ext.refl _))) ?_
 go_frame
 refine (unhide hP).allocO 214 #[.int .i64 0, .int .i64 0] rfl (by go_simp) ?_
 intro r4 y1 hQ
 replace hP : Hid (Sp wf T w [] [(bw,211, #[.slice (some ⟨b8,0,none⟩) n c]),(r4,214, #[.int .i64 0, .int .i64 0])] [(214,2, .slice (some ⟨b8,0,none⟩) n c,n,(hs ++ [(x,y)]).flatMap encP2)] y1) := hide hQ
 clear hQ
 refine (unhide hP).setO 1 #[.int .i64 x, .int .i64 y] rfl rfl (fun hb => run_store_row (v := .agg #[.int .i64 x, .int .i64 y]) rfl (by rfl) (by rfl) (by simp [go_sem]) hb rfl (fun u hu => by simp [Value.cells] at hu; rcases hu with rfl | rfl <;> rfl)) ?_
 intro y2 hQ
 replace hP : Hid (Sp wf T w [] [(bw,211, #[.slice (some ⟨b8,0,none⟩) n c]),(r4,214, #[.int .i64 x, .int .i64 y])] [(214,2, .slice (some ⟨b8,0,none⟩) n c,n,(hs ++ [(x,y)]).flatMap encP2)] y2) := hide hQ
 clear hQ
 refine wpO_done ?_
 try go_frame
 try dsimp only
 repeat ((fail_if_success (with_reducible refine wp_reg (id := 3) ?_)); (first | go_values | go_skip | go_step | go_guarded | go_upon | go_in | go_back | fail))
 with_reducible refine wp_reg (id := 3) ?_
 iterate 3
  refine wpO_want rfl ?_
  go_simp
 refine wpO_val rfl (load_V (v := .slice (some ⟨b8,0,none⟩) n c) rfl rfl (by simp [go_sem]) (((unhide hP).get 0 rfl).cell 0)) ?_
 go_frame
 refine wpO_want rfl ?_
 go_simp
 refine wpO_val rfl (run_sl_to (k := m) rfl rfl (by rfl) Tryz.underlying211 (Tryz.sizeOf214 _) (by have := unhide hcap; have := unhide hmN; omega)) ?_
 go_frame
 refine wpO_want rfl ?_
 go_simp
 refine (unhide hP).setO 0 #[.slice (some ⟨b8,0,none⟩) m c] rfl rfl (fun hb => run_store_row (v := .slice (some ⟨b8,0,none⟩) m c) rfl (by rfl) (by rfl) (by simp [go_sem]) hb rfl (by simp [Value.cells,Value.oneCell'])) ?_
 intro y3 hQ
 replace hP : Hid (Sp wf T w [] [(bw,211, #[.slice (some ⟨b8,0,none⟩) m c]),(r4,214, #[.int .i64 x, .int .i64 y])] [(214,2, .slice (some ⟨b8,0,none⟩) n c,n,(hs ++ [(x,y)]).flatMap encP2)] y3) := hide hQ
 clear hQ
 refine wpO_done ?_
 try go_frame
 replace hP : Hid (Sp wf T w [] [(bw,211, #[.slice (some ⟨b8,0,none⟩) m c]),(r4,214, #[.int .i64 x, .int .i64 y])] [(214,2, .slice (some ⟨b8,0,none⟩) m c,m,hs.flatMap encP2)] y3) := hide ((unhide hP).push 0 (by decide) rfl (Ext.refl _) (by have h := own_cut (n' := m) ((unhide hP).row 0 rfl) (by have := unhide hmN; omega) (by simp); rw [List.take_left' (unhide hm').symm] at h; exact h) (World.grownBy.refl _ _) (.inl rfl))
 have d0 := (unhide hP).cell 1 0 (v := .int .i64 x) rfl rfl
 have d1 := (unhide hP).cell 1 1 (v := .int .i64 y) rfl rfl
 have hself := Ext.refl y3
 try dsimp only
 repeat ((fail_if_success (with_reducible refine wp_reg (id := 4) ?_)); (first | go_values | go_skip | go_step | go_guarded | go_upon | go_in | go_back | fail))
 with_reducible refine wp_reg (id := 4) ?_
 iterate 3
  refine wpO_want rfl ?_
  go_simp
 refine wpO_done ?_
 try go_frame
 clear d0 d1 hself
 replace hP : Hid (Sp wf T w [] [(bw,211, #[.slice (some ⟨b8,0,none⟩) m c])] [(214,2, .slice (some ⟨b8,0,none⟩) m c,m,hs.flatMap encP2)] y3) := hide ((unhide hP).sub (List.sublist_append_left _ ([(r4,214, #[.int .i64 x, .int .i64 y])] : List Cl)) (List.Sublist.refl _))
 go_wp2_with fail
 refine Sp.leaves0 ?_
 refine ⟨_,results_tmp (t := 2) rfl _ _ _, ?_⟩
 exact HpPost.mk (unhide hP) (unhide hm')
end Go.Proofs.YtmokciekndllpaaGreatDoor
namespace Go.Proofs.YtmokciekndllpaaGreatDoor
open Go Go.RowKit Go.Shelf
attribute [local go_sem] qUpon lUpon
attribute [local irreducible] wpO wpX wpQL
theorem rec_way (a : Addr) (w : World) (nm : String) : (receiverAt 209 (.val (.pointer (some a))) false (some nm)).run Tryz.prog w = (loadVar 211 a).run Tryz.prog w := by kernel_rfl
theorem lv_way (b : Nat) (w : World) (A : Option Addr) (n c : Nat) (h : w.cell? ⟨b,0,none⟩ = some (.slice A n c)) : (loadVar 211 ⟨b,0,none⟩).run Tryz.prog w = .ok (.slice A n c) w := by
 go_simp
theorem meth_way {b f fuel : Nat} {w : World} {A : Option Addr} {n c : Nat} {name : String} (hf : (Tryz.t209.methods.find? (·.name == name)).map (fun m => (m.path,m.func)) = some (#[],some (f,false))) (h : w.cell? ⟨b,0,none⟩ = some (.slice A n c)) : (method (fuel + 1) 209 (.pointer (some ⟨b,0,none⟩)) name).run Tryz.prog w = .ok (f, .slice A n c) w := by
 have ht : ∀ w,(typeInfo 209).run Tryz.prog w = .ok Tryz.t209 w := fun w => by kernel_rfl
 unfold method
 rw [Sem.run_bind,ht]
 simp only [Result.andThen_ok]
 cases hm : Tryz.t209.methods.find? (·.name == name) with
 | none => rw [hm] at hf; cases hf
 | some m =>
  rw [hm] at hf
  simp only [Option.map_some,Option.some.injEq,Prod.mk.injEq] at hf
  simp only [hf.1,hf.2]
  have e : (receiverAt 209 (.val (.pointer (some ⟨b,0,none⟩))) false (if (#[] : Array FieldStep).isEmpty = true then some ((name.splitOn ".").getLastD name) else none)).run Tryz.prog w = .ok (.slice A n c) w := by
   rw [if_pos (show (#[] : Array FieldStep).isEmpty = true from rfl),rec_way,lv_way b w A n c h]
  simp only [follow,pure_bind]
  rw [Sem.run_bind,e]
  rfl
theorem rec_ptr (a : Addr) (w : World) (nm : Option String) : (receiverAt 209 (.val (.pointer (some a))) true nm).run Tryz.prog w = .ok (.pointer (some a)) w := by kernel_rfl
theorem meth_ptr {a : Addr} {f fuel : Nat} {w : World} {name : String} (hf : (Tryz.t209.methods.find? (·.name == name)).map (fun m => (m.path,m.func)) = some (#[],some (f,true))) : (method (fuel + 1) 209 (.pointer (some a)) name).run Tryz.prog w = .ok (f, .pointer (some a)) w := by
 have ht : ∀ w,(typeInfo 209).run Tryz.prog w = .ok Tryz.t209 w := fun w => by kernel_rfl
 unfold method
 rw [Sem.run_bind,ht]
 simp only [Result.andThen_ok]
 cases hm : Tryz.t209.methods.find? (·.name == name) with
 | none => rw [hm] at hf; cases hf
 | some m =>
  rw [hm] at hf
  simp only [Option.map_some,Option.some.injEq,Prod.mk.injEq] at hf
  simp only [hf.1,hf.2]
  have e := rec_ptr a w (if (#[] : Array FieldStep).isEmpty = true then some ((name.splitOn ".").getLastD name) else none)
  simp only [follow,pure_bind]
  rw [Sem.run_bind,e]
  rfl
set_option maxRecDepth 100000 in
set_option maxHeartbeats 16000000 in
theorem hup_any (bw : Nat) (hs : List (Int × Int)) (j0 : Nat) (T : List Nat) (w : World) (A : Option Addr) (n c : Nat) (hn : n = hs.length) (hst : St 0 (hpL bw A n c) (hpR A n c hs) w) (hT : T = stT (hpL bw A n c) (hpR A n c hs)) (hb : n ≤ 2000000) (hj : j0 < n) (hu : UpN hs n j0) :
  Calls Tryz.prog 195 #[.iface 209 (.pointer (some ⟨bw,0,none⟩)), .int .i64 (j0 : Nat)] w fun e w' => e = .returned (.tuple #[]) ∧ ∃ hs',hs'.Perm hs ∧ HeapN hs' n ∧ St 0 (hpL bw A n c) (hpR A n c hs') w' ∧ Keep T w w' := by
 have hP0 := Sp.bare hst
 rw [← hT] at hP0
 have hP := hide hP0
 unfold hpL hpR at hP
 have hn0 := hide hn
 have hnb' := hide hb
 have hj' := hide hj
 have hu' := hide hu
 obtain ⟨wf,hwf⟩ : ∃ wf,wf = bare w := ⟨_,rfl⟩
 rw [← hwf] at hP
 clear hn hst hT hP0 hb hwf hj hu
 refine callsIn_wide.1 (callsIn_of_wp_marks (n := 0) Tryz.func195 rfl trivial (wpIn_wide.2 ?_))
 simp only [Tryz.ntmps195,List.size_toArray,List.length_cons,List.length_nil,Nat.reduceAdd,Nat.reduceSub,Array.replicate_succ,Array.replicate_zero,List.push_toArray,List.append_toArray,List.nil_append,List.cons_append]
 go_wp2_with fail
 obtain ⟨I0_2,hI0_20⟩ : ∃ I : Nat → Act → World → Prop,I = fun fi a' wr => ∃ (j : Nat), ∃ (xs : List (Int × Int)),a'.tmps.size = 23 ∧ a'.tmps.getD 0 undef = .iface 209 (.pointer (some ⟨bw,0,none⟩)) ∧ a'.tmps.getD 1 undef = .int .i64 (j : Nat) ∧ a'.defers = [] ∧ j < n ∧ xs.Perm hs ∧ UpN xs n j ∧ Sp wf T w [] [(bw,211, #[.slice A n c])] [(214,2, .slice A n c,n,xs.flatMap encP2)] wr ∧ fi = j := ⟨_,rfl⟩
 have hI0_2 := hide hI0_20
 clear hI0_20
 refine wp_loop_ix I0_2 (j0) ?_ ?_
 ·rw [unhide hI0_2]; exact ⟨j0,hs,rfl,rfl,rfl,rfl,unhide hj',List.Perm.refl _,unhide hu',unhide hP,rfl⟩
 ·rintro fi ⟨tm,dfs⟩ wr hrel
  rw [unhide hI0_2] at hrel
  obtain ⟨j,xs,hsz,e0,e1,hdf,hjn,hpm,hup,hPr,hfm⟩ := hrel
  obtain ⟨us,rfl⟩ : ∃ us : Nat → Value,tm = #[us 0,us 1,us 2,us 3,us 4,us 5,us 6,us 7,us 8,us 9,us 10,us 11,us 12,us 13,us 14,us 15,us 16,us 17,us 18,us 19,us 20,us 21,us 22] := ⟨fun i => tm.getD i undef,arr_fn hsz⟩
  have h0 : us 0 = .iface 209 (.pointer (some ⟨bw,0,none⟩)) := e0
  have h1 : us 1 = .int .i64 (j : Nat) := e1
  have hdf2 : dfs = [] := hdf
  subst hdf2
  clear hdf hsz e0 e1
  simp only [h0,h1]
  clear h0 h1
  clear hP
  have hP := hide hPr
  have hfm' := hide hfm
  have hpm' := hide hpm
  have hup' := hide hup
  have hn' := hide (show n = xs.length by rw [hpm.length_eq]; exact unhide hn0)
  have hjn' := hide hjn
  have hjB : (j : Int) ≤ 2000000 := by have := unhide hnb'; omega
  clear hPr hfm hpm hup
  by_cases hj0 : j = 0
  ·skip
   subst hj0
   have hz : IntKind.i64.wrap ((IntKind.i64.wrap (-1)).tdiv 2) = 0 := by decide
   try dsimp only
   repeat ((fail_if_success (with_reducible refine wp_reg (id := 0) ?_)); (first | go_values | go_skip | go_step | go_guarded | go_upon | go_in | go_back | fail))
   with_reducible refine wp_reg (id := 0) ?_
   iterate 4
    refine wpO_want rfl ?_
    go_simp
   refine wpO_done ?_
   try go_frame
   try dsimp only
   repeat ((fail_if_success (with_reducible refine wp_reg (id := 1) ?_)); (first | go_values | go_skip | go_step | go_guarded | go_upon | go_in | go_back | fail))
   with_reducible refine wp_reg (id := 1) ?_
   iterate 4
    refine wpO_want rfl ?_
    go_simp
   refine wpO_out (by rfl) ?_
   go_frame
   refine wpO_out (by rfl) ?_
   go_frame
   refine wpO_out (by rfl) ?_
   go_frame
   refine wpO_out (by rfl) ?_
   go_frame
   refine wpO_out (by rfl) ?_
   go_frame
   refine wpO_want rfl ?_
   go_simp
   refine wpO_done ?_
   try go_frame
   clear hz
   go_wp2_with fail
   have hfin := UpN.done0 (unhide hup')
   refine Sp.leaves0 ?_
   exact ⟨_,results_none rfl _ _ _,rfl,xs,unhide hpm',hfin,(unhide hP).st.down,(unhide hP).keep⟩
  ·skip
   obtain ⟨p,hp0⟩ : ∃ p,p = (j - 1) / 2 := ⟨_,rfl⟩
   have hp := hide hp0
   have hw1 : IntKind.i64.wrap ((j : Int) - 1) = ((j - 1 : Nat) : Int) := by rw [IntWalk.i64_in _ (by omega)]; omega
   have hw2 : IntKind.i64.wrap (((j - 1 : Nat) : Int) / 2) = (p : Int) := by
    rw [IntWalk.i64_in _ (by omega)]
    omega
   have hpj : p < j := by omega
   have hpj' := hide hpj
   have hpn : p < n := by omega
   have hqe : ((p : Int) == (j : Int)) = false := by
    rw [beq_eq_false_iff_ne]
    omega
   have hj0' := hide hj0
   clear hp0 hj0 hpj
   try dsimp only
   repeat ((fail_if_success (with_reducible refine wp_reg (id := 0) ?_)); (first | go_values | go_skip | go_step | go_guarded | go_upon | go_in | go_back | fail))
   with_reducible refine wp_reg (id := 0) ?_
   iterate 4
    refine wpO_want rfl ?_
    go_simp
   refine wpO_done ?_
   try go_frame
   clear hw1 hw2
   try dsimp only
   repeat ((fail_if_success (with_reducible refine wp_reg (id := 1) ?_)); (first | go_values | go_skip | go_step | go_guarded | go_upon | go_in | go_back | fail))
   with_reducible refine wp_reg (id := 1) ?_
   iterate 7
    refine wpO_want rfl ?_
    go_simp
   obtain ⟨q,hq0⟩ : ∃ q,decide (hc xs j < hc xs p) = q := ⟨_,rfl⟩
   have hq := hide hq0
   refine wpO_want rfl ?_
   go_simp
   rw [meth_way (name := "Less") (f := 233) (by kernel_rfl) (((unhide hP).get 0 rfl).cells 0 (v := .slice A n c) rfl _ (Ext.refl _))]
   go_simp
   have hca := wless_any A xs n c j p wr (own_at (enc := encP2) (by have h := (unhide hP).row 0 rfl; rw [unhide hn'] at h; exact h) (fun _ => rfl)) (unhide hn') (by omega) (by omega) (by have := unhide hnb'; omega)
   refine hca.mono ?_
   clear hca
   rintro _ y1 ⟨rfl,hxc⟩
   refine ⟨_,rfl, ?_⟩
   replace hP : Hid (Sp wf T w [] [(bw,211, #[.slice A n c])] [(214,2, .slice A n c,n,xs.flatMap encP2)] y1) := hide ((unhide hP).ext hxc)
   clear hxc
   rw [hq0]
   clear hq0
   iterate 2
    refine wpO_want rfl ?_
    go_simp
   refine wpO_done ?_
   try go_frame
   clear hqe
   cases q
   ·skip
    go_wp2_with fail
    have hfin := UpN.done (unhide hup') (by rw [← unhide hp]; exact of_decide_eq_false (unhide hq))
    refine Sp.leaves0 ?_
    exact ⟨_,results_none rfl _ _ _,rfl,xs,unhide hpm',hfin,(unhide hP).st.down,(unhide hP).keep⟩
   ·skip
    try dsimp only
    repeat ((fail_if_success (with_reducible refine wp_reg (id := 2) ?_)); (first | go_values | go_skip | go_step | go_guarded | go_upon | go_in | go_back | fail))
    with_reducible refine wp_reg (id := 2) ?_
    iterate 3
     refine wpO_want rfl ?_
     go_simp
    refine wpO_want rfl ?_
    go_simp
    rw [meth_way (name := "Swap") (f := 236) (by kernel_rfl) (((unhide hP).get 0 rfl).cells 0 (v := .slice A n c) rfl _ (Ext.refl _))]
    go_simp
    have hca := wswap_any wf.heap.size A xs n c p j y1 ((unhide hP).row 0 rfl) (unhide hn') (by omega) (by omega) (by have := unhide hnb'; omega)
    refine hca.mono ?_
    clear hca
    rintro _ y2 ⟨rfl,hown,hgr⟩
    replace hP : Hid (Sp wf T w [] [(bw,211, #[.slice A n c])] [(214,2, .slice A n c,n,(swpL xs p j).flatMap encP2)] y2) := hide ((unhide hP).push 0 (by decide) rfl (Ext.refl _) hown hgr (.inl rfl))
    clear hown hgr
    refine ⟨_,rfl, ?_⟩
    try go_frame
    refine wpO_done ?_
    try go_frame
    try dsimp only
    repeat ((fail_if_success (with_reducible refine wp_reg (id := 3) ?_)); (first | go_values | go_skip | go_step | go_guarded | go_upon | go_in | go_back | fail))
    with_reducible refine wp_reg (id := 3) ?_
    iterate 2
     refine wpO_want rfl ?_
     go_simp
    refine wpO_done ?_
    try go_frame
    go_wp2_with fail
    have hst := UpN.step (by rw [← unhide hn']; exact Nat.le_refl n) (unhide hjn') (by have := unhide hpj'; omega) (unhide hup') (by rw [← unhide hp]; exact of_decide_eq_true (unhide hq))
    rw [← unhide hp] at hst
    have hpm9 := (swp_perm (l := xs) (i := p) (j := j) (by rw [← unhide hn']; have := unhide hpj'; have := unhide hjn'; omega) (by rw [← unhide hn']; exact unhide hjn')).trans (unhide hpm')
    refine ⟨p, ?_,by have := unhide hfm'; have := unhide hpj'; omega⟩
    rw [unhide hI0_2]
    exact ⟨p,swpL xs p j,(by first | rfl | trivial),(by first | rfl | trivial),(by first | rfl | (show _ = Value.int _ _; go_num) | go_num),(by first | rfl | trivial),by have := unhide hpj'; have := unhide hjn'; omega,hpm9,hst,unhide hP,rfl⟩
end Go.Proofs.YtmokciekndllpaaGreatDoor
