/- Parts of a proof, laid together. Each part says its own conditions. -/
import Derived.Test.YtmokciekndllpaaGreatDoorC2
import Derived.WalkKit
import Derived.Laws.Tables
import Derived.Maps.RangeWalk
import Derived.DeepKeys4
import Derived.Laws.EntriesVeiled
namespace Go.Proofs.YtmokciekndllpaaGreatDoor
open Go Go.RowKit
def Blk (w : World) (b : Nat) (t : TypeId) (cs : Array Value) : Prop := w.heap[b]? = some (.cells cs t (0,0))
section
variable {w w' : World} {b : Nat} {t : TypeId} {cs : Array Value}
theorem Blk.lt (h : Blk w b t cs) : b < w.heap.size := (Array.getElem?_eq_some_iff.1 h).1
theorem Blk.of_block (h : Blk w b t cs) (hb : w'.heap[b]? = w.heap[b]?) : Blk w' b t cs := hb.trans h
theorem Blk.ext (h : Blk w b t cs) (k : Ext w w') : Blk w' b t cs := h.of_block (k.block b h.lt)
theorem Blk.keep {S : List Nat} (h : Blk w b t cs) (k : Keep S w w') (hn : b ∉ S) : Blk w' b t cs := h.of_block (k.block b h.lt hn)
theorem Blk.cell (h : Blk w b t cs) (i : Nat) : w.cell? ⟨b,i,none⟩ = cs[i]? := cell_of_row w b i cs t (0,0) h
theorem Blk.frozen (h : Blk w b t cs) (i : Nat) : w.frozen? ⟨b,i,none⟩ = false := by
 unfold Blk at h
 simp [World.frozen?,h]
theorem Blk.new (w : World) (t : TypeId) (cs : Array Value) : Blk (w.alloc (.cells cs t)) w.heap.size t cs := heap_alloc_new w _
theorem Blk.row (h : Blk w b t cs) (cs' : Array Value) : Blk (w.setRow b cs') b t cs' := setRow_heap w b cs cs' t (0,0) h
theorem Keep.setRow (w : World) (b : Nat) (cs : Array Value) : Keep [b] w (w.setRow b cs) :=
 ⟨rfl,rfl,rfl,by simp [World.setRow],fun k _ hn => setRow_other w b k cs (by simpa using hn)⟩
theorem Blk.cells (h : Blk w b t cs) (i : Nat) {v : Value} (hv : cs[i]? = some v) : ∀ W,Ext w W → W.cell? ⟨b,i,none⟩ = some v := fun _ hW => ((h.ext hW).cell i).trans hv
theorem cell_ext {a : Addr} {v : Value} (h : w.cell? a = some v) : ∀ W,Ext w W → W.cell? a = some v := fun _ hW => by
 rw [Below.cell hW (World.block_lt_of_cell? w a h)]
 exact h
end
theorem eval_put_same {a : Act} {d : Nat} {v : Value} (h : d < a.tmps.size) : (a.put (some d) v).eval (.tmp d) = v := by
 simp [Act.eval,Act.put,h]
theorem eval_put_ne {a : Act} {d e : Nat} {v : Value} (h : d ≠ e) : (a.put (some d) v).eval (.tmp e) = a.eval (.tmp e) :=
 Act.eval_put (fun d' hd hx => by cases hd; cases hx; exact h rfl)
theorem run_store_row {P : Program} {ρ : Operand → Value} {o : Oper} {t : TypeId} {p x : Operand} {w : World} {b : Nat} {cs : Array Value} {v : Value} (ho : o.op = .store t p x) (hp : ρ p = .pointer (some ⟨b,0,none⟩)) (hx : ρ x = v)
  (hs : (sizeOf t).run P w = .ok v.cells.size w) (hb : Blk w b t cs) (hn : cs.size = v.cells.size) (h1 : ∀ u ∈ v.cells.toList,u.oneCell' = true) :
  (execOp ρ o).run P w = .ok .skip (w.setRow b v.cells) := by
 have hst := run_storeCells_from (P := P) b t v.cells.toList 0 cs w hb (by simp [hn]) h1
 simp only [List.take_zero,List.nil_append,Array.toArray_toList] at hst
 unfold execOp
 simp only [ho,hp,hx]
 simp [Instr.storeAt,Instr.sureAddr,storeVar,hs,hst,Result.andThen]
section
variable {P : Program} {l : List Oper} {K : Act → World → Prop}
theorem p1_two {R : World → World → Prop} (hR : ∀ a b,R a b → Ext a b) (A : Act) (w1 : World) (i5 i6 s5 s6 d5 d6 : Nat) (T5 T6 : TypeId) (z5 z6 : Array Value) (x5 x6 : Operand) (v5 v6 : Value) {o5 o6 p5 p6 : Oper} (listed l5 l6 l56 l56s lall : Array Bool)
  (r0 : Region.ready .any l.toArray listed = [i5,i6]) (r5 : Region.ready .any l.toArray l5 = [i6]) (r6 : Region.ready .any l.toArray l6 = [i5]) (r56 : Region.ready .any l.toArray l56 = [s5]) (r56s : Region.ready .any l.toArray l56s = [s6]) (rall : Region.ready .any l.toArray lall = [])
  (e5 : listed.setIfInBounds i5 true = l5) (e6 : listed.setIfInBounds i6 true = l6) (e56 : l5.setIfInBounds i6 true = l56) (e65 : l6.setIfInBounds i5 true = l56) (e56s : l56.setIfInBounds s5 true = l56s) (eall : l56s.setIfInBounds s6 true = lall)
  (h5 : pick l i5 = some o5) (h6 : pick l i6 = some o6) (g5 : pick l s5 = some p5) (g6 : pick l s6 = some p6)
  (q5 : o5.guard = none ∧ o5.dst = some d5 ∧ ∀ (ρ : Operand → Value) w,(execOp ρ o5).run P w = .ok (.value (.pointer (some ⟨w.heap.size,0,none⟩))) (w.alloc (.cells z5 T5)))
  (q6 : o6.guard = none ∧ o6.dst = some d6 ∧ ∀ (ρ : Operand → Value) w,(execOp ρ o6).run P w = .ok (.value (.pointer (some ⟨w.heap.size,0,none⟩))) (w.alloc (.cells z6 T6)))
  (u5 : p5.guard = none ∧ p5.dst = none ∧ p5.op = .store T5 (.tmp d5) x5) (u6 : p6.guard = none ∧ p6.dst = none ∧ p6.op = .store T6 (.tmp d6) x6)
  (hd : d5 < A.tmps.size ∧ d6 < A.tmps.size ∧ d5 ≠ d6 ∧ x5 ≠ .tmp d5 ∧ x5 ≠ .tmp d6 ∧ x6 ≠ .tmp d5 ∧ x6 ≠ .tmp d6)
  (hv5 : A.eval x5 = v5) (hv6 : A.eval x6 = v6) (hz5 : z5.size = v5.cells.size) (hz6 : z6.size = v6.cells.size) (hs5 : ∀ w,(sizeOf T5).run P w = .ok v5.cells.size w) (hs6 : ∀ w,(sizeOf T6).run P w = .ok v6.cells.size w)
  (c5 : ∀ u ∈ v5.cells.toList,u.oneCell' = true) (c6 : ∀ u ∈ v6.cells.toList,u.oneCell' = true)
  (hfin : ∀ b5 b6 W,Ext w1 W → w1.heap.size ≤ b5 → w1.heap.size ≤ b6 → b5 ≠ b6 → Blk W b5 T5 v5.cells → Blk W b6 T6 v6.cells → K ((A.put (some d5) (.pointer (some ⟨b5,0,none⟩))).put (some d6) (.pointer (some ⟨b6,0,none⟩))) W) :
  ∀ w',Ext w1 w' → wpX P l.toArray R (Ext w1) (fun j => !([] : List Nat).contains j) K 4 listed A w' := by
 intro w' hw'
 obtain ⟨y1,y2,y3,y4,y5,y6,y7⟩ := hd
 have stores : ∀ (b5 b6 : Nat) (W : World),Ext w1 W → w1.heap.size ≤ b5 → w1.heap.size ≤ b6 → b5 ≠ b6 → Blk W b5 T5 z5 → Blk W b6 T6 z6 →
   wpX P l.toArray R (Ext w1) (fun j => !([] : List Nat).contains j) K 2 l56 ((A.put (some d5) (.pointer (some ⟨b5,0,none⟩))).put (some d6) (.pointer (some ⟨b6,0,none⟩))) W := by
  intro b5 b6 W hW n5 n6 hne hb5 hb6
  have ev : ∀ x : Operand,x ≠ .tmp d5 → x ≠ .tmp d6 → ((A.put (some d5) (.pointer (some ⟨b5,0,none⟩))).put (some d6) (.pointer (some ⟨b6,0,none⟩))).eval x = A.eval x := fun x k5 k6 => by
   rw [Act.eval_put (fun d hd => by cases hd; exact k6),Act.eval_put (fun d hd => by cases hd; exact k5)]
  have ep5 : ((A.put (some d5) (.pointer (some ⟨b5,0,none⟩))).put (some d6) (.pointer (some ⟨b6,0,none⟩))).eval (.tmp d5) = .pointer (some ⟨b5,0,none⟩) := by
   rw [eval_put_ne (Ne.symm y3),eval_put_same y1]
  have ep6 : ((A.put (some d5) (.pointer (some ⟨b5,0,none⟩))).put (some d6) (.pointer (some ⟨b6,0,none⟩))).eval (.tmp d6) = .pointer (some ⟨b6,0,none⟩) :=
   eval_put_same (by simpa [Act.put] using y2)
  refine lx_one r56 g5 (by simp [Region.wanted,u5.1]) l56s e56s ?_
  rw [run_store_row u5.2.2 ep5 ((ev x5 y4 y5).trans hv5) (hs5 W) hb5 hz5 c5,u5.2.1]
  have hW1 : Ext w1 (W.setRow b5 v5.cells) := hW.of_new (Keep.setRow W b5 _) (by simpa using n5)
  refine ⟨fun _ => hW1,fun w'' e => ?_⟩
  have e := hR _ _ e
  have hb5' := (hb5.row v5.cells).ext e
  have hb6' : Blk w'' b6 T6 z6 := (hb6.keep (Keep.setRow W b5 _) (by simpa using hne.symm)).ext e
  refine lx_one r56s g6 (by simp [Region.wanted,u6.1]) lall eall ?_
  show lUpon P _ ((execOp ((A.put (some d5) _).put (some d6) _).eval p6).run P _)
  rw [run_store_row u6.2.2 ep6 ((ev x6 y6 y7).trans hv6) (hs6 _) hb6' hz6 c6,u6.2.1]
  have hW2 : Ext w1 (w''.setRow b6 v6.cells) := (hW1.trans e).of_new (Keep.setRow _ b6 _) (by simpa using n6)
  refine ⟨fun _ => hW2,fun w3 e3 => ?_⟩
  have e3 := hR _ _ e3
  exact wpX_done rall (hfin b5 b6 _ (hW2.trans e3) n5 n6 hne ((hb5'.keep (Keep.setRow _ b6 _) (by simpa using hne)).ext e3) ((hb6'.row _).ext e3))
 refine lx_two r0 h5 (by simp [Region.wanted,q5.1]) l5 e5 h6 (by simp [Region.wanted,q6.1]) l6 e6 ?_ ?_
 ·rw [q5.2.2,q5.2.1]
  refine ⟨fun _ => hw'.alloc _,fun w'' e => ?_⟩
  have e := hR _ _ e
  refine lx_one r5 h6 (by simp [Region.wanted,q6.1]) l56 e56 ?_
  rw [q6.2.2,q6.2.1]
  have hx := (hw'.alloc _).trans e
  refine ⟨fun _ => hx.alloc _,fun w3 e3 => ?_⟩
  have e3 := hR _ _ e3
  have s1 := Below.size hw'
  have s2 := Below.size hx
  have s3 := Below.size e
  simp at s3
  exact stores w'.heap.size w''.heap.size _ ((hx.alloc _).trans e3) s1 s2 (by omega) ((((Blk.new w' T5 z5).ext e).ext ((Ext.refl _).alloc _)).ext e3) ((Blk.new _ T6 z6).ext e3)
 ·rw [q6.2.2,q6.2.1]
  refine ⟨fun _ => hw'.alloc _,fun w'' e => ?_⟩
  have e := hR _ _ e
  refine lx_one r6 h5 (by simp [Region.wanted,q5.1]) l56 e65 ?_
  rw [q5.2.2,q5.2.1]
  have hx := (hw'.alloc _).trans e
  refine ⟨fun _ => hx.alloc _,fun w3 e3 => ?_⟩
  have e3 := hR _ _ e3
  have s1 := Below.size hw'
  have s2 := Below.size hx
  have s3 := Below.size e
  simp at s3
  rw [Act.put_comm _ _ _ (fun d hd => by cases hd; simpa using y3)]
  exact stores w''.heap.size w'.heap.size _ ((hx.alloc _).trans e3) s2 s1 (by omega) ((Blk.new _ T5 z5).ext e3) ((((Blk.new w' T6 z6).ext e).ext ((Ext.refl _).alloc _)).ext e3)
end
theorem eq_ext (a b : World) (h : b = a) : Ext a b := by rw [h]; exact Ext.refl _
end Go.Proofs.YtmokciekndllpaaGreatDoor
namespace Go.Proofs.YtmokciekndllpaaGreatDoor
open Go Go.RowKit
abbrev Thing := Int × Int
def ekV (n : Int) : Value := .int .i64 n
def ekE (p : Int × Int) : Value := .agg #[.int .i64 p.1, .int .i64 p.2]
def evT (t : Thing) : Value := .agg #[.int .u8 t.1, .int .i64 t.2]
def i64ok (n : Int) : Prop := -9223372036854775808 ≤ n ∧ n ≤ 9223372036854775807
def okE (p : Int × Int) : Prop := i64ok p.1 ∧ i64ok p.2
theorem wf_i64 {n : Int} (h : i64ok n) : (Lit.int .i64 n).wf = true := WalkArith.wf_i64 (by unfold i64ok at h; omega)
theorem keV : KE Tryz.prog 3 ekV i64ok where
 keyed := Maps.int_keyed Tryz.underlying3
 reads k hk := ⟨_,Maps.keyOf_int_mk Tryz.underlying3 (wf_i64 hk)⟩
 inj a b h := by unfold ekV at h; injection h
theorem one_evT (t : Thing) : ∀ u ∈ (evT t).cells.toList,u.oneCell' = true := by
 intro u hu
 simp [evT,Value.cells] at hu
 rcases hu with rfl | rfl <;> rfl
theorem cellsEnds : Tryz.prog.cellsOf 176 = 2 := by kernel_rfl
theorem cellsInt : Tryz.prog.cellsOf 3 = 1 := by kernel_rfl
theorem keyEnds : Tryz.prog.keyType 176 = true := by kernel_rfl
theorem lawE : WideMaps.KeyLaw Tryz.prog 176 := deep_law_laid (by kernel_rfl) (m := 2) (by omega) (of_decide_eq_true (by kernel_rfl)) (by kernel_rfl) (by rw [Tryz.underlying176])
theorem typesPos : 0 < Tryz.prog.types.size := Nat.lt_of_le_of_lt (Nat.zero_le 176) (of_decide_eq_true (by kernel_rfl))
theorem keE : KE Tryz.prog 176 ekE okE where
 keyed := Maps.Keyed.of_law lawE
 reads k hk := keyOf_ints2 Tryz.underlying176 Tryz.underlying3 rfl rfl rfl rfl (by decide) (by decide) keyEnds cellsEnds cellsInt typesPos (wf_i64 hk.1) (wf_i64 hk.2)
 inj a b h := by
  unfold ekE at h
  simp at h
  exact Prod.ext h.1 h.2
theorem zeroT (w : World) : (zeroValue 173).run Tryz.prog w = .ok (evT (0,0)) w := by kernel_rfl
theorem sizeThing (w : World) : (sizeOf 173).run Tryz.prog w = .ok 2 w := by kernel_rfl
theorem sizeBool (w : World) : (sizeOf 4).run Tryz.prog w = .ok 1 w := by kernel_rfl
structure GraphAt (w : World) (g bv be : Nat) (V : List (Int × Thing)) (E : List ((Int × Int) × Thing)) : Prop where
 blk : Blk w g 157 #[.map (some bv), .map (some be)]
 vs : MapIs ekV evT i64ok w bv V
 es : MapIs ekE evT okE w be E
 ne : bv ≠ be
theorem GraphAt.ext {w w' : World} {g bv be : Nat} {V : List (Int × Thing)} {E : List ((Int × Int) × Thing)} (h : GraphAt w g bv be V E) (k : Ext w w') : GraphAt w' g bv be V E := ⟨h.blk.ext k,h.vs.ext k,h.es.ext k,h.ne⟩
def wrongF (op u v wt : Int) (iu iv ie : Bool) (ne : Nat) : Int :=
 if w1B op then 11 else if w2B op u v wt then 2 else if w3B op u v then 15 else if w4B op iu then 7 else if w5B op iu iv then 9 else if w6B op ie then 9 else if w7B op ie then 7 else if w8B op ne then 8 else 0
def testCells (gg ge gu gv gx : Nat) : Array Value :=
 #[.func (.func 126) #[] #[.pointer (some ⟨ge,0,none⟩)], .int .i64 11, .func (.func 127) #[] #[.pointer (some ⟨ge,0,none⟩)], .int .i64 2, .func (.func 132) #[] #[.pointer (some ⟨ge,0,none⟩)], .int .i64 15, .func (.func 133) #[] #[.pointer (some ⟨ge,0,none⟩), .pointer (some ⟨gu,0,none⟩)], .int .i64 7, .func (.func 134) #[] #[.pointer (some ⟨ge,0,none⟩), .pointer (some ⟨gu,0,none⟩), .pointer (some ⟨gv,0,none⟩)], .int .i64 9, .func (.func 135) #[] #[.pointer (some ⟨ge,0,none⟩), .pointer (some ⟨gx,0,none⟩)], .int .i64 9, .func (.func 136) #[] #[.pointer (some ⟨ge,0,none⟩), .pointer (some ⟨gx,0,none⟩)], .int .i64 7, .func (.func 137) #[] #[.pointer (some ⟨ge,0,none⟩), .pointer (some ⟨gg,0,none⟩)], .int .i64 8]
def testsL (op u v wt : Int) (iu iv ie : Bool) (ne : Nat) : List (Bool × Int) := [(w1B op,11),(w2B op u v wt,2),(w3B op u v,15),(w4B op iu,7),(w5B op iu iv,9),(w6B op ie,9),(w7B op ie,7),(w8B op ne,8)]
def NoTest (op u v wt : Int) (iu iv ie : Bool) (ne k : Nat) : Prop := ∀ p ∈ (testsL op u v wt iu iv ie ne).take k,p.1 = false
theorem hide {p : Prop} (h : p) : Hid p := h
theorem unhide {p : Prop} (h : Hid p) : p := h
theorem wp_abs {P : Program} {c : Code} {Q : Exit → Act → World → Prop} {a : Act} {w1 : World} (I : World → Prop) (h1 : I w1) (h : ∀ W,I W → c.wp P Q a W) : c.wp P Q a w1 := h w1 h1
theorem EditAt.of {w : World} {g : Nat} {op u v lab wt : Int} (h : Blk w g 63 #[.int .i64 op, .int .i64 u, .int .i64 v, .int .u8 lab, .int .i64 wt]) : EditAt w g op u v lab wt :=
 ⟨h.cells 0 rfl,h.cells 1 rfl,h.cells 2 rfl,h.cells 3 rfl,h.cells 4 rfl⟩
attribute [local go_sem] qUpon lUpon
set_option maxHeartbeats 1000000 in
theorem wrong_any (g bv be : Nat) (V : List (Int × Thing)) (E : List ((Int × Int) × Thing)) (op u v lab wt : Int) (w : World) (hg : GraphAt w g bv be V E) (hu : i64ok u) (hv : i64ok v) :
  Calls Tryz.prog 82 #[.pointer (some ⟨g,0,none⟩), .agg #[.int .i64 op, .int .i64 u, .int .i64 v, .int .u8 lab, .int .i64 wt]] w fun e w' =>
   e = .returned (.int .i64 (wrongF op u v wt (lookM V u).isSome (lookM V v).isSome (lookM E (min u v,max u v)).isSome E.length)) ∧ Ext w w' := by
 have hmm : okE (min u v,max u v) := ⟨by unfold i64ok at *; omega,by unfold i64ok at *; omega⟩
 go_enter Tryz.func82,Tryz.ntmps82
 go_wp2
 refine wp_abs (fun W => Ext w W ∧ Blk W w.heap.size 26 #[.pointer (some ⟨g,0,none⟩)] ∧ Blk W (w.heap.size + 1) 63 #[.int .i64 op, .int .i64 u, .int .i64 v, .int .u8 lab, .int .i64 wt]) ⟨((Ext.refl w).alloc _).alloc _,(Blk.new w _ _).ext ((Ext.refl _).alloc _),by have := Blk.new (w.alloc (.cells #[.pointer (some ⟨g,0,none⟩)] 26)) 63 #[.int .i64 op, .int .i64 u, .int .i64 v, .int .u8 lab, .int .i64 wt]; simpa using this⟩ ?_
 rintro w1 ⟨hx1,hbg,hbe⟩
 have e1 : EditAt w1 (w.heap.size + 1) op u v lab wt := EditAt.of hbe
 have G1 := hg.ext hx1
 clear hg
 -- vertex u
 have d0 := hbg.cells 0 rfl
 have d1 := G1.blk.cells 0 rfl
 have d2 := e1.2.1
 have d3 := fun (W : World) (hW : Ext w1 W) => (G1.vs.ext hW).lookup2 keV Tryz.underlying154 (zeroT W) hu
 simp only [ekV] at d3
 refine wp_region_still (P := Tryz.prog) [0,1,2,3,4,5,6,7,8,9] [] 4 #[true,true,true,true,true,true,true,true,true,true,false,false,false,false] (by kernel_rfl) (by kernel_rfl) rfl (by rfl) ?_
 iterate 10
  refine ql_want (v := ?_) rfl (by rfl) (fun W hW => ?_) ?_
  rotate_left
  ·go_simp
   first | done | rfl | (fail)
  go_frame
 refine wpQL_nil ?_
 refine p1_two eq_ext _ _ 10 11 12 13 5 6 173 4 #[.int .u8 0, .int .i64 0] #[.bool false] (.tmp 21) (.tmp 22) (evT ((lookM V u).getD (0,0))) ((.bool (lookM V u).isSome)) _
   #[true,true,true,true,true,true,true,true,true,true,true,false,false,false] #[true,true,true,true,true,true,true,true,true,true,false,true,false,false] #[true,true,true,true,true,true,true,true,true,true,true,true,false,false] #[true,true,true,true,true,true,true,true,true,true,true,true,true,false] #[true,true,true,true,true,true,true,true,true,true,true,true,true,true]
   (by kernel_rfl) (by kernel_rfl) (by kernel_rfl) (by kernel_rfl) (by kernel_rfl) (by kernel_rfl) (by rfl) (by rfl) (by rfl) (by rfl) (by rfl) (by rfl) rfl rfl rfl rfl
   ⟨rfl,rfl,by intro ρ w; go_simp⟩ ⟨rfl,rfl,by intro ρ w; go_simp⟩ ⟨rfl,rfl,rfl⟩ ⟨rfl,rfl,rfl⟩ (by simp) rfl rfl rfl rfl (sizeThing) (sizeBool) (one_evT _) (by intro u hu; simp [Value.cells] at hu; subst hu; rfl) ?_
 clear d0 d1 d2 d3
 intro b5 b6 w2 hx2 n5 n6 n56 hb5 hb6
 clear n5 n6 n56 hb5
 have hbg := hbg.ext hx2
 have e2 := e1.ext hx2
 have G2 := G1.ext hx2
 have hx2 := hx1.trans hx2
 clear hx1 e1 G1 hbe
 go_frame
 go_wp2
 -- vertex v
 have d0 := hbg.cells 0 rfl
 have d1 := G2.blk.cells 0 rfl
 have d2 := e2.2.2.1
 have d3 := fun (W : World) (hW : Ext w2 W) => (G2.vs.ext hW).lookup2 keV Tryz.underlying154 (zeroT W) hv
 simp only [ekV] at d3
 refine wp_region_still (P := Tryz.prog) [0,1,2,3,4,5,6,7,8,9] [] 4 #[true,true,true,true,true,true,true,true,true,true,false,false,false,false] (by kernel_rfl) (by kernel_rfl) rfl (by rfl) ?_
 iterate 10
  refine ql_want (v := ?_) rfl (by rfl) (fun W hW => ?_) ?_
  rotate_left
  ·go_simp
   first | done | rfl | (fail)
  go_frame
 refine wpQL_nil ?_
 refine p1_two eq_ext _ _ 10 11 12 13 7 8 173 4 #[.int .u8 0, .int .i64 0] #[.bool false] (.tmp 31) (.tmp 32) (evT ((lookM V v).getD (0,0))) ((.bool (lookM V v).isSome)) _
   #[true,true,true,true,true,true,true,true,true,true,true,false,false,false] #[true,true,true,true,true,true,true,true,true,true,false,true,false,false] #[true,true,true,true,true,true,true,true,true,true,true,true,false,false] #[true,true,true,true,true,true,true,true,true,true,true,true,true,false] #[true,true,true,true,true,true,true,true,true,true,true,true,true,true]
   (by kernel_rfl) (by kernel_rfl) (by kernel_rfl) (by kernel_rfl) (by kernel_rfl) (by kernel_rfl) (by rfl) (by rfl) (by rfl) (by rfl) (by rfl) (by rfl) rfl rfl rfl rfl
   ⟨rfl,rfl,by intro ρ w; go_simp⟩ ⟨rfl,rfl,by intro ρ w; go_simp⟩ ⟨rfl,rfl,rfl⟩ ⟨rfl,rfl,rfl⟩ (by simp) rfl rfl rfl rfl (sizeThing) (sizeBool) (one_evT _) (by intro u hu; simp [Value.cells] at hu; subst hu; rfl) ?_
 clear d0 d1 d2 d3
 intro b7 b8 w3 hx3 n5 n6 n56 hb7 hb8
 clear n5 n6 n56 hb7
 have hbg := hbg.ext hx3
 have hb6 := hb6.ext hx3
 have e3 := e2.ext hx3
 have G3 := G2.ext hx3
 have hx3 := hx2.trans hx3
 clear hx2 e2 G2
 go_frame
 go_wp2
 -- the edge
 have d0 := hbg.cells 0 rfl
 have d1 := G3.blk.cells 1 rfl
 have d2 := e3.2.1
 have d3 := e3.2.2.1
 have d4 := fun (W : World) (hW : Ext w3 W) => (G3.es.ext hW).lookup2 keE Tryz.underlying155 (zeroT W) hmm
 simp only [ekE] at d4
 refine wp_region_ext (P := Tryz.prog) [0,1,2,3,4,5,6,7,8,9,10,11,12] [] 4 #[true,true,true,true,true,true,true,true,true,true,true,true,true,false,false,false,false] (by kernel_rfl) (by kernel_rfl) rfl (by rfl) ?_
 iterate 13
  refine ql_want (v := ?_) rfl (by rfl) (fun W hW => ?_) ?_
  rotate_left
  ·go_simp
   first | done | rfl | ((refine (between_any _ _ _).mono ?_; rintro _ _ ⟨h1,h2⟩; refine ⟨_,h1, ?_,h2⟩; rfl))
  go_frame
 refine wpQL_nil ?_
 refine p1_two (fun _ _ h => h) _ _ 13 14 15 16 9 10 173 4 #[.int .u8 0, .int .i64 0] #[.bool false] (.tmp 44) (.tmp 45) (evT ((lookM E (min u v,max u v)).getD (0,0))) ((.bool (lookM E (min u v,max u v)).isSome)) _
   #[true,true,true,true,true,true,true,true,true,true,true,true,true,true,false,false,false] #[true,true,true,true,true,true,true,true,true,true,true,true,true,false,true,false,false] #[true,true,true,true,true,true,true,true,true,true,true,true,true,true,true,false,false] #[true,true,true,true,true,true,true,true,true,true,true,true,true,true,true,true,false] #[true,true,true,true,true,true,true,true,true,true,true,true,true,true,true,true,true]
   (by kernel_rfl) (by kernel_rfl) (by kernel_rfl) (by kernel_rfl) (by kernel_rfl) (by kernel_rfl) (by rfl) (by rfl) (by rfl) (by rfl) (by rfl) (by rfl) rfl rfl rfl rfl
   ⟨rfl,rfl,by intro ρ w; go_simp⟩ ⟨rfl,rfl,by intro ρ w; go_simp⟩ ⟨rfl,rfl,rfl⟩ ⟨rfl,rfl,rfl⟩ (by simp) rfl rfl rfl rfl (sizeThing) (sizeBool) (one_evT _) (by intro u hu; simp [Value.cells] at hu; subst hu; rfl) ?_
 clear d0 d1 d2 d3 d4
 intro b9 b10 w4 hx4 n5 n6 n56 hb9 hb10
 clear n5 n6 n56 hb9
 have hbg := hbg.ext hx4
 have hb6 := hb6.ext hx4
 have hb8 := hb8.ext hx4
 have e4 := e3.ext hx4
 have G4 := G3.ext hx4
 have hx4 := hx3.trans hx4
 clear hx3 e3 G3
 go_frame
 go_wp2
 -- the eight tests
 refine wp_abs (fun W => Ext w4 W ∧ Blk W w4.heap.size 183 (testCells w.heap.size (w.heap.size + 1) b6 b8 b10)) ⟨(Ext.refl w4).alloc _,Blk.new w4 _ _⟩ ?_
 rintro w5 ⟨hx5,hbt⟩
 have hbg := hbg.ext hx5
 have hb6 := hb6.ext hx5
 have hb8 := hb8.ext hx5
 have hb10 := hb10.ext hx5
 have e5 := e4.ext hx5
 have G5 := G4.ext hx5
 have hx5 := hx4.trans hx5
 have hbt' := hide hbt
 clear hx4 e4 G4 hbt
 generalize hbs : w4.heap.size = bs
 have hbt := unhide hbt'
 rw [hbs] at hbt
 clear hbs hbt'
 go_loopw [64] (fun i wr => ∃ k : Nat,k ≤ 8 ∧ i = .int .i64 k ∧ Ext w5 wr ∧ NoTest op u v wt (lookM V u).isSome (lookM V v).isSome (lookM E (min u v,max u v)).isSome E.length k) (fun i wr => 8 - (intOf i).toNat)
 case atStart => exact ⟨0,Nat.zero_le _,rfl,Ext.refl _,by simp [NoTest]⟩
 case round =>
  obtain ⟨k,hk,rfl,hxr,hno⟩ := hrel
  have er := e5.ext hxr
  have hu6 : ∀ W,Ext wr W → W.cell? ⟨b6,0,none⟩ = some (.bool (lookM V u).isSome) := (hb6.ext hxr).cells 0 rfl
  have hu8 : ∀ W,Ext wr W → W.cell? ⟨b8,0,none⟩ = some (.bool (lookM V v).isSome) := (hb8.ext hxr).cells 0 rfl
  have hu10 : ∀ W,Ext wr W → W.cell? ⟨b10,0,none⟩ = some (.bool (lookM E (min u v,max u v)).isSome) := (hb10.ext hxr).cells 0 rfl
  have hug : ∀ W,Ext wr W → W.cell? ⟨w.heap.size,0,none⟩ = some (.pointer (some ⟨g,0,none⟩)) := (hbg.ext hxr).cells 0 rfl
  have Gr := G5.ext hxr
  have hgm : ∀ W,Ext wr W → W.cell? ⟨g,1,none⟩ = some (.map (some be)) := Gr.blk.cells 1 rfl
  have hno' := hide hno
  clear hno
  have hk9 : k = 0 ∨ k = 1 ∨ k = 2 ∨ k = 3 ∨ k = 4 ∨ k = 5 ∨ k = 6 ∨ k = 7 ∨ k = 8 := by omega
  rcases hk9 with rfl | rfl | rfl | rfl | rfl | rfl | rfl | rfl | rfl
  ·have t0 : ∀ W,Ext wr W → W.cell? ⟨bs,0,none⟩ = some (.func (.func 126) #[] #[.pointer (some ⟨w.heap.size + 1,0,none⟩)]) := (hbt.ext hxr).cells 0 rfl
   have t1 : ∀ W,Ext wr W → W.cell? ⟨bs,1,none⟩ = some (.int .i64 11) := (hbt.ext hxr).cells 1 rfl
   go_wp2_with (go_at_call 126; refine (wrong1_any op u v lab wt (w.heap.size + 1) _ (er.ext ((Ext.refl _).alloc _))).mono ?_; rintro e w' ⟨rfl,rfl⟩)
   ·go_ret
    exact ⟨ret_int (by have h := unhide hno'; simp [NoTest,testsL] at h; unfold wrongF; simp [*]),(hx5.trans hxr).alloc _⟩
   ·go_roundw
    case rel => exact ⟨1,by omega,rfl,hxr.alloc _,by have h := unhide hno'; simp [NoTest,testsL] at h; simp [NoTest,testsL, *]⟩
    case measure => simp [intOf]
  ·have t0 : ∀ W,Ext wr W → W.cell? ⟨bs,2,none⟩ = some (.func (.func 127) #[] #[.pointer (some ⟨w.heap.size + 1,0,none⟩)]) := (hbt.ext hxr).cells 2 rfl
   have t1 : ∀ W,Ext wr W → W.cell? ⟨bs,3,none⟩ = some (.int .i64 2) := (hbt.ext hxr).cells 3 rfl
   go_wp2_with (go_at_call 127; refine (wrong2_any op u v lab wt (w.heap.size + 1) _ (er.ext ((Ext.refl _).alloc _))).mono ?_; rintro e w' ⟨rfl,rfl⟩)
   ·go_ret
    exact ⟨ret_int (by have h := unhide hno'; simp [NoTest,testsL] at h; unfold wrongF; simp [*]),(hx5.trans hxr).alloc _⟩
   ·go_roundw
    case rel => exact ⟨2,by omega,rfl,hxr.alloc _,by have h := unhide hno'; simp [NoTest,testsL] at h; simp [NoTest,testsL, *]⟩
    case measure => simp [intOf]
  ·have t0 : ∀ W,Ext wr W → W.cell? ⟨bs,4,none⟩ = some (.func (.func 132) #[] #[.pointer (some ⟨w.heap.size + 1,0,none⟩)]) := (hbt.ext hxr).cells 4 rfl
   have t1 : ∀ W,Ext wr W → W.cell? ⟨bs,5,none⟩ = some (.int .i64 15) := (hbt.ext hxr).cells 5 rfl
   go_wp2_with (go_at_call 132; refine (wrong3_any op u v lab wt (w.heap.size + 1) _ (er.ext ((Ext.refl _).alloc _))).mono ?_; rintro e w' ⟨rfl,rfl⟩)
   ·go_ret
    exact ⟨ret_int (by have h := unhide hno'; simp [NoTest,testsL] at h; unfold wrongF; simp [*]),(hx5.trans hxr).alloc _⟩
   ·go_roundw
    case rel => exact ⟨3,by omega,rfl,hxr.alloc _,by have h := unhide hno'; simp [NoTest,testsL] at h; simp [NoTest,testsL, *]⟩
    case measure => simp [intOf]
  ·have t0 : ∀ W,Ext wr W → W.cell? ⟨bs,6,none⟩ = some (.func (.func 133) #[] #[.pointer (some ⟨w.heap.size + 1,0,none⟩), .pointer (some ⟨b6,0,none⟩)]) := (hbt.ext hxr).cells 6 rfl
   have t1 : ∀ W,Ext wr W → W.cell? ⟨bs,7,none⟩ = some (.int .i64 7) := (hbt.ext hxr).cells 7 rfl
   go_wp2_with (go_at_call 133; refine (wrong4_any op u v lab wt (w.heap.size + 1) _ (er.ext ((Ext.refl _).alloc _)) b6 _ (fun W h => hu6 W (((Ext.refl _).alloc _).trans h))).mono ?_; rintro e w' ⟨rfl,rfl⟩)
   ·go_ret
    exact ⟨ret_int (by have h := unhide hno'; simp [NoTest,testsL] at h; unfold wrongF; simp [*]),(hx5.trans hxr).alloc _⟩
   ·go_roundw
    case rel => exact ⟨4,by omega,rfl,hxr.alloc _,by have h := unhide hno'; simp [NoTest,testsL] at h; simp [NoTest,testsL, *]⟩
    case measure => simp [intOf]
  ·have t0 : ∀ W,Ext wr W → W.cell? ⟨bs,8,none⟩ = some (.func (.func 134) #[] #[.pointer (some ⟨w.heap.size + 1,0,none⟩), .pointer (some ⟨b6,0,none⟩), .pointer (some ⟨b8,0,none⟩)]) := (hbt.ext hxr).cells 8 rfl
   have t1 : ∀ W,Ext wr W → W.cell? ⟨bs,9,none⟩ = some (.int .i64 9) := (hbt.ext hxr).cells 9 rfl
   go_wp2_with (go_at_call 134; refine (wrong5_any op u v lab wt (w.heap.size + 1) _ (er.ext ((Ext.refl _).alloc _)) b6 _ (fun W h => hu6 W (((Ext.refl _).alloc _).trans h)) b8 _ (fun W h => hu8 W (((Ext.refl _).alloc _).trans h))).mono ?_; rintro e w' ⟨rfl,rfl⟩)
   ·go_ret
    exact ⟨ret_int (by have h := unhide hno'; simp [NoTest,testsL] at h; unfold wrongF; simp [*]),(hx5.trans hxr).alloc _⟩
   ·go_roundw
    case rel => exact ⟨5,by omega,rfl,hxr.alloc _,by have h := unhide hno'; simp [NoTest,testsL] at h; simp [NoTest,testsL, *]⟩
    case measure => simp [intOf]
  ·have t0 : ∀ W,Ext wr W → W.cell? ⟨bs,10,none⟩ = some (.func (.func 135) #[] #[.pointer (some ⟨w.heap.size + 1,0,none⟩), .pointer (some ⟨b10,0,none⟩)]) := (hbt.ext hxr).cells 10 rfl
   have t1 : ∀ W,Ext wr W → W.cell? ⟨bs,11,none⟩ = some (.int .i64 9) := (hbt.ext hxr).cells 11 rfl
   go_wp2_with (go_at_call 135; refine (wrong6_any op u v lab wt (w.heap.size + 1) _ (er.ext ((Ext.refl _).alloc _)) b10 _ (fun W h => hu10 W (((Ext.refl _).alloc _).trans h))).mono ?_; rintro e w' ⟨rfl,rfl⟩)
   ·go_ret
    exact ⟨ret_int (by have h := unhide hno'; simp [NoTest,testsL] at h; unfold wrongF; simp [*]),(hx5.trans hxr).alloc _⟩
   ·go_roundw
    case rel => exact ⟨6,by omega,rfl,hxr.alloc _,by have h := unhide hno'; simp [NoTest,testsL] at h; simp [NoTest,testsL, *]⟩
    case measure => simp [intOf]
  ·have t0 : ∀ W,Ext wr W → W.cell? ⟨bs,12,none⟩ = some (.func (.func 136) #[] #[.pointer (some ⟨w.heap.size + 1,0,none⟩), .pointer (some ⟨b10,0,none⟩)]) := (hbt.ext hxr).cells 12 rfl
   have t1 : ∀ W,Ext wr W → W.cell? ⟨bs,13,none⟩ = some (.int .i64 7) := (hbt.ext hxr).cells 13 rfl
   go_wp2_with (go_at_call 136; refine (wrong7_any op u v lab wt (w.heap.size + 1) _ (er.ext ((Ext.refl _).alloc _)) b10 _ (fun W h => hu10 W (((Ext.refl _).alloc _).trans h))).mono ?_; rintro e w' ⟨rfl,rfl⟩)
   ·go_ret
    exact ⟨ret_int (by have h := unhide hno'; simp [NoTest,testsL] at h; unfold wrongF; simp [*]),(hx5.trans hxr).alloc _⟩
   ·go_roundw
    case rel => exact ⟨7,by omega,rfl,hxr.alloc _,by have h := unhide hno'; simp [NoTest,testsL] at h; simp [NoTest,testsL, *]⟩
    case measure => simp [intOf]
  ·have t0 : ∀ W,Ext wr W → W.cell? ⟨bs,14,none⟩ = some (.func (.func 137) #[] #[.pointer (some ⟨w.heap.size + 1,0,none⟩), .pointer (some ⟨w.heap.size,0,none⟩)]) := (hbt.ext hxr).cells 14 rfl
   have t1 : ∀ W,Ext wr W → W.cell? ⟨bs,15,none⟩ = some (.int .i64 8) := (hbt.ext hxr).cells 15 rfl
   go_wp2_with (go_at_call 137; refine (wrong8_any op u v lab wt (w.heap.size + 1) _ (er.ext ((Ext.refl _).alloc _)) w.heap.size g be E.length (fun W h => hug W (((Ext.refl _).alloc _).trans h)) (fun W h => hgm W (((Ext.refl _).alloc _).trans h)) (fun ty => (Gr.es.ext ((Ext.refl _).alloc _)).len Tryz.underlying155 ty)).mono ?_; rintro e w' ⟨rfl,rfl⟩)
   ·go_ret
    exact ⟨ret_int (by have h := unhide hno'; simp [NoTest,testsL] at h; unfold wrongF; simp [*]),(hx5.trans hxr).alloc _⟩
   ·go_roundw
    case rel => exact ⟨8,by omega,rfl,hxr.alloc _,by have h := unhide hno'; simp [NoTest,testsL] at h; simp [NoTest,testsL, *]⟩
    case measure => simp [intOf]
  ·go_wp2
   go_ret
   exact ⟨ret_int (by have h := unhide hno'; simp [NoTest,testsL] at h; unfold wrongF; simp [*]),hx5.trans hxr⟩
end Go.Proofs.YtmokciekndllpaaGreatDoor
