/- Parts of a proof, laid together. Each part says its own conditions. -/
import Derived.Test.YtbpeemhfjgcnaaaGreatRows
import Derived.Test.YtbpeemhfjgcnaaaGreatC2
import Derived.WalkKit
import Derived.WalkSpells
import Derived.WalkLawsBesides
import Derived.BigQuiet
import Derived.Deep.QuietTactic
import Derived.Laws.Tables
namespace Go.Proofs.YtbpeemhfjgcnaaaGreat
open Go Go.RowKit
theorem ret_bool {a b : Bool} (h : a = b) : Ending.returned (.bool a) = .returned (.bool b) := by rw [h]
theorem ret_int {k : IntKind} {a b : Int} (h : a = b) : Ending.returned (.int k a) = .returned (.int k b) := by rw [h]
theorem ext_alloc {a b : World} (o : Obj) (h : Ext a b) : Ext a (b.alloc o) := h.alloc o
theorem ext_drew {a b : World} (h : Ext a b) : Ext a b.drew := h.drew
theorem ext_set {a b : World} (p : Addr) (u : Value) (h : Ext a b) (hp : a.heap.size ≤ p.block) : Ext a (b.setCell p u) := Below.setCell h hp u
attribute [go_sem] ext_alloc ext_drew ext_set Ext.refl
def idB (n : Int) : Bool := decide (0 ≤ n) && decide (n < 1024)
def pairsB (n : Int) : Bool := n == 2 || n == 3 || n == 6 || n == 7
def weighsB (n : Int) : Bool := n == 0 || n == 2 || n == 5 || n == 7
def heavyB (n : Int) : Bool := decide (n < -1048576) || decide (1048576 < n)
theorem id_any (n : Int) (w : World) : Calls Tryz.prog 89 #[.int .i64 n] w fun e w' => e = .returned (.bool (idB n)) ∧ w' = w := by
 go_enter Tryz.func89,Tryz.ntmps89
 go_wp2
 all_goals (go_ret; exact ⟨ret_bool (by unfold idB; simp [*]; try omega),rfl⟩)
theorem pairs_any (n : Int) (w : World) : Calls Tryz.prog 90 #[.int .i64 n] w fun e w' => e = .returned (.bool (pairsB n)) ∧ w' = w := by
 go_enter Tryz.func90,Tryz.ntmps90
 go_wp2
 all_goals (go_ret; exact ⟨ret_bool (by unfold pairsB; simp [*]),rfl⟩)
theorem weighs_any (n : Int) (w : World) : Calls Tryz.prog 91 #[.int .i64 n] w fun e w' => e = .returned (.bool (weighsB n)) ∧ w' = w := by
 go_enter Tryz.func91,Tryz.ntmps91
 go_wp2
 all_goals (go_ret; exact ⟨ret_bool (by unfold weighsB; simp [*]),rfl⟩)
theorem heavy_any (n : Int) (w : World) : Calls Tryz.prog 92 #[.int .i64 n] w fun e w' => e = .returned (.bool (heavyB n)) ∧ w' = w := by
 go_enter Tryz.func92,Tryz.ntmps92
 go_wp2
 all_goals (go_ret; exact ⟨ret_bool (by unfold heavyB; simp [*]; try omega),rfl⟩)
theorem between_any (a b : Int) (w : World) :
  Calls Tryz.prog 66 #[.int .i64 a, .int .i64 b] w fun e w' => e = .returned (.agg #[.int .i64 (min a b), .int .i64 (max a b)]) ∧ Ext w w' := by
 go_enter Tryz.func66,Tryz.ntmps66
 go_wp2
 ·have e1 : min a b = b := by omega
  have e2 : max a b = a := by omega
  rw [e1,e2]
  exact bodyPost_ret (by simp [results,Tryz.results66,go_sem]) rfl ⟨rfl,(Ext.refl w).alloc _⟩
 ·have e1 : min a b = a := by omega
  have e2 : max a b = b := by omega
  rw [e1,e2]
  exact bodyPost_ret (by simp [results,Tryz.results66,go_sem]) rfl ⟨rfl,(Ext.refl w).alloc _⟩
 ·have e0 : a = b := by omega
  subst e0
  rw [Int.min_self,Int.max_self]
  exact bodyPost_ret (by simp [results,Tryz.results66,go_sem]) rfl ⟨rfl,(Ext.refl w).alloc _⟩
def EditAt (w : World) (g : Nat) (op u v lab wt : Int) : Prop :=
 (∀ W,Ext w W → W.cell? ⟨g,0,none⟩ = some (.int .i64 op)) ∧ (∀ W,Ext w W → W.cell? ⟨g,1,none⟩ = some (.int .i64 u)) ∧ (∀ W,Ext w W → W.cell? ⟨g,2,none⟩ = some (.int .i64 v)) ∧
 (∀ W,Ext w W → W.cell? ⟨g,3,none⟩ = some (.int .u8 lab)) ∧ (∀ W,Ext w W → W.cell? ⟨g,4,none⟩ = some (.int .i64 wt))
theorem EditAt.ext {w w' : World} {g : Nat} {op u v lab wt : Int} (h : EditAt w g op u v lab wt) (hx : Ext w w') : EditAt w' g op u v lab wt :=
 ⟨fun W k => h.1 W (hx.trans k),fun W k => h.2.1 W (hx.trans k),fun W k => h.2.2.1 W (hx.trans k),fun W k => h.2.2.2.1 W (hx.trans k),fun W k => h.2.2.2.2 W (hx.trans k)⟩
def w1B (op : Int) : Bool := decide (op < 0) || decide (8 ≤ op)
def w2B (op u v wt : Int) : Bool := !idB u || pairsB op && !idB v || weighsB op && heavyB wt
def w3B (op u v : Int) : Bool := pairsB op && u == v
def w4B (op : Int) (iu : Bool) : Bool := op == 0 && iu
def w5B (op : Int) (iu iv : Bool) : Bool := op != 0 && !pairsB op && !iu || op == 2 && !(iu && iv)
def w6B (op : Int) (ie : Bool) : Bool := pairsB op && op != 2 && !ie
def w7B (op : Int) (ie : Bool) : Bool := op == 2 && ie
def w8B (op : Int) (ne : Nat) : Bool := op == 2 && decide (1024 ≤ ne)
section
variable (op u v lab wt : Int) (g : Nat) (w : World) (he : EditAt w g op u v lab wt)
include he
theorem wrong1_any : Calls Tryz.prog 87 #[.pointer (some ⟨g,0,none⟩)] w fun e w' => e = .returned (.bool (w1B op)) ∧ w' = w := by
 obtain ⟨c0,c1,c2,c3,c4⟩ := he
 go_enter Tryz.func87,Tryz.ntmps87
 go_wp2
 all_goals (go_ret; exact ⟨ret_bool (by unfold w1B; simp [*]; try omega),rfl⟩)
theorem wrong2_any  : Calls Tryz.prog 88 #[.pointer (some ⟨g,0,none⟩)] w fun e w' => e = .returned (.bool (w2B op u v wt)) ∧ w' = w := by
 obtain ⟨c0,c1,c2,c3,c4⟩ := he
 go_enter Tryz.func88,Tryz.ntmps88
 go_wp2_with (first | (go_at_call 89; refine (id_any _ _).mono ?_; rintro e w' ⟨rfl,rfl⟩) | (go_at_call 90; refine (pairs_any _ _).mono ?_; rintro e w' ⟨rfl,rfl⟩) | (go_at_call 91; refine (weighs_any _ _).mono ?_; rintro e w' ⟨rfl,rfl⟩) | (go_at_call 92; refine (heavy_any _ _).mono ?_; rintro e w' ⟨rfl,rfl⟩))
 all_goals (go_ret; exact ⟨ret_bool (by unfold w2B; simp_all),rfl⟩)
theorem wrong3_any  : Calls Tryz.prog 93 #[.pointer (some ⟨g,0,none⟩)] w fun e w' => e = .returned (.bool (w3B op u v)) ∧ w' = w := by
 obtain ⟨c0,c1,c2,c3,c4⟩ := he
 go_enter Tryz.func93,Tryz.ntmps93
 go_wp2_with ((go_at_call 90; refine (pairs_any _ _).mono ?_; rintro e w' ⟨rfl,rfl⟩))
 all_goals (go_ret; exact ⟨ret_bool (by unfold w3B; simp_all),rfl⟩)
theorem wrong4_any (gu : Nat) (iu : Bool) (hu : ∀ W,Ext w W → W.cell? ⟨gu,0,none⟩ = some (.bool iu)) : Calls Tryz.prog 94 #[.pointer (some ⟨g,0,none⟩), .pointer (some ⟨gu,0,none⟩)] w fun e w' => e = .returned (.bool (w4B op iu)) ∧ w' = w := by
 obtain ⟨c0,c1,c2,c3,c4⟩ := he
 go_enter Tryz.func94,Tryz.ntmps94
 go_wp2_with (fail)
 all_goals (go_ret; exact ⟨ret_bool (by unfold w4B; simp_all),rfl⟩)
theorem wrong5_any (gu : Nat) (iu : Bool) (hu : ∀ W,Ext w W → W.cell? ⟨gu,0,none⟩ = some (.bool iu)) (gv : Nat) (iv : Bool) (hv : ∀ W,Ext w W → W.cell? ⟨gv,0,none⟩ = some (.bool iv)) : Calls Tryz.prog 95 #[.pointer (some ⟨g,0,none⟩), .pointer (some ⟨gu,0,none⟩), .pointer (some ⟨gv,0,none⟩)] w fun e w' => e = .returned (.bool (w5B op iu iv)) ∧ w' = w := by
 obtain ⟨c0,c1,c2,c3,c4⟩ := he
 go_enter Tryz.func95,Tryz.ntmps95
 go_wp2_with ((go_at_call 90; refine (pairs_any _ _).mono ?_; rintro e w' ⟨rfl,rfl⟩))
 all_goals (go_ret; exact ⟨ret_bool (by unfold w5B; simp_all),rfl⟩)
theorem wrong6_any (ge : Nat) (ie : Bool) (hie : ∀ W,Ext w W → W.cell? ⟨ge,0,none⟩ = some (.bool ie)) : Calls Tryz.prog 96 #[.pointer (some ⟨g,0,none⟩), .pointer (some ⟨ge,0,none⟩)] w fun e w' => e = .returned (.bool (w6B op ie)) ∧ w' = w := by
 obtain ⟨c0,c1,c2,c3,c4⟩ := he
 go_enter Tryz.func96,Tryz.ntmps96
 go_wp2_with ((go_at_call 90; refine (pairs_any _ _).mono ?_; rintro e w' ⟨rfl,rfl⟩))
 all_goals (go_ret; exact ⟨ret_bool (by unfold w6B; simp_all),rfl⟩)
theorem wrong7_any (ge : Nat) (ie : Bool) (hie : ∀ W,Ext w W → W.cell? ⟨ge,0,none⟩ = some (.bool ie)) : Calls Tryz.prog 97 #[.pointer (some ⟨g,0,none⟩), .pointer (some ⟨ge,0,none⟩)] w fun e w' => e = .returned (.bool (w7B op ie)) ∧ w' = w := by
 obtain ⟨c0,c1,c2,c3,c4⟩ := he
 go_enter Tryz.func97,Tryz.ntmps97
 go_wp2_with (fail)
 all_goals (go_ret; exact ⟨ret_bool (by unfold w7B; simp_all),rfl⟩)
theorem wrong8_any (gg bg be ne : Nat) (hg : ∀ W,Ext w W → W.cell? ⟨gg,0,none⟩ = some (.pointer (some ⟨bg,0,none⟩))) (hm : ∀ W,Ext w W → W.cell? ⟨bg,1,none⟩ = some (.map (some be))) (hn : ∀ ty,(Builtin.len_ #[111] ty #[.map (some be)]).run Tryz.prog w = .ok (.int .i64 ne) w) : Calls Tryz.prog 98 #[.pointer (some ⟨g,0,none⟩), .pointer (some ⟨gg,0,none⟩)] w fun e w' => e = .returned (.bool (w8B op ne)) ∧ w' = w := by
 obtain ⟨c0,c1,c2,c3,c4⟩ := he
 go_enter Tryz.func98,Tryz.ntmps98
 go_wp2_with (fail)
 all_goals (go_ret; exact ⟨ret_bool (by unfold w8B; simp_all; try omega),rfl⟩)
end
end Go.Proofs.YtbpeemhfjgcnaaaGreat
namespace Go.Proofs.YtbpeemhfjgcnaaaGreat
open Go Go.RowKit
def Blk (w : World) (b : Nat) (t : TypeId) (cs : Array Value) : Prop := w.heap[b]? = some (.cells cs t (0,0))
section
variable {w w' : World} {b : Nat} {t : TypeId} {cs : Array Value}
theorem Blk.lt (h : Blk w b t cs) : b < w.heap.size := (Array.getElem?_eq_some_iff.1 h).1
theorem Blk.of_block (h : Blk w b t cs) (hb : w'.heap[b]? = w.heap[b]?) : Blk w' b t cs := hb.trans h
theorem Blk.ext (h : Blk w b t cs) (k : Ext w w') : Blk w' b t cs := h.of_block (k.block b h.lt)
theorem Blk.keep {S : List Nat} (h : Blk w b t cs) (k : Keep S w w') (hn : b ∉ S) : Blk w' b t cs := h.of_block (k.block b h.lt hn)
theorem Blk.cell (h : Blk w b t cs) (i : Nat) : w.cell? ⟨b,i,none⟩ = cs[i]? := cell_of_row w b i cs t (0,0) h
theorem Blk.frozen (h : Blk w b t cs) (i : Nat) : w.frozen? ⟨b,i,none⟩ = false := by
 unfold Blk at h
 simp [World.frozen?,h]
theorem Blk.new (w : World) (t : TypeId) (cs : Array Value) : Blk (w.alloc (.cells cs t)) w.heap.size t cs := heap_alloc_new w _
theorem Blk.row (h : Blk w b t cs) (cs' : Array Value) : Blk (w.setRow b cs') b t cs' := setRow_heap w b cs cs' t (0,0) h
theorem Keep.setRow (w : World) (b : Nat) (cs : Array Value) : Keep [b] w (w.setRow b cs) :=
 ⟨rfl,rfl,rfl,by simp [World.setRow],fun k _ hn => setRow_other w b k cs (by simpa using hn)⟩
theorem Blk.cells (h : Blk w b t cs) (i : Nat) {v : Value} (hv : cs[i]? = some v) : ∀ W,Ext w W → W.cell? ⟨b,i,none⟩ = some v := fun _ hW => ((h.ext hW).cell i).trans hv
theorem cell_ext {a : Addr} {v : Value} (h : w.cell? a = some v) : ∀ W,Ext w W → W.cell? a = some v := fun _ hW => by
 rw [Below.cell hW (World.block_lt_of_cell? w a h)]
 exact h
end
theorem eval_put_same {a : Act} {d : Nat} {v : Value} (h : d < a.tmps.size) : (a.put (some d) v).eval (.tmp d) = v := by
 simp [Act.eval,Act.put,h]
theorem eval_put_ne {a : Act} {d e : Nat} {v : Value} (h : d ≠ e) : (a.put (some d) v).eval (.tmp e) = a.eval (.tmp e) :=
 Act.eval_put (fun d' hd hx => by cases hd; cases hx; exact h rfl)
theorem run_store_row {P : Program} {ρ : Operand → Value} {o : Oper} {t : TypeId} {p x : Operand} {w : World} {b : Nat} {cs : Array Value} {v : Value} (ho : o.op = .store t p x) (hp : ρ p = .pointer (some ⟨b,0,none⟩)) (hx : ρ x = v)
  (hs : (sizeOf t).run P w = .ok v.cells.size w) (hb : Blk w b t cs) (hn : cs.size = v.cells.size) (h1 : ∀ u ∈ v.cells.toList,u.oneCell' = true) :
  (execOp ρ o).run P w = .ok .skip (w.setRow b v.cells) := by
 have hst := run_storeCells_from (P := P) b t v.cells.toList 0 cs w hb (by simp [hn]) h1
 simp only [List.take_zero,List.nil_append,Array.toArray_toList] at hst
 unfold execOp
 simp only [ho,hp,hx]
 simp [Instr.storeAt,Instr.sureAddr,storeVar,hs,hst,Result.andThen]
section
variable {P : Program} {l : List Oper} {K : Act → World → Prop}
theorem p1_two {R : World → World → Prop} (hR : ∀ a b,R a b → Ext a b) (A : Act) (w1 : World) (i5 i6 s5 s6 d5 d6 : Nat) (T5 T6 : TypeId) (z5 z6 : Array Value) (x5 x6 : Operand) (v5 v6 : Value) {o5 o6 p5 p6 : Oper} (listed l5 l6 l56 l56s lall : Array Bool)
  (r0 : Region.ready .any l.toArray listed = [i5,i6]) (r5 : Region.ready .any l.toArray l5 = [i6]) (r6 : Region.ready .any l.toArray l6 = [i5]) (r56 : Region.ready .any l.toArray l56 = [s5]) (r56s : Region.ready .any l.toArray l56s = [s6]) (rall : Region.ready .any l.toArray lall = [])
  (e5 : listed.setIfInBounds i5 true = l5) (e6 : listed.setIfInBounds i6 true = l6) (e56 : l5.setIfInBounds i6 true = l56) (e65 : l6.setIfInBounds i5 true = l56) (e56s : l56.setIfInBounds s5 true = l56s) (eall : l56s.setIfInBounds s6 true = lall)
  (h5 : pick l i5 = some o5) (h6 : pick l i6 = some o6) (g5 : pick l s5 = some p5) (g6 : pick l s6 = some p6)
  (q5 : o5.guard = none ∧ o5.dst = some d5 ∧ ∀ (ρ : Operand → Value) w,(execOp ρ o5).run P w = .ok (.value (.pointer (some ⟨w.heap.size,0,none⟩))) (w.alloc (.cells z5 T5)))
  (q6 : o6.guard = none ∧ o6.dst = some d6 ∧ ∀ (ρ : Operand → Value) w,(execOp ρ o6).run P w = .ok (.value (.pointer (some ⟨w.heap.size,0,none⟩))) (w.alloc (.cells z6 T6)))
  (u5 : p5.guard = none ∧ p5.dst = none ∧ p5.op = .store T5 (.tmp d5) x5) (u6 : p6.guard = none ∧ p6.dst = none ∧ p6.op = .store T6 (.tmp d6) x6)
  (hd : d5 < A.tmps.size ∧ d6 < A.tmps.size ∧ d5 ≠ d6 ∧ x5 ≠ .tmp d5 ∧ x5 ≠ .tmp d6 ∧ x6 ≠ .tmp d5 ∧ x6 ≠ .tmp d6)
  (hv5 : A.eval x5 = v5) (hv6 : A.eval x6 = v6) (hz5 : z5.size = v5.cells.size) (hz6 : z6.size = v6.cells.size) (hs5 : ∀ w,(sizeOf T5).run P w = .ok v5.cells.size w) (hs6 : ∀ w,(sizeOf T6).run P w = .ok v6.cells.size w)
  (c5 : ∀ u ∈ v5.cells.toList,u.oneCell' = true) (c6 : ∀ u ∈ v6.cells.toList,u.oneCell' = true)
  (hfin : ∀ b5 b6 W,Ext w1 W → w1.heap.size ≤ b5 → w1.heap.size ≤ b6 → b5 ≠ b6 → Blk W b5 T5 v5.cells → Blk W b6 T6 v6.cells → K ((A.put (some d5) (.pointer (some ⟨b5,0,none⟩))).put (some d6) (.pointer (some ⟨b6,0,none⟩))) W) :
  ∀ w',Ext w1 w' → wpX P l.toArray R (Ext w1) (fun j => !([] : List Nat).contains j) K 4 listed A w' := by
 intro w' hw'
 obtain ⟨y1,y2,y3,y4,y5,y6,y7⟩ := hd
 have stores : ∀ (b5 b6 : Nat) (W : World),Ext w1 W → w1.heap.size ≤ b5 → w1.heap.size ≤ b6 → b5 ≠ b6 → Blk W b5 T5 z5 → Blk W b6 T6 z6 →
   wpX P l.toArray R (Ext w1) (fun j => !([] : List Nat).contains j) K 2 l56 ((A.put (some d5) (.pointer (some ⟨b5,0,none⟩))).put (some d6) (.pointer (some ⟨b6,0,none⟩))) W := by
  intro b5 b6 W hW n5 n6 hne hb5 hb6
  have ev : ∀ x : Operand,x ≠ .tmp d5 → x ≠ .tmp d6 → ((A.put (some d5) (.pointer (some ⟨b5,0,none⟩))).put (some d6) (.pointer (some ⟨b6,0,none⟩))).eval x = A.eval x := fun x k5 k6 => by
   rw [Act.eval_put (fun d hd => by cases hd; exact k6),Act.eval_put (fun d hd => by cases hd; exact k5)]
  have ep5 : ((A.put (some d5) (.pointer (some ⟨b5,0,none⟩))).put (some d6) (.pointer (some ⟨b6,0,none⟩))).eval (.tmp d5) = .pointer (some ⟨b5,0,none⟩) := by
   rw [eval_put_ne (Ne.symm y3),eval_put_same y1]
  have ep6 : ((A.put (some d5) (.pointer (some ⟨b5,0,none⟩))).put (some d6) (.pointer (some ⟨b6,0,none⟩))).eval (.tmp d6) = .pointer (some ⟨b6,0,none⟩) :=
   eval_put_same (by simpa [Act.put] using y2)
  refine lx_one r56 g5 (by simp [Region.wanted,u5.1]) l56s e56s ?_
  rw [run_store_row u5.2.2 ep5 ((ev x5 y4 y5).trans hv5) (hs5 W) hb5 hz5 c5,u5.2.1]
  have hW1 : Ext w1 (W.setRow b5 v5.cells) := hW.of_new (Keep.setRow W b5 _) (by simpa using n5)
  refine ⟨fun _ => hW1,fun w'' e => ?_⟩
  have e := hR _ _ e
  have hb5' := (hb5.row v5.cells).ext e
  have hb6' : Blk w'' b6 T6 z6 := (hb6.keep (Keep.setRow W b5 _) (by simpa using hne.symm)).ext e
  refine lx_one r56s g6 (by simp [Region.wanted,u6.1]) lall eall ?_
  show lUpon P _ ((execOp ((A.put (some d5) _).put (some d6) _).eval p6).run P _)
  rw [run_store_row u6.2.2 ep6 ((ev x6 y6 y7).trans hv6) (hs6 _) hb6' hz6 c6,u6.2.1]
  have hW2 : Ext w1 (w''.setRow b6 v6.cells) := (hW1.trans e).of_new (Keep.setRow _ b6 _) (by simpa using n6)
  refine ⟨fun _ => hW2,fun w3 e3 => ?_⟩
  have e3 := hR _ _ e3
  exact wpX_done rall (hfin b5 b6 _ (hW2.trans e3) n5 n6 hne ((hb5'.keep (Keep.setRow _ b6 _) (by simpa using hne)).ext e3) ((hb6'.row _).ext e3))
 refine lx_two r0 h5 (by simp [Region.wanted,q5.1]) l5 e5 h6 (by simp [Region.wanted,q6.1]) l6 e6 ?_ ?_
 ·rw [q5.2.2,q5.2.1]
  refine ⟨fun _ => hw'.alloc _,fun w'' e => ?_⟩
  have e := hR _ _ e
  refine lx_one r5 h6 (by simp [Region.wanted,q6.1]) l56 e56 ?_
  rw [q6.2.2,q6.2.1]
  have hx := (hw'.alloc _).trans e
  refine ⟨fun _ => hx.alloc _,fun w3 e3 => ?_⟩
  have e3 := hR _ _ e3
  have s1 := Below.size hw'
  have s2 := Below.size hx
  have s3 := Below.size e
  simp at s3
  exact stores w'.heap.size w''.heap.size _ ((hx.alloc _).trans e3) s1 s2 (by omega) ((((Blk.new w' T5 z5).ext e).ext ((Ext.refl _).alloc _)).ext e3) ((Blk.new _ T6 z6).ext e3)
 ·rw [q6.2.2,q6.2.1]
  refine ⟨fun _ => hw'.alloc _,fun w'' e => ?_⟩
  have e := hR _ _ e
  refine lx_one r6 h5 (by simp [Region.wanted,q5.1]) l56 e65 ?_
  rw [q5.2.2,q5.2.1]
  have hx := (hw'.alloc _).trans e
  refine ⟨fun _ => hx.alloc _,fun w3 e3 => ?_⟩
  have e3 := hR _ _ e3
  have s1 := Below.size hw'
  have s2 := Below.size hx
  have s3 := Below.size e
  simp at s3
  rw [Act.put_comm _ _ _ (fun d hd => by cases hd; simpa using y3)]
  exact stores w''.heap.size w'.heap.size _ ((hx.alloc _).trans e3) s2 s1 (by omega) ((Blk.new _ T5 z5).ext e3) ((((Blk.new w' T6 z6).ext e).ext ((Ext.refl _).alloc _)).ext e3)
end
theorem eq_ext (a b : World) (h : b = a) : Ext a b := by rw [h]; exact Ext.refl _
end Go.Proofs.YtbpeemhfjgcnaaaGreat
