/- Parts of a proof, laid together. Each part says its own conditions. -/
import Derived.Test.YtmokciekndllpaaGreatDoorC10
import Derived.Test.YtmokciekndllpaaGreatDoorC2
import Derived.OrdersIn
import Derived.RangeFuncNested
import Derived.RangeFuncBound
import Derived.RangeFuncCalls
import Derived.RangeFuncLeaves
import Derived.Shelf.Abstract
import Derived.OwnWalkIn
import Derived.Test.YtmokciekndllpaaGreatDoorC3
import Derived.Laws.Cells
import Derived.Laws.Rows
import Derived.Test.YtmokciekndllpaaGreatDoorC15
namespace Go.Proofs.YtmokciekndllpaaGreatDoor
open Go Go.RowKit Go.Shelf
abbrev RF (l : Nat) : Fence := Fence.wide.inRound l
theorem calls_in {P : Program} {f : FuncId} {args : Array Value} {w : World} {R : Ending → World → Prop} (l n : Nat) (h : Calls P f args w R) : CallsIn (RF l) n P f args w R := CallsIn.inRound l (callsIn_wide.2 h)
def noDefer (ops : Array Oper) : Bool := ops.all fun o => match o.op with | .defer _ => false | _ => true
theorem noDefer_at {ops : Array Oper} (h : noDefer ops = true) {i : Nat} {o : Oper} (ho : ops[i]? = some o) : ∀ c,o.op ≠ .defer c := by
 intro c hc
 have h1 := Array.all_eq_true'.1 h o (Array.mem_of_getElem? ho)
 simp [hc] at h1
section
variable {P : Program} {ops : Array Oper} {R : World → World → Prop} {C : World → Prop} {safe : Nat → Bool}
theorem wpOpIn_of_xStep {Q : Exit → Act → World → Prop} {l n i : Nat} {K : Act → World → Prop} {a : Act} {w : World} (hnd : noDefer ops = true) (hx : xStep P ops i K a w) : wpOpIn (RF l) n P ops Q i K a w := by
 unfold xStep at hx
 unfold wpOpIn
 split
 ·rename_i ho; simp only [ho] at hx; exact hx
 ·rename_i o ho
  simp only [ho] at hx
  have hnd' := noDefer_at hnd ho
  split
  ·rename_i hw
   simp only [hw,if_true] at hx
   unfold Oper.wpIn
   refine ⟨fun _ _ => trivial, ?_⟩
   rw [Oper.semAt_plain _ _ _ hnd']
   generalize (execOp a.eval o).run P w = r at *
   cases r with
   | ok x w' =>
    cases x <;> simp only [lUpon] at hx <;> simp only [Oper.uponIn]
    case value v => exact hx
    case skip => exact hx
    case enter f args => exact ⟨fun h => by simp [Fence.wide] at h,(calls_in l _ hx).mono fun e w'' ⟨v,he,hk⟩ => by subst he; exact hk⟩
   | halt x w' => simp only [lUpon] at hx
  ·rename_i hw; simp only [hw] at hx; exact ⟨fun _ _ => trivial,hx⟩
theorem wpAnyIn_of_wpX {Q : Act → World → Prop} {Q' : Exit → Act → World → Prop} {l m : Nat} (hnd : noDefer ops = true) (hR : ∀ w,R w w) (hQ : ∀ a w,Q a w → Q' .normal a w) : ∀ (n : Nat) (listed : Array Bool) (a : Act) (w : World),wpX P ops R C safe Q n listed a w → wpAnyIn (RF l) m P .any ops Q' n listed a w
 | 0,_,_,_,h => ⟨h.1,hQ _ _ h.2⟩
 | n + 1,_,_,_,h => ⟨fun h0 => hQ _ _ (h.1 h0),fun i hi => wpOpIn_of_xStep hnd (xStep_mono (fun a' w' hk => wpAnyIn_of_wpX hnd hR hQ n _ a' w' (hk.2 w' (hR w'))) (h.2 i hi))⟩
theorem wpI_region_ql {id l0 m : Nat} {Q : Exit → Act → World → Prop} {a : Act} {w : World} {l : List Oper} (R : World → World → Prop) (C : World → Prop) (qs ts : List Nat) (n : Nat) (listed : Array Bool)
  (hm : P.follows .mixedOrders = true) (hnd : noDefer l.toArray = true) (hB : qlB l.toArray qs ts (ancTab l.toArray) = true) (hn : n + qs.length = l.length) (hlst : qlListed l.toArray qs (Array.replicate l.length false) = listed)
  (hR : ∀ w,R w w) (hRt : ∀ a b c,R a b → R b c → R a c) (hCR : ∀ w w',C w → R w w' → C w') (hC : C w.drew)
  (h : wpQL P l.toArray R C (fun a' => ∀ w',C w' → wpX P l.toArray R C (fun j => !ts.contains j) (fun a w => Q .normal a w) n listed a' w') qs a) : (Code.region id l.toArray true).wpIn (RF l0) m P Q a w := by
 subst hlst
 simp only [qlB,Bool.and_eq_true] at hB
 obtain ⟨⟨⟨h1,h2⟩,h3⟩,h4⟩ := hB
 refine wpIn_region_any hm ?_
 have hsz : l.toArray.size = l.length := by simp
 rw [hsz] at h4 ⊢
 have := wpX_ql (P := P) (Q := fun a w => Q .normal a w) (ancOk_of h1) (fun j hj => by
  simp only [Bool.not_eq_true',List.contains_eq_mem,decide_eq_false_iff_not]
  intro hin
  have := List.all_eq_true.1 h3 j hin
  simp at this
  omega) h2 hR hRt hCR n qs (Array.replicate l.length false) a w.drew
  (fun j oj _ hl => by
   exfalso
   rcases Nat.lt_or_ge j l.length with hj | hj
   ·simp [hj] at hl
   ·simp [hj] at hl) h4 hC h
 rw [hn] at this
 exact wpAnyIn_of_wpX hnd hR (fun _ _ h => h) _ _ _ _ this
theorem wpI_region_ext {id l0 m : Nat} {Q : Exit → Act → World → Prop} {a : Act} {w : World} {l : List Oper} (qs ts : List Nat) (n : Nat) (listed : Array Bool)
  (hm : P.follows .mixedOrders = true) (hnd : noDefer l.toArray = true) (hB : qlB l.toArray qs ts (ancTab l.toArray) = true) (hn : n + qs.length = l.length) (hlst : qlListed l.toArray qs (Array.replicate l.length false) = listed)
  (h : wpQL P l.toArray Ext (Ext w) (fun a' => ∀ w',Ext w w' → wpX P l.toArray Ext (Ext w) (fun j => !ts.contains j) (fun a w => Q .normal a w) n listed a' w') qs a) : (Code.region id l.toArray true).wpIn (RF l0) m P Q a w :=
 wpI_region_ql Ext (Ext w) qs ts n listed hm hnd hB hn hlst Ext.refl (fun _ _ _ => Ext.trans) (fun _ _ h e => h.trans e) (Ext.refl w).drew h
end
def privs (B n : Nat) : List Nat := (List.range n).map (B + ·)
theorem mem_privs {B n x : Nat} : x ∈ privs B n ↔ B ≤ x ∧ x < B + n := by
 unfold privs
 simp only [List.mem_map,List.mem_range]
 exact ⟨fun ⟨i,h,e⟩ => by omega,fun h => ⟨x - B,by omega,by omega⟩⟩
theorem inX {B n x : Nat} {ex : List Nat} (h : B ≤ x ∧ x < B + n) : x ∈ privs B n ++ ex := List.mem_append.2 (.inl (mem_privs.2 h))
def Same (X : List Nat) (W W' : World) : Prop := ∀ b ∈ X,W'.heap[b]? = W.heap[b]?
theorem Same.refl (X : List Nat) (W : World) : Same X W W := fun _ _ => rfl
theorem Same.of_keep {X S : List Nat} {W W' : World} (h : Keep S W W') (hX : ∀ x ∈ X,x < W.heap.size ∧ x ∉ S) : Same X W W' := fun b hb => h.block b (hX b hb).1 (hX b hb).2
theorem Keep.putObj (W : World) (l : Nat) (o : Obj) : Keep [l] W (W.putObj l o) := ⟨rfl,rfl,rfl,by simp,fun k _ hn => World.putObj_heap_other (by simpa using hn)⟩
theorem Keep.of_grown {W W' : World} {row : Option Nat} (h : W.grownBy W' row) : Keep row.toList W W' := ⟨h.os,h.tape,h.output,h.size,fun i hi hne => h.block i hi (by
 intro e
 rw [← e] at hne
 simp at hne)⟩
section
variable {P : Program} {α : Type}
def Iter1 (P : Program) (g : Nat) (lb : Array Value) (encs : α → Array Value) (xs : List α) (np : Nat) (ex : List Nat) (w0 : World) : Prop :=
 ∀ (l : Nat) (J Jx : List α → World → Prop) (W : World),Ext w0 W →
  (∀ s A B,J s A → Keep (privs W.heap.size np) A B → J s B) → (∀ s A B,Jx s A → Keep (privs W.heap.size np) A B → Jx s B) →
  (∀ pre x A,J pre A → (pre ++ [x]) <+: xs → W.heap.size + np ≤ A.heap.size → YieldAt Fence.wide 0 P l (encs x) A fun e B =>
   ((e = .returned (.bool true) ∧ J (pre ++ [x]) B) ∨ (e = .returned (.bool false) ∧ Jx (pre ++ [x]) B)) ∧ Same (privs W.heap.size np ++ ex) A B ∧ A.heap.size ≤ B.heap.size) →
  J [] W →
  CallsIn Fence.wide 0 P g (#[.func (.yield l) #[] #[]] ++ lb) W fun e W' => (∃ v,e = .returned v) ∧ (J xs W' ∨ ∃ pre,Jx pre W')
def rPost (X : List Nat) (I : List α → World → Prop) (Ix : Code → List α → World → Prop) (xs : List α) (W : World) : Exit → Act → World → Prop
 | .normal,_,W' => W.heap.size ≤ W'.heap.size ∧ Same X W W' ∧ I xs W'
 | .ret,_,W' => W.heap.size ≤ W'.heap.size ∧ Same X W W' ∧ Ix .ret xs W'
 | .exit id,_,W' => W.heap.size ≤ W'.heap.size ∧ Same X W W' ∧ Ix (.exit id) xs W'
 | .goto t,_,W' => W.heap.size ≤ W'.heap.size ∧ Same X W W' ∧ Ix (.goto t) xs W'
 | .panic _,_,_ => False
 | .outgrown,_,_ => False
theorem wp_range {g : Operand} {ps : Array Tmp} {assign body : Code} {Q : Exit → Act → World → Prop} {a : Act} {w : World} {gf : Nat} {lb : Array Value}
  (hg : a.eval g = .func (.func gf) #[] lb) (eg : ∀ args w,(callFunc gf args).run P w = .ok (.enter gf args) w)
  {encs : α → Array Value} {xs : List α} {np : Nat} {ex : List Nat} (hex : ∀ b ∈ ex,b < w.heap.size) (hit : Iter1 P gf lb encs xs np ex w) (hps : ∀ x,(encs x).size = ps.size)
  (I : List α → World → Prop) (Ix : Code → List α → World → Prop) (Ia : Array Value → List α → α → Act → World → Prop)
  (hI : ∀ s A B,I s A → Keep (privs w.heap.size (2 + np)) A B → I s B) (hIx : ∀ c s A B,Ix c s A → Keep (privs w.heap.size (2 + np)) A B → Ix c s B)
  (hIa : ∀ s x a1 A B,Ia a.tmps s x a1 A → Keep (privs w.heap.size (2 + np)) A B → Ia a.tmps s x a1 B) (h0 : I [] w)
  (hassign : ∀ (pre : List α) (x : α) (W : World) (K : Act → World → Prop),I pre W → (pre ++ [x]) <+: xs → w.heap.size + (2 + np) ≤ W.heap.size →
   (∀ a1 W1,Ia a.tmps pre x a1 W1 → Same (privs w.heap.size (2 + np) ++ ex) W W1 → W.heap.size ≤ W1.heap.size → K a1 W1) →
   assign.wpIn (RF (w.heap.size + 1)) 0 P (Exit.then K (fun _ _ _ => False)) { tmps := (ps.zip (encs x)).foldl (fun t (p,v) => t.setIfInBounds p v) a.tmps,defers := [] } W)
  (hbody : ∀ (pre : List α) (x : α) (a1 : Act) (W : World),Ia a.tmps pre x a1 W → (pre ++ [x]) <+: xs → w.heap.size + (2 + np) ≤ W.heap.size → (∃ r,W.heap[w.heap.size + 1]? = some (.loop r)) →
   body.wpIn (RF (w.heap.size + 1)) 0 P (rPost (privs w.heap.size (2 + np) ++ ex) I Ix (pre ++ [x]) W) a1 W)
  (hdone : ∀ W : World,I xs W → W.heap[w.heap.size]? = some (.deferred (some [])) → Q .normal { a with defers := { target := .collected w.heap.size,args := #[] } :: a.defers } W)
  (hstop : ∀ (c : Code) (pre : List α) (W : World),Ix c pre W → W.heap[w.heap.size]? = some (.deferred (some [])) → c.wp P Q { a with defers := { target := .collected w.heap.size,args := #[] } :: a.defers } W) :
  (Code.rangeFunc g ps assign body).wp P Q a w := by
 refine wpIn_wide (n := 0) |>.1 (wpIn_rangeFunc ?_)
 intro fn _
 obtain ⟨rec,hrec⟩ : ∃ rec : LoopState → Option Code → Loop,rec = fun st pe => { state := st,pending := pe,fn,tmps := a.tmps,params := ps,assign,body,defers := w.heap.size } := ⟨_,rfl⟩
 obtain ⟨W1,hW1⟩ : ∃ W1,(w.alloc (.deferred (some []))).alloc (.loop (rec .ready none)) = W1 := ⟨_,rfl⟩
 have hs1 : W1.heap.size = w.heap.size + 2 := by rw [← hW1]; simp
 have hL1 : W1.heap[w.heap.size + 1]? = some (.loop (rec .ready none)) := by
  rw [← hW1]; have := World.alloc_heap_new (w.alloc (.deferred (some []))) (.loop (rec .ready none)); rwa [World.size_alloc] at this
 have hK1 : W1.heap[w.heap.size]? = some (.deferred (some [])) := by
  rw [← hW1]; exact (Below.heap_alloc _ _ _ (by simp)).trans (World.alloc_heap_new w _)
 have hx1 : Ext w W1 := by rw [← hW1]; exact ((Ext.refl w).alloc _).alloc _
 have hsub : ∀ {A B : World},Keep (privs W1.heap.size np) A B → Keep (privs w.heap.size (2 + np)) A B := fun h => h.mono fun x hx => by
  rw [mem_privs] at hx ⊢; omega
 have hkl : ∀ (A : World) (o : Obj),Keep (privs w.heap.size (2 + np)) A (A.putObj (w.heap.size + 1) o) := fun A o => (Keep.putObj A _ o).mono fun x hx => by
  simp only [List.mem_singleton] at hx; subst hx; rw [mem_privs]; omega
 have hI1 : I [] W1 := hI _ _ _ h0 (hx1.keep _)
 refine ⟨w.heap.size + 1,[{ target := .collected w.heap.size,args := #[] }],W1, { target := .fn (.func gf) lb,args := #[.func (.yield (w.heap.size + 1)) #[] #[]] },W1,gf,
  #[.func (.yield (w.heap.size + 1)) #[] #[]] ++ lb,W1, ?_, ?_, ?_, ?_,fun h => by simp [Fence.wide] at h, ?_⟩
 ·rw [← hW1,hrec]; exact run_enterLoop_outer _ _ _ _ _
 ·simp only [resolve,hg]
  simp [go_sem]
 ·intro _ _; trivial
 ·simp [invoke,go_sem,eg]
 ·refine (hit (w.heap.size + 1)
   (fun pre W => I pre W ∧ W.heap[w.heap.size + 1]? = some (.loop (rec .ready none)) ∧ W.heap[w.heap.size]? = some (.deferred (some [])) ∧ w.heap.size + 2 ≤ W.heap.size)
   (fun pre W => ∃ c,Ix c pre W ∧ W.heap[w.heap.size + 1]? = some (.loop (rec .done (some c))) ∧ W.heap[w.heap.size]? = some (.deferred (some [])))
   W1 hx1 ?_ ?_ ?_ ⟨hI1,hL1,hK1,by omega⟩).mono ?_
  ·rintro s A B ⟨h1,h2,h3,h4⟩ hk
   exact ⟨hI _ _ _ h1 (hsub hk),(hk.block _ (by omega) (by rw [mem_privs]; omega)).trans h2,(hk.block _ (by omega) (by rw [mem_privs]; omega)).trans h3,Nat.le_trans h4 hk.size⟩
  ·rintro s A B ⟨c,h1,h2,h3⟩ hk
   have hlt := (Array.getElem?_eq_some_iff.1 h2).1
   exact ⟨c,hIx _ _ _ _ h1 (hsub hk),(hk.block _ (by omega) (by rw [mem_privs]; omega)).trans h2,(hk.block _ (by omega) (by rw [mem_privs]; omega)).trans h3⟩
  ·-- ONE ROUND
   rintro pre x W ⟨hi,hl,hk,hsz⟩ hpre hnp
   have hy := run_yield (P := P) (args := encs x) hl (by rw [hrec]; exact hps x)
   rw [hrec] at hy
   refine ⟨fn,_,assign,body,hy,roundIn_of_wpIn trivial (hassign pre x W _ hi hpre (by omega) ?_)⟩
   clear hy
   intro a1 Wa hia hsa hza
   have hla : Wa.heap[w.heap.size + 1]? = some (.loop (rec .ready none)) := (hsa _ (inX (by omega))).trans hl
   have hka : Wa.heap[w.heap.size]? = some (.deferred (some [])) := (hsa _ (inX (by omega))).trans hk
   refine ⟨_,run_beginRound hla (by rw [hrec]), ?_⟩
   have hlt : w.heap.size + 1 < Wa.heap.size := (Array.getElem?_eq_some_iff.1 hla).1
   have hl2 : (Wa.putObj (w.heap.size + 1) (.loop { rec .ready none with state := .busy })).heap[w.heap.size + 1]? = some (.loop { rec .ready none with state := .busy }) := World.putObj_heap_same hlt
   have hk2 : (Wa.putObj (w.heap.size + 1) (.loop { rec .ready none with state := .busy })).heap[w.heap.size]? = some (.deferred (some [])) := (World.putObj_heap_other (by omega)).trans hka
   have hp2 : Same (privs W1.heap.size np ++ ex) W (Wa.putObj (w.heap.size + 1) (.loop { rec .ready none with state := .busy })) := fun b hb => by
    rcases List.mem_append.1 hb with hb | hb
    ·rw [mem_privs] at hb
     exact (World.putObj_heap_other (by omega)).trans (hsa b (inX (by omega)))
    ·have := hex b hb
     exact (World.putObj_heap_other (by omega)).trans (hsa b (List.mem_append.2 (.inr hb)))
   have hz2 : (Wa.putObj (w.heap.size + 1) (.loop { rec .ready none with state := .busy })).heap.size = Wa.heap.size := by simp
   have hb := hbody pre x a1 (Wa.putObj (w.heap.size + 1) (.loop { rec .ready none with state := .busy })) (hIa _ _ _ _ _ hia (hkl Wa (.loop { rec .ready none with state := .busy }))) hpre (by omega) ⟨_,hl2⟩
   generalize Wa.putObj (w.heap.size + 1) (.loop { rec .ready none with state := .busy }) = W2 at *
   refine wpIn_mono hb ?_
   have fin : ∀ (jump : Option Code) (W3 : World),Same (privs w.heap.size (2 + np) ++ ex) W2 W3 → W2.heap.size ≤ W3.heap.size →
     (Instr.endRound (w.heap.size + 1) jump).run P W3 = .ok (.bool jump.isNone) (W3.putObj (w.heap.size + 1) (.loop (rec (if jump.isNone then .ready else .done) jump))) ∧
     (W3.putObj (w.heap.size + 1) (.loop (rec (if jump.isNone then .ready else .done) jump))).heap[w.heap.size + 1]? = some (.loop (rec (if jump.isNone then .ready else .done) jump)) ∧
     (W3.putObj (w.heap.size + 1) (.loop (rec (if jump.isNone then .ready else .done) jump))).heap[w.heap.size]? = some (.deferred (some [])) ∧
     Same (privs W1.heap.size np ++ ex) W (W3.putObj (w.heap.size + 1) (.loop (rec (if jump.isNone then .ready else .done) jump))) ∧
     W.heap.size ≤ (W3.putObj (w.heap.size + 1) (.loop (rec (if jump.isNone then .ready else .done) jump))).heap.size := fun jump W3 hk3 hz3 => by
    have hl3 := (hk3 _ (inX (by omega))).trans hl2
    have hk4 := (hk3 _ (inX (by omega))).trans hk2
    have := run_endRound (P := P) jump hl3
    rw [hrec] at this ⊢
    refine ⟨this,World.putObj_heap_same (Array.getElem?_eq_some_iff.1 hl3).1,(World.putObj_heap_other (by omega)).trans hk4,fun b hb => ?_,by simp; omega⟩
    have hb' := hb
    rcases List.mem_append.1 hb with hb | hb
    ·rw [mem_privs] at hb
     exact (World.putObj_heap_other (by omega)).trans ((hk3 b (inX (by omega))).trans (hp2 b hb'))
    ·have := hex b hb
     exact (World.putObj_heap_other (by omega)).trans ((hk3 b (List.mem_append.2 (.inr hb))).trans (hp2 b hb'))
   rintro e a3 W3 hp
   cases e with
   | normal =>
    obtain ⟨hz3,hk3,hi3⟩ := hp
    obtain ⟨hr,hl4,hk4,hs4,hz4⟩ := fin none W3 hk3 hz3
    exact ⟨_,_,hr, .inl ⟨rfl,hI _ _ _ hi3 (hkl _ _),hl4,hk4,by omega⟩,hs4,hz4⟩
   | ret =>
    obtain ⟨hz3,hk3,hi3⟩ := hp
    obtain ⟨hr,hl4,hk4,hs4,hz4⟩ := fin (some .ret) W3 hk3 hz3
    exact ⟨_,_,hr, .inr ⟨rfl, .ret,hIx _ _ _ _ hi3 (hkl _ _),hl4,hk4⟩,hs4,hz4⟩
   | exit id =>
    obtain ⟨hz3,hk3,hi3⟩ := hp
    obtain ⟨hr,hl4,hk4,hs4,hz4⟩ := fin (some (.exit id)) W3 hk3 hz3
    exact ⟨_,_,hr, .inr ⟨rfl, .exit id,hIx _ _ _ _ hi3 (hkl _ _),hl4,hk4⟩,hs4,hz4⟩
   | goto t =>
    obtain ⟨hz3,hk3,hi3⟩ := hp
    obtain ⟨hr,hl4,hk4,hs4,hz4⟩ := fin (some (.goto t)) W3 hk3 hz3
    exact ⟨_,_,hr, .inr ⟨rfl, .goto t,hIx _ _ _ _ hi3 (hkl _ _),hl4,hk4⟩,hs4,hz4⟩
   | panic ch => exact hp.elim
   | outgrown => exact hp.elim
  ·-- BEHIND THE ITERATOR
   rintro e W2 ⟨⟨v,rfl⟩,(⟨hi,hl,hk,_⟩ | ⟨pre,c,hi,hl,hk⟩)⟩
   ·exact ⟨none,_,by have := run_endLoop (P := P) hl (by rw [hrec]; simp); rw [hrec] at this; exact this,hdone _ (hI _ _ _ hi (hkl _ _)) ((World.putObj_heap_other (by omega)).trans hk)⟩
   ·exact ⟨some c,_,by have := run_endLoop (P := P) hl (by rw [hrec]; simp); rw [hrec] at this; exact this,wpIn_wide.2 (hstop c pre _ (hIx _ _ _ _ hi (hkl _ _)) ((World.putObj_heap_other (by omega)).trans hk))⟩
end
inductive Marks (B : Nat) : List Deferred → World → Prop
 | nil (w : World) : Marks B [] w
 | cons {D : Nat} {ds : List Deferred} {w : World} (hB : B ≤ D) (hD : w.heap[D]? = some (.deferred (some []))) (hne : ∀ d ∈ ds,d.target ≠ .collected D) (h : Marks B ds w) : Marks B ({ target := .collected D,args := #[] } :: ds) w
theorem Marks.keep {B : Nat} {ds : List Deferred} {w w' : World} {S : List Nat} (h : Marks B ds w) (k : Keep S w w') (hS : ∀ D ∈ S, ∀ d ∈ ds,d.target ≠ .collected D) : Marks B ds w' := by
 induction h with
 | nil => exact .nil _
 | @cons D ds w hB hD hne h ih =>
  refine .cons hB ((k.block D (Array.getElem?_eq_some_iff.1 hD).1 fun hm => hS D hm { target := .collected D,args := #[] } (by simp) rfl).trans hD) hne (ih k fun D' hD' d hd => hS D' hD' d (by simp [hd]))
theorem Marks.lt {B : Nat} {ds : List Deferred} {w : World} (h : Marks B ds w) : ∀ d ∈ ds, ∃ D,d.target = .collected D ∧ B ≤ D ∧ w.heap[D]? = some (.deferred (some [])) := by
 induction h with
 | nil => simp
 | @cons D ds w hB hD hne h ih =>
  intro d hd
  rcases List.mem_cons.1 hd with rfl | hd
  ·exact ⟨D,rfl,hB,hD⟩
  ·exact ih d hd
theorem leaves_marks {P : Program} {fn : Func} {tmps : Array Value} {R : Ending → World → Prop} {B : Nat} : ∀ (ds : List Deferred) (w : World),Marks B ds w →
  (∀ w',(∃ S : List Nat,(∀ x ∈ S, ∃ d ∈ ds,d.target = .collected x) ∧ Keep S w w') → LeavesIn Fence.wide 0 P fn tmps R [] .returning w') → LeavesInM Fence.wide 0 P fn tmps R ds .returning w
 | [],w,_,h => h w ⟨[],by simp,Keep.refl _ _⟩
 | d :: ds,w,hm,h => by
  cases hm with
  | @cons D _ _ hB hD hne hm =>
   refine ⟨by simp, .inl ⟨D,_,rfl,run_takeDeferred hD,leaves_marks ds _ (hm.keep (Keep.putObj w D _) fun D' hD' d hd => ?_) fun w' ⟨S,hS,hk⟩ => h w' ⟨D :: S, ?_, ?_⟩⟩⟩
   ·simp only [List.mem_singleton] at hD'
    subst hD'
    exact hne d hd
   ·intro x hx
    rcases List.mem_cons.1 hx with rfl | hx
    ·exact ⟨{ target := .collected x,args := #[] },by simp,rfl⟩
    ·obtain ⟨d,hd,e⟩ := hS x hx
     exact ⟨d,by simp [hd],e⟩
   ·exact ((Keep.putObj w D _).mono (by simp)).trans (hk.mono fun x hx => by simp [hx])
end Go.Proofs.YtmokciekndllpaaGreatDoor
namespace Go.Proofs.YtmokciekndllpaaGreatDoor
open Go Go.RowKit
def wpO (P : Program) (l : List Oper) (K : Act → World → Prop) : List Oper → Act → World → Prop
 | [],a,w => K a w
 | o :: r,a,w => if Region.wanted o (yielded l.toArray a.tmps) = true then lUpon P (fun v w' => wpO P l K r (a.put o.dst v) w') ((execOp a.eval o).run P w) else wpO P l K r (a.put o.dst undef) w
section
variable {P : Program} {l : List Oper} {K : Act → World → Prop} {r : List Oper} {o : Oper} {a : Act} {w w' : World} {v : Value}
theorem wpO_want (hw : Region.wanted o (yielded l.toArray a.tmps) = true) (h : lUpon P (fun v w' => wpO P l K r (a.put o.dst v) w') ((execOp a.eval o).run P w)) : wpO P l K (o :: r) a w := by
 rw [wpO,if_pos hw]; exact h
theorem wpO_out (hw : Region.wanted o (yielded l.toArray a.tmps) = false) (h : wpO P l K r (a.put o.dst undef) w) : wpO P l K (o :: r) a w := by
 rw [wpO,if_neg (by rw [hw]; simp)]; exact h
theorem wpO_val (hw : Region.wanted o (yielded l.toArray a.tmps) = true) (h : (execOp a.eval o).run P w = .ok (.value v) w') (hk : wpO P l K r (a.put o.dst v) w') : wpO P l K (o :: r) a w :=
 wpO_want hw (by rw [h]; exact hk)
theorem wpO_skip (hw : Region.wanted o (yielded l.toArray a.tmps) = true) (h : (execOp a.eval o).run P w = .ok .skip w') (hk : wpO P l K r (a.put o.dst undef) w') : wpO P l K (o :: r) a w :=
 wpO_want hw (by rw [h]; exact hk)
theorem wpO_done (h : K a w) : wpO P l K [] a w := h
end
theorem wpOps_of_wpO {P : Program} {l : List Oper} {Q : Exit → Act → World → Prop} : ∀ (r pre : List Oper) (a : Act) (w : World),l = pre ++ r → wpO P l (fun a w => Q .normal a w) r a w → wpOps P l.toArray Q (List.range' pre.length r.length) a w
 | [],pre,a,w,_,h => h
 | o :: r,pre,a,w,e,h => by
  have ho : l.toArray[pre.length]? = some o := by rw [e]; simp
  rw [List.length_cons,List.range'_succ,wpOps,ho]
  simp only
  have ih := fun a w h => wpOps_of_wpO (P := P) (l := l) (Q := Q) r (pre ++ [o]) a w (by rw [e]; simp) h
  rw [List.length_append,List.length_singleton] at ih
  rw [wpO] at h
  split at h
  ·rename_i hw
   rw [if_pos hw]
   refine .inl ?_
   unfold Oper.wp
   generalize (execOp a.eval o).run P w = res at *
   cases res with
   | ok n w' =>
    cases n <;> simp only [lUpon] at h <;> simp only [Oper.upon]
    case value v => exact ih _ _ h
    case skip => exact ih _ _ h
    case enter f args => exact h.mono fun e w'' ⟨v,he,hk⟩ => by subst he; exact ih _ _ hk
   | halt x w' => simp only [lUpon] at h
  ·rename_i hw
   rw [if_neg hw]
   exact ih _ _ h
theorem wp_reg {P : Program} {id : Nat} {l : List Oper} {Q : Exit → Act → World → Prop} {a : Act} {w : World} (h : wpO P l (fun a w => Q .normal a w) l a w) : (Code.region id l.toArray false).wp P Q a w := by
 refine wp_region ?_
 have := wpOps_of_wpO (P := P) (Q := Q) l [] a w rfl h
 simpa [List.range_eq_range'] using this
theorem wpOpsIn_of_wpO {P : Program} {l0 m : Nat} {l : List Oper} {Q : Exit → Act → World → Prop} (hnd : noDefer l.toArray = true) : ∀ (r pre : List Oper) (a : Act) (w : World),l = pre ++ r → wpO P l (fun a w => Q .normal a w) r a w → wpOpsIn (RF l0) m P l.toArray Q (List.range' pre.length r.length) a w
 | [],pre,a,w,_,h => h
 | o :: r,pre,a,w,e,h => by
  have ho : l.toArray[pre.length]? = some o := by rw [e]; simp
  have hd := noDefer_at hnd ho
  rw [List.length_cons,List.range'_succ,wpOpsIn,ho]
  simp only
  have ih := fun a w h => wpOpsIn_of_wpO (P := P) (l0 := l0) (m := m) (l := l) (Q := Q) hnd r (pre ++ [o]) a w (by rw [e]; simp) h
  rw [List.length_append,List.length_singleton] at ih
  rw [wpO] at h
  split at h
  ·rename_i hw
   rw [if_pos hw]
   unfold Oper.wpIn
   refine ⟨fun _ _ => trivial, ?_⟩
   rw [Oper.semAt_plain _ _ _ hd]
   generalize (execOp a.eval o).run P w = res at *
   cases res with
   | ok n w' =>
    cases n <;> simp only [lUpon] at h <;> simp only [Oper.uponIn]
    case value v => exact ih _ _ h
    case skip => exact ih _ _ h
    case enter f args => exact ⟨fun h => by simp [Fence.wide] at h,(calls_in l0 _ h).mono fun e w'' ⟨v,he,hk⟩ => by subst he; exact ih _ _ hk⟩
   | halt x w' => simp only [lUpon] at h
  ·rename_i hw
   rw [if_neg hw]
   exact ⟨fun _ _ => trivial,ih _ _ h⟩
theorem wpI_reg {P : Program} {id l0 m : Nat} {l : List Oper} {Q : Exit → Act → World → Prop} {a : Act} {w : World} (hnd : noDefer l.toArray = true) (h : wpO P l (fun a w => Q .normal a w) l a w) : (Code.region id l.toArray false).wpIn (RF l0) m P Q a w := by
 refine wpIn_region ?_
 have := wpOpsIn_of_wpO (P := P) (l0 := l0) (m := m) (Q := Q) hnd l [] a w rfl h
 simpa [List.range_eq_range'] using this
theorem wpOpsW_of_wpO {P : Program} {m : Nat} {l : List Oper} {Q : Exit → Act → World → Prop} (hnd : noDefer l.toArray = true) : ∀ (r pre : List Oper) (a : Act) (w : World),l = pre ++ r → wpO P l (fun a w => Q .normal a w) r a w → wpOpsIn Fence.wide m P l.toArray Q (List.range' pre.length r.length) a w
 | [],pre,a,w,_,h => h
 | o :: r,pre,a,w,e,h => by
  have ho : l.toArray[pre.length]? = some o := by rw [e]; simp
  have hd := noDefer_at hnd ho
  rw [List.length_cons,List.range'_succ,wpOpsIn,ho]
  simp only
  have ih := fun a w h => wpOpsW_of_wpO (P := P) (m := m) (l := l) (Q := Q) hnd r (pre ++ [o]) a w (by rw [e]; simp) h
  rw [List.length_append,List.length_singleton] at ih
  rw [wpO] at h
  split at h
  ·rename_i hw
   rw [if_pos hw]
   unfold Oper.wpIn
   refine ⟨fun _ _ => trivial, ?_⟩
   rw [Oper.semAt_plain _ _ _ hd]
   generalize (execOp a.eval o).run P w = res at *
   cases res with
   | ok n w' =>
    cases n <;> simp only [lUpon] at h <;> simp only [Oper.uponIn]
    case value v => exact ih _ _ h
    case skip => exact ih _ _ h
    case enter f args => exact ⟨fun h => by simp [Fence.wide] at h,(callsIn_wide.2 h).mono fun e w'' ⟨v,he,hk⟩ => by subst he; exact ih _ _ hk⟩
   | halt x w' => simp only [lUpon] at h
  ·rename_i hw
   rw [if_neg hw]
   exact ⟨fun _ _ => trivial,ih _ _ h⟩
theorem wpW_reg {P : Program} {id m : Nat} {l : List Oper} {Q : Exit → Act → World → Prop} {a : Act} {w : World} (hnd : noDefer l.toArray = true) (h : wpO P l (fun a w => Q .normal a w) l a w) : (Code.region id l.toArray false).wpIn Fence.wide m P Q a w := by
 refine wpIn_region ?_
 have := wpOpsW_of_wpO (P := P) (m := m) (Q := Q) hnd l [] a w rfl h
 simpa [List.range_eq_range'] using this
theorem run_load_agg {P : Program} {ρ : Operand → Value} {o : Oper} {T : TypeId} {x : Operand} {w : World} {b off : Nat} {cs : Array Value} (ho : o.op = .load T x) (hx : ρ x = .pointer (some ⟨b,off,none⟩))
  (ha : (isAgg T).run P w = .ok true w) (hs : (sizeOf T).run P w = .ok cs.size w) (hc : ∀ (j : Nat) v,cs[j]? = some v → w.cell? ⟨b,off + j,none⟩ = some v) : (execOp ρ o).run P w = .ok (.value (.agg cs)) w := by
 have hl := run_loadCells_list (P := P) w ⟨b,off,none⟩ cs.toList (fun j v hv => by
  have hadd : (⟨b,off,none⟩ : Addr).add j = ⟨b,off + j,none⟩ := by unfold Addr.add; split <;> simp_all
  rw [hadd]
  exact hc j v (by simpa using hv))
 simp only [Array.length_toList,Array.toArray_toList] at hl
 unfold execOp
 simp only [ho,hx]
 simp [Instr.loadAt,Instr.sureAddr,loadVar,Sem.run_bind,ha,hs,hl,Result.andThen]
theorem Blk.sub {w : World} {b : Nat} {t : TypeId} {cs ds : Array Value} {off : Nat} (h : Blk w b t cs) (hd : ∀ (j : Nat) v,ds[j]? = some v → cs[off + j]? = some v) : ∀ (j : Nat) v,ds[j]? = some v → w.cell? ⟨b,off + j,none⟩ = some v := fun j v hv => (h.cell _).trans (hd j v hv)
theorem Blk.whole {w : World} {b : Nat} {t : TypeId} {cs : Array Value} (h : Blk w b t cs) : ∀ (j : Nat) v,cs[j]? = some v → w.cell? ⟨b,0 + j,none⟩ = some v := h.sub (off := 0) fun j v hv => by rw [Nat.zero_add]; exact hv
end Go.Proofs.YtmokciekndllpaaGreatDoor
namespace Go.Proofs.YtmokciekndllpaaGreatDoor
open Go Go.RowKit
section
variable {α : Type} {enc : α → List Value} {T ST : TypeId} {k byt : Nat} {ρ : Operand → Value} {o : Oper} {s x : Operand} {W : World}
theorem run_apS (hi0 : (Tryz.prog.info? T).map (fun i => (i.zero.map (·.cells.size),i.size,i.bytes)) = some (some k,k,byt)) (hu : Tryz.prog.underlying ST = some (.slice T)) (hone : ∀ x, ∀ v ∈ enc x,v.oneCell' = true) (hlen : ∀ x,(enc x).length = k) (hk : 0 < k) (hby : byt ≤ 1000)
  (ho : o.op = .call { callee := .builtin .append,args := #[s,x],argTypes := #[ST,ST] }) {base : Nat} {v : Value} {n : Nat} {xs : List α} (ys : List α) {m c : Nat} {ad : Addr} (hs : ρ s = v) (hx : ρ x = .slice (some ad) m c) (hm : ys.length = m) (hsrc : SlAt enc k W (some ad) ys)
  (hown : W.ownsRow base T k v n (xs.flatMap enc)) (hl : n + m ≤ 100000000) (hb : base ≤ W.heap.size) :
  ∃ A' c' w',(execOp ρ o).run Tryz.prog W = .ok (.value (.slice A' (n + m) c')) w' ∧ w'.ownsRow base T k (.slice A' (n + m) c') (n + m) ((xs ++ ys).flatMap enc) ∧ W.grownBy w' v.ownBlock ∧ (Value.ownBlock (.slice A' (n + m) c') = v.ownBlock ∨ Value.ownBlock (.slice A' (n + m) c') = some W.heap.size) := by
 obtain ⟨i0,hi,hi1⟩ := Option.map_eq_some_iff.1 hi0
 simp only [Prod.mk.injEq] at hi1
 obtain ⟨hz1,hz2,hz3⟩ := hi1
 obtain ⟨z0,hz,hz4⟩ := Option.map_eq_some_iff.1 hz1
 have hmul : (n + m) * byt ≤ 100000000 * 1000 := Nat.mul_le_mul hl hby
 have hcell : ∀ j u,(ys.flatMap enc)[j]? = some u → W.cell? (ad.add j) = some u := by
  intro j u hj
  by_cases hne : ys = []
  ·subst hne; simp at hj
  ·obtain ⟨b,off,hA,hlt,hc⟩ := hsrc hne
   cases hA
   have hjl : j < ys.length * k := by
    have h1 := (List.getElem?_eq_some_iff.1 hj).1
    have h2 : ∀ l : List α,(l.flatMap enc).length = l.length * k := by
     intro l
     induction l with
     | nil => simp
     | cons a r ih => rw [List.flatMap_cons,List.length_append,hlen,ih,List.length_cons,Nat.add_mul]; omega
    rw [h2] at h1
    exact h1
   have hik : j / k < ys.length := (Nat.div_lt_iff_lt_mul hk).2 hjl
   have hy : ys[j / k]? = some ys[j / k] := List.getElem?_eq_getElem hik
   have hr : j % k < (enc ys[j / k]).length := by rw [hlen]; exact Nat.mod_lt _ hk
   have h3 := flat_at hlen (j / k) ys[j / k] (j % k) _ hy (List.getElem?_eq_getElem hr)
   have hjk : j / k * k + j % k = j := by rw [Nat.mul_comm]; exact Nat.div_add_mod j k
   rw [hjk] at h3
   rw [h3] at hj
   have h4 := hc (j / k) _ hy (j % k) _ (List.getElem?_eq_getElem hr)
   rw [Option.some.injEq] at hj
   rw [← hj,show (⟨b,off,none⟩ : Addr).add j = ⟨b,off + j / k * k + j % k,none⟩ by rw [Nat.add_assoc,hjk]; simp [Addr.add]]
   exact h4
 have hnl : (ys.flatMap enc).length = m * k := by
  rw [← hm]
  clear hcell hsrc hm
  induction ys with
  | nil => simp
  | cons a r ih => rw [List.flatMap_cons,List.length_append,hlen,ih,List.length_cons,Nat.add_mul]; omega
 obtain ⟨v',w',hr,h2,h3,_,h5⟩ := run_append_own_at (P := Tryz.prog) W base ST o.type T i0 z0 k byt hu hi hz hz2 hz3 hz4 hk v n _ hown ad m c (ys.flatMap enc) hnl hcell (by
  intro u hu
  obtain ⟨y,_,hy⟩ := List.mem_flatMap.1 hu
  exact hone y u hy) (by unfold maxLen; omega) (by omega) hb
 obtain ⟨A',c',rfl⟩ := own_slice h2
 refine ⟨A',c',w', ?_,by rw [List.flatMap_append]; exact h2,h3,h5⟩
 unfold execOp
 simp only [ho,resolve,invoke,builtin,Sem.run_bind,Sem.run_pure,Result.andThen_ok,List.map_toArray,List.map_cons,List.map_nil,hs,hx,hr]
theorem run_ap1 (hi0 : (Tryz.prog.info? T).map (fun i => (i.zero.map (·.cells.size),i.size,i.bytes)) = some (some k,k,byt)) (hu : Tryz.prog.underlying ST = some (.slice T)) (hone : ∀ x, ∀ v ∈ enc x,v.oneCell' = true) (hlen : ∀ x,(enc x).length = k) (hk : 0 < k) (hby : byt ≤ 1000)
  (ho : o.op = .call { callee := .builtin .append,args := #[s,x],argTypes := #[ST,ST] }) {base : Nat} {v : Value} {n : Nat} {xs : List α} (e : α) {g : Nat} {t : TypeId} (hs : ρ s = v) (hx : ρ x = .slice (some ⟨g,0,none⟩) 1 1) (hg : Blk W g t (enc e).toArray)
  (hown : W.ownsRow base T k v n (xs.flatMap enc)) (hl : n ≤ 10000000) (hb : base ≤ W.heap.size) :
  ∃ A' c' w',(execOp ρ o).run Tryz.prog W = .ok (.value (.slice A' (n + 1) c')) w' ∧ w'.ownsRow base T k (.slice A' (n + 1) c') (n + 1) ((xs ++ [e]).flatMap enc) ∧ W.grownBy w' v.ownBlock ∧ (Value.ownBlock (.slice A' (n + 1) c') = v.ownBlock ∨ Value.ownBlock (.slice A' (n + 1) c') = some W.heap.size) :=
 run_apS hi0 hu hone hlen hk hby ho [e] hs hx rfl (fun _ => ⟨g,0,rfl,hg.lt,fun i y hy j u hu => by
  match i,hy with
  | 0,hy =>
   simp at hy
   subst hy
   rw [show 0 + 0 * k + j = j by omega,hg.cell j]
   simpa using hu⟩) hown (by omega) hb
theorem wpO_ap1 {l : List Oper} {K : Act → World → Prop} {r : List Oper} {a : Act} (hw : Region.wanted o (yielded l.toArray a.tmps) = true) (hi0 : (Tryz.prog.info? T).map (fun i => (i.zero.map (·.cells.size),i.size,i.bytes)) = some (some k,k,byt)) (hu : Tryz.prog.underlying ST = some (.slice T)) (hone : ∀ x, ∀ v ∈ enc x,v.oneCell' = true) (hlen : ∀ x,(enc x).length = k) (hk : 0 < k) (hby : byt ≤ 1000)
  (ho : o.op = .call { callee := .builtin .append,args := #[s,x],argTypes := #[ST,ST] }) {base : Nat} {v : Value} {n : Nat} {xs : List α} (e : α) {g : Nat} {t : TypeId} (hs : a.eval s = v) (hx : a.eval x = .slice (some ⟨g,0,none⟩) 1 1) (hg : Blk W g t (enc e).toArray)
  (hown : W.ownsRow base T k v n (xs.flatMap enc)) (hl : n ≤ 10000000) (hb : base ≤ W.heap.size)
  (h : ∀ A' c' w',w'.ownsRow base T k (.slice A' (n + 1) c') (n + 1) ((xs ++ [e]).flatMap enc) → W.grownBy w' v.ownBlock → (Value.ownBlock (.slice A' (n + 1) c') = v.ownBlock ∨ Value.ownBlock (.slice A' (n + 1) c') = some W.heap.size) → wpO Tryz.prog l K r (a.put o.dst (.slice A' (n + 1) c')) w') : wpO Tryz.prog l K (o :: r) a W := by
 obtain ⟨A',c',w',h1,h2,h3,h4⟩ := run_ap1 hi0 hu hone hlen hk hby ho e hs hx hg hown hl hb
 exact wpO_val hw h1 (h A' c' w' h2 h3 h4)
end
theorem SlAt.keepS {α : Type} {enc : α → List Value} {k : Nat} {w w' : World} {A : Option Addr} {xs : List α} {S : List Nat} (h : SlAt enc k w A xs) (hk : Keep S w w') (hS : ∀ b off,A = some ⟨b,off,none⟩ → b ∉ S) : SlAt enc k w' A xs := fun hne => by
 obtain ⟨b,off,hA,hlt,hc⟩ := h hne
 have hb := hk.block b hlt (hS b off hA)
 refine ⟨b,off,hA,Nat.lt_of_lt_of_le hlt hk.size,fun i x hx j u hu => ?_⟩
 rw [World.cell?_of_block hb]
 exact hc i x hx j u hu
end Go.Proofs.YtmokciekndllpaaGreatDoor
