/- Parts of a proof, laid together. Each part says its own conditions. -/
import Derived.Test.YtmokciekndllpaaGreatDoorC16
import Derived.Test.YtmokciekndllpaaGreatDoorC10
import Derived.Deep.Upon
import Derived.Test.YtmokciekndllpaaGreatDoorC3
namespace Go.Proofs.YtmokciekndllpaaGreatDoor
open Go Go.RowKit Go.Shelf
attribute [local go_sem] qUpon lUpon
theorem zip1 (tm : Array Value) (p : Nat) (v : Value) : (#[p].zip #[v]).foldl (fun t (q : Nat × Value) => t.setIfInBounds q.1 q.2) tm = tm.setIfInBounds p v := by simp [Array.zip]
theorem arr_fn {tm : Array Value} {n : Nat} (h : tm.size = n) : tm = ((List.range n).map fun i => tm.getD i undef).toArray := by
 subst h
 apply Array.ext
 ·simp
 ·intro i h1 h2
  simp [h1]
structure Acc {α : Type} (enc : α → List Value) (T ST k base bl : Nat) (xs : List α) (v : Value) (W : World) : Prop where
 cell : Blk W bl ST #[v]
 own : W.ownsRow base T k v xs.length (xs.flatMap enc)
 lt : bl < base
 le : base ≤ W.heap.size
def accT (bl : Nat) (v : Value) : List Nat := bl :: v.ownBlock.toList
section
variable {α : Type} {enc : α → List Value} {T ST k base bl : Nat} {xs : List α} {v : Value} {W W' : World}
theorem Acc.keep {S : List Nat} (h : Acc enc T ST k base bl xs v W) (hk : Keep S W W') (hS : ∀ x ∈ S,x ∉ accT bl v) : Acc enc T ST k base bl xs v W' :=
 ⟨h.cell.keep hk (fun hm => hS _ hm (by simp [accT])),own_keep h.own hk (fun g hg e => hS g hg (by simp [accT,e])),h.lt,Nat.le_trans h.le hk.size⟩
theorem Acc.below (h : Acc enc T ST k base bl xs v W) : ∀ x ∈ accT bl v,x < W.heap.size := by
 intro x hx
 simp only [accT,List.mem_cons,Option.mem_toList] at hx
 rcases hx with rfl | hx
 ·exact h.cell.lt
 ·exact (own_base h.own hx).2.1
theorem Acc.new (w : World) : Acc enc T ST k (w.heap.size + 1) w.heap.size [] (.slice none 0 0) (w.alloc (.cells #[.slice none 0 0] ST)) :=
 ⟨Blk.new _ _ _,World.ownsRow_nil _ _ _ _,by omega,by simp⟩
theorem Acc.slice (h : Acc enc T ST k base bl xs v W) (hk : ∀ x,(enc x).length = k) : ∃ A c,v = .slice A xs.length c ∧ SlAt enc k W A xs := SlAt.of_own h.own hk
end
section
variable {α : Type} {enc : α → List Value} {T ST : TypeId} {k byt : Nat} {ρ : Operand → Value} {o : Oper} {s x : Operand} {W : World}
theorem run_apA (hi0 : (Tryz.prog.info? T).map (fun i => (i.zero.map (·.cells.size),i.size,i.bytes)) = some (some k,k,byt)) (hu : Tryz.prog.underlying ST = some (.slice T)) (hone : ∀ x, ∀ v ∈ enc x,v.oneCell' = true) (hlen : ∀ x,(enc x).length = k) (hk : 0 < k) (hby : byt ≤ 1000)
  (ho : o.op = .call { callee := .builtin .append,args := #[s,x],argTypes := #[ST,ST] }) {base : Nat} {v : Value} {n : Nat} {xs : List α} (ys : List α) {m c : Nat} {A : Option Addr} (hs : ρ s = v) (hx : ρ x = .slice A m c) (hm : ys.length = m) (hsrc : SlAt enc k W A ys)
  (hown : W.ownsRow base T k v n (xs.flatMap enc)) (hl : n + m ≤ 100000000) (hb : base ≤ W.heap.size) :
  ∃ A' c' w',(execOp ρ o).run Tryz.prog W = .ok (.value (.slice A' (n + m) c')) w' ∧ w'.ownsRow base T k (.slice A' (n + m) c') (n + m) ((xs ++ ys).flatMap enc) ∧ W.grownBy w' v.ownBlock ∧ (Value.ownBlock (.slice A' (n + m) c') = v.ownBlock ∨ Value.ownBlock (.slice A' (n + m) c') = some W.heap.size) := by
 cases ys with
 | cons y ys =>
  obtain ⟨b,off,rfl,_,_⟩ := hsrc (by simp)
  exact run_apS hi0 hu hone hlen hk hby ho (y :: ys) hs hx hm hsrc hown hl hb
 | nil =>
  obtain rfl : m = 0 := by simpa using hm.symm
  obtain ⟨i0,hi,hi1⟩ := Option.map_eq_some_iff.1 hi0
  simp only [Prod.mk.injEq] at hi1
  obtain ⟨hz1,hz2,hz3⟩ := hi1
  obtain ⟨A1,c1,rfl⟩ := own_slice hown
  have hle : n ≤ c1 := by
   rcases hown.2 with ⟨he,h0⟩ | ⟨g,cap,cur,he,_,_,hn,_⟩
   ·omega
   ·injection he with _ _ he
    omega
  have hsr : Src Tryz.prog i0.size ST (.slice A 0 c) 0 [] W := by
   cases A with
   | none => exact Src.ofNil W hu c
   | some a => exact Src.ofSlice W hu a 0 c [] (by simp) (by simp) (by simp)
  refine ⟨A1,c1,W, ?_,by simpa using hown,World.grownBy.refl _ _, .inl rfl⟩
  unfold execOp
  have := run_append_nothing (P := Tryz.prog) W ST ST o.type T i0 hu hi A1 n c1 hle (.slice A 0 c) hsr
  simp only [ho,resolve,invoke,builtin,Sem.run_bind,Sem.run_pure,Result.andThen_ok,List.map_toArray,List.map_cons,List.map_nil,hs,hx,this]
  simp
theorem wpO_apA {l : List Oper} {K : Act → World → Prop} {r : List Oper} {a : Act} (hw : Region.wanted o (yielded l.toArray a.tmps) = true) (hi0 : (Tryz.prog.info? T).map (fun i => (i.zero.map (·.cells.size),i.size,i.bytes)) = some (some k,k,byt)) (hu : Tryz.prog.underlying ST = some (.slice T)) (hone : ∀ x, ∀ v ∈ enc x,v.oneCell' = true) (hlen : ∀ x,(enc x).length = k) (hk : 0 < k) (hby : byt ≤ 1000)
  (ho : o.op = .call { callee := .builtin .append,args := #[s,x],argTypes := #[ST,ST] }) {base : Nat} {v : Value} {n : Nat} {xs : List α} (ys : List α) {m c : Nat} {A : Option Addr} (hs : a.eval s = v) (hx : a.eval x = .slice A m c) (hm : ys.length = m) (hsrc : SlAt enc k W A ys)
  (hown : W.ownsRow base T k v n (xs.flatMap enc)) (hl : n + m ≤ 100000000) (hb : base ≤ W.heap.size)
  (h : ∀ A' c' w',w'.ownsRow base T k (.slice A' (n + m) c') (n + m) ((xs ++ ys).flatMap enc) → W.grownBy w' v.ownBlock → (Value.ownBlock (.slice A' (n + m) c') = v.ownBlock ∨ Value.ownBlock (.slice A' (n + m) c') = some W.heap.size) → wpO Tryz.prog l K r (a.put o.dst (.slice A' (n + m) c')) w') : wpO Tryz.prog l K (o :: r) a W := by
 obtain ⟨A',c',w',h1,h2,h3,h4⟩ := run_apA hi0 hu hone hlen hk hby ho ys hs hx hm hsrc hown hl hb
 exact wpO_val hw h1 (h A' c' w' h2 h3 h4)
end
end Go.Proofs.YtmokciekndllpaaGreatDoor
namespace Go.Proofs.YtmokciekndllpaaGreatDoor
open Go Go.RowKit Go.Shelf
def tIn (T : List Nat) (B : Nat) (T' : List Nat) : Prop := ∀ x ∈ T',x ∈ T ∨ B ≤ x
theorem tIn.refl (T : List Nat) (B : Nat) : tIn T B T := fun _ h => .inl h
theorem tIn.trans {T T' T'' : List Nat} {B C : Nat} (h : tIn T B T') (k : tIn T' C T'') (hBC : B ≤ C) : tIn T B T'' := fun x hx => by
 rcases k x hx with h1 | h1
 ·exact h x h1
 ·exact .inr (by omega)
def bPost (J : List Nat → World → Prop) (Jx : Code → List Nat → World → Prop) (T : List Nat) (W : World) : Exit → Act → World → Prop
 | .normal,_,W' => ∃ T',J T' W' ∧ Keep T W W' ∧ tIn T W.heap.size T'
 | .ret,_,W' => ∃ T',Jx .ret T' W' ∧ Keep T W W' ∧ tIn T W.heap.size T'
 | .exit id,_,W' => ∃ T',Jx (.exit id) T' W' ∧ Keep T W W' ∧ tIn T W.heap.size T'
 | .goto t,_,W' => ∃ T',Jx (.goto t) T' W' ∧ Keep T W W' ∧ tIn T W.heap.size T'
 | .panic _,_,_ => False
 | .outgrown,_,_ => False
theorem least_ex {p : Nat → Prop} (h : ∃ n,p n) : ∃ n,p n ∧ ∀ m,p m → n ≤ m := by
 obtain ⟨n,hn⟩ := h
 induction n using Nat.strongRecOn with
 | _ n ih =>
  by_cases hl : ∃ m,m < n ∧ p m
  ·obtain ⟨m,hm,hp⟩ := hl
   exact ih m hm hp
  ·exact ⟨n,hn,fun m hm => Nat.le_of_not_lt fun h => hl ⟨m,h,hm⟩⟩
open Classical in
noncomputable def ixM (I : Nat → Act → World → Prop) (a : Act) (w : World) : Nat := if h : ∃ n,I n a w then Classical.choose (least_ex h) else 0
theorem ixM_le {I : Nat → Act → World → Prop} {a : Act} {w : World} {n : Nat} (h : I n a w) : ixM I a w ≤ n ∧ I (ixM I a w) a w := by
 have he : ∃ n,I n a w := ⟨n,h⟩
 unfold ixM
 rw [dif_pos he]
 have := Classical.choose_spec (least_ex he)
 exact ⟨this.2 n h,this.1⟩
theorem wp_loop_ix {P : Program} {c : Code} {Q : Exit → Act → World → Prop} {a : Act} {w : World} (I : Nat → Act → World → Prop) (n : Nat) (h0 : I n a w)
  (round : ∀ n a w,I n a w → c.wp P (Exit.then (fun a' w' => ∃ m,I m a' w' ∧ m < n) Q) a w) : (Code.loop c).wp P Q a w := by
 refine wp_loop (fun a w => ∃ n,I n a w) (ixM I) ⟨n,h0⟩ ?_
 rintro a w ⟨n,hn⟩
 refine wp_mono (round _ a w (ixM_le hn).2) ?_
 intro e a' w' hq
 cases e with
 | normal => obtain ⟨m,hI,hm⟩ := hq; exact ⟨⟨m,hI⟩,Nat.lt_of_le_of_lt (ixM_le hI).1 hm⟩
 | exit _ => exact hq
 | goto _ => exact hq
 | ret => exact hq
 | panic _ => exact hq
 | outgrown => exact hq
section
variable {P : Program} {α : Type}
theorem rng_same {T T' ex : List Nat} {W W' : World} {B n : Nat} (hk : Keep T' W W') (hT : tIn T (B + n) T') (hTB : ∀ x ∈ T,x < B) (hW : B + n ≤ W.heap.size) (hex : ∀ b ∈ ex,b < B ∧ b ∉ T) : Same (privs B n ++ ex) W W' :=
 Same.of_keep hk fun x hx => by
  rcases List.mem_append.1 hx with hx | hx
  ·rw [mem_privs] at hx
   refine ⟨by omega,fun hm => ?_⟩
   rcases hT x hm with h | h
   ·have := hTB x h; omega
   ·omega
  ·have h0 := hex x hx
   refine ⟨by omega,fun hm => ?_⟩
   rcases hT x hm with h | h
   ·exact h0.2 h
   ·omega
theorem rng_off {T T' : List Nat} {B n : Nat} (hT : tIn T (B + n) T') (hTB : ∀ x ∈ T,x < B) : ∀ x ∈ privs B n,x ∉ T' := fun x hx hm => by
 rw [mem_privs] at hx
 rcases hT x hm with h | h
 ·have := hTB x h; omega
 ·omega
theorem wp_rng {g : Operand} {ps : Array Tmp} {assign body : Code} {Q : Exit → Act → World → Prop} {a : Act} {w : World} {gf : Nat} {lb : Array Value}
  (hg : a.eval g = .func (.func gf) #[] lb) (eg : ∀ args w,(callFunc gf args).run P w = .ok (.enter gf args) w)
  {encs : α → Array Value} {xs : List α} {np : Nat} {ex : List Nat} {T : List Nat} (hex : ∀ b ∈ ex,b < w.heap.size ∧ b ∉ T) (hit : Iter1 P gf lb encs xs np ex w) (hps : ∀ x,(encs x).size = ps.size)
  (J : List α → List Nat → World → Prop) (Jx : Code → List Nat → World → Prop) (Pa : Array Value → List Nat → α → Act → World → Prop)
  (hk : ∀ pre T' A B S,J pre T' A → Keep S A B → (∀ x ∈ S,x ∉ T') → J pre T' B) (hkx : ∀ c T' A B S,Jx c T' A → Keep S A B → (∀ x ∈ S,x ∉ T') → Jx c T' B)
  (hJl : ∀ pre T' A,J pre T' A → ∀ y ∈ T',y < A.heap.size) (hPa : ∀ T' x a1 A B,Pa a.tmps T' x a1 A → Keep (privs w.heap.size (2 + np)) A B → Pa a.tmps T' x a1 B) (hlt : ∀ x ∈ T,x < w.heap.size) (h0 : J [] T w)
  (hassign : ∀ (T' : List Nat) (x : α) (W : World) (K : Act → World → Prop),(∀ y ∈ T',y < W.heap.size) → w.heap.size + (2 + np) ≤ W.heap.size → (∀ a1 W1,Pa a.tmps T' x a1 W1 → Ext W W1 → K a1 W1) →
   assign.wpIn (RF (w.heap.size + 1)) 0 P (Exit.then K (fun _ _ _ => False)) { tmps := (ps.zip (encs x)).foldl (fun t (p,v) => t.setIfInBounds p v) a.tmps,defers := [] } W)
  (hbody : ∀ (pre : List α) (x : α) (a1 : Act) (T' : List Nat) (W : World),J pre T' W → Keep T w W → tIn T (w.heap.size + (2 + np)) T' → Pa a.tmps T' x a1 W → (pre ++ [x]) <+: xs → w.heap.size + (2 + np) ≤ W.heap.size → (∃ r,W.heap[w.heap.size + 1]? = some (.loop r)) →
   body.wpIn (RF (w.heap.size + 1)) 0 P (bPost (J (pre ++ [x])) Jx T' W) a1 W)
  (hdone : ∀ (T' : List Nat) (W : World),J xs T' W → Keep T w W → tIn T (w.heap.size + (2 + np)) T' → W.heap[w.heap.size]? = some (.deferred (some [])) → Q .normal { a with defers := { target := .collected w.heap.size,args := #[] } :: a.defers } W)
  (hstop : ∀ (c : Code) (T' : List Nat) (W : World),Jx c T' W → Keep T w W → tIn T (w.heap.size + (2 + np)) T' → W.heap[w.heap.size]? = some (.deferred (some [])) → c.wp P Q { a with defers := { target := .collected w.heap.size,args := #[] } :: a.defers } W) :
  (Code.rangeFunc g ps assign body).wp P Q a w := by
 have hX : ∀ {T' : List Nat} {A B : World},tIn T (w.heap.size + (2 + np)) T' → Keep (privs w.heap.size (2 + np)) A B → ∀ x ∈ privs w.heap.size (2 + np),x ∉ T' := fun h _ => rng_off h hlt
 have hkw : ∀ {A B : World},Keep T w A → Keep (privs w.heap.size (2 + np)) A B → Keep T w B := fun h k => h.of_new k fun z hz => by rw [mem_privs] at hz; exact .inr hz.1
 refine wp_range hg eg (fun b hb => (hex b hb).1) hit hps
  (fun pre W => ∃ T',J pre T' W ∧ Keep T w W ∧ tIn T (w.heap.size + (2 + np)) T') (fun c _ W => ∃ T',Jx c T' W ∧ Keep T w W ∧ tIn T (w.heap.size + (2 + np)) T')
  (fun tm pre x a1 W => ∃ T',(J pre T' W ∧ Keep T w W ∧ tIn T (w.heap.size + (2 + np)) T') ∧ Pa tm T' x a1 W)
  (fun pre A B ⟨T',h1,h2,h3⟩ k => ⟨T',hk _ _ _ _ _ h1 k (hX h3 k),hkw h2 k,h3⟩)
  (fun c pre A B ⟨T',h1,h2,h3⟩ k => ⟨T',hkx _ _ _ _ _ h1 k (hX h3 k),hkw h2 k,h3⟩)
  (fun pre x a1 A B ⟨T',⟨h1,h2,h3⟩,h4⟩ k => ⟨T',⟨hk _ _ _ _ _ h1 k (hX h3 k),hkw h2 k,h3⟩,hPa _ _ _ _ _ h4 k⟩)
  ⟨T,h0,Keep.refl _ _, .refl _ _⟩ ?_ ?_ (fun W ⟨T',h1,h2,h3⟩ hD => hdone T' W h1 h2 h3 hD) (fun c pre W ⟨T',h1,h2,h3⟩ hD => hstop c T' W h1 h2 h3 hD)
 ·rintro pre x W K ⟨T',h1,h2,h3⟩ hpre hsz hK
  refine hassign T' x W K (hJl _ _ _ h1) hsz fun a1 W1 hp hx => hK a1 W1 ⟨T',⟨hk _ _ _ _ _ h1 (hx.keep []) (by simp),h2.trans (hx.keep _),h3⟩,hp⟩ (rng_same (hx.keep []) (T' := []) (T := T) (by intro x h; simp at h) hlt hsz hex) (Below.size hx)
 ·rintro pre x a1 W ⟨T',⟨h1,h2,h3⟩,hp⟩ hpre hsz hr
  refine wpIn_mono (hbody pre x a1 T' W h1 h2 h3 hp hpre hsz hr) ?_
  have fin : ∀ {T'' : List Nat} {W' : World},Keep T' W W' → tIn T' W.heap.size T'' → W.heap.size ≤ W'.heap.size ∧ Same (privs w.heap.size (2 + np) ++ ex) W W' ∧ Keep T w W' ∧ tIn T (w.heap.size + (2 + np)) T'' := fun k t =>
   ⟨k.size,rng_same k h3 hlt hsz hex,h2.of_new k (fun z hz => by rcases h3 z hz with h | h; exact .inl h; exact .inr (by omega)),h3.trans t hsz⟩
  rintro e a2 W' hq
  cases e with
  | normal => obtain ⟨T'',q1,q2,q3⟩ := hq; obtain ⟨f1,f2,f3,f4⟩ := fin q2 q3; exact ⟨f1,f2,T'',q1,f3,f4⟩
  | ret => obtain ⟨T'',q1,q2,q3⟩ := hq; obtain ⟨f1,f2,f3,f4⟩ := fin q2 q3; exact ⟨f1,f2,T'',q1,f3,f4⟩
  | exit id => obtain ⟨T'',q1,q2,q3⟩ := hq; obtain ⟨f1,f2,f3,f4⟩ := fin q2 q3; exact ⟨f1,f2,T'',q1,f3,f4⟩
  | goto t => obtain ⟨T'',q1,q2,q3⟩ := hq; obtain ⟨f1,f2,f3,f4⟩ := fin q2 q3; exact ⟨f1,f2,T'',q1,f3,f4⟩
  | panic ch => exact hq.elim
  | outgrown => exact hq.elim
structure Run (w : World) (T : List Nat) (ds : List Deferred) (W : World) : Prop where
 ext : Ext w W
 marks : Marks w.heap.size ds W
 nd : ∀ D ∈ T, ∀ d ∈ ds,d.target ≠ .collected D
 tin : ∀ x ∈ T,w.heap.size ≤ x
 lt : ∀ x ∈ T,x < W.heap.size
theorem Run.new {w W : World} {T : List Nat} (hx : Ext w W) (ht : ∀ x ∈ T,w.heap.size ≤ x) (hl : ∀ x ∈ T,x < W.heap.size) : Run w T [] W := ⟨hx, .nil _,by simp,ht,hl⟩
theorem Run.step {w W W' : World} {T T' : List Nat} {ds : List Deferred} (h : Run w T ds W) (k : Keep T W W') (ht : tIn T W.heap.size T') (hl : ∀ x ∈ T',x < W'.heap.size) : Run w T' ds W' := by
 refine ⟨h.ext.of_new k h.tin,h.marks.keep k h.nd,fun D hD d hd e => ?_,fun x hx => ?_,hl⟩
 ·rcases ht D hD with h1 | h1
  ·exact h.nd D h1 d hd e
  ·obtain ⟨D',e1,_,h3⟩ := h.marks.lt d hd
   rw [e1] at e
   injection e with e
   have := (Array.getElem?_eq_some_iff.1 h3).1
   omega
 ·rcases ht x hx with h1 | h1
  ·exact h.tin x h1
  ·have := Below.size h.ext
   omega
theorem Run.stepE {w W W' : World} {T : List Nat} {ds : List Deferred} (h : Run w T ds W) (k : Ext W W') : Run w T ds W' := h.step (k.keep _) (.refl _ _) fun x hx => Nat.lt_of_lt_of_le (h.lt x hx) (Below.size k)
theorem Run.mark {w W W' : World} {T T' : List Nat} {ds : List Deferred} {n : Nat} (h : Run w T ds W) (k : Keep T W W') (ht : tIn T (W.heap.size + (2 + n)) T') (hl : ∀ x ∈ T',x < W'.heap.size) (hD : W'.heap[W.heap.size]? = some (.deferred (some []))) : Run w T' ({ target := .collected W.heap.size,args := #[] } :: ds) W' := by
 have h1 := h.step k (fun x hx => (ht x hx).imp id (fun h => by omega)) hl
 refine ⟨h1.ext, .cons (Below.size h.ext) hD (fun d hd e => ?_) h1.marks,fun D hD d hd e => ?_,h1.tin,hl⟩
 ·obtain ⟨D',e1,_,h3⟩ := h.marks.lt d hd
  rw [e1] at e
  injection e with e
  have := (Array.getElem?_eq_some_iff.1 h3).1
  omega
 ·rcases List.mem_cons.1 hd with rfl | hd
  ·injection e with e
   rcases ht D hD with h2 | h2
   ·have := h.lt D h2; omega
   ·omega
  ·exact h1.nd D hD d hd e
theorem Run.leaves {fn : Func} {tmps : Array Value} {R : Ending → World → Prop} {w W : World} {T : List Nat} {ds : List Deferred} (h : Run w T ds W) (hR : ∀ w' S,Keep S W w' → (∀ x ∈ S,x ∉ T) → Ext w w' → LeavesIn Fence.wide 0 P fn tmps R [] .returning w') : LeavesInM Fence.wide 0 P fn tmps R ds .returning W := by
 refine leaves_marks (B := w.heap.size) ds W h.marks ?_
 rintro w' ⟨S,hS,hkS⟩
 refine hR w' S hkS (fun x hx hm => ?_) (h.ext.of_new hkS fun x hx => ?_)
 ·obtain ⟨d,hd,e⟩ := hS x hx
  exact h.nd x hm d hd e
 ·obtain ⟨d,hd,e⟩ := hS x hx
  obtain ⟨D,e1,h2,_⟩ := h.marks.lt d hd
  rw [e1] at e
  injection e with e
  omega
end
section
variable {P : Program} {ops : Array Oper} {R : World → World → Prop} {C : World → Prop} {safe : Nat → Bool} {Q : Act → World → Prop}
theorem wpQL_mono {K K' : Act → Prop} (h : ∀ a,K a → K' a) : ∀ (l : List Nat) (a : Act),wpQL P ops R C K l a → wpQL P ops R C K' l a
 | [],a,hk => h a hk
 | i :: r,a,hk => fun o ho => by
  have := hk o ho
  split at this
  ·rename_i hw
   rw [if_pos hw]
   obtain ⟨v,h1,h2⟩ := this
   exact ⟨v,h1,wpQL_mono h r _ h2⟩
  ·rename_i hw
   rw [if_neg hw]
   exact wpQL_mono h r _ this
theorem wpX_qlx {anc : Nat → List Nat} (ha : ancOk ops anc) (hsz : ∀ j,ops.size ≤ j → safe j = true) (hs : Region.noSelect ops = true) (hR : ∀ w,R w w) (hRt : ∀ a b c,R a b → R b c → R a c) (hCR : ∀ w w',C w → R w w' → C w') (n : Nat) :
  ∀ (l : List Nat) (listed : Array Bool) (a : Act) (w : World),Closed ops listed → qlLook ops safe anc l listed = true → C w →
   wpQL P ops R C (fun a' => ∀ w',R w w' → wpX P ops R C safe Q n (qlListed ops l listed) a' w') l a → wpX P ops R C safe Q (n + l.length) listed a w
 | [],listed,a,w,_,_,hC,h => h w (hR w)
 | k :: ks,listed,a,w,hcl,hl,hC,h => by
  simp only [qlLook,Bool.and_eq_true] at hl
  obtain ⟨⟨⟨hr,hf⟩,hsf⟩,hl'⟩ := hl
  have hr' : k ∈ Region.ready .any ops listed := by simpa using hr
  obtain ⟨_,o,ho,_⟩ := mem_ready.1 hr'
  obtain ⟨v,hy,hK⟩ := yields_of_wpQL ho h
  have hsafe : ∀ j,safe j = true ∨ k ∈ anc j := fun j => by
   rcases Nat.lt_or_ge j ops.size with hj | hj
   ·have := List.all_eq_true.1 hsf j (List.mem_range.2 hj)
    simpa using this
   ·exact .inl (hsz j hj)
  rw [List.length_cons, ← Nat.add_assoc]
  exact X_first ha hR hRt hCR ho (Region.noSelect_spec hs) hsafe (n + ks.length) listed a w hcl (Region.free_spec ho hf) hr' hC hy
   (fun w' hw' => wpX_qlx ha hsz hs hR hRt hCR n ks _ _ w' (hcl.set hr') hl' (hCR _ _ hC hw') (wpQL_mono (fun a' hk w'' hw'' => hk w'' (hRt _ _ _ hw' hw'')) ks _ hK))
theorem wpX_qle {l : List Oper} {a : Act} {w : World} (C : World → Prop) (qs ts : List Nat) (n : Nat) (hB : qlB l.toArray qs ts (ancTab l.toArray) = true) (hC : C w)
  (h : wpQL P l.toArray (fun a b => b = a) C (fun a' => wpX P l.toArray (fun a b => b = a) C (fun j => !ts.contains j) Q n (qlListed l.toArray qs (Array.replicate l.length false)) a' w) qs a) :
  wpX P l.toArray (fun a b => b = a) C (fun j => !ts.contains j) Q (n + qs.length) (Array.replicate l.length false) a w := by
 simp only [qlB,Bool.and_eq_true] at hB
 obtain ⟨⟨⟨h1,h2⟩,h3⟩,h4⟩ := hB
 have hsz : l.toArray.size = l.length := by simp
 rw [hsz] at h4
 exact wpX_qlx (P := P) (R := fun a b => b = a) (C := C) (ancOk_of h1) (fun j hj => by
  simp only [Bool.not_eq_true',List.contains_eq_mem,decide_eq_false_iff_not]
  intro hin
  have := List.all_eq_true.1 h3 j hin
  simp at this
  omega) h2 (fun _ => rfl) (fun _ _ _ h1 h2 => h2.trans h1) (fun _ _ h e => by rw [e]; exact h) n qs _ a w
  (fun j oj _ hl => by
   exfalso
   rcases Nat.lt_or_ge j l.length with hj | hj
   ·simp [hj] at hl
   ·simp [hj] at hl) h4 hC (wpQL_mono (fun a' hk w'' e => by rw [e]; exact hk) qs _ h)
theorem wpI_region_cls {id l0 m : Nat} {Q : Exit → Act → World → Prop} {a : Act} {w : World} {l : List Oper} (C : World → Prop) (hC : C w.drew) (qs ts : List Nat) (n : Nat) (listed : Array Bool)
  (hm : P.follows .mixedOrders = true) (hnd : noDefer l.toArray = true) (hB : qlB l.toArray qs ts (ancTab l.toArray) = true) (hn : n + qs.length = l.length) (hlst : qlListed l.toArray qs (Array.replicate l.length false) = listed)
  (h : wpQL P l.toArray (fun a b => b = a) C (fun a' => wpX P l.toArray (fun a b => b = a) C (fun j => !ts.contains j) (fun a w => Q .normal a w) n listed a' w.drew) qs a) : (Code.region id l.toArray true).wpIn (RF l0) m P Q a w := by
 subst hlst
 refine wpIn_region_any hm ?_
 have := wpX_qle (P := P) (Q := fun a w => Q .normal a w) C qs ts n hB hC h
 rw [hn] at this
 have hsz : l.toArray.size = l.length := by simp
 rw [hsz]
 exact wpAnyIn_of_wpX (R := fun a b => b = a) hnd (fun _ => rfl) (fun _ _ h => h) _ _ _ _ this
theorem Blk.cellsK {W : World} {S : List Nat} {b : Nat} {t : TypeId} {cs : Array Value} (h : Blk W b t cs) (hn : b ∉ S) (i : Nat) {v : Value} (hv : cs[i]? = some v) : ∀ W',Keep S W W' → W'.cell? ⟨b,i,none⟩ = some v := fun _ hk => ((h.keep hk hn).cell i).trans hv
end
end Go.Proofs.YtmokciekndllpaaGreatDoor
namespace Go.Proofs.YtmokciekndllpaaGreatDoor
open Go Go.RowKit Go.Shelf
attribute [local go_sem] qUpon lUpon
theorem qUpon_eq {P : Program} {W : World} {v : Value} {r : Result Next} (h : r = .ok (.value v) W) : qUpon P (fun a b => b = a) W v r := by rw [h]; exact ⟨rfl,rfl⟩
section
variable {P : Program} {C : World → Prop} {safe : Nat → Bool} {Q : Act → World → Prop} {l : List Oper} {n i : Nat} {o : Oper} {listed : Array Bool} {a : Act} {W w' : World} {v : Value}
theorem lx_valE (hr : Region.ready .any l.toArray listed = [i]) (ho : pick l i = some o) (hw : Region.wanted o (yielded l.toArray a.tmps) = true) (listed' : Array Bool) (hl : listed.setIfInBounds i true = listed')
  (h : (execOp a.eval o).run P W = .ok (.value v) w') (hC : safe i = true → C w') (hk : wpX P l.toArray (fun a b => b = a) C safe Q n listed' (a.put o.dst v) w') : wpX P l.toArray (fun a b => b = a) C safe Q (n + 1) listed a W := by
 refine lx_one hr ho hw listed' hl ?_
 rw [h]
 exact ⟨hC,fun w'' e => by rw [e]; exact hk⟩
theorem lx_skipE (hr : Region.ready .any l.toArray listed = [i]) (ho : pick l i = some o) (hw : Region.wanted o (yielded l.toArray a.tmps) = true) (listed' : Array Bool) (hl : listed.setIfInBounds i true = listed')
  (h : (execOp a.eval o).run P W = .ok .skip w') (hC : safe i = true → C w') (hk : wpX P l.toArray (fun a b => b = a) C safe Q n listed' (a.put o.dst undef) w') : wpX P l.toArray (fun a b => b = a) C safe Q (n + 1) listed a W := by
 refine lx_one hr ho hw listed' hl ?_
 rw [h]
 exact ⟨hC,fun w'' e => by rw [e]; exact hk⟩
end
section
variable {α : Type} {enc : α → List Value} {T ST : TypeId} {kk byt : Nat} {C : World → Prop} {safe : Nat → Bool} {Q : Act → World → Prop} {l : List Oper} {n i : Nat} {o : Oper} {s x : Operand} {listed : Array Bool} {a : Act} {W : World}
theorem lx_ap1E (hr : Region.ready .any l.toArray listed = [i]) (ho0 : pick l i = some o) (hw : Region.wanted o (yielded l.toArray a.tmps) = true) (listed' : Array Bool) (hli : listed.setIfInBounds i true = listed')
  (hi0 : (Tryz.prog.info? T).map (fun i => (i.zero.map (·.cells.size),i.size,i.bytes)) = some (some kk,kk,byt)) (hu : Tryz.prog.underlying ST = some (.slice T)) (hone : ∀ x, ∀ v ∈ enc x,v.oneCell' = true) (hlen : ∀ x,(enc x).length = kk) (hk : 0 < kk) (hby : byt ≤ 1000)
  (ho : o.op = .call { callee := .builtin .append,args := #[s,x],argTypes := #[ST,ST] }) {base : Nat} {v : Value} {m : Nat} {xs : List α} (e : α) {g : Nat} {t : TypeId} (hsv : a.eval s = v) (hx : a.eval x = .slice (some ⟨g,0,none⟩) 1 1) (hg : Blk W g t (enc e).toArray)
  (hown : W.ownsRow base T kk v m (xs.flatMap enc)) (hl : m ≤ 10000000) (hb : base ≤ W.heap.size)
  (h : ∀ A' c' w',w'.ownsRow base T kk (.slice A' (m + 1) c') (m + 1) ((xs ++ [e]).flatMap enc) → W.grownBy w' v.ownBlock → (Value.ownBlock (.slice A' (m + 1) c') = v.ownBlock ∨ Value.ownBlock (.slice A' (m + 1) c') = some W.heap.size) → (safe i = true → C w') ∧ wpX Tryz.prog l.toArray (fun a b => b = a) C safe Q n listed' (a.put o.dst (.slice A' (m + 1) c')) w') : wpX Tryz.prog l.toArray (fun a b => b = a) C safe Q (n + 1) listed a W := by
 obtain ⟨A',c',w',h1,h2,h3,h4⟩ := run_ap1 hi0 hu hone hlen hk hby ho e hsv hx hg hown hl hb
 obtain ⟨hC,hk⟩ := h A' c' w' h2 h3 h4
 exact lx_valE hr ho0 hw listed' hli h1 hC hk
end
theorem Run.after {w W W' : World} {T : List Nat} {ds : List Deferred} (h : Run w T ds W) (k : Keep T W W') : Ext w W' := h.ext.of_new k h.tin
theorem Acc.own_off {α : Type} {enc : α → List Value} {T ST k base bl : Nat} {xs : List α} {v : Value} {W : World} (h : Acc enc T ST k base bl xs v W) : ∀ x ∈ v.ownBlock.toList,base ≤ x ∧ x < W.heap.size := fun x hx => by
 have := own_base h.own (by simpa using hx)
 exact ⟨this.1,this.2.1⟩
theorem Acc.push' {α : Type} {enc : α → List Value} {T ST k base bl : Nat} {xs : List α} {v v' : Value} {W W1 w6 w7 : World} {ys : List α} {n : Nat} (h : Acc enc T ST k base bl xs v W) (hx : Ext W W1) (hown : w6.ownsRow base T k v' n (ys.flatMap enc)) (hn : n = ys.length) (hg : W1.grownBy w6 v.ownBlock) (hat : v'.ownBlock = v.ownBlock ∨ v'.ownBlock = some W1.heap.size) (hx7 : Ext w6 w7) :
  Blk w7 bl ST #[v] ∧ Acc enc T ST k base bl ys v' (w7.setRow bl #[v']) ∧ Keep v.ownBlock.toList W w7 ∧ tIn (accT bl v) W.heap.size (accT bl v') := by
 subst hn
 have hk7 := ((hx.keep v.ownBlock.toList).trans (Keep.of_grown hg)).trans (hx7.keep _)
 have hne : bl ∉ v.ownBlock.toList := fun hm => by
  have h1 := (own_base h.own (by simpa using hm)).1
  have := h.lt
  omega
 have hc7 := h.cell.keep hk7 hne
 have hsz := Below.size hx
 refine ⟨hc7,⟨hc7.row #[v'],own_keep (own_ext hown hx7) (Keep.setRow w7 bl #[v']) (fun g hg e => ?_),h.lt, ?_⟩,hk7,fun x hx' => ?_⟩
 ·rw [List.mem_singleton] at hg
  have := (own_base hown e).1
  have := h.lt
  omega
 ·have := h.le
  have := hk7.size
  have := (Keep.setRow w7 bl #[v']).size
  omega
 ·simp only [accT,List.mem_cons,Option.mem_toList] at hx' ⊢
  rcases hx' with rfl | hx'
  ·exact .inl (.inl rfl)
  ·rcases hat with e | e
   ·rw [e] at hx'; exact .inl (.inr hx')
   ·rw [e] at hx'
    simp at hx'
    right; omega
end Go.Proofs.YtmokciekndllpaaGreatDoor
