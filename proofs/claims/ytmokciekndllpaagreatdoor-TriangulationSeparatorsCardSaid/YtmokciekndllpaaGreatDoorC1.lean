/- Parts of a proof, laid together. Each part says its own conditions. -/
import Derived.Below
import Derived.Orders
import Derived.Tactics
import Derived.KernelRfl
namespace Go.Proofs.YtmokciekndllpaaGreatDoor
def hc (l : List (Int × Int)) (k : Nat) : Int := (l.getD k (0,0)).1
def swpL (l : List (Int × Int)) (i j : Nat) : List (Int × Int) := (l.set i (l.getD j (0,0))).set j (l.getD i (0,0))
theorem swp_len (l : List (Int × Int)) (i j : Nat) : (swpL l i j).length = l.length := by unfold swpL; rw [List.length_set,List.length_set]
theorem swp_get {l : List (Int × Int)} {i j k : Nat} (hi : i < l.length) (hj : j < l.length) : (swpL l i j).getD k (0,0) = if k = j then l.getD i (0,0) else if k = i then l.getD j (0,0) else l.getD k (0,0) := by
 unfold swpL
 by_cases h1 : k = j
 ·subst h1
  rw [if_pos rfl,List.getD_eq_getElem?_getD,List.getElem?_set_self (by rw [List.length_set]; exact hj)]
  rfl
 ·rw [if_neg h1,List.getD_eq_getElem?_getD,List.getElem?_set_ne (fun e => h1 e.symm)]
  by_cases h2 : k = i
  ·subst h2
   rw [if_pos rfl,List.getElem?_set_self hi]
   rfl
  ·rw [if_neg h2,List.getElem?_set_ne (fun e => h2 e.symm),List.getD_eq_getElem?_getD]
theorem swp_hc {l : List (Int × Int)} {i j k : Nat} (hi : i < l.length) (hj : j < l.length) : hc (swpL l i j) k = if k = j then hc l i else if k = i then hc l j else hc l k := by
 unfold hc
 rw [swp_get hi hj]
 split
 ·rfl
 ·split <;> rfl
theorem swp_perm {l : List (Int × Int)} {i j : Nat} (hi : i < l.length) (hj : j < l.length) : (swpL l i j).Perm l := by
 unfold swpL
 rw [List.getD_eq_getElem?_getD,List.getD_eq_getElem?_getD,List.getElem?_eq_getElem hi,List.getElem?_eq_getElem hj]
 exact List.set_set_perm hi hj
def HeapN (l : List (Int × Int)) (n : Nat) : Prop := ∀ k,0 < k → k < n → hc l ((k - 1) / 2) ≤ hc l k
def UpN (l : List (Int × Int)) (n j : Nat) : Prop := (∀ k,0 < k → k < n → k ≠ j → hc l ((k - 1) / 2) ≤ hc l k) ∧ ∀ k,0 < k → k < n → (k - 1) / 2 = j → 0 < j → hc l ((j - 1) / 2) ≤ hc l k
def DownN (l : List (Int × Int)) (n i : Nat) : Prop := (∀ k,0 < k → k < n → (k - 1) / 2 ≠ i → hc l ((k - 1) / 2) ≤ hc l k) ∧ ∀ k,0 < k → k < n → (k - 1) / 2 = i → 0 < i → hc l ((i - 1) / 2) ≤ hc l k
theorem HeapN.min {l : List (Int × Int)} {n : Nat} (h : HeapN l n) : ∀ k,k < n → hc l 0 ≤ hc l k
 | 0,_ => Int.le_refl _
 | k + 1,hk => by
  have h1 := h (k + 1) (by omega) hk
  have h2 := HeapN.min h ((k + 1 - 1) / 2) (by omega)
  omega
 termination_by k => k
 decreasing_by omega
theorem UpN.done0 {l : List (Int × Int)} {n : Nat} (h : UpN l n 0) : HeapN l n := fun k h1 h2 => h.1 k h1 h2 (by omega)
theorem UpN.done {l : List (Int × Int)} {n j : Nat} (h : UpN l n j) (hl : ¬ hc l j < hc l ((j - 1) / 2)) : HeapN l n := fun k h1 h2 => by
 by_cases e : k = j
 ·subst e; omega
 ·exact h.1 k h1 h2 e
theorem UpN.step {l : List (Int × Int)} {n j : Nat} (hn : n ≤ l.length) (hj : j < n) (hj0 : 0 < j) (h : UpN l n j) (hl : hc l j < hc l ((j - 1) / 2)) : UpN (swpL l ((j - 1) / 2) j) n ((j - 1) / 2) := by
 have hs := fun k => swp_hc (l := l) (i := (j - 1) / 2) (j := j) (k := k) (by omega) (by omega)
 generalize hp : (j - 1) / 2 = p at *
 have hpj : p < j := by omega
 refine ⟨fun k h1 h2 h3 => ?_,fun k h1 h2 h3 h4 => ?_⟩
 ·rw [hs,hs]
  by_cases e1 : k = j
  ·subst e1
   rw [hp,if_neg (by omega),if_pos rfl,if_pos rfl]
   omega
  ·by_cases e2 : (k - 1) / 2 = j
   ·have h5 := h.2 k h1 h2 e2 hj0
    rw [e2,if_pos rfl,if_neg e1,if_neg h3]
    rwa [hp] at h5
   ·by_cases e3 : (k - 1) / 2 = p
    ·have h5 := h.1 k h1 h2 e1
     rw [e3,if_neg (by omega),if_pos rfl,if_neg e1,if_neg h3]
     rw [e3] at h5
     omega
    ·rw [if_neg e2,if_neg e3,if_neg e1,if_neg h3]
     exact h.1 k h1 h2 e1
 ·rw [hs,hs]
  have h5 := h.1 p h4 (by omega) (by omega)
  have e1 : ¬ (p - 1) / 2 = j := by omega
  have e2 : ¬ (p - 1) / 2 = p := by omega
  rw [if_neg e1,if_neg e2]
  by_cases e3 : k = j
  ·rw [if_pos e3]; exact h5
  ·have h6 := h.1 k h1 h2 e3
   rw [h3] at h6
   rw [if_neg e3,if_neg (by omega)]
   omega
theorem DownN.done {l : List (Int × Int)} {n i : Nat} (h : DownN l n i) (hl : ∀ k,0 < k → k < n → (k - 1) / 2 = i → hc l i ≤ hc l k) : HeapN l n := fun k h1 h2 => by
 by_cases e : (k - 1) / 2 = i
 ·rw [e]; exact hl k h1 h2 e
 ·exact h.1 k h1 h2 e
theorem DownN.step {l : List (Int × Int)} {n i j : Nat} (hn : n ≤ l.length) (hj : j < n) (hji : (j - 1) / 2 = i) (hj0 : 0 < j) (h : DownN l n i) (hl : hc l j < hc l i) (hm : ∀ k,0 < k → k < n → (k - 1) / 2 = i → hc l j ≤ hc l k) : DownN (swpL l i j) n j := by
 have hij : i < j := by omega
 have hs := fun k => swp_hc (l := l) (i := i) (j := j) (k := k) (by omega) (by omega)
 refine ⟨fun k h1 h2 h3 => ?_,fun k h1 h2 h3 h4 => ?_⟩
 ·rw [hs,hs,if_neg h3]
  by_cases e1 : (k - 1) / 2 = i
  ·rw [if_pos e1]
   have h5 := hm k h1 h2 e1
   by_cases e2 : k = j
   ·rw [if_pos e2]; omega
   ·rw [if_neg e2,if_neg (by omega)]; exact h5
  ·rw [if_neg e1]
   have h5 := h.1 k h1 h2 e1
   by_cases e2 : k = j
   ·exact absurd (by rw [e2]; exact hji) e1
   ·rw [if_neg e2]
    by_cases e3 : k = i
    ·rw [if_pos e3]
     subst e3
     exact h.2 j hj0 hj hji h1
    ·rw [if_neg e3]; exact h5
 ·rw [hs,hs,hji,if_neg (by omega),if_pos rfl,if_neg (by omega),if_neg (by omega)]
  have h5 := h.1 k h1 h2 (by omega)
  rwa [h3] at h5
theorem HeapN.push {l : List (Int × Int)} (h : HeapN l l.length) (x : Int × Int) : UpN (l ++ [x]) (l.length + 1) l.length := by
 have hk : ∀ k,k < l.length → hc (l ++ [x]) k = hc l k := fun k hk => by
  unfold hc
  rw [List.getD_eq_getElem?_getD,List.getElem?_append_left hk,List.getD_eq_getElem?_getD]
 refine ⟨fun k h1 h2 h3 => ?_,fun k h1 h2 h3 h4 => by omega⟩
 rw [hk _ (by omega),hk _ (by omega)]
 exact h k h1 (by omega)
theorem HeapN.pop {l : List (Int × Int)} {n : Nat} (hl : l.length = n + 1) (h : HeapN l l.length) : DownN (swpL l 0 n) n 0 := by
 have hs := fun k => swp_hc (l := l) (i := 0) (j := n) (k := k) (by omega) (by omega)
 refine ⟨fun k h1 h2 h3 => ?_,fun k h1 h2 h3 h4 => by omega⟩
 rw [hs,hs,if_neg (by omega),if_neg h3,if_neg (by omega),if_neg (by omega)]
 exact h k h1 (by omega)
theorem HeapN.take {l : List (Int × Int)} {n : Nat} (h : HeapN l n) (hn : n ≤ l.length) : HeapN (l.take n) (l.take n).length := by
 rw [List.length_take,Nat.min_eq_left hn]
 have hk : ∀ k,k < n → hc (l.take n) k = hc l k := fun k hk => by
  unfold hc
  rw [List.getD_eq_getElem?_getD,List.getElem?_take,if_pos hk,List.getD_eq_getElem?_getD]
 intro k h1 h2
 rw [hk _ (by omega),hk _ h2]
 exact h k h1 h2
end Go.Proofs.YtmokciekndllpaaGreatDoor
namespace Go.Proofs.YtmokciekndllpaaGreatDoor
open Go Go.RowKit
def lUpon (P : Program) (K : Value → World → Prop) : Result Next → Prop
 | .ok (.value v) w' => K v w'
 | .ok .skip w' => K undef w'
 | .ok (.enter f args) w' => Calls P f args w' fun e w'' => ∃ v,e = .returned v ∧ K v w''
 | _ => False
theorem lUpon_mono {P : Program} {K K' : Value → World → Prop} (h : ∀ v w,K v w → K' v w) : ∀ {r : Result Next},lUpon P K r → lUpon P K' r := by
 intro r hr
 cases r with
 | ok n w' =>
  cases n <;> simp only [lUpon] at hr ⊢
  case value v => exact h _ _ hr
  case skip => exact h _ _ hr
  case enter f args => exact hr.mono fun e w'' ⟨v,he,hk⟩ => ⟨v,he,h _ _ hk⟩
 | halt x w' => simp only [lUpon] at hr
def qUpon (P : Program) (R : World → World → Prop) (w : World) (v : Value) (r : Result Next) : Prop := lUpon P (fun u w' => u = v ∧ R w w') r
def xStep (P : Program) (ops : Array Oper) (i : Nat) (K : Act → World → Prop) (a : Act) (w : World) : Prop :=
 match ops[i]? with
 | none => K a w
 | some o => if Region.wanted o (yielded ops a.tmps) = true then lUpon P (fun v w' => K (a.put o.dst v) w') ((execOp a.eval o).run P w) else K (a.put o.dst undef) w
theorem xStep_mono {P : Program} {ops : Array Oper} {i : Nat} {K K' : Act → World → Prop} (h : ∀ a w,K a w → K' a w) {a : Act} {w : World} (hx : xStep P ops i K a w) : xStep P ops i K' a w := by
 unfold xStep at *
 split
 ·rename_i ho; simp only [ho] at hx; exact h _ _ hx
 ·rename_i o ho
  simp only [ho] at hx
  split
  ·rename_i hw; simp only [hw,if_true] at hx; exact lUpon_mono (fun _ _ => h _ _) hx
  ·rename_i hw; simp only [hw] at hx; exact h _ _ hx
theorem wpOp_of_xStep {P : Program} {ops : Array Oper} {Q : Exit → Act → World → Prop} {i : Nat} {K : Act → World → Prop} {a : Act} {w : World} (hx : xStep P ops i K a w) : wpOp P ops Q i K a w := by
 unfold xStep at hx
 unfold wpOp
 split
 ·rename_i ho; simp only [ho] at hx; exact hx
 ·rename_i o ho
  simp only [ho] at hx
  split
  ·rename_i hw
   simp only [hw,if_true] at hx
   refine .inl ?_
   unfold Oper.wp
   generalize (execOp a.eval o).run P w = r at *
   cases r with
   | ok n w' =>
    cases n <;> simp only [lUpon] at hx <;> simp only [Oper.upon]
    case value v => exact hx
    case skip => exact hx
    case enter f args => exact hx.mono fun e w'' ⟨v,he,hk⟩ => by subst he; exact hk
   | halt x w' => simp only [lUpon] at hx
  ·rename_i hw; simp only [hw] at hx; exact hx
def wpX (P : Program) (ops : Array Oper) (R : World → World → Prop) (C : World → Prop) (safe : Nat → Bool) (Q : Act → World → Prop) : Nat → Array Bool → Act → World → Prop
 | 0,listed,a,w => Region.ready .any ops listed = [] ∧ Q a w
 | n + 1,listed,a,w => (Region.ready .any ops listed = [] → Q a w) ∧
  ∀ i ∈ Region.ready .any ops listed,xStep P ops i (fun a' w' => (safe i = true → C w') ∧ ∀ w'',R w' w'' → wpX P ops R C safe Q n (listed.setIfInBounds i true) a' w'') a w
section
variable {P : Program} {ops : Array Oper} {R : World → World → Prop} {C : World → Prop} {safe : Nat → Bool} {Q : Act → World → Prop}
theorem wpAny_of_wpX {Q' : Exit → Act → World → Prop} (hR : ∀ w,R w w) (hQ : ∀ a w,Q a w → Q' .normal a w) : ∀ (n : Nat) (listed : Array Bool) (a : Act) (w : World),wpX P ops R C safe Q n listed a w → wpAny P .any ops Q' n listed a w
 | 0,_,_,_,h => ⟨h.1,hQ _ _ h.2⟩
 | n + 1,_,_,_,h => ⟨fun h0 => hQ _ _ (h.1 h0),fun i hi => wpOp_of_xStep (xStep_mono (fun a' w' hk => wpAny_of_wpX hR hQ n _ a' w' (hk.2 w' (hR w'))) (h.2 i hi))⟩
def YieldsX (P : Program) (ops : Array Oper) (R : World → World → Prop) (C : World → Prop) (o : Oper) (v : Value) (a : Act) : Prop :=
 (Region.wanted o (yielded ops a.tmps) = true ∧ ∀ w,C w → qUpon P R w v ((execOp a.eval o).run P w)) ∨ (Region.wanted o (yielded ops a.tmps) = false ∧ v = undef)
theorem YieldsX.of_same {o : Oper} {v : Value} {a a' : Act} (hy : YieldsX P ops R C o v a) (he : execOp a'.eval o = execOp a.eval o)
  (hw : Region.wanted o (yielded ops a'.tmps) = Region.wanted o (yielded ops a.tmps)) : YieldsX P ops R C o v a' := by
 unfold YieldsX at *
 rw [he,hw]
 exact hy
theorem YieldsX.step {i : Nat} {o : Oper} {v : Value} {a : Act} {w : World} (hR : ∀ w,R w w) (hi : ops[i]? = some o) (hC : C w) (hy : YieldsX P ops R C o v a) {K : Act → World → Prop} (h : ∀ w',R w w' → K (a.put o.dst v) w') : xStep P ops i K a w := by
 unfold xStep
 simp only [hi]
 rcases hy with ⟨hw,hv⟩ | ⟨hw,rfl⟩
 ·simp only [hw,if_true]
  exact lUpon_mono (fun u w' ⟨hu,hr⟩ => by subst hu; exact h w' hr) (hv w hC)
 ·simp only [hw,Bool.false_eq_true,if_false]; exact h w (hR w)
def Closed (ops : Array Oper) (listed : Array Bool) : Prop := ∀ j oj,ops[j]? = some oj → listed.getD j false = true → ∀ e ∈ oj.after,Region.binds .any e = true → listed.getD e.on false = true
theorem Closed.set {i : Nat} {listed : Array Bool} (h : Closed ops listed) (hi : i ∈ Region.ready .any ops listed) : Closed ops (listed.setIfInBounds i true) := by
 obtain ⟨_,oi,hoi,hall⟩ := mem_ready.1 hi
 intro j oj hj hl e he hb
 by_cases hij : i = j
 ·subst hij
  have : oj = oi := Option.some.inj (hj.symm.trans hoi)
  subst this
  exact getD_set_true (hall e he hb)
 ·rw [getD_set_ne false hij] at hl
  exact getD_set_true (h j oj hj hl e he hb)
def ancOk (ops : Array Oper) (anc : Nat → List Nat) : Prop := ∀ j oj,ops[j]? = some oj → ∀ i ∈ anc j, ∃ e ∈ oj.after,Region.binds .any e = true ∧ e.on < j ∧ (e.on = i ∨ i ∈ anc e.on)
theorem anc_listed {anc : Nat → List Nat} (ha : ancOk ops anc) {listed : Array Bool} (hc : Closed ops listed) : ∀ (j : Nat) (oj : Oper),ops[j]? = some oj →
  (∀ e ∈ oj.after,Region.binds .any e = true → listed.getD e.on false = true) → ∀ i ∈ anc j,listed.getD i false = true := by
 intro j
 induction j using Nat.strongRecOn with
 | _ j ih =>
  intro oj hj hall i hi
  obtain ⟨e,he,hb,hlt,hon⟩ := ha j oj hj i hi
  have h1 := hall e he hb
  rcases hon with rfl | hon
  ·exact h1
  ·have hsz : j < ops.size := (Array.getElem?_eq_some_iff.1 hj).1
   have hoe : ops[e.on]? = some ops[e.on] := Array.getElem?_eq_getElem (by omega)
   exact ih e.on hlt _ hoe (fun e' he' hb' => hc e.on _ hoe h1 e' he' hb') i hon
theorem X_first {anc : Nat → List Nat} (ha : ancOk ops anc) (hR : ∀ w,R w w) (hRt : ∀ a b c,R a b → R b c → R a c) (hCR : ∀ w w',C w → R w w' → C w')
  {i : Nat} {oi : Oper} {v : Value} (hi : ops[i]? = some oi) (hsel : ∀ (j : Nat) (o : Oper) cs b,ops[j]? = some o → o.op ≠ .select cs b)
  (hsafe : ∀ j,safe j = true ∨ i ∈ anc j) :
  ∀ (n : Nat) (listed : Array Bool) (a : Act) (w : World),Closed ops listed →
   (∀ j oj,ops[j]? = some oj → j ≠ i → listed.getD j true = false → (∀ e ∈ oj.after,Region.binds .any e = true → e.on ≠ i) → oi.apart ops oj = true) →
   i ∈ Region.ready .any ops listed → C w → YieldsX P ops R C oi v a →
   (∀ w',R w w' → wpX P ops R C safe Q n (listed.setIfInBounds i true) (a.put oi.dst v) w') → wpX P ops R C safe Q (n + 1) listed a w := by
 intro n
 induction n with
 | zero =>
  intro listed a w hcl _ hr hC hy H
  refine ⟨fun h => (by rw [h] at hr; cases hr),fun j hj => ?_⟩
  by_cases hji : j = i
  ·subst hji; exact hy.step hR hi hC (fun w' hr' => ⟨fun _ => hCR _ _ hC hr',fun w'' hr'' => H w'' (hRt _ _ _ hr' hr'')⟩)
  ·have := ready_mono hj hji
   rw [(H w (hR w)).1] at this
   cases this
 | succ n ih =>
  intro listed a w hcl hfree hr hC hy H
  refine ⟨fun h => (by rw [h] at hr; cases hr),fun j hj => ?_⟩
  by_cases hji : j = i
  ·subst hji; exact hy.step hR hi hC (fun w' hr' => ⟨fun _ => hCR _ _ hC hr',fun w'' hr'' => H w'' (hRt _ _ _ hr' hr'')⟩)
  ·have h1 := (H w (hR w)).2 j (ready_mono hj hji)
   obtain ⟨hjun,oj,hoj,hall⟩ := mem_ready.1 hj
   have hiun : listed.getD i false = false := by
    have h0 := (mem_ready.1 hr).1
    rcases Nat.lt_or_ge i listed.size with h' | h'
    ·simp [h'] at h0 ⊢; exact h0
    ·simp [Array.getElem?_eq_none h'] at h0
   have hnot : ∀ e ∈ oj.after,Region.binds .any e = true → e.on ≠ i := fun e he hb heq => by
    have h1 := hall e he hb
    rw [heq,hiun] at h1
    cases h1
   have hsj : safe j = true := (hsafe j).resolve_right (fun hin => by
    have := anc_listed ha hcl j oj hoj hall i hin
    rw [hiun] at this
    cases this)
   have hap := hfree j oj hoj hji hjun hnot
   obtain ⟨p1,p2,p3⟩ := Oper.apart_spec hap
   have hfree' : ∀ k ok,ops[k]? = some ok → k ≠ i → (listed.setIfInBounds j true).getD k true = false →
     (∀ e ∈ ok.after,Region.binds .any e = true → e.on ≠ i) → oi.apart ops ok = true := fun k ok hk hki hun hno => by
    refine hfree k ok hk hki ?_ hno
    by_cases hjk : j = k
    ·subst hjk; exact hjun
    ·rw [getD_set_ne true hjk] at hun; exact hun
   have key : ∀ (u : Value) (w' : World),((safe j = true → C w') ∧ ∀ w'',R w' w'' → wpX P ops R C safe Q n ((listed.setIfInBounds i true).setIfInBounds j true) ((a.put oi.dst v).put oj.dst u) w'') →
     ((safe j = true → C w') ∧ ∀ w'',R w' w'' → wpX P ops R C safe Q (n + 1) (listed.setIfInBounds j true) (a.put oj.dst u) w'') := by
    intro u w' hk
    refine ⟨hk.1,fun w'' hr'' => ?_⟩
    refine ih (listed.setIfInBounds j true) (a.put oj.dst u) w'' (hcl.set hj) hfree' (ready_mono hr (Ne.symm hji)) (hCR _ _ (hk.1 hsj) hr'')
     (hy.of_same (execOp_put oi (fun cs b => hsel i oi cs b hi) a oj.dst u p3) (wanted_put oi a oj.dst u p3)) (fun w3 h3 => ?_)
    rw [Array.setIfInBounds_comm _ _ hji, ← Act.put_comm a v u p2]
    exact hk.2 w3 (hRt _ _ _ hr'' h3)
   unfold xStep at h1 ⊢
   simp only [hoj] at h1 ⊢
   rw [wanted_put oj a oi.dst v p1] at h1
   split
   ·rename_i hw
    simp only [hw,if_true] at h1
    rw [execOp_put oj (fun cs b => hsel j oj cs b hoj) a oi.dst v p1] at h1
    exact lUpon_mono key h1
   ·rename_i hw
    simp only [hw] at h1
    exact key _ _ h1
def wpQL (P : Program) (ops : Array Oper) (R : World → World → Prop) (C : World → Prop) (Q : Act → Prop) : List Nat → Act → Prop
 | [],a => Q a
 | i :: rest,a => ∀ o,ops[i]? = some o → if Region.wanted o (yielded ops a.tmps) = true then ∃ v,(∀ w,C w → qUpon P R w v ((execOp a.eval o).run P w)) ∧ wpQL P ops R C Q rest (a.put o.dst v) else wpQL P ops R C Q rest (a.put o.dst undef)
theorem yields_of_wpQL {i : Nat} {o : Oper} (ho : ops[i]? = some o) {rest : List Nat} {a : Act} {K : Act → Prop} (h : wpQL P ops R C K (i :: rest) a) : ∃ v,YieldsX P ops R C o v a ∧ wpQL P ops R C K rest (a.put o.dst v) := by
 unfold wpQL at h
 have h := h o ho
 by_cases hw : Region.wanted o (yielded ops a.tmps) = true
 ·simp only [hw,if_true] at h
  obtain ⟨v,h1,h2⟩ := h
  exact ⟨v, .inl ⟨hw,h1⟩,h2⟩
 ·simp only [hw] at h
  exact ⟨undef, .inr ⟨by simpa using hw,rfl⟩,h⟩
def qlLook (ops : Array Oper) (safe : Nat → Bool) (anc : Nat → List Nat) : List Nat → Array Bool → Bool
 | [],_ => true
 | k :: ks,listed => (Region.ready .any ops listed).contains k && Region.free .any ops listed k && (List.range ops.size).all (fun j => safe j || (anc j).contains k) && qlLook ops safe anc ks (listed.setIfInBounds k true)
def qlListed (ops : Array Oper) : List Nat → Array Bool → Array Bool
 | [],listed => listed
 | k :: ks,listed => qlListed ops ks (listed.setIfInBounds k true)
theorem wpX_ql {anc : Nat → List Nat} (ha : ancOk ops anc) (hsz : ∀ j,ops.size ≤ j → safe j = true) (hs : Region.noSelect ops = true) (hR : ∀ w,R w w) (hRt : ∀ a b c,R a b → R b c → R a c) (hCR : ∀ w w',C w → R w w' → C w') (n : Nat) :
  ∀ (l : List Nat) (listed : Array Bool) (a : Act) (w : World),Closed ops listed → qlLook ops safe anc l listed = true → C w →
   wpQL P ops R C (fun a' => ∀ w',C w' → wpX P ops R C safe Q n (qlListed ops l listed) a' w') l a → wpX P ops R C safe Q (n + l.length) listed a w
 | [],listed,a,w,_,_,hC,h => h w hC
 | k :: ks,listed,a,w,hcl,hl,hC,h => by
  simp only [qlLook,Bool.and_eq_true] at hl
  obtain ⟨⟨⟨hr,hf⟩,hsf⟩,hl'⟩ := hl
  have hr' : k ∈ Region.ready .any ops listed := by simpa using hr
  obtain ⟨_,o,ho,_⟩ := mem_ready.1 hr'
  obtain ⟨v,hy,hK⟩ := yields_of_wpQL ho h
  have hsafe : ∀ j,safe j = true ∨ k ∈ anc j := fun j => by
   rcases Nat.lt_or_ge j ops.size with hj | hj
   ·have := List.all_eq_true.1 hsf j (List.mem_range.2 hj)
    simpa using this
   ·exact .inl (hsz j hj)
  rw [List.length_cons, ← Nat.add_assoc]
  exact X_first ha hR hRt hCR ho (Region.noSelect_spec hs) hsafe (n + ks.length) listed a w hcl (Region.free_spec ho hf) hr' hC hy
   (fun w' hw' => wpX_ql ha hsz hs hR hRt hCR n ks _ _ w' (hcl.set hr') hl' (hCR _ _ hC hw') hK)
def ancTab (ops : Array Oper) (j : Nat) : List Nat := (List.range ops.size).filter fun i => ((Region.before ops).getD j 0).testBit i
def ancB (ops : Array Oper) (anc : Nat → List Nat) : Bool :=
 (List.range ops.size).all fun j => match ops[j]? with
  | some oj => (anc j).all fun i => oj.after.any fun e => Region.binds .any e && decide (e.on < j) && (e.on == i || (anc e.on).contains i)
  | none => true
theorem ancOk_of {anc : Nat → List Nat} (h : ancB ops anc = true) : ancOk ops anc := by
 intro j oj hj i hi
 have h1 := List.all_eq_true.1 h j (List.mem_range.2 (Array.getElem?_eq_some_iff.1 hj).1)
 simp only [hj] at h1
 have h2 := List.all_eq_true.1 h1 i hi
 obtain ⟨e,he,hb⟩ := Array.any_eq_true'.1 h2
 simp only [Bool.and_eq_true,decide_eq_true_eq,Bool.or_eq_true,beq_iff_eq,List.contains_iff_mem] at hb
 exact ⟨e,he,hb.1.1,hb.1.2,hb.2⟩
def qlB (ops : Array Oper) (qs ts : List Nat) (anc : Nat → List Nat) : Bool :=
 ancB ops anc && Region.noSelect ops && ts.all (fun t => decide (t < ops.size)) && qlLook ops (fun j => !ts.contains j) anc qs (Array.replicate ops.size false)
theorem wp_region_ql {id : Nat} {Q : Exit → Act → World → Prop} {a : Act} {w : World} {l : List Oper} (R : World → World → Prop) (C : World → Prop) (qs ts : List Nat) (n : Nat) (listed : Array Bool)
  (hm : P.follows .mixedOrders = true) (hB : qlB l.toArray qs ts (ancTab l.toArray) = true) (hn : n + qs.length = l.length) (hlst : qlListed l.toArray qs (Array.replicate l.length false) = listed)
  (hR : ∀ w,R w w) (hRt : ∀ a b c,R a b → R b c → R a c) (hCR : ∀ w w',C w → R w w' → C w') (hC : C w.drew)
  (h : wpQL P l.toArray R C (fun a' => ∀ w',C w' → wpX P l.toArray R C (fun j => !ts.contains j) (fun a w => Q .normal a w) n listed a' w') qs a) : (Code.region id l.toArray true).wp P Q a w := by
 subst hlst
 simp only [qlB,Bool.and_eq_true] at hB
 obtain ⟨⟨⟨h1,h2⟩,h3⟩,h4⟩ := hB
 refine wp_region_any hm ?_
 have hsz : l.toArray.size = l.length := by simp
 rw [hsz] at h4 ⊢
 have := wpX_ql (P := P) (Q := fun a w => Q .normal a w) (ancOk_of h1) (fun j hj => by
  simp only [Bool.not_eq_true',List.contains_eq_mem,decide_eq_false_iff_not]
  intro hin
  have := List.all_eq_true.1 h3 j hin
  simp at this
  omega) h2 hR hRt hCR n qs (Array.replicate l.length false) a w.drew
  (fun j oj _ hl => by
   exfalso
   rcases Nat.lt_or_ge j l.length with hj | hj
   ·simp [hj] at hl
   ·simp [hj] at hl) h4 hC h
 rw [hn] at this
 exact wpAny_of_wpX hR (fun _ _ h => h) _ _ _ _ this
def Ext (w w' : World) : Prop := Below w.heap.size w w'
theorem Ext.refl (w : World) : Ext w w := Below.refl _ _
theorem Ext.trans {a b c : World} (h : Ext a b) (k : Ext b c) : Ext a c := Below.trans h (Below.mono k (Below.size h))
theorem Ext.drew {a b : World} (h : Ext a b) : Ext a b.drew := Below.drew h
theorem Ext.alloc {a b : World} (h : Ext a b) (o : Obj) : Ext a (b.alloc o) := Below.alloc h (Below.size h) o
theorem wp_region_still {id : Nat} {Q : Exit → Act → World → Prop} {a : Act} {w : World} {l : List Oper} (qs ts : List Nat) (n : Nat) (listed : Array Bool)
  (hm : P.follows .mixedOrders = true) (hB : qlB l.toArray qs ts (ancTab l.toArray) = true) (hn : n + qs.length = l.length) (hlst : qlListed l.toArray qs (Array.replicate l.length false) = listed)
  (h : wpQL P l.toArray (fun a b => b = a) (Ext w) (fun a' => ∀ w',Ext w w' → wpX P l.toArray (fun a b => b = a) (Ext w) (fun j => !ts.contains j) (fun a w => Q .normal a w) n listed a' w') qs a) : (Code.region id l.toArray true).wp P Q a w :=
 wp_region_ql (fun a b => b = a) (Ext w) qs ts n listed hm hB hn hlst (fun _ => rfl) (fun _ _ _ h1 h2 => h2.trans h1) (fun _ _ h e => by rw [e]; exact h) (Ext.refl w).drew h
theorem wp_region_ext {id : Nat} {Q : Exit → Act → World → Prop} {a : Act} {w : World} {l : List Oper} (qs ts : List Nat) (n : Nat) (listed : Array Bool)
  (hm : P.follows .mixedOrders = true) (hB : qlB l.toArray qs ts (ancTab l.toArray) = true) (hn : n + qs.length = l.length) (hlst : qlListed l.toArray qs (Array.replicate l.length false) = listed)
  (h : wpQL P l.toArray Ext (Ext w) (fun a' => ∀ w',Ext w w' → wpX P l.toArray Ext (Ext w) (fun j => !ts.contains j) (fun a w => Q .normal a w) n listed a' w') qs a) : (Code.region id l.toArray true).wp P Q a w :=
 wp_region_ql Ext (Ext w) qs ts n listed hm hB hn hlst Ext.refl (fun _ _ _ => Ext.trans) (fun _ _ h e => h.trans e) (Ext.refl w).drew h
theorem wpQL_nil {K : Act → Prop} {a : Act} (h : K a) : wpQL P ops R C K [] a := h
def pick : List Oper → Nat → Option Oper
 | [],_ => none
 | o :: _,0 => some o
 | _ :: l,n + 1 => pick l n
theorem pick_eq : ∀ (l : List Oper) (i : Nat),pick l i = l[i]?
 | [],_ => by simp [pick]
 | _ :: _,0 => by simp [pick]
 | _ :: l,n + 1 => by simp [pick,pick_eq l n]
theorem pick_some {l : List Oper} {i : Nat} {o : Oper} (h : pick l i = some o) : l.toArray[i]? = some o := by simpa [pick_eq] using h
section
variable {l : List Oper}
theorem ql_want {K : Act → Prop} {i : Nat} {o : Oper} {rest : List Nat} {a : Act} {v : Value} (ho : pick l i = some o) (hw : Region.wanted o (yielded l.toArray a.tmps) = true)
  (h1 : ∀ w,C w → qUpon P R w v ((execOp a.eval o).run P w)) (h2 : wpQL P l.toArray R C K rest (a.put o.dst v)) : wpQL P l.toArray R C K (i :: rest) a := by
 intro o' ho'
 rw [pick_some ho] at ho'
 cases ho'
 rw [if_pos hw]
 exact ⟨v,h1,h2⟩
theorem ql_skip {K : Act → Prop} {i : Nat} {o : Oper} {rest : List Nat} {a : Act} (ho : pick l i = some o) (hw : Region.wanted o (yielded l.toArray a.tmps) = false)
  (h2 : wpQL P l.toArray R C K rest (a.put o.dst undef)) : wpQL P l.toArray R C K (i :: rest) a := by
 intro o' ho'
 rw [pick_some ho] at ho'
 cases ho'
 rw [if_neg (by rw [hw]; simp)]
 exact h2
theorem lx_one {n i : Nat} {o : Oper} {listed : Array Bool} {a : Act} {w : World} (hr : Region.ready .any l.toArray listed = [i]) (ho : pick l i = some o) (hw : Region.wanted o (yielded l.toArray a.tmps) = true) (listed' : Array Bool) (hl : listed.setIfInBounds i true = listed')
  (h : lUpon P (fun v w' => (safe i = true → C w') ∧ ∀ w'',R w' w'' → wpX P l.toArray R C safe Q n listed' (a.put o.dst v) w'') ((execOp a.eval o).run P w)) : wpX P l.toArray R C safe Q (n + 1) listed a w := by
 subst hl
 refine ⟨fun h0 => (by rw [hr] at h0; cases h0),fun j hj => ?_⟩
 rw [hr] at hj
 have hji : j = i := by simpa using hj
 subst hji
 unfold xStep
 simp only [pick_some ho,hw,if_true]
 exact h
theorem lx_two {n i k : Nat} {oi ok : Oper} {listed : Array Bool} {a : Act} {w : World} (hr : Region.ready .any l.toArray listed = [i,k])
  (hoi : pick l i = some oi) (hwi : Region.wanted oi (yielded l.toArray a.tmps) = true) (li : Array Bool) (hli : listed.setIfInBounds i true = li)
  (hok : pick l k = some ok) (hwk : Region.wanted ok (yielded l.toArray a.tmps) = true) (lk : Array Bool) (hlk : listed.setIfInBounds k true = lk)
  (h1 : lUpon P (fun v w' => (safe i = true → C w') ∧ ∀ w'',R w' w'' → wpX P l.toArray R C safe Q n li (a.put oi.dst v) w'') ((execOp a.eval oi).run P w))
  (h2 : lUpon P (fun v w' => (safe k = true → C w') ∧ ∀ w'',R w' w'' → wpX P l.toArray R C safe Q n lk (a.put ok.dst v) w'') ((execOp a.eval ok).run P w)) : wpX P l.toArray R C safe Q (n + 1) listed a w := by
 subst hli hlk
 refine ⟨fun h0 => (by rw [hr] at h0; cases h0),fun j hj => ?_⟩
 rw [hr] at hj
 have hji : j = i ∨ j = k := by simpa using hj
 rcases hji with rfl | rfl
 ·unfold xStep
  simp only [pick_some hoi,hwi,if_true]
  exact h1
 ·unfold xStep
  simp only [pick_some hok,hwk,if_true]
  exact h2
end
theorem lUpon_skip {K : Value → World → Prop} {w : World} (h : K undef w) : lUpon P K (.ok .skip w) := h
theorem wpX_done {n : Nat} {listed : Array Bool} {a : Act} {w : World} (hr : Region.ready .any ops listed = []) (h : Q a w) : wpX P ops R C safe Q n listed a w := by
 cases n with
 | zero => exact ⟨hr,h⟩
 | succ n => exact ⟨fun _ => h,fun i hi => by rw [hr] at hi; cases hi⟩
end
end Go.Proofs.YtmokciekndllpaaGreatDoor
