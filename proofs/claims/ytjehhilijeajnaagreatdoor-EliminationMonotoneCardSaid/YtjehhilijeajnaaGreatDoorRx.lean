/- REGIONS THAT DRAW THEIR ORDER, further: quiet operations in the midst of a region. Conditions: see each theorem. -/
import Derived.Test.YtjehhilijeajnaaGreatDoorReg
namespace Go.Proofs.YtjehhilijeajnaaGreatDoor
open Go Go.RowKit

section
variable {P : Program} {ops : Array Oper} {R : World → World → Prop} {C C2 : World → Prop} {safe : Nat → Bool} {Q : Act → World → Prop}

theorem wpX_sub (h : ∀ w, C2 w → C w) : ∀ (n : Nat) (listed : Array Bool) (a : Act) (w : World), wpX P ops R C2 safe Q n listed a w → wpX P ops R C safe Q n listed a w
  | 0, _, _, _, h0 => h0
  | n + 1, _, _, _, h0 => ⟨h0.1, fun i hi => xStep_mono (fun a' _ hk => ⟨fun hs => h _ (hk.1 hs), fun w'' hr => wpX_sub h n _ a' w'' (hk.2 w'' hr)⟩) (h0.2 i hi)⟩

def closedB (ops : Array Oper) (listed : Array Bool) : Bool :=
  (List.range ops.size).all fun j => match ops[j]? with
    | some oj => !listed.getD j false || oj.after.all fun e => !Region.binds .any e || listed.getD e.on false
    | none => true
theorem closed_of {listed : Array Bool} (h : closedB ops listed = true) : Closed ops listed := by
  intro j oj hj hl e he hb
  have h1 := List.all_eq_true.1 h j (List.mem_range.2 (Array.getElem?_eq_some_iff.1 hj).1)
  simp only [hj, hl, Bool.not_true, Bool.false_or] at h1
  have h2 := Array.all_eq_true'.1 h1 e he
  simpa [hb] using h2

def mqB (ops : Array Oper) (qs ts : List Nat) (anc : Nat → List Nat) (listed : Array Bool) : Bool :=
  ancB ops anc && Region.noSelect ops && ts.all (fun t => decide (t < ops.size)) && closedB ops listed && qlLook ops (fun j => !ts.contains j) anc qs listed

/-- quiet operations in the midst of a region, by a narrower class of worlds -/
theorem lx_ql {l : List Oper} {a : Act} {w : World} (C2 : World → Prop) (qs ts : List Nat) (n m : Nat) (listed listed2 : Array Bool)
    (hB : mqB l.toArray qs ts (ancTab l.toArray) listed = true) (hn : n + qs.length = m) (hlst : qlListed l.toArray qs listed = listed2) (hsub : ∀ w, C2 w → C w)
    (hR : ∀ w, R w w) (hRt : ∀ a b c, R a b → R b c → R a c) (hCR : ∀ w w', C2 w → R w w' → C2 w') (hC : C2 w)
    (h : wpQL P l.toArray R C2 (fun a' => ∀ w', C2 w' → wpX P l.toArray R C2 (fun j => !ts.contains j) Q n listed2 a' w') qs a) : wpX P l.toArray R C (fun j => !ts.contains j) Q m listed a w := by
  subst hlst hn
  simp only [mqB, Bool.and_eq_true] at hB
  obtain ⟨⟨⟨⟨h1, h2⟩, h3⟩, h5⟩, h4⟩ := hB
  refine wpX_sub hsub _ _ _ _ (wpX_ql (ancOk_of h1) (fun j hj => ?_) h2 hR hRt hCR n qs listed a w (closed_of h5) h4 hC h)
  simp only [Bool.not_eq_true', List.contains_eq_mem, decide_eq_false_iff_not]
  intro hin
  have := List.all_eq_true.1 h3 j hin
  simp at this
  simp at hj
  omega

/-- where all that is to come may leave the class, another class may take its place -/
theorem wpX_re {safe2 : Nat → Bool} : ∀ (n : Nat) (listed : Array Bool) (a : Act) (w : World), (∀ i, safe i = true → listed.getD i true = true) → wpX P ops R C2 safe2 Q n listed a w → wpX P ops R C safe Q n listed a w
  | 0, _, _, _, _, h0 => h0
  | n + 1, listed, _, _, hs, h0 => ⟨h0.1, fun i hi => xStep_mono (fun a' _ hk => ⟨fun hsi => absurd ((hs i hsi).symm.trans (mem_ready.1 hi).1) (by simp), fun w'' hr => wpX_re n _ a' w'' (fun j hj => by
        by_cases hij : i = j
        · subst hij
          rcases Nat.lt_or_ge i listed.size with h | h
          · simp [h]
          · simp [h]
        · rw [getD_set_ne true hij]; exact hs j hj) (hk.2 w'' hr)⟩) (h0.2 i hi)⟩
theorem lx_re {l : List Oper} {a : Act} {w : World} (C2 : World → Prop) (qs : List Nat) (n m : Nat) (listed listed2 : Array Bool) (hre : (listed.size == l.length && (List.range l.length).all fun i => !safe i || listed.getD i true) = true)
    (hB : mqB l.toArray qs [] (ancTab l.toArray) listed = true) (hn : n + qs.length = m) (hlst : qlListed l.toArray qs listed = listed2)
    (hR : ∀ w, R w w) (hRt : ∀ a b c, R a b → R b c → R a c) (hCR : ∀ w w', C2 w → R w w' → C2 w') (hC : C2 w)
    (h : wpQL P l.toArray R C2 (fun a' => ∀ w', C2 w' → wpX P l.toArray R C2 (fun j => !([] : List Nat).contains j) Q n listed2 a' w') qs a) : wpX P l.toArray R C safe Q m listed a w := by
  refine wpX_re (C2 := C2) (safe2 := fun j => !([] : List Nat).contains j) _ _ _ _ (fun i hi => ?_) (lx_ql C2 qs [] n m listed listed2 hB hn hlst (fun _ h => h) hR hRt hCR hC h)
  simp only [Bool.and_eq_true, beq_iff_eq] at hre
  rcases Nat.lt_or_ge i l.length with hlt | hge
  · have := List.all_eq_true.1 hre.2 i (List.mem_range.2 hlt)
    simpa [hi] using this
  · have : listed.size ≤ i := by omega
    simp [this]

/-- .. in a region whose quiet operations may make memory -/
theorem lx_ext {l : List Oper} {a : Act} {w w0 : World} (qs ts : List Nat) (n m : Nat) (listed listed2 : Array Bool)
    (hB : mqB l.toArray qs ts (ancTab l.toArray) listed = true) (hn : n + qs.length = m) (hlst : qlListed l.toArray qs listed = listed2) (hx : Ext w0 w)
    (h : wpQL P l.toArray Ext (Ext w) (fun a' => ∀ w', Ext w w' → wpX P l.toArray Ext (Ext w) (fun j => !ts.contains j) Q n listed2 a' w') qs a) : wpX P l.toArray Ext (Ext w0) (fun j => !ts.contains j) Q m listed a w :=
  lx_ql (Ext w) qs ts n m listed listed2 hB hn hlst (fun _ hw => hx.trans hw) Ext.refl (fun _ _ _ => Ext.trans) (fun _ _ h e => h.trans e) (Ext.refl w) h
/-- .. in a region whose quiet operations leave the world as it is -/
theorem lx_still {l : List Oper} {a : Act} {w w0 : World} (qs ts : List Nat) (n m : Nat) (listed listed2 : Array Bool)
    (hB : mqB l.toArray qs ts (ancTab l.toArray) listed = true) (hn : n + qs.length = m) (hlst : qlListed l.toArray qs listed = listed2) (hx : Ext w0 w)
    (h : wpQL P l.toArray (fun a b => b = a) (Ext w) (fun a' => ∀ w', Ext w w' → wpX P l.toArray (fun a b => b = a) (Ext w) (fun j => !ts.contains j) Q n listed2 a' w') qs a) : wpX P l.toArray (fun a b => b = a) (Ext w0) (fun j => !ts.contains j) Q m listed a w :=
  lx_ql (Ext w) qs ts n m listed listed2 hB hn hlst (fun _ hw => hx.trans hw) (fun _ => rfl) (fun _ _ _ h1 h2 => h2.trans h1) (fun _ _ h e => by rw [e]; exact h) (Ext.refl w) h
/-- the class may be narrowed at any place -/
theorem lx_at {w w0 : World} (hx : Ext w0 w) {n : Nat} {listed : Array Bool} {a : Act} (h : wpX P ops R (Ext w) safe Q n listed a w) : wpX P ops R (Ext w0) safe Q n listed a w :=
  wpX_sub (fun _ hw => hx.trans hw) _ _ _ _ h
end
end Go.Proofs.YtjehhilijeajnaaGreatDoor
