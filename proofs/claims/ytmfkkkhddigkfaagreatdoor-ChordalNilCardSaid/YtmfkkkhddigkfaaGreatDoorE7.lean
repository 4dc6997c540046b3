/- Parts of a proof, laid together: Fr, Is, Ln, Tz, Wo, It. Each part says its own conditions. -/
import Derived.Test.YtmfkkkhddigkfaaGreatDoorE6
import Derived.Test.YtmfkkkhddigkfaaGreatDoorE1
import Derived.Laws.Bits128
import Derived.Shelf.Spec.TrailingZeros
import Derived.Test.YtmfkkkhddigkfaaGreatDoorE5
import Derived.Shelf.RegionOpen
import Derived.WalkKit
import Derived.OwnWalkIn
import Derived.TacticsInMore
import Derived.LoopNIn
import Derived.LoopIn
/- law05.From: a reference graph made a graph; append to a slice of the call's own. Conditions: see each theorem. -/
namespace Go.Proofs.YtmfkkkhddigkfaaGreatDoor
open Go Go.RowKit

theorem insP_end {α : Type} {gt : α → Bool} {x : α} : ∀ {l : List α}, (∀ y ∈ l, gt y = false) → insP gt x l = l ++ [x]
  | [], _ => rfl
  | y :: l, h => by
    unfold insP
    rw [h y List.mem_cons_self, if_neg (by simp), insP_end (fun z hz => h z (List.mem_cons_of_mem _ hz))]
    rfl
theorem hasV_false {u : Int} {V : List (Int × Thing)} (h : ∀ p ∈ V, p.1 ≠ u) : hasV u V = false := by
  rw [hasV_look, lookM_none.2 h]; rfl
theorem hasV_true {u : Int} {V : List (Int × Thing)} {t : Thing} (h : (u, t) ∈ V) : hasV u V = true := by
  rw [hasV_look, lookM_isSome]; exact ⟨_, h, rfl⟩
theorem hasE_false {u v : Int} {E : List ((Int × Int) × Thing)} (hlo : ∀ e ∈ E, e.1.1 < e.1.2) (h : ∀ p ∈ E, p.1 ≠ (min u v, max u v)) : hasE u v E = false := by
  rw [hasE_look hlo, lookM_none.2 h]; rfl

theorem redoV : ∀ (l acc : List (Int × Thing)), (acc ++ l).Pairwise ltV → (∀ p ∈ acc ++ l, idB p.1 = true) → (∀ p ∈ acc ++ l, heavyB p.2.2 = false) → l.foldl stV (acc, []) = (acc ++ l, []) ∧ fe erV stV l (acc, []) = 0
  | [], acc, _, _, _ => by simp [fe]
  | x :: l, acc, hs, hid, hw => by
    obtain ⟨u, lab, wt⟩ := x
    have hx : ∀ y ∈ acc, y.1 < u := fun y hy => (List.pairwise_append.1 hs).2.2 y hy _ List.mem_cons_self
    have h1 := hid (u, (lab, wt)) (by simp)
    have h2 := hw (u, (lab, wt)) (by simp)
    have hno : hasV u acc = false := hasV_false fun p hp e => by have := hx p hp; omega
    have he : wrongR 0 u 0 wt acc [] = 0 := by
      simp only at h1 h2
      unfold wrongR
      rw [if_neg (by simp [w1B]), if_neg (by simp [w2B, h1, h2, pairsB]), if_neg (by simp [w3B, pairsB]), if_pos rfl, hno]
      rfl
    have hst : stV (acc, []) (u, (lab, wt)) = (acc ++ [(u, (lab, wt))], []) := by
      unfold stV nxV nxE
      simp only [he, if_true]
      refine Prod.ext ?_ rfl
      show refV 0 u lab wt acc = _
      simp only [refV, if_true]
      rw [insF_eq, insP_end (fun y hy => by have := hx y hy; unfold gtV; simp; omega)]
    have ih := redoV l (acc ++ [(u, (lab, wt))]) (by simpa using hs) (by simpa using hid) (by simpa using hw)
    have her : erV (acc, []) (u, (lab, wt)) = 0 := he
    simp only [List.foldl_cons, fe, her, hst, if_true]
    rw [ih.1, ih.2]
    simp

theorem redoE (V : List (Int × Thing)) : ∀ (l acc : List ((Int × Int) × Thing)), GInv V (acc ++ l) → l.foldl stE (V, acc) = (V, acc ++ l) ∧ fe erE stE l (V, acc) = 0
  | [], acc, _ => by simp [fe]
  | x :: l, acc, hi => by
    obtain ⟨⟨u, v⟩, lab, wt⟩ := x
    have hx : ∀ y ∈ acc, ltE y ((u, v), (lab, wt)) := fun y hy => (List.pairwise_append.1 hi.se).2.2 y hy _ List.mem_cons_self
    have hm : ((u, v), (lab, wt)) ∈ acc ++ ((u, v), (lab, wt)) :: l := by simp
    have hlt := hi.lo _ hm
    obtain ⟨⟨t, ht⟩, ⟨s, hs⟩⟩ := hi.ends _ hm
    have h2 := hi.we _ hm
    have i1 := hi.ids _ ht
    have i2 := hi.ids _ hs
    have hn := hi.ne
    simp only at hlt ht hs h2 i1 i2
    simp only [List.length_append, List.length_cons] at hn
    have e1 : min u v = u := by omega
    have e2 : max u v = v := by omega
    have hno : hasE u v acc = false := hasE_false (fun e he => hi.lo e (List.mem_append_left _ he)) fun p hp e => by
      have := hx p hp
      unfold ltE at this
      rw [e, e1, e2] at this
      simp only at this
      omega
    have he : wrongR 2 u v wt V acc = 0 := by
      unfold wrongR
      rw [if_neg (by simp [w1B]), if_neg (by simp [w2B, h2, i1, i2, pairsB]), if_neg (by simp [w3B, pairsB]; omega), if_neg (by decide), if_neg (by simp [hasV_true ht, hasV_true hs]), if_pos rfl, hno, if_neg (by simp), if_neg (by omega)]
    have hst : stE (V, acc) ((u, v), (lab, wt)) = (V, acc ++ [((u, v), (lab, wt))]) := by
      unfold stE nxV nxE
      simp only [he, if_true]
      refine Prod.ext rfl ?_
      show refE 2 u v lab wt acc = _
      simp only [refE, Int.reduceEq, if_false, if_true, e1, e2]
      rw [insF_eq, insP_end (fun y hy => by have := hx y hy; unfold ltE at this; simp only at this; unfold gtE; simp; omega)]
    have ih := redoE V l (acc ++ [((u, v), (lab, wt))]) (by simpa using hi)
    have her : erE (V, acc) ((u, v), (lab, wt)) = 0 := he
    simp only [List.foldl_cons, fe, her, hst, if_true]
    rw [ih.1, ih.2]
    simp

/-- a reference graph, built anew out of its lists, is the same -/
theorem rebuild {V : List (Int × Thing)} {E : List ((Int × Int) × Thing)} (h : GInv V E) : bErr V E = 0 ∧ bS V E = (V, E) := by
  have h1 := redoV V [] (by simpa using h.sv) (by simpa using h.ids) (by simpa using h.wv)
  have h2 := redoE V E [] (by simpa using h)
  have e1 : bS1 V = (V, []) := h1.1
  unfold bErr bS
  rw [e1, if_pos h1.2]
  exact ⟨h2.2, h2.1⟩
theorem GInv.okV {V : List (Int × Thing)} {E : List ((Int × Int) × Thing)} (h : GInv V E) : ∀ d ∈ V, okV d := fun d hd => by
  have h1 := h.ids d hd
  have h2 := h.wv d hd
  unfold idB at h1
  unfold heavyB at h2
  simp at h1 h2
  unfold Go.Proofs.YtmfkkkhddigkfaaGreatDoor.okV i64ok
  omega
theorem GInv.okE {V : List (Int × Thing)} {E : List ((Int × Int) × Thing)} (h : GInv V E) : ∀ d ∈ E, okEd d := fun d hd => by
  obtain ⟨⟨t, ht⟩, ⟨s, hs⟩⟩ := h.ends d hd
  have h1 := h.ids _ ht
  have h3 := h.ids _ hs
  have h2 := h.we d hd
  unfold idB at h1 h3
  unfold heavyB at h2
  simp at h1 h2 h3
  unfold okEd i64ok
  omega

/-- append of one element to a slice that the call has made -/
theorem wp_ap {α : Type} {enc : α → List Value} {T ST : TypeId} {k byt : Nat} (hi0 : (Tryz.prog.info? T).map (fun i => (i.zero.map (·.cells.size), i.size, i.bytes)) = some (some k, k, byt)) (hu : Tryz.prog.underlying ST = some (.slice T)) (hone : ∀ x, ∀ v ∈ enc x, v.oneCell' = true) (hlen : ∀ x, (enc x).length = k) (hk : 0 < k) (hby : byt ≤ 1000)
    {ops : Array Oper} {rest : List Oper} {o : Oper} {a : Act} {Q : Exit → Act → World → Prop} (w : World) (hgd : o.guard = none) (s x : Operand)
    (ho : o.op = .call { callee := .builtin .append, args := #[s, x], argTypes := #[ST, ST] }) (base : Nat) (v : Value) (n : Nat) (xs : List α) (e : α) (hn : xs.length = n) (g : Nat) (W : World) (hW : W = w.alloc (.cells (enc e).toArray T)) (hsg : w.heap.size = g) (hs : a.eval s = v) (hx : a.eval x = .slice (some ⟨g, 0, none⟩) 1 1)
    (hown : w.ownsRow base T k v n (xs.flatMap enc)) (hl : n ≤ 100000) (hb : base ≤ w.heap.size)
    (h : ∀ A' c' w', w'.ownsRow base T k (.slice A' (n + 1) c') (n + 1) ((xs ++ [e]).flatMap enc) → (w.alloc (.cells (enc e).toArray T)).grownBy w' v.ownBlock → wpList Tryz.prog ops Q rest (a.put o.dst (.slice A' (n + 1) c')) w') :
    wpList Tryz.prog ops Q (o :: rest) a W := by
  subst hW
  subst hn
  subst hsg
  obtain ⟨i0, hi, hi1⟩ := Option.map_eq_some_iff.1 hi0
  simp only [Prod.mk.injEq] at hi1
  obtain ⟨hz1, hz2, hz3⟩ := hi1
  obtain ⟨z0, hz, hz4⟩ := Option.map_eq_some_iff.1 hz1
  have hown' := own_ext hown ((Ext.refl w).alloc (.cells (enc e).toArray T))
  have hmul : (xs.length + 1) * byt ≤ 100001 * 1000 := Nat.mul_le_mul (by omega) hby
  refine wpList_append_own_at _ hgd s x _ ho base T i0 z0 k byt hu hi hz hz2 hz3 hz4 hk v xs.length _ hs hown' ⟨w.heap.size, 0, none⟩ 1 1 (enc e) hx (by rw [hlen]; simp) ?_ (hone e) (by unfold maxLen; omega) (by omega) (by simp; omega) ?_
  · intro j u hj
    have := (Blk.new w T (enc e).toArray).cell j
    rw [show (⟨w.heap.size, 0, none⟩ : Addr).add j = ⟨w.heap.size, j, none⟩ by simp [Addr.add]; omega, this]
    simpa using hj
  · intro v' w' h1 h2 _ _
    obtain ⟨A', c', rfl⟩ := own_slice h1
    exact h A' c' w' (by simpa using h1) h2
theorem infoGV : (Tryz.prog.info? 78).map (fun i => (i.zero.map (·.cells.size), i.size, i.bytes)) = some (some 3, 3, 24) := by kernel_rfl
theorem infoGE : (Tryz.prog.info? 80).map (fun i => (i.zero.map (·.cells.size), i.size, i.bytes)) = some (some 4, 4, 32) := by kernel_rfl
/-- what an append leaves in a loop that gathers -/
theorem app_step {α : Type} {enc : α → List Value} {wI wr w2 w' : World} {T k n : Nat} {v : Value} {xs : List α} (hx : Ext wI wr) (hown : wr.ownsRow wI.heap.size T k v n (xs.flatMap enc)) (hx2 : Ext wr w2) (hg : w2.grownBy w' v.ownBlock) : Ext wI w' :=
  (hx.trans hx2).grown hg (Nat.le_refl _) (own_ext hown hx2)

set_option maxRecDepth 100000 in
set_option maxHeartbeats 4000000 in
theorem from_any (A B : Option Addr) (V : List (Int × Thing)) (E : List ((Int × Int) × Thing)) (cA cB : Nat) (w : World) (hV : SlAt encV 3 w A V) (hE : SlAt encE 4 w B E) (hi : GInv V E) :
    Calls Tryz.prog 43 #[.agg #[.slice A V.length cA, .slice B E.length cB]] w fun e w' => ∃ g bv be, e = .returned (.pointer (some ⟨g, 0, none⟩)) ∧ IsG w' g bv be V E ∧ Ext w w' ∧ w.heap.size ≤ g ∧ w.heap.size ≤ bv ∧ w.heap.size ≤ be := by
  have hV' := hide hV
  have hE' := hide hE
  have hi' := hide hi
  have hlV := hi.nv
  have hlE := hi.ne
  clear hV hE hi
  go_enter Tryz.func43, Tryz.ntmps43
  go_wp2_with fail
  refine wp_abs (fun W => Ext w W ∧ Blk W w.heap.size 28 #[.slice A V.length cA, .slice B E.length cB]) ⟨ext_self1 _ _, Blk.new w _ _⟩ ?_
  rintro wI ⟨hxI, hbI⟩
  have q0 := hbI.cells 0 (v := .slice A V.length cA) rfl
  have q1 := hbI.cells 1 (v := .slice B E.length cB) rfl
  have hxI' := hide hxI
  clear hxI hbI
  go_loopw [3, 5] (fun l i wr => ∃ (k : Nat) (vs : Value), k ≤ V.length ∧ i = .int .i64 k ∧ vs = l ∧ wr.ownsRow wI.heap.size 78 3 vs k ((V.take k).flatMap encV) ∧ Ext wI wr) (fun _ i _ => V.length - (intOf i).toNat)
  case atStart => exact ⟨0, _, Nat.zero_le _, rfl, rfl, World.ownsRow_nil _ _ _ _, Ext.refl _⟩
  case round =>
    obtain ⟨k, vs, hk, rfl, hl3, hown, hx⟩ := hrel
    subst hl3
    have hown' := hide hown
    have hx' := hide hx
    clear hown
    by_cases hlt : k < V.length
    · obtain ⟨b, off, rfl, c0, c1, c2⟩ := atV ((unhide hV').ext ((unhide hxI').trans hx)) hlt
      have hst := List.take_succ_eq_append_getElem hlt
      generalize hy : V[k] = y at c0 c1 c2 hst
      obtain ⟨u, lab, wt⟩ := y
      have hst' := hide hst
      have hn' := hide (show k ≤ 100000 by omega)
      have hln := hide (show (V.take k).length = k by rw [List.length_take]; omega)
      clear hy hst
      simp only at c0 c1 c2
      go_wp2_with (at_builtin; refine wp_ap infoGV Tryz.underlying79 one_encV (fun _ => rfl) (by decide) (by decide) wr rfl _ _ rfl wI.heap.size vs k (V.take k) (u, (lab, wt)) (unhide hln) wr.heap.size _ (by rfl) rfl (by rfl) (by rfl) (unhide hown') (unhide hn') (Below.size (unhide hx')) ?_; intro A1 k1 w4 ho4 hg4; have hx4 := hide (app_step (unhide hx') (unhide hown') (ext_self1 _ _) hg4); have ho4' := hide ho4; clear ho4 hg4)
      go_roundw
      case rel => exact ⟨k + 1, _, by omega, by go_num, rfl, by have h := unhide ho4'; rw [unhide hst']; exact h, unhide hx4⟩
      case measure => simp [intOf]; omega
    · have hkV : k = V.length := by omega
      subst hkV
      rw [List.take_length] at hown'
      obtain ⟨A1, c1, rfl⟩ := own_slice (unhide hown')
      have hoV := hide (unhide hown')
      have hxV := hide hx
      have r1 := cell_ext (q1 wr hx)
      have r0 := q0 wr hx
      rename World => wV
      clear hown' hx' hx q0 q1
      go_wp2_with fail
      clear r0
      go_loopw [4, 6] (fun l i wr => ∃ (k : Nat) (vs : Value), k ≤ E.length ∧ i = .int .i64 k ∧ vs = l ∧ wr.ownsRow wV.heap.size 80 4 vs k ((E.take k).flatMap encE) ∧ Ext wV wr) (fun _ i _ => E.length - (intOf i).toNat)
      case atStart => exact ⟨0, _, Nat.zero_le _, rfl, rfl, World.ownsRow_nil _ _ _ _, Ext.refl _⟩
      case round =>
        obtain ⟨k, vs, hk, rfl, hl3, hown, hx⟩ := hrel
        subst hl3
        have hown' := hide hown
        have hx' := hide hx
        clear hown
        by_cases hlt : k < E.length
        · obtain ⟨b, off, rfl, c0, c1, c2, c3⟩ := atE ((unhide hE').ext (((unhide hxI').trans (unhide hxV)).trans hx)) hlt
          have hst := List.take_succ_eq_append_getElem hlt
          generalize hy : E[k] = y at c0 c1 c2 c3 hst
          obtain ⟨⟨u, v⟩, ⟨lab, wt⟩⟩ := y
          have hst' := hide hst
          have hn' := hide (show k ≤ 100000 by omega)
          have hln := hide (show (E.take k).length = k by rw [List.length_take]; omega)
          clear hy hst
          simp only at c0 c1 c2 c3
          go_wp2_with (at_builtin; refine wp_ap infoGE Tryz.underlying81 one_encE (fun _ => rfl) (by decide) (by decide) wr rfl _ _ rfl wV.heap.size vs k (E.take k) ((u, v), (lab, wt)) (unhide hln) wr.heap.size _ (by rfl) rfl (by rfl) (by rfl) (unhide hown') (unhide hn') (Below.size (unhide hx')) ?_; intro A1 k1 w4 ho4 hg4; have hx4 := hide (app_step (unhide hx') (unhide hown') (ext_self1 _ _) hg4); have ho4' := hide ho4; clear ho4 hg4)
          go_roundw
          case rel => exact ⟨k + 1, _, by omega, by go_num, rfl, by have h := unhide ho4'; rw [unhide hst']; exact h, unhide hx4⟩
          case measure => simp [intOf]; omega
        · have hkE : k = E.length := by omega
          subst hkE
          rw [List.take_length] at hown'
          obtain ⟨A2, c2, rfl⟩ := own_slice (unhide hown')
          have hinv := unhide hi'
          have hreb := rebuild hinv
          have hxIr := hide (((unhide hxI').trans (unhide hxV)).trans hx)
          have hsV := hide ((own_at (unhide hoV) (fun _ => rfl)).ext hx)
          have hsE := hide (own_at (unhide hown') (fun _ => rfl))
          have hoV' := hide hinv.okV
          have hoE' := hide hinv.okE
          have hr' := hide hreb
          have r1' := r1 wr hx
          clear hinv hreb hx hx' hown' hoV hxV r1
          go_wp2_with fail
          refine (build_any A1 A2 V E c1 c2 _ (unhide hsV) (unhide hsE) (unhide hoV') (unhide hoE') (by omega) (by omega)).mono ?_
          rintro e w5 (⟨-, g, bv, be, rfl, hg, hx5, n1, n2, n3⟩ | ⟨hbad, _⟩)
          · rw [(unhide hr').2] at hg
            have hg' := hide hg
            have hx5' := hide hx5
            have hn' := hide (And.intro n1 (And.intro n2 n3))
            clear hg hx5 n1 n2 n3
            go_wp2_with fail
            go_ret
            obtain ⟨n1, n2, n3⟩ := unhide hn'
            have hsz := Below.size (unhide hxIr)
            exact ⟨g, bv, be, rfl, unhide hg', (unhide hxIr).trans (unhide hx5'), by omega, by omega, by omega⟩
          · exact absurd (unhide hr').1 hbad
end Go.Proofs.YtmfkkkhddigkfaaGreatDoor
/- SLICES OF INTS IN MEMORY: read, appended to, two of them side by side. Conditions: see each theorem. -/
namespace Go.Proofs.YtmfkkkhddigkfaaGreatDoor
open Go Go.RowKit

def encI (n : Int) : List Value := [.int .i64 n]
theorem encI0 (x : Int) : ∃ u : Value, (encI x)[0]? = some u := ⟨_, rfl⟩
theorem encI_nu (x : Int) (m : Int) : (encI x)[0]? ≠ some (.int .u64 m) := by simp [encI]
theorem one_encI (x : Int) : ∀ v ∈ encI x, v.oneCell' = true := by
  intro v hv
  simp [encI] at hv
  subst hv
  rfl
theorem atI {w : World} {A : Option Addr} {L : List Int} (h : SlAt encI 1 w A L) {i : Nat} (hi : i < L.length) : ∃ b off, A = some ⟨b, off, none⟩ ∧ (∀ W, Ext w W → W.cell? ⟨b, off + i, none⟩ = some (.int .i64 L[i])) := by
  obtain ⟨b, off, hA, hc⟩ := h.at_ hi
  refine ⟨b, off, hA, ?_⟩
  have := hc 0 _ rfl
  simpa using this
theorem infoI : (Tryz.prog.info? 3).map (fun i => (i.zero.map (·.cells.size), i.size, i.bytes)) = some (some 1, 1, 8) := by kernel_rfl
/-- two slices of one's own that share no block -/
def apart2 (v1 v2 : Value) : Prop := ∀ g, v1.ownBlock = some g → v2.ownBlock ≠ some g
theorem apart2.symm {v1 v2 : Value} (h : apart2 v1 v2) : apart2 v2 v1 := fun g h1 h2 => h g h2 h1
theorem apart2_nil (A n c) : apart2 (.slice none 0 0) (.slice A n c) := fun g h => by cases h
/-- an append to one's own slice: it stays where it was or lies in new memory -/
theorem wp_ap2 {α : Type} {enc : α → List Value} {T ST : TypeId} {k byt : Nat} (hi0 : (Tryz.prog.info? T).map (fun i => (i.zero.map (·.cells.size), i.size, i.bytes)) = some (some k, k, byt)) (hu : Tryz.prog.underlying ST = some (.slice T)) (hone : ∀ x, ∀ v ∈ enc x, v.oneCell' = true) (hlen : ∀ x, (enc x).length = k) (hk : 0 < k) (hby : byt ≤ 1000)
    {ops : Array Oper} {rest : List Oper} {o : Oper} {a : Act} {Q : Exit → Act → World → Prop} (w : World) (hgd : o.guard = none) (s x : Operand)
    (ho : o.op = .call { callee := .builtin .append, args := #[s, x], argTypes := #[ST, ST] }) (base : Nat) (v : Value) (n : Nat) (xs : List α) (e : α) (hn : xs.length = n) (g : Nat) (W : World) (hW : W = w.alloc (.cells (enc e).toArray T)) (hsg : w.heap.size = g) (hs : a.eval s = v) (hx : a.eval x = .slice (some ⟨g, 0, none⟩) 1 1)
    (hown : w.ownsRow base T k v n (xs.flatMap enc)) (hl : n ≤ 100000) (hb : base ≤ w.heap.size)
    (h : ∀ A' c' w', w'.ownsRow base T k (.slice A' (n + 1) c') (n + 1) ((xs ++ [e]).flatMap enc) → (w.alloc (.cells (enc e).toArray T)).grownBy w' v.ownBlock → (Value.ownBlock (.slice A' (n + 1) c') = v.ownBlock ∨ Value.ownBlock (.slice A' (n + 1) c') = some (w.heap.size + 1)) → wpList Tryz.prog ops Q rest (a.put o.dst (.slice A' (n + 1) c')) w') :
    wpList Tryz.prog ops Q (o :: rest) a W := by
  subst hW
  subst hn
  subst hsg
  obtain ⟨i0, hi, hi1⟩ := Option.map_eq_some_iff.1 hi0
  simp only [Prod.mk.injEq] at hi1
  obtain ⟨hz1, hz2, hz3⟩ := hi1
  obtain ⟨z0, hz, hz4⟩ := Option.map_eq_some_iff.1 hz1
  have hown' := own_ext hown ((Ext.refl w).alloc (.cells (enc e).toArray T))
  have hmul : (xs.length + 1) * byt ≤ 100001 * 1000 := Nat.mul_le_mul (by omega) hby
  refine wpList_append_own_at _ hgd s x _ ho base T i0 z0 k byt hu hi hz hz2 hz3 hz4 hk v xs.length _ hs hown' ⟨w.heap.size, 0, none⟩ 1 1 (enc e) hx (by rw [hlen]; simp) ?_ (hone e) (by unfold maxLen; omega) (by omega) (by simp; omega) ?_
  · intro j u hj
    have := (Blk.new w T (enc e).toArray).cell j
    rw [show (⟨w.heap.size, 0, none⟩ : Addr).add j = ⟨w.heap.size, j, none⟩ by simp [Addr.add]; omega, this]
    simpa using hj
  · intro v' w' h1 h2 _ h4
    obtain ⟨A', c', rfl⟩ := own_slice h1
    exact h A' c' w' (by simpa using h1) h2 (by simpa using h4)
/-- what an append to the one does to the other -/
theorem rows2 {wr w2 w' : World} {b1 b2 T1 T2 k1 k2 n1 n2 : Nat} {v1 v1' v2 : Value} {xs1 xs2 : List Value} {o : Obj} (h2 : wr.ownsRow b2 T2 k2 v2 n2 xs2) (ha : apart2 v1 v2) (hx : Ext wr w2) (hg : (w2.alloc o).grownBy w' v1.ownBlock) (hv : v1'.ownBlock = v1.ownBlock ∨ v1'.ownBlock = some (w2.heap.size + 1))
    (_h1 : wr.ownsRow b1 T1 k1 v1 n1 xs1) : w'.ownsRow b2 T2 k2 v2 n2 xs2 ∧ apart2 v1' v2 := by
  have h22 := own_ext h2 (hx.trans (ext_self1 _ o))
  have hk : Keep v1.ownBlock.toList (w2.alloc o) w' := ⟨hg.os, hg.tape, hg.output, hg.size, fun i hi hne => hg.block i hi (by
    intro e
    rw [← e] at hne
    simp at hne)⟩
  refine ⟨own_keep h22 hk fun g hgm e => ?_, fun g h1 e => ?_⟩
  · exact ha g (by simpa using hgm) e
  · rcases hv with hv | hv
    · exact ha g (hv ▸ h1) e
    · rw [hv] at h1
      injection h1 with h1
      have := (own_base h2 e).2.1
      have hs := Below.size hx
      omega
theorem app_step2 {α : Type} {enc : α → List Value} {wI wr w2 w' : World} {base T k n : Nat} {v : Value} {xs : List α} (hx : Ext wI wr) (hown : wr.ownsRow base T k v n (xs.flatMap enc)) (hx2 : Ext wr w2) (hg : w2.grownBy w' v.ownBlock) (hb : wI.heap.size ≤ base) : Ext wI w' :=
  (hx.trans hx2).grown hg hb (own_ext hown hx2)
theorem own_base_le {w : World} {b b' T k n : Nat} {v : Value} {xs : List Value} (h : w.ownsRow b T k v n xs) (hb : b' ≤ b) : w.ownsRow b' T k v n xs :=
  ⟨h.1, h.2.imp id fun ⟨g, cap, cur, e, hg, r⟩ => ⟨g, cap, cur, e, Nat.le_trans hb hg, r⟩⟩
end Go.Proofs.YtmfkkkhddigkfaaGreatDoor
/- bits.OnesCount64 and Set.Len: how many elements a set has. Conditions: see each theorem. -/
namespace Go.Proofs.YtmfkkkhddigkfaaGreatDoor
open Go Go.RowKit

theorem wrapu (n : Nat) (h : n < 18446744073709551616) : IntKind.u64.wrap (n : Int) = (n : Int) := by
  rw [IntKind.wrap_u64]
  omega
theorem andu (a b : Nat) (ha : a < 18446744073709551616) (hb : b < 18446744073709551616) : bits .and .u64 (a : Int) (b : Int) = ((a &&& b : Nat) : Int) := u64_and_nat _ _ ha hb
theorem k_half (M a d : Nat) (M' d' : Int) (eM : (M : Int) = M') (ed : (d : Int) = d') (hM : M < 18446744073709551616) (ha : a < 18446744073709551616) (hs : ((a / d) &&& M) + (a &&& M) < 18446744073709551616) :
    IntKind.u64.wrap (bits .and .u64 ((a : Int) / d') M' + bits .and .u64 (a : Int) M') = ((((a / d) &&& M) + (a &&& M) : Nat) : Int) := by
  subst eM
  subst ed
  have h1 : ((a : Int) / (d : Int)) = ((a / d : Nat) : Int) := by simp
  rw [h1, andu _ _ (Nat.lt_of_le_of_lt (Nat.div_le_self _ _) ha) hM, andu _ _ ha hM, ← Int.natCast_add, wrapu _ hs]
theorem k_sum (a d : Nat) (d' : Int) (ed : (d : Int) = d') (hs : a + a / d < 18446744073709551616) : IntKind.u64.wrap ((a : Int) + (a : Int) / d') = ((a + a / d : Nat) : Int) := by
  subst ed
  have h1 : ((a : Int) / (d : Int)) = ((a / d : Nat) : Int) := by simp
  rw [h1, ← Int.natCast_add, wrapu _ hs]
theorem k_nib (M a : Nat) (M' : Int) (eM : (M : Int) = M') (hM : M < 18446744073709551616) (hs : a / 16 + a < 18446744073709551616) : bits .and .u64 (IntKind.u64.wrap ((a : Int) / 16 + (a : Int))) M' = ((F3 M a : Nat) : Int) := by
  subst eM
  have h1 : ((a : Int) / 16) = ((a / 16 : Nat) : Int) := by simp
  rw [h1, ← Int.natCast_add, wrapu _ hs, andu _ _ hs hM]
  rfl

theorem fin_ones (t c : Nat) (_h7 : t < 18446744073709551616) (h8 : t % 128 = c) : bits .and .i64 (wrap64 (t : Int)) 127 = (c : Int) := by
  rw [i64_and127, ← h8]
  unfold wrap64
  omega
set_option maxRecDepth 100000 in
theorem ones_any (x : Nat) (hx : x < 18446744073709551616) (w : World) : Calls Tryz.prog 89 #[.int .u64 x] w fun e w' => e = .returned (.int .i64 (cntF x 64)) ∧ w = w' := by
  obtain ⟨s1, s2, s3, z, hz, s4, s5, s6, s7, s8⟩ := ones_steps x hx
  have k1 := k_half 6148914691236517205 x 2 6148914691236517205 2 rfl rfl (by decide) hx s1
  have k2 := k_half 3689348814741910323 (F1 6148914691236517205 x) 4 3689348814741910323 4 rfl rfl (by decide) s1 s2
  have k3 := k_nib 1085102592571150095 (F2 3689348814741910323 (F1 6148914691236517205 x)) 1085102592571150095 rfl (by decide) s3
  rw [hz] at k3
  have k4 := k_sum z 256 256 rfl s5
  have k5 := k_sum (z + z / 256) 65536 65536 rfl s6
  have k6 := k_sum ((z + z / 256) + (z + z / 256) / 65536) 4294967296 4294967296 rfl s7
  have e1 : ((x / 2 &&& 6148914691236517205) + (x &&& 6148914691236517205)) = F1 6148914691236517205 x := rfl
  have e2 : ((F1 6148914691236517205 x / 4 &&& 3689348814741910323) + (F1 6148914691236517205 x &&& 3689348814741910323)) = F2 3689348814741910323 (F1 6148914691236517205 x) := rfl
  rw [e1] at k1
  rw [e2] at k2
  generalize F2 3689348814741910323 (F1 6148914691236517205 x) = b at *
  generalize F1 6148914691236517205 x = a at *
  generalize ht : ((z + z / 256) + (z + z / 256) / 65536) + ((z + z / 256) + (z + z / 256) / 65536) / 4294967296 = t at *
  generalize hs : (z + z / 256) + (z + z / 256) / 65536 = s at *
  generalize hr : z + z / 256 = r at *
  have s8' := hide s8
  have s7' := hide s7
  clear s1 s2 s3 s4 s5 s6 s7 s8 hz e1 e2 ht hs hr
  go_enter Tryz.func89, Tryz.ntmps89
  go_wp2
  go_ret
  exact ⟨ret_int (fin_ones t _ (unhide s7') (unhide s8')), rfl⟩

theorem ones_wd (N k : Nat) (w : World) : Calls Tryz.prog 89 #[.int .u64 (wd N k)] w fun e w' => e = .returned (.int .i64 (cntF (wdN N k) 64)) ∧ w = w' := ones_any (wdN N k) (wdN_lt N k) w
theorem idxS0 (N : Nat) (w : World) : (Instr.index 51 (.agg (setC N)) (.int .i64 0)).run Tryz.prog w = .ok (.int .u64 (wd N 0)) w := by kernel_rfl
theorem idxS1 (N : Nat) (w : World) : (Instr.index 51 (.agg (setC N)) (.int .i64 1)).run Tryz.prog w = .ok (.int .u64 (wd N 1)) w := by kernel_rfl
theorem idxS2 (N : Nat) (w : World) : (Instr.index 51 (.agg (setC N)) (.int .i64 2)).run Tryz.prog w = .ok (.int .u64 (wd N 2)) w := by kernel_rfl
theorem idxS3 (N : Nat) (w : World) : (Instr.index 51 (.agg (setC N)) (.int .i64 3)).run Tryz.prog w = .ok (.int .u64 (wd N 3)) w := by kernel_rfl
theorem idxS4 (N : Nat) (w : World) : (Instr.index 51 (.agg (setC N)) (.int .i64 4)).run Tryz.prog w = .ok (.int .u64 (wd N 4)) w := by kernel_rfl
theorem idxS5 (N : Nat) (w : World) : (Instr.index 51 (.agg (setC N)) (.int .i64 5)).run Tryz.prog w = .ok (.int .u64 (wd N 5)) w := by kernel_rfl
theorem idxS6 (N : Nat) (w : World) : (Instr.index 51 (.agg (setC N)) (.int .i64 6)).run Tryz.prog w = .ok (.int .u64 (wd N 6)) w := by kernel_rfl
theorem idxS7 (N : Nat) (w : World) : (Instr.index 51 (.agg (setC N)) (.int .i64 7)).run Tryz.prog w = .ok (.int .u64 (wd N 7)) w := by kernel_rfl
theorem idxS8 (N : Nat) (w : World) : (Instr.index 51 (.agg (setC N)) (.int .i64 8)).run Tryz.prog w = .ok (.int .u64 (wd N 8)) w := by kernel_rfl
theorem idxS9 (N : Nat) (w : World) : (Instr.index 51 (.agg (setC N)) (.int .i64 9)).run Tryz.prog w = .ok (.int .u64 (wd N 9)) w := by kernel_rfl
theorem idxS10 (N : Nat) (w : World) : (Instr.index 51 (.agg (setC N)) (.int .i64 10)).run Tryz.prog w = .ok (.int .u64 (wd N 10)) w := by kernel_rfl
theorem idxS11 (N : Nat) (w : World) : (Instr.index 51 (.agg (setC N)) (.int .i64 11)).run Tryz.prog w = .ok (.int .u64 (wd N 11)) w := by kernel_rfl
theorem idxS12 (N : Nat) (w : World) : (Instr.index 51 (.agg (setC N)) (.int .i64 12)).run Tryz.prog w = .ok (.int .u64 (wd N 12)) w := by kernel_rfl
theorem idxS13 (N : Nat) (w : World) : (Instr.index 51 (.agg (setC N)) (.int .i64 13)).run Tryz.prog w = .ok (.int .u64 (wd N 13)) w := by kernel_rfl
theorem idxS14 (N : Nat) (w : World) : (Instr.index 51 (.agg (setC N)) (.int .i64 14)).run Tryz.prog w = .ok (.int .u64 (wd N 14)) w := by kernel_rfl
theorem idxS15 (N : Nat) (w : World) : (Instr.index 51 (.agg (setC N)) (.int .i64 15)).run Tryz.prog w = .ok (.int .u64 (wd N 15)) w := by kernel_rfl
/-- an element of the array, by its place -/
theorem idx_Set (N i : Nat) (hi : i < 16) (w : World) : (Instr.index 51 (.agg (setC N)) (.int .i64 i)).run Tryz.prog w = .ok (.int .u64 (wd N i)) w := by
  have : i = 0 ∨ i = 1 ∨ i = 2 ∨ i = 3 ∨ i = 4 ∨ i = 5 ∨ i = 6 ∨ i = 7 ∨ i = 8 ∨ i = 9 ∨ i = 10 ∨ i = 11 ∨ i = 12 ∨ i = 13 ∨ i = 14 ∨ i = 15 := by omega
  rcases this with rfl | rfl | rfl | rfl | rfl | rfl | rfl | rfl | rfl | rfl | rfl | rfl | rfl | rfl | rfl | rfl
  · exact idxS0 N w
  · exact idxS1 N w
  · exact idxS2 N w
  · exact idxS3 N w
  · exact idxS4 N w
  · exact idxS5 N w
  · exact idxS6 N w
  · exact idxS7 N w
  · exact idxS8 N w
  · exact idxS9 N w
  · exact idxS10 N w
  · exact idxS11 N w
  · exact idxS12 N w
  · exact idxS13 N w
  · exact idxS14 N w
  · exact idxS15 N w


set_option maxRecDepth 100000 in
set_option maxHeartbeats 1000000 in
theorem slen_any (N : Nat) (w : World) : Calls Tryz.prog 67 #[.agg (setC N)] w fun e w' => e = .returned (.int .i64 (cntF N 1024)) ∧ Ext w w' := by
  have hB := Blk.new w 51 (setC N)
  have hx0 := hide (ext_self1 w (.cells (setC N) 51))
  generalize hw1 : w.alloc (.cells (setC N) 51) = w1 at *
  have hself := Ext.refl w1
  have hidx := idx_Set N
  have e0 := hB.cells 0 (v := .int .u64 (wd N 0)) rfl
  have e1 := hB.cells 1 (v := .int .u64 (wd N 1)) rfl
  have e2 := hB.cells 2 (v := .int .u64 (wd N 2)) rfl
  have e3 := hB.cells 3 (v := .int .u64 (wd N 3)) rfl
  have e4 := hB.cells 4 (v := .int .u64 (wd N 4)) rfl
  have e5 := hB.cells 5 (v := .int .u64 (wd N 5)) rfl
  have e6 := hB.cells 6 (v := .int .u64 (wd N 6)) rfl
  have e7 := hB.cells 7 (v := .int .u64 (wd N 7)) rfl
  have e8 := hB.cells 8 (v := .int .u64 (wd N 8)) rfl
  have e9 := hB.cells 9 (v := .int .u64 (wd N 9)) rfl
  have e10 := hB.cells 10 (v := .int .u64 (wd N 10)) rfl
  have e11 := hB.cells 11 (v := .int .u64 (wd N 11)) rfl
  have e12 := hB.cells 12 (v := .int .u64 (wd N 12)) rfl
  have e13 := hB.cells 13 (v := .int .u64 (wd N 13)) rfl
  have e14 := hB.cells 14 (v := .int .u64 (wd N 14)) rfl
  have e15 := hB.cells 15 (v := .int .u64 (wd N 15)) rfl
  clear hB
  subst hw1
  go_enter Tryz.func67, Tryz.ntmps67
  go_wp2_with fail
  go_loop [3, 7] (fun n i => ∃ k : Nat, k ≤ 16 ∧ i = .int .i64 k ∧ n = .int .i64 (cntF N (64 * k))) (fun _ i => 16 - (intOf i).toNat)
  case atStart => exact ⟨0, by omega, rfl, rfl⟩
  case round =>
    obtain ⟨k, hk, rfl, rfl⟩ := hrel
    by_cases hlt : k < 16
    · have hix := idx_Set N k hlt
      unfold setC at hix
      have hc := hide (cnt_words N k)
      have hle := cntF_le N (64 * k)
      have hle2 := cntF_le (wdN N k) 64
      go_wp2_with ((with_reducible refine (ones_wd N k _).mono ?_); rintro e w' ⟨rfl, rfl⟩)
      go_round
      case rel => exact ⟨k + 1, by omega, by go_num, by rw [unhide hc]; go_num⟩
      case measure => simp [intOf]; omega
    · have : k = 16 := by omega
      subst this
      go_wp2_with fail
      go_ret
      exact ⟨rfl, unhide hx0⟩
end Go.Proofs.YtmfkkkhddigkfaaGreatDoor
/- bits.TrailingZeros64, Set.Min, under the library's table as it is laid. Conditions: see each theorem. -/
namespace Go.Proofs.YtmfkkkhddigkfaaGreatDoor
open Go Go.RowKit
attribute [local go_sem] qUpon lUpon

/-- the library's table, as its initialiser lays it -/
def Tab (w : World) : Prop := TabAt 0 Lib.deBruijn64tab w
theorem Tab.lt {w : World} (h : Tab w) : 0 < w.heap.size := World.block_lt_of_cell? w _ (h 0 (by decide))
theorem Tab.keep {w w' : World} {S : List Nat} (h : Tab w) (k : Keep S w w') (hS : 0 ∉ S) : Tab w' := fun j hj => by
  rw [World.cell?_of_block (k.block _ h.lt hS)]
  exact h j hj
theorem Tab.ext {w w' : World} (h : Tab w) (k : Ext w w') : Tab w' := h.keep (k.keep []) (by simp)

set_option maxHeartbeats 1000000 in
theorem tz_core (x k idx : Nat) (w : World) (hx0 : ((x : Int) == 0) = false)
    (key : IntKind.u64.wrap (bits BinOp.and IntKind.u64 (x : Int) (IntKind.u64.wrap (-(x : Int))) * 285870213051353865) / 288230376151711744 = (idx : Int))
    (hi : idx < 64) (hk : k < 64) (hcell : w.cell? ⟨0, idx, none⟩ = some (.int .u8 k)) :
    Calls Tryz.prog 102 #[.int .u64 (x : Int)] w fun e w' => e = .returned (.int .i64 k) ∧ w' = w := by
  go_enter Tryz.func102, Tryz.ntmps102
  go_wp2_with (simp only [key])
  go_ret
  exact ⟨rfl, rfl⟩
theorem tz_any (x : Nat) (hx0 : x ≠ 0) (hx : x < 18446744073709551616) (w : World) (hT : Tab w) :
    Calls Tryz.prog 102 #[.int .u64 (x : Int)] w fun e w' => e = .returned (.int .i64 (Lib.ctz 64 x)) ∧ w' = w := by
  obtain ⟨hlow, hk⟩ := Lib.lowest_bit 64 x hx0 hx
  obtain ⟨hi, htab⟩ := Lib.deBruijn64_at _ hk
  have hcell := hT _ hi
  rw [htab] at hcell
  exact tz_core x _ _ w (by simp; omega) (tz64_key x _ hx hx0 hlow) hi hk hcell
theorem tz_wd (N k : Nat) (h0 : wdN N k ≠ 0) (w : World) (hT : Tab w) :
    Calls Tryz.prog 102 #[.int .u64 (wd N k)] w fun e w' => e = .returned (.int .i64 (Lib.ctz 64 (wdN N k))) ∧ w' = w := tz_any (wdN N k) h0 (wdN_lt N k) w hT

set_option maxRecDepth 100000 in
set_option maxHeartbeats 1000000 in
theorem min_any (N : Nat) (w : World) (hT : Tab w) : Calls Tryz.prog 79 #[.agg (setC N)] w fun e w' => e = .returned (.tuple #[.int .i64 (minV N), .bool (anyB N)]) ∧ Ext w w' := by
  have hT' := hide (hT.ext (ext_self1 w (.cells (setC N) 51)))
  have hB := Blk.new w 51 (setC N)
  have hx0 := hide (ext_self1 w (.cells (setC N) 51))
  generalize hw1 : w.alloc (.cells (setC N) 51) = w1 at *
  have hself := Ext.refl w1
  have e0 := hB.cells 0 (v := .int .u64 (wd N 0)) rfl
  have e1 := hB.cells 1 (v := .int .u64 (wd N 1)) rfl
  have e2 := hB.cells 2 (v := .int .u64 (wd N 2)) rfl
  have e3 := hB.cells 3 (v := .int .u64 (wd N 3)) rfl
  have e4 := hB.cells 4 (v := .int .u64 (wd N 4)) rfl
  have e5 := hB.cells 5 (v := .int .u64 (wd N 5)) rfl
  have e6 := hB.cells 6 (v := .int .u64 (wd N 6)) rfl
  have e7 := hB.cells 7 (v := .int .u64 (wd N 7)) rfl
  have e8 := hB.cells 8 (v := .int .u64 (wd N 8)) rfl
  have e9 := hB.cells 9 (v := .int .u64 (wd N 9)) rfl
  have e10 := hB.cells 10 (v := .int .u64 (wd N 10)) rfl
  have e11 := hB.cells 11 (v := .int .u64 (wd N 11)) rfl
  have e12 := hB.cells 12 (v := .int .u64 (wd N 12)) rfl
  have e13 := hB.cells 13 (v := .int .u64 (wd N 13)) rfl
  have e14 := hB.cells 14 (v := .int .u64 (wd N 14)) rfl
  have e15 := hB.cells 15 (v := .int .u64 (wd N 15)) rfl
  clear hB hT
  subst hw1
  go_enter Tryz.func79, Tryz.ntmps79
  go_wp2_with fail
  go_loop [7] (fun i => ∃ k : Nat, k ≤ 16 ∧ i = .int .i64 k ∧ zeroTo N k) (fun i => 16 - (intOf i).toNat)
  case atStart => exact ⟨0, by omega, rfl, fun j hj => by omega⟩
  case round =>
    obtain ⟨k, hk, rfl, hz⟩ := hrel
    by_cases hlt : k < 16
    · have hix := idx_Set N k hlt
      unfold setC at hix
      by_cases hw : wdN N k = 0
      · have hwd : wd N k = 0 := by unfold wd; rw [hw]; rfl
        have hn := hide (zeroTo_next hz hw)
        clear hw hz
        go_wp2_with fail
        go_round
        case rel => exact ⟨k + 1, by omega, by go_num, unhide hn⟩
        case measure => simp [intOf]; omega
      · have hwd : (wd N k == 0) = false := by unfold wd; simp; omega
        have hl := hide (toL_word hlt hz hw)
        have hw' := hide hw
        obtain ⟨h64, _, _⟩ := ctz_bit hw (wdN_lt N k)
        clear hw hz
        go_wp2_with fail
        refine (tz_wd N k (unhide hw') _ (unhide hT')).mono ?_
        rintro e w' ⟨rfl, rfl⟩
        have e1 := unhide hl
        generalize Lib.ctz 64 (wdN N k) = c at *
        have s1 : IntKind.i64.wrap (64 * (k : Int)) = 64 * (k : Int) := IntWalk.i64_in _ (by omega)
        have s2 : IntKind.i64.wrap (64 * (k : Int) + (c : Int)) = ((64 * k + c : Nat) : Int) := by rw [IntWalk.i64_in _ (by omega)]; omega
        have e2 := hide e1
        clear e1 hl
        go_wp2_with fail
        go_ret2
        rw [(min_cons (unhide e2)).1, (min_cons (unhide e2)).2]
        exact ⟨rfl, unhide hx0⟩
    · have : k = 16 := by omega
      subst this
      have hl := hide (toL_zero hz)
      clear hz
      go_wp2_with fail
      go_ret2
      rw [(min_nil (unhide hl)).1, (min_nil (unhide hl)).2]
      exact ⟨rfl, unhide hx0⟩
end Go.Proofs.YtmfkkkhddigkfaaGreatDoor
/- THE SETS OF package bitset: Without. Conditions: see each theorem. -/
namespace Go.Proofs.YtmfkkkhddigkfaaGreatDoor
open Go Go.RowKit
attribute [local go_sem] qUpon lUpon

def withoutS (N : Nat) (n : Int) : Nat := if fitB n = true then minusS N (2 ^ n.toNat) else N
theorem setC_without (N k : Nat) : (setC N).setIfInBounds (k / 64) (.int .u64 (bits .andNot .u64 (wd N (k / 64)) (bitW k))) = setC (minusS N (2 ^ k)) := by
  have e1 : bitW k = wd (2 ^ k) (k / 64) := by
    unfold bitW wd
    rw [wdN_one, if_pos rfl]
  rw [e1, wd_minus]
  apply Array.ext_getElem?
  intro i
  by_cases hi : i < 16
  · rw [setC_get _ hi]
    by_cases he : k / 64 = i
    · subst he
      rw [Array.getElem?_setIfInBounds_self_of_lt (by rw [setC_size]; omega)]
    · rw [Array.getElem?_setIfInBounds_ne he, setC_get _ hi]
      unfold wd
      rw [wdN_minus, wdN_one, if_neg (Ne.symm he), Nat.sub_zero, show (18446744073709551615 : Nat) = 2 ^ 64 - 1 from rfl, Nat.and_two_pow_sub_one_of_lt_two_pow (wdN_lt N i)]
  · have h1 : ∀ a : Array Value, a.size = 16 → a[i]? = none := fun a h => Array.getElem?_eq_none (by omega)
    rw [h1 _ (by simp [setC_size]), h1 _ (setC_size _)]

set_option maxRecDepth 100000 in
set_option maxHeartbeats 4000000 in
theorem without_S (N : Nat) (n : Int) (w : World) :
    Calls Tryz.prog 48 #[.agg (setC N), .int .i64 n] w fun e w' => e = .returned (.agg (setC (withoutS N n))) ∧ Ext w w' := by
  have hB0 := Blk.new w 51 (setC N)
  by_cases hf : fitB n = true
  · obtain ⟨k, rfl⟩ : ∃ k : Nat, n = k := ⟨n.toNat, by simp [fitB] at hf; omega⟩
    have hk : k < 1024 := by simp [fitB] at hf; omega
    obtain ⟨h1, hw, h6, h7, h8⟩ := idx_facts hk
    have h5 : fitB (k : Int) = true := hf
    have hN : withoutS N (k : Int) = minusS N (2 ^ k) := by rw [withoutS, if_pos h5, Int.toNat_natCast]
    have hN' := hide hN
    have hB0' := hide hB0
    clear hf hB0 hN
    go_enter Tryz.func48, Tryz.ntmps48
    go_wp2_with fail
    have hx1 := hide ((ext_self1 w (.cells (setC N) 51)).trans (ext_self1 _ (.cells (setC 0) 51)))
    have hB2 := hide ((unhide hB0').ext (ext_self1 (w.alloc (.cells (setC N) 51)) (.cells (setC 0) 51)))
    have hB4 := hide (Blk.new (w.alloc (.cells (setC N) 51)) 51 (setC 0))
    have hs : (w.alloc (.cells (setC N) 51)).heap.size = w.heap.size + 1 := World.size_alloc _ _
    rw [hs] at hB4
    clear hs hB0'
    have hz : setC 0 = #[.int .u64 0, .int .u64 0, .int .u64 0, .int .u64 0, .int .u64 0, .int .u64 0, .int .u64 0, .int .u64 0, .int .u64 0, .int .u64 0, .int .u64 0, .int .u64 0, .int .u64 0, .int .u64 0, .int .u64 0, .int .u64 0] := rfl
    rw [hz] at hx1 hB2 hB4
    generalize (w.alloc (.cells (setC N) 51)).alloc (.cells #[.int .u64 0, .int .u64 0, .int .u64 0, .int .u64 0, .int .u64 0, .int .u64 0, .int .u64 0, .int .u64 0, .int .u64 0, .int .u64 0, .int .u64 0, .int .u64 0, .int .u64 0, .int .u64 0, .int .u64 0, .int .u64 0] 51) = W1 at *
    rw [← hz] at hB4
    clear hz
    have hbb := hide (show w.heap.size + 1 ≠ w.heap.size by omega)
    generalize hb4e : w.heap.size + 1 = b4 at *
    generalize hb2e : w.heap.size = b2 at *
    refine (fits_any _ _).mono ?_
    rw [h5]
    rintro e w2 ⟨rfl, hx2⟩
    have c0 := cell_of ((unhide hB2).ext hx2) hk
    have hB2' := hide ((unhide hB2).ext hx2)
    have hB4' := hide ((unhide hB4).ext hx2)
    have hx2' := hide ((unhide hx1).trans hx2)
    clear hx2 hB2 hB4 hx1
    go_wp2_with fail
    refine wp_region_ext (P := Tryz.prog) [0,1,2,3,4,5,6,7] [8] 1 #[true,true,true,true,true,true,true,true,false] (by kernel_rfl) (by kernel_rfl) rfl (by rfl) ?_
    iterate 8
      refine ql_want (v := ?_) rfl (by rfl) (fun W hW => ?_) ?_
      rotate_left
      · go_simp
        first | done | rfl | ((go_at_call 73; refine (bit_any k hk _).mono ?_; rintro _ _ ⟨h1, h2⟩; refine ⟨_, h1, ?_, h2⟩; rfl))
      go_frame
    refine wpQL_nil (fun w3 hx3 => ?_)
    have c1 := c0 w3 hx3
    have f1 := ((unhide hB2').ext hx3).frozen (k / 64)
    refine lx_one (i := 8) (by kernel_rfl) rfl (by rfl) #[true,true,true,true,true,true,true,true,true] (by rfl) ?_
    go_simp
    intro w4 hx4
    have hB2 := ((((unhide hB2').ext hx3).set (k / 64) (.int .u64 (bits .andNot .u64 (wd N (k / 64)) (bitW k)))).ext hx4)
    rw [setC_without N k] at hB2
    have hB4 := ((((unhide hB4').ext hx3).keep (Keep.setCell w3 b2 (k / 64) (.int .u64 (bits .andNot .u64 (wd N (k / 64)) (bitW k)))) (by simpa using unhide hbb)).ext hx4)
    have hx5 := hide ((((unhide hx2').trans hx3).of_new (Keep.setCell w3 b2 (k / 64) (.int .u64 (bits .andNot .u64 (wd N (k / 64)) (bitW k)))) (by simp [hb2e])).trans hx4)
    refine wpX_done (by kernel_rfl) ?_
    try go_frame
    clear hB2' hB4' hx2' hx3 hx4 c0 c1 f1 h1 hw h6 h7 h8
    generalize minusS N (2 ^ k) = M at *
    have hself := Ext.refl w4
    have hB2' := hide hB2
    have hB4' := hide hB4
    clear hB2 hB4
    try dsimp only
    repeat (first | (with_reducible refine wp_reg (id := 3) ?_) | go_values | go_step | go_guarded | go_upon | go_in | go_back | fail)
    refine wpO_val rfl (load_SetR (N := M) rfl rfl (unhide hB2').whole) ?_
    refine wpO_skip rfl (store_SetR (N := M) rfl rfl rfl (unhide hB4')) (wpO_done ?_)
    go_wp2_with fail
    rw [unhide hN']
    refine bodyPost_ret (ret_cell1 rfl rfl (load_Set _ b4 M ((unhide hB4').row _))) rfl ?_
    exact ⟨rfl, (unhide hx5).of_new (Keep.setRow w4 b4 _) (by simp; omega)⟩
  · have h5 : fitB n = false := by simpa using hf
    have hN : withoutS N n = N := by rw [withoutS, if_neg hf]
    have hN' := hide hN
    have hB0' := hide hB0
    clear hf hB0 hN
    go_enter Tryz.func48, Tryz.ntmps48
    go_wp2_with fail
    have hx1 := hide ((ext_self1 w (.cells (setC N) 51)).trans (ext_self1 _ (.cells (setC 0) 51)))
    have hB2 := hide ((unhide hB0').ext (ext_self1 (w.alloc (.cells (setC N) 51)) (.cells (setC 0) 51)))
    have hB4 := hide (Blk.new (w.alloc (.cells (setC N) 51)) 51 (setC 0))
    have hs : (w.alloc (.cells (setC N) 51)).heap.size = w.heap.size + 1 := World.size_alloc _ _
    rw [hs] at hB4
    clear hs hB0'
    have hz : setC 0 = #[.int .u64 0, .int .u64 0, .int .u64 0, .int .u64 0, .int .u64 0, .int .u64 0, .int .u64 0, .int .u64 0, .int .u64 0, .int .u64 0, .int .u64 0, .int .u64 0, .int .u64 0, .int .u64 0, .int .u64 0, .int .u64 0] := rfl
    rw [hz] at hx1 hB2 hB4
    generalize (w.alloc (.cells (setC N) 51)).alloc (.cells #[.int .u64 0, .int .u64 0, .int .u64 0, .int .u64 0, .int .u64 0, .int .u64 0, .int .u64 0, .int .u64 0, .int .u64 0, .int .u64 0, .int .u64 0, .int .u64 0, .int .u64 0, .int .u64 0, .int .u64 0, .int .u64 0] 51) = W1 at *
    rw [← hz] at hB4
    clear hz
    generalize hb4e : w.heap.size + 1 = b4 at *
    generalize hb2e : w.heap.size = b2 at *
    refine (fits_any _ _).mono ?_
    rw [h5]
    rintro e w4 ⟨rfl, hx2⟩
    have hB2 := (unhide hB2).ext hx2
    have hB4 := (unhide hB4).ext hx2
    have hx5 := hide ((unhide hx1).trans hx2)
    clear hx2 hx1
    have hself := Ext.refl w4
    have hB2' := hide hB2
    have hB4' := hide hB4
    clear hB2 hB4
    try dsimp only
    repeat (first | (with_reducible refine wp_reg (id := 3) ?_) | go_values | go_step | go_guarded | go_upon | go_in | go_back | fail)
    refine wpO_val rfl (load_SetR (N := N) rfl rfl (unhide hB2').whole) ?_
    refine wpO_skip rfl (store_SetR (N := N) rfl rfl rfl (unhide hB4')) (wpO_done ?_)
    go_wp2_with fail
    rw [unhide hN']
    refine bodyPost_ret (ret_cell1 rfl rfl (load_Set _ b4 N ((unhide hB4').row _))) rfl ?_
    exact ⟨rfl, (unhide hx5).of_new (Keep.setRow w4 b4 _) (by simp; omega)⟩
end Go.Proofs.YtmfkkkhddigkfaaGreatDoor
/- bitset.All: what the iterator does. Conditions: see each theorem. -/
namespace Go.Proofs.YtmfkkkhddigkfaaGreatDoor
open Go Go.RowKit Go.Shelf
attribute [local go_sem] qUpon lUpon

set_option maxRecDepth 100000 in
theorem all_any (N : Nat) (w : World) : Calls Tryz.prog 46 #[.agg (setC N)] w fun e w' => e = .returned (.func (.func 78) #[] #[.pointer (some ⟨w.heap.size, 0, none⟩)]) ∧ w' = w.alloc (.cells (setC N) 51) := by
  have hsz := setC_size N
  go_enter Tryz.func46, Tryz.ntmps46
  go_wp2_with fail
  go_ret
  exact ⟨rfl, rfl⟩
/-- a set stored in a variable of the call's own, as the walk spells it -/
theorem set_newL (w : World) (N : Nat) : ∃ W, (storeCells ⟨w.heap.size, 0, none⟩ [.int .u64 (wd N 0), .int .u64 (wd N 1), .int .u64 (wd N 2), .int .u64 (wd N 3), .int .u64 (wd N 4), .int .u64 (wd N 5), .int .u64 (wd N 6), .int .u64 (wd N 7), .int .u64 (wd N 8), .int .u64 (wd N 9), .int .u64 (wd N 10), .int .u64 (wd N 11), .int .u64 (wd N 12), .int .u64 (wd N 13), .int .u64 (wd N 14), .int .u64 (wd N 15)]).run Tryz.prog (w.alloc (.cells #[.int .u64 0, .int .u64 0, .int .u64 0, .int .u64 0, .int .u64 0, .int .u64 0, .int .u64 0, .int .u64 0, .int .u64 0, .int .u64 0, .int .u64 0, .int .u64 0, .int .u64 0, .int .u64 0, .int .u64 0, .int .u64 0] 51)) = .ok () W ∧ Blk W w.heap.size 51 (setC N) ∧ Ext w W := by
  have hB := Blk.new w 51 (setC 0)
  exact ⟨_, store_Set N hB, Blk.putS N hB, (ext_self1 w (.cells (setC 0) 51)).of_new (Keep.putS _ _ _) (by simp)⟩
theorem set_new (w : World) (N : Nat) : ∃ W, (storeCells ⟨w.heap.size, 0, none⟩ (setC N).toList).run Tryz.prog (w.alloc (.cells #[.int .u64 0, .int .u64 0, .int .u64 0, .int .u64 0, .int .u64 0, .int .u64 0, .int .u64 0, .int .u64 0, .int .u64 0, .int .u64 0, .int .u64 0, .int .u64 0, .int .u64 0, .int .u64 0, .int .u64 0, .int .u64 0] 51)) = .ok () W ∧ Blk W w.heap.size 51 (setC N) ∧ Ext w W := set_newL w N

/-- how many are still to come -/
def leftI (n is : Value) : Nat := match is with | .bool true => 1025 - (intOf n).toNat | _ => 0
theorem toL_head_lt {R : Nat} {x : Int} {r : List Int} (h : toL R = x :: r) : 0 ≤ x ∧ x < 1024 := by
  have := mem_toL'.1 (show x ∈ toL R by rw [h]; simp)
  exact ⟨this.1, this.2.1⟩
theorem toL_tail {R : Nat} {x : Int} {r : List Int} (h : toL R = x :: r) : toL (withoutS R x) = r := by
  have hx := toL_head_lt h
  have hs := toL_sorted R
  have hb := (mem_toL'.1 (show x ∈ toL R by rw [h]; simp)).2.2
  have h0 : ∀ k, k < x.toNat → R.testBit k = false := by
    intro k hk
    cases hkb : R.testBit k with
    | false => rfl
    | true =>
      have hm : (k : Int) ∈ toL R := mem_toL'.2 ⟨by omega, by omega, by rw [Int.toNat_natCast]; exact hkb⟩
      rw [h] at hm hs
      rcases List.mem_cons.1 hm with e | hm
      · omega
      · have := List.rel_of_pairwise_cons hs hm
        omega
  have e := toL_cons (N := R) (j := x.toNat) (by omega) h0 hb
  rw [h] at e
  have hf : fitB x = true := by simp [fitB]; omega
  rw [withoutS, if_pos hf]
  exact (List.cons.inj e).2.symm

set_option maxRecDepth 100000 in
set_option maxHeartbeats 4000000 in
/-- THE ITERATOR OF bitset.All -/
theorem all_iter (N bN : Nat) (w : World) (hB : Blk w bN 51 (setC N)) (hT : Tab w) :
    Iter1 Tryz.prog 78 #[.pointer (some ⟨bN, 0, none⟩)] (fun x : Int => #[.int .i64 x]) (toL N) 1 [0] w := by
  intro l J Jx W hW hJ hJx hY h0
  have hTW := hide (hT.ext hW)
  have hBW := hB.ext hW
  have hJ' := hide hJ
  have hJx' := hide hJx
  have hY' := hide hY
  have h0' := hide h0
  have hBW' := hide hBW
  clear hB hT hW hBW hJ hJx hY h0
  refine callsIn_of_wp Tryz.func78 rfl trivial ?_ rfl
  simp only [Tryz.ntmps78, List.size_toArray, List.length_cons, List.length_nil, Nat.reduceAdd, Nat.reduceSub, Array.replicate_succ, Array.replicate_zero, List.push_toArray, List.append_toArray, List.nil_append, List.cons_append]
  try dsimp only
  repeat (first | (with_reducible refine wpW_reg (id := 0) (by kernel_rfl) ?_) | go_values | gi_step | gi_guarded | gi_upon | gi_in | gi_back | fail)
  have hB0 : Blk (W.alloc (.cells #[.int .u64 0, .int .u64 0, .int .u64 0, .int .u64 0, .int .u64 0, .int .u64 0, .int .u64 0, .int .u64 0, .int .u64 0, .int .u64 0, .int .u64 0, .int .u64 0, .int .u64 0, .int .u64 0, .int .u64 0, .int .u64 0] 51)) W.heap.size 51 (setC 0) := Blk.new W 51 (setC 0)
  have hx0 := ext_self1 W (.cells #[.int .u64 0, .int .u64 0, .int .u64 0, .int .u64 0, .int .u64 0, .int .u64 0, .int .u64 0, .int .u64 0, .int .u64 0, .int .u64 0, .int .u64 0, .int .u64 0, .int .u64 0, .int .u64 0, .int .u64 0, .int .u64 0] 51)
  refine wpO_val rfl (load_SetR (N := N) rfl rfl (unhide hBW').whole) ?_
  refine wpO_want rfl ?_
  go_simp
  refine wpO_skip rfl (store_SetR (N := N) rfl rfl rfl hB0) (wpO_done ?_)
  have hB4 := hide (hB0.row (setC N))
  have hx4 := hide (hx0.of_new (Keep.setRow _ W.heap.size (setC N)) (by simp))
  clear hB0 hx0 hBW'
  generalize (W.alloc (.cells #[.int .u64 0, .int .u64 0, .int .u64 0, .int .u64 0, .int .u64 0, .int .u64 0, .int .u64 0, .int .u64 0, .int .u64 0, .int .u64 0, .int .u64 0, .int .u64 0, .int .u64 0, .int .u64 0, .int .u64 0, .int .u64 0] 51)).setRow W.heap.size (setC N) = W4 at *
  try dsimp only
  repeat (first | (with_reducible refine wpW_reg (id := 1) (by kernel_rfl) ?_) | go_values | gi_step | gi_guarded | gi_upon | gi_in | gi_back | fail)
  refine wpO_val rfl (load_SetR (N := N) rfl rfl (unhide hB4).whole) ?_
  refine wpO_want rfl ?_
  go_simp
  refine (min_any N W4 ((unhide hTW).ext (unhide hx4))).mono ?_
  rintro e W5 ⟨rfl, hx5⟩
  refine ⟨_, rfl, ?_⟩
  iterate 5
    refine wpO_want rfl ?_
    go_simp
  refine wpO_done ?_
  have hB5 := hide ((unhide hB4).ext hx5)
  have hx5' := hide ((unhide hx4).trans hx5)
  clear hB4 hx4 hx5
  gi_wp2_with fail
  gi_loopw [4, 5] (fun n is wr => ∃ (pre : List Int) (R : Nat), toL N = pre ++ toL R ∧ n = .int .i64 (minV R) ∧ is = .bool (anyB R) ∧ Blk wr W.heap.size 51 (setC R) ∧ Tab wr ∧ J pre wr ∧ W.heap.size + 1 ≤ wr.heap.size) (fun n is _ => leftI n is)
  case atStart =>
    exact ⟨[], N, rfl, rfl, rfl, unhide hB5, (unhide hTW).ext (unhide hx5'), unhide hJ' _ _ _ (unhide h0') ((unhide hx5').keep _), (unhide hB5).lt⟩
  case round =>
    obtain ⟨pre, R, hpre, rfl, rfl, hB, hT, hJp, hsz⟩ := hrel
    cases hR : toL R with
    | nil =>
      have hR' := hR
      rw [hR, List.append_nil] at hpre
      have hJp' := hide hJp
      have hpre' := hide hpre
      clear hB hT hJp hpre hR hTW hJ' hJx' hY' h0' hB5 hx5' hsz
      rw [(min_nil hR').1, (min_nil hR').2]
      clear hR'
      gi_wp2_with fail
      go_end0
      exact ⟨⟨_, rfl⟩, .inl (by rw [unhide hpre']; exact unhide hJp')⟩
    | cons x r =>
      have hp1 : (pre ++ [x]) <+: toL N := ⟨r, by rw [hpre, hR]; simp⟩
      obtain ⟨fn, tmps, assign, body, hy, hRd⟩ := unhide hY' pre x wr hJp hp1 hsz
      have hB' := hide hB
      have hT' := hide hT
      have hR' := hide hR
      have hpre' := hide hpre
      have hRd' := hide hRd
      have hsz' := hide hsz
      rw [(min_cons hR).1, (min_cons hR).2]
      have htl := (unhide hTW).lt
      have htl' := hide htl
      clear hB hT hJp hpre hR hTW h0' hB5 hx5' hRd hsz hp1 hY' htl
      gi_wp2_with fail
      refine ⟨rfl, (unhide hRd').mono ?_⟩
      rintro e W6 ⟨(⟨rfl, hJ6⟩ | ⟨rfl, hJx6⟩), hsame, hsz6⟩
      · have hB6 := hide ((unhide hB').of_block (hsame W.heap.size (inX (by omega))))
        have hT6 : Tab W6 := fun j hj => by
          rw [World.cell?_of_block (hsame _ (List.mem_append.2 (.inr (List.mem_singleton.2 rfl))))]
          exact unhide hT' j hj
        have hT6' := hide hT6
        have hJ6' := hide hJ6
        have hsz6' := hide (Nat.le_trans (unhide hsz') hsz6)
        clear hsame hsz6 hB' hT' hJ6 hRd' hsz' hT6 hy
        try dsimp only
        repeat (first | (with_reducible refine wpW_reg (id := 5) (by kernel_rfl) ?_) | go_values | gi_step | gi_guarded | gi_upon | gi_in | gi_back | fail)
        refine wpO_val rfl (load_SetR (N := R) rfl rfl (unhide hB6).whole) ?_
        refine wpO_want rfl ?_
        go_simp
        refine wpO_want rfl ?_
        go_simp
        refine (without_S R x W6).mono ?_
        rintro e W7 ⟨rfl, hx7⟩
        refine ⟨_, rfl, ?_⟩
        have hB7 := (unhide hB6).ext hx7
        refine wpO_skip rfl (store_SetR (N := withoutS R x) rfl rfl rfl hB7) (wpO_done ?_)
        have hB8 := hide (hB7.row (setC (withoutS R x)))
        have hk8 := hide ((hx7.keep [W.heap.size]).trans (Keep.setRow W7 W.heap.size (setC (withoutS R x))))
        clear hB6 hx7 hB7
        generalize W7.setRow W.heap.size (setC (withoutS R x)) = W8 at *
        try dsimp only
        repeat (first | (with_reducible refine wpW_reg (id := 3) (by kernel_rfl) ?_) | go_values | gi_step | gi_guarded | gi_upon | gi_in | gi_back | fail)
        refine wpO_val rfl (load_SetR (N := withoutS R x) rfl rfl (unhide hB8).whole) ?_
        refine wpO_want rfl ?_
        go_simp
        have hT8 := (unhide hT6').keep (unhide hk8) (by have := unhide htl'; simp; omega)
        refine (min_any (withoutS R x) W8 hT8).mono ?_
        rintro e W9 ⟨rfl, hx9⟩
        refine ⟨_, rfl, ?_⟩
        iterate 5
          refine wpO_want rfl ?_
          go_simp
        refine wpO_done ?_
        have hB9 := hide ((unhide hB8).ext hx9)
        have hT9 := hide (hT8.ext hx9)
        have hk9 := hide ((unhide hk8).trans (hx9.keep _))
        clear hB8 hk8 hT8 hx9
        gi_wp2_with fail
        go_roundw
        case rel =>
          have ht := toL_tail (unhide hR')
          refine ⟨pre ++ [x], withoutS R x, ?_, rfl, rfl, unhide hB9, unhide hT9, unhide hJ' _ _ _ (unhide hJ6') ((unhide hk9).mono fun b hb => ?_), Nat.le_trans (unhide hsz6') (unhide hk9).size⟩
          · rw [unhide hpre', unhide hR', ht]; simp
          · rw [List.mem_singleton] at hb; rw [mem_privs]; omega
        case measure =>
          have hx0 := toL_head_lt (unhide hR')
          have hs := toL_sorted R
          rw [unhide hR'] at hs
          have ht := toL_tail (unhide hR')
          cases hr : toL (withoutS R x) with
          | nil => rw [(min_nil hr).1, (min_nil hr).2]; simp [leftI, intOf]; omega
          | cons y q =>
            rw [ht] at hr
            subst hr
            have := List.rel_of_pairwise_cons hs (List.mem_cons_self)
            have hy0 := toL_head_lt ht
            rw [(min_cons ht).1, (min_cons ht).2]
            simp [leftI, intOf]
            omega
      · have hJx6' := hide hJx6
        clear hJx6 hsame hsz6 hy hRd'
        gi_wp2_with fail
        refine bodyPost_ret (results_none rfl _ _ _) rfl ?_
        exact ⟨⟨_, rfl⟩, .inr ⟨_, unhide hJx6'⟩⟩
end Go.Proofs.YtmfkkkhddigkfaaGreatDoor
