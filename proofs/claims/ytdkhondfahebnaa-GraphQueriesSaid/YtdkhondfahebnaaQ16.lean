/- Parts of a proof, laid together: Fr, Eq, Vr. Each part says its own conditions. -/
import Derived.Test.YtdkhondfahebnaaQ15
import Derived.Test.YtdkhondfahebnaaQ13
/- law05.From: a reference graph made a graph; append to a slice of the call's own. Conditions: see each theorem. -/
namespace Go.Proofs.Ytdkhondfahebnaa
open Go Go.RowKit

theorem insP_end {α : Type} {gt : α → Bool} {x : α} : ∀ {l : List α}, (∀ y ∈ l, gt y = false) → insP gt x l = l ++ [x]
  | [], _ => rfl
  | y :: l, h => by
    unfold insP
    rw [h y List.mem_cons_self, if_neg (by simp), insP_end (fun z hz => h z (List.mem_cons_of_mem _ hz))]
    rfl
theorem hasV_false {u : Int} {V : List (Int × Thing)} (h : ∀ p ∈ V, p.1 ≠ u) : hasV u V = false := by
  rw [hasV_look, lookM_none.2 h]; rfl
theorem hasV_true {u : Int} {V : List (Int × Thing)} {t : Thing} (h : (u, t) ∈ V) : hasV u V = true := by
  rw [hasV_look, lookM_isSome]; exact ⟨_, h, rfl⟩
theorem hasE_false {u v : Int} {E : List ((Int × Int) × Thing)} (hlo : ∀ e ∈ E, e.1.1 < e.1.2) (h : ∀ p ∈ E, p.1 ≠ (min u v, max u v)) : hasE u v E = false := by
  rw [hasE_look hlo, lookM_none.2 h]; rfl

theorem redoV : ∀ (l acc : List (Int × Thing)), (acc ++ l).Pairwise ltV → (∀ p ∈ acc ++ l, idB p.1 = true) → (∀ p ∈ acc ++ l, heavyB p.2.2 = false) → l.foldl stV (acc, []) = (acc ++ l, []) ∧ fe erV stV l (acc, []) = 0
  | [], acc, _, _, _ => by simp [fe]
  | x :: l, acc, hs, hid, hw => by
    obtain ⟨u, lab, wt⟩ := x
    have hx : ∀ y ∈ acc, y.1 < u := fun y hy => (List.pairwise_append.1 hs).2.2 y hy _ List.mem_cons_self
    have h1 := hid (u, (lab, wt)) (by simp)
    have h2 := hw (u, (lab, wt)) (by simp)
    have hno : hasV u acc = false := hasV_false fun p hp e => by have := hx p hp; omega
    have he : wrongR 0 u 0 wt acc [] = 0 := by
      simp only at h1 h2
      unfold wrongR
      rw [if_neg (by simp [w1B]), if_neg (by simp [w2B, h1, h2, pairsB]), if_neg (by simp [w3B, pairsB]), if_pos rfl, hno]
      rfl
    have hst : stV (acc, []) (u, (lab, wt)) = (acc ++ [(u, (lab, wt))], []) := by
      unfold stV nxV nxE
      simp only [he, if_true]
      refine Prod.ext ?_ rfl
      show refV 0 u lab wt acc = _
      simp only [refV, if_true]
      rw [insF_eq, insP_end (fun y hy => by have := hx y hy; unfold gtV; simp; omega)]
    have ih := redoV l (acc ++ [(u, (lab, wt))]) (by simpa using hs) (by simpa using hid) (by simpa using hw)
    have her : erV (acc, []) (u, (lab, wt)) = 0 := he
    simp only [List.foldl_cons, fe, her, hst, if_true]
    rw [ih.1, ih.2]
    simp

theorem redoE (V : List (Int × Thing)) : ∀ (l acc : List ((Int × Int) × Thing)), GInv V (acc ++ l) → l.foldl stE (V, acc) = (V, acc ++ l) ∧ fe erE stE l (V, acc) = 0
  | [], acc, _ => by simp [fe]
  | x :: l, acc, hi => by
    obtain ⟨⟨u, v⟩, lab, wt⟩ := x
    have hx : ∀ y ∈ acc, ltE y ((u, v), (lab, wt)) := fun y hy => (List.pairwise_append.1 hi.se).2.2 y hy _ List.mem_cons_self
    have hm : ((u, v), (lab, wt)) ∈ acc ++ ((u, v), (lab, wt)) :: l := by simp
    have hlt := hi.lo _ hm
    obtain ⟨⟨t, ht⟩, ⟨s, hs⟩⟩ := hi.ends _ hm
    have h2 := hi.we _ hm
    have i1 := hi.ids _ ht
    have i2 := hi.ids _ hs
    have hn := hi.ne
    simp only at hlt ht hs h2 i1 i2
    simp only [List.length_append, List.length_cons] at hn
    have e1 : min u v = u := by omega
    have e2 : max u v = v := by omega
    have hno : hasE u v acc = false := hasE_false (fun e he => hi.lo e (List.mem_append_left _ he)) fun p hp e => by
      have := hx p hp
      unfold ltE at this
      rw [e, e1, e2] at this
      simp only at this
      omega
    have he : wrongR 2 u v wt V acc = 0 := by
      unfold wrongR
      rw [if_neg (by simp [w1B]), if_neg (by simp [w2B, h2, i1, i2, pairsB]), if_neg (by simp [w3B, pairsB]; omega), if_neg (by decide), if_neg (by simp [hasV_true ht, hasV_true hs]), if_pos rfl, hno, if_neg (by simp), if_neg (by omega)]
    have hst : stE (V, acc) ((u, v), (lab, wt)) = (V, acc ++ [((u, v), (lab, wt))]) := by
      unfold stE nxV nxE
      simp only [he, if_true]
      refine Prod.ext rfl ?_
      show refE 2 u v lab wt acc = _
      simp only [refE, Int.reduceEq, if_false, if_true, e1, e2]
      rw [insF_eq, insP_end (fun y hy => by have := hx y hy; unfold ltE at this; simp only at this; unfold gtE; simp; omega)]
    have ih := redoE V l (acc ++ [((u, v), (lab, wt))]) (by simpa using hi)
    have her : erE (V, acc) ((u, v), (lab, wt)) = 0 := he
    simp only [List.foldl_cons, fe, her, hst, if_true]
    rw [ih.1, ih.2]
    simp

/-- a reference graph, built anew out of its lists, is the same -/
theorem rebuild {V : List (Int × Thing)} {E : List ((Int × Int) × Thing)} (h : GInv V E) : bErr V E = 0 ∧ bS V E = (V, E) := by
  have h1 := redoV V [] (by simpa using h.sv) (by simpa using h.ids) (by simpa using h.wv)
  have h2 := redoE V E [] (by simpa using h)
  have e1 : bS1 V = (V, []) := h1.1
  unfold bErr bS
  rw [e1, if_pos h1.2]
  exact ⟨h2.2, h2.1⟩
theorem GInv.okV {V : List (Int × Thing)} {E : List ((Int × Int) × Thing)} (h : GInv V E) : ∀ d ∈ V, okV d := fun d hd => by
  have h1 := h.ids d hd
  have h2 := h.wv d hd
  unfold idB at h1
  unfold heavyB at h2
  simp at h1 h2
  unfold Go.Proofs.Ytdkhondfahebnaa.okV i64ok
  omega
theorem GInv.okE {V : List (Int × Thing)} {E : List ((Int × Int) × Thing)} (h : GInv V E) : ∀ d ∈ E, okEd d := fun d hd => by
  obtain ⟨⟨t, ht⟩, ⟨s, hs⟩⟩ := h.ends d hd
  have h1 := h.ids _ ht
  have h3 := h.ids _ hs
  have h2 := h.we d hd
  unfold idB at h1 h3
  unfold heavyB at h2
  simp at h1 h2 h3
  unfold okEd i64ok
  omega

/-- append of one element to a slice that the call has made -/
theorem wp_ap {α : Type} {enc : α → List Value} {T ST : TypeId} {k byt : Nat} (hi0 : (Try.prog.info? T).map (fun i => (i.zero.map (·.cells.size), i.size, i.bytes)) = some (some k, k, byt)) (hu : Try.prog.underlying ST = some (.slice T)) (hone : ∀ x, ∀ v ∈ enc x, v.oneCell' = true) (hlen : ∀ x, (enc x).length = k) (hk : 0 < k) (hby : byt ≤ 1000)
    {ops : Array Oper} {rest : List Oper} {o : Oper} {a : Act} {Q : Exit → Act → World → Prop} (w : World) (hgd : o.guard = none) (s x : Operand)
    (ho : o.op = .call { callee := .builtin .append, args := #[s, x], argTypes := #[ST, ST] }) (base : Nat) (v : Value) (n : Nat) (xs : List α) (e : α) (hn : xs.length = n) (g : Nat) (W : World) (hW : W = w.alloc (.cells (enc e).toArray T)) (hsg : w.heap.size = g) (hs : a.eval s = v) (hx : a.eval x = .slice (some ⟨g, 0, none⟩) 1 1)
    (hown : w.ownsRow base T k v n (xs.flatMap enc)) (hl : n ≤ 100000) (hb : base ≤ w.heap.size)
    (h : ∀ A' c' w', w'.ownsRow base T k (.slice A' (n + 1) c') (n + 1) ((xs ++ [e]).flatMap enc) → (w.alloc (.cells (enc e).toArray T)).grownBy w' v.ownBlock → wpList Try.prog ops Q rest (a.put o.dst (.slice A' (n + 1) c')) w') :
    wpList Try.prog ops Q (o :: rest) a W := by
  subst hW
  subst hn
  subst hsg
  obtain ⟨i0, hi, hi1⟩ := Option.map_eq_some_iff.1 hi0
  simp only [Prod.mk.injEq] at hi1
  obtain ⟨hz1, hz2, hz3⟩ := hi1
  obtain ⟨z0, hz, hz4⟩ := Option.map_eq_some_iff.1 hz1
  have hown' := own_ext hown ((Ext.refl w).alloc (.cells (enc e).toArray T))
  have hmul : (xs.length + 1) * byt ≤ 100001 * 1000 := Nat.mul_le_mul (by omega) hby
  refine wpList_append_own_at _ hgd s x _ ho base T i0 z0 k byt hu hi hz hz2 hz3 hz4 hk v xs.length _ hs hown' ⟨w.heap.size, 0, none⟩ 1 1 (enc e) hx (by rw [hlen]; simp) ?_ (hone e) (by unfold maxLen; omega) (by omega) (by simp; omega) ?_
  · intro j u hj
    have := (Blk.new w T (enc e).toArray).cell j
    rw [show (⟨w.heap.size, 0, none⟩ : Addr).add j = ⟨w.heap.size, j, none⟩ by simp [Addr.add]; omega, this]
    simpa using hj
  · intro v' w' h1 h2 _ _
    obtain ⟨A', c', rfl⟩ := own_slice h1
    exact h A' c' w' (by simpa using h1) h2
theorem infoGV : (Try.prog.info? 44).map (fun i => (i.zero.map (·.cells.size), i.size, i.bytes)) = some (some 3, 3, 24) := by kernel_rfl
theorem infoGE : (Try.prog.info? 47).map (fun i => (i.zero.map (·.cells.size), i.size, i.bytes)) = some (some 4, 4, 32) := by kernel_rfl
/-- what an append leaves in a loop that gathers -/
theorem app_step {α : Type} {enc : α → List Value} {wI wr w2 w' : World} {T k n : Nat} {v : Value} {xs : List α} (hx : Ext wI wr) (hown : wr.ownsRow wI.heap.size T k v n (xs.flatMap enc)) (hx2 : Ext wr w2) (hg : w2.grownBy w' v.ownBlock) : Ext wI w' :=
  (hx.trans hx2).grown hg (Nat.le_refl _) (own_ext hown hx2)

set_option maxRecDepth 100000 in
set_option maxHeartbeats 4000000 in
theorem from_any (A B : Option Addr) (V : List (Int × Thing)) (E : List ((Int × Int) × Thing)) (cA cB : Nat) (w : World) (hV : SlAt encV 3 w A V) (hE : SlAt encE 4 w B E) (hi : GInv V E) :
    Calls Try.prog 20 #[.agg #[.slice A V.length cA, .slice B E.length cB]] w fun e w' => ∃ g bv be, e = .returned (.pointer (some ⟨g, 0, none⟩)) ∧ IsG w' g bv be V E ∧ Ext w w' ∧ w.heap.size ≤ g ∧ w.heap.size ≤ bv ∧ w.heap.size ≤ be := by
  have hV' := hide hV
  have hE' := hide hE
  have hi' := hide hi
  have hlV := hi.nv
  have hlE := hi.ne
  clear hV hE hi
  go_enter Try.func20, Try.ntmps20
  go_wp2_with fail
  refine wp_abs (fun W => Ext w W ∧ Blk W w.heap.size 28 #[.slice A V.length cA, .slice B E.length cB]) ⟨ext_self1 _ _, Blk.new w _ _⟩ ?_
  rintro wI ⟨hxI, hbI⟩
  have q0 := hbI.cells 0 (v := .slice A V.length cA) rfl
  have q1 := hbI.cells 1 (v := .slice B E.length cB) rfl
  have hxI' := hide hxI
  clear hxI hbI
  go_loopw [3, 5] (fun l i wr => ∃ (k : Nat) (vs : Value), k ≤ V.length ∧ i = .int .i64 k ∧ vs = l ∧ wr.ownsRow wI.heap.size 44 3 vs k ((V.take k).flatMap encV) ∧ Ext wI wr) (fun _ i _ => V.length - (intOf i).toNat)
  case atStart => exact ⟨0, _, Nat.zero_le _, rfl, rfl, World.ownsRow_nil _ _ _ _, Ext.refl _⟩
  case round =>
    obtain ⟨k, vs, hk, rfl, hl3, hown, hx⟩ := hrel
    subst hl3
    have hown' := hide hown
    have hx' := hide hx
    clear hown
    by_cases hlt : k < V.length
    · obtain ⟨b, off, rfl, c0, c1, c2⟩ := atV ((unhide hV').ext ((unhide hxI').trans hx)) hlt
      have hst := List.take_succ_eq_append_getElem hlt
      generalize hy : V[k] = y at c0 c1 c2 hst
      obtain ⟨u, lab, wt⟩ := y
      have hst' := hide hst
      have hn' := hide (show k ≤ 100000 by omega)
      have hln := hide (show (V.take k).length = k by rw [List.length_take]; omega)
      clear hy hst
      simp only at c0 c1 c2
      go_wp2_with (at_builtin; refine wp_ap infoGV Try.underlying40 one_encV (fun _ => rfl) (by decide) (by decide) wr rfl _ _ rfl wI.heap.size vs k (V.take k) (u, (lab, wt)) (unhide hln) wr.heap.size _ (by rfl) rfl (by rfl) (by rfl) (unhide hown') (unhide hn') (Below.size (unhide hx')) ?_; intro A1 k1 w4 ho4 hg4; have hx4 := hide (app_step (unhide hx') (unhide hown') (ext_self1 _ _) hg4); have ho4' := hide ho4; clear ho4 hg4)
      go_roundw
      case rel => exact ⟨k + 1, _, by omega, by go_num, rfl, by have h := unhide ho4'; rw [unhide hst']; exact h, unhide hx4⟩
      case measure => simp [intOf]; omega
    · have hkV : k = V.length := by omega
      subst hkV
      rw [List.take_length] at hown'
      obtain ⟨A1, c1, rfl⟩ := own_slice (unhide hown')
      have hoV := hide (unhide hown')
      have hxV := hide hx
      have r1 := cell_ext (q1 wr hx)
      have r0 := q0 wr hx
      rename World => wV
      clear hown' hx' hx q0 q1
      go_wp2_with fail
      clear r0
      go_loopw [4, 6] (fun l i wr => ∃ (k : Nat) (vs : Value), k ≤ E.length ∧ i = .int .i64 k ∧ vs = l ∧ wr.ownsRow wV.heap.size 47 4 vs k ((E.take k).flatMap encE) ∧ Ext wV wr) (fun _ i _ => E.length - (intOf i).toNat)
      case atStart => exact ⟨0, _, Nat.zero_le _, rfl, rfl, World.ownsRow_nil _ _ _ _, Ext.refl _⟩
      case round =>
        obtain ⟨k, vs, hk, rfl, hl3, hown, hx⟩ := hrel
        subst hl3
        have hown' := hide hown
        have hx' := hide hx
        clear hown
        by_cases hlt : k < E.length
        · obtain ⟨b, off, rfl, c0, c1, c2, c3⟩ := atE ((unhide hE').ext (((unhide hxI').trans (unhide hxV)).trans hx)) hlt
          have hst := List.take_succ_eq_append_getElem hlt
          generalize hy : E[k] = y at c0 c1 c2 c3 hst
          obtain ⟨⟨u, v⟩, ⟨lab, wt⟩⟩ := y
          have hst' := hide hst
          have hn' := hide (show k ≤ 100000 by omega)
          have hln := hide (show (E.take k).length = k by rw [List.length_take]; omega)
          clear hy hst
          simp only at c0 c1 c2 c3
          go_wp2_with (at_builtin; refine wp_ap infoGE Try.underlying41 one_encE (fun _ => rfl) (by decide) (by decide) wr rfl _ _ rfl wV.heap.size vs k (E.take k) ((u, v), (lab, wt)) (unhide hln) wr.heap.size _ (by rfl) rfl (by rfl) (by rfl) (unhide hown') (unhide hn') (Below.size (unhide hx')) ?_; intro A1 k1 w4 ho4 hg4; have hx4 := hide (app_step (unhide hx') (unhide hown') (ext_self1 _ _) hg4); have ho4' := hide ho4; clear ho4 hg4)
          go_roundw
          case rel => exact ⟨k + 1, _, by omega, by go_num, rfl, by have h := unhide ho4'; rw [unhide hst']; exact h, unhide hx4⟩
          case measure => simp [intOf]; omega
        · have hkE : k = E.length := by omega
          subst hkE
          rw [List.take_length] at hown'
          obtain ⟨A2, c2, rfl⟩ := own_slice (unhide hown')
          have hinv := unhide hi'
          have hreb := rebuild hinv
          have hxIr := hide (((unhide hxI').trans (unhide hxV)).trans hx)
          have hsV := hide ((own_at (unhide hoV) (fun _ => rfl)).ext hx)
          have hsE := hide (own_at (unhide hown') (fun _ => rfl))
          have hoV' := hide hinv.okV
          have hoE' := hide hinv.okE
          have hr' := hide hreb
          have r1' := r1 wr hx
          clear hinv hreb hx hx' hown' hoV hxV r1
          go_wp2_with fail
          refine (build_any A1 A2 V E c1 c2 _ (unhide hsV) (unhide hsE) (unhide hoV') (unhide hoE') (by omega) (by omega)).mono ?_
          rintro e w5 (⟨-, g, bv, be, rfl, hg, hx5, n1, n2, n3⟩ | ⟨hbad, _⟩)
          · rw [(unhide hr').2] at hg
            have hg' := hide hg
            have hx5' := hide hx5
            have hn' := hide (And.intro n1 (And.intro n2 n3))
            clear hg hx5 n1 n2 n3
            go_wp2_with fail
            go_ret
            obtain ⟨n1, n2, n3⟩ := unhide hn'
            have hsz := Below.size (unhide hxIr)
            exact ⟨g, bv, be, rfl, unhide hg', (unhide hxIr).trans (unhide hx5'), by omega, by omega, by omega⟩
          · exact absurd (unhide hr').1 hbad
end Go.Proofs.Ytdkhondfahebnaa
/- maps.Equal, graph.Equal. Conditions: see each theorem. -/
namespace Go.Proofs.Ytdkhondfahebnaa
open Go Go.RowKit
attribute [local go_sem] qUpon lUpon

def eqBV (M1 M2 : List (Int × Thing)) : Bool := decide (M1.length = M2.length) && M1.all fun p => decide (lookM M2 p.1 = some p.2)
set_option maxRecDepth 100000 in
set_option maxHeartbeats 4000000 in
theorem meqV_any (b1 b2 : Nat) (M1 M2 : List (Int × Thing)) (w : World) (h1 : MapIs ekV evT i64ok w b1 M1) (h2 : MapIs ekV evT i64ok w b2 M2) :
    Calls Try.prog 47 #[.map (some b1), .map (some b2)] w fun e w' => e = .returned (.bool (eqBV M1 M2)) ∧ Ext w w' := by
  have l1 := fun (W : World) (hW : Ext w W) => (h1.ext hW).len Try.underlying87
  have l2 := fun (W : World) (hW : Ext w W) => (h2.ext hW).len Try.underlying87
  by_cases hl : M1.length = M2.length
  · rw [← hl] at l2
    obtain ⟨w1, hrun, hit, hx1, hs1⟩ := h1.range Try.underlying87
    have hb1 := h1.lt
    have hb2 := h2.lt
    have h2' := hide h2
    have hit' := hide hit
    have hx1' := hide hx1
    have hl' := hide hl
    clear h1 h2 hit hs1 hl hx1
    go_enter Try.func47, Try.ntmps47
    have hself := Ext.refl w
    go_wp2_with fail
    clear hrun l1 l2 hself
    try go_frame
    generalize hr : w.heap.size = r at *
    have hr' := hide hr
    clear hr
    go_loopw [] (fun wr => ∃ done left : List (Int × Thing), M1.Perm (done ++ left) ∧ (∀ p ∈ done, lookM M2 p.1 = some p.2) ∧ IterIs ekV evT i64ok wr r b1 M1 left ∧ Ext w wr) (fun wr => wr.rangeLeft b1 r)
    case atStart => exact ⟨[], M1, List.Perm.refl _, by simp, unhide hit', unhide hx1'⟩
    case round =>
      obtain ⟨done, left, hpd, hdn, hit, hxr⟩ := hrel
      have hlt := hit.left_eq
      rcases hit.next (P := Try.prog) 0 with ⟨hl0, hrun⟩ | ⟨p, l1, l2, w2, hl0, hrun, hit2, hk2, hs2, hen⟩
      · have hrun : ∀ ty, (Instr.next (.pointer (some ⟨r, 0, none⟩)) false ty).run Try.prog wr = .ok (.tuple #[.bool false]) wr := fun _ => hrun
        subst hl0
        rw [List.append_nil] at hpd
        have hres : eqBV M1 M2 = true := by
          unfold eqBV
          rw [decide_eq_true (unhide hl'), Bool.true_and, List.all_eq_true]
          exact fun p hp => decide_eq_true (hdn p (hpd.mem_iff.1 hp))
        have hres' := hide hres
        have hxr' := hide hxr
        clear hit hlt hpd hdn hres hit' hxr
        go_wp2_with fail
        go_ret
        exact ⟨ret_bool (unhide hres').symm, unhide hxr'⟩
      · have hrun : ∀ ty, (Instr.next (.pointer (some ⟨r, 0, none⟩)) false ty).run Try.prog wr = .ok (.tuple #[.bool true, ekV p.1, evT p.2]) w2 := fun _ => hrun
        subst hl0
        have hpm : p ∈ M1 := hpd.mem_iff.2 (by simp)
        have hokp : i64ok p.1 := hit.map.okk p hpm
        have hx2 : Ext w w2 := hxr.of_new hk2 (by have := unhide hr'; simp; omega)
        have hm2 := (unhide h2').ext hx2
        have hlk := fun (W : World) (hW : Ext w2 W) => (hm2.ext hW).lookup2 keV Try.underlying87 (zeroT W) hokp
        have hne : lookM M2 p.1 ≠ some p.2 → eqBV M1 M2 = false := fun hq => by
          unfold eqBV
          rw [Bool.and_eq_false_iff]
          exact .inr (Bool.eq_false_iff.2 fun ha => hq (of_decide_eq_true (List.all_eq_true.1 ha p hpm)))
        have hgo : lookM M2 p.1 = some p.2 → ∀ q ∈ done ++ [p], lookM M2 q.1 = some q.2 := fun hq q hm => by
          rcases List.mem_append.1 hm with h | h
          · exact hdn q h
          · rw [List.mem_singleton.1 h]; exact hq
        have hpd2 : M1.Perm ((done ++ [p]) ++ (l1 ++ l2)) := hpd.trans (by
          rw [List.append_assoc]
          exact List.Perm.append_left _ (List.perm_middle))
        have hpd' := hide hpd2
        have hgo' := hide hgo
        have hne' := hide hne
        have hit2' := hide hit2
        have hx2' := hide hx2
        have hlt' := hide hlt
        have hself := Ext.refl w2
        clear hit hlt hpd hdn hpm hokp hm2 hne hgo hpd2 hit2 hx2 hxr hit'
        obtain ⟨a, ⟨lab0, wt0⟩⟩ := p
        simp only [ekV, evT] at hrun hen hlk
        cases hq : lookM M2 a with
        | none =>
          have hnf := hide (unhide hne' (by rw [hq]; simp))
          rw [hq] at hlk
          clear hq
          simp only [Option.getD_none, Option.isSome_none] at hlk
          go_wp2_with fail
          go_ret
          exact ⟨ret_bool (unhide hnf).symm, (unhide hx2').trans (ext_self2 _ _ _)⟩
        | some q =>
          obtain ⟨lq, tq⟩ := q
          rw [hq] at hlk
          have hq' := hide hq
          clear hq
          simp only [Option.getD_some, Option.isSome_some] at hlk
          by_cases hh : lq = lab0 ∧ tq = wt0
          · obtain ⟨rfl, rfl⟩ := hh
            go_wp2_with fail
            go_roundw
            case rel => exact ⟨_, _, unhide hpd', unhide hgo' (unhide hq'), (unhide hit2').ext (ext_self2 _ _ _), (unhide hx2').trans (ext_self2 _ _ _)⟩
            case measure =>
              rw [((unhide hit2').ext (ext_self2 _ _ _)).left_eq, unhide hlt']
              simp
          · have hnf := hide (unhide hne' (by rw [unhide hq']; simpa using hh))
            have hh' : ¬ (lab0 = lq ∧ wt0 = tq) := fun h => hh ⟨h.1.symm, h.2.symm⟩
            have hh2 := hide hh'
            clear hh hh'
            go_wp2_with fail
            all_goals first
              | (go_ret; exact ⟨ret_bool (unhide hnf).symm, (unhide hx2').trans (ext_self2 _ _ _)⟩)
              | (exfalso; have h := unhide hh2; simp_all; done)
  · have hres : eqBV M1 M2 = false := by unfold eqBV; rw [decide_eq_false hl, Bool.false_and]
    have hres' := hide hres
    have hb : ((M1.length : Int) != (M2.length : Int)) = true := by simp; omega
    clear hres hl h1 h2
    have hself := Ext.refl w
    go_enter Try.func47, Try.ntmps47
    go_wp2_with fail
    go_ret
    exact ⟨ret_bool (unhide hres').symm, Ext.refl _⟩

def eqBE (M1 M2 : List ((Int × Int) × Thing)) : Bool := decide (M1.length = M2.length) && M1.all fun p => decide (lookM M2 p.1 = some p.2)
set_option maxRecDepth 100000 in
set_option maxHeartbeats 4000000 in
theorem meqE_any (b1 b2 : Nat) (M1 M2 : List ((Int × Int) × Thing)) (w : World) (h1 : MapIs ekE evT okE w b1 M1) (h2 : MapIs ekE evT okE w b2 M2) :
    Calls Try.prog 48 #[.map (some b1), .map (some b2)] w fun e w' => e = .returned (.bool (eqBE M1 M2)) ∧ Ext w w' := by
  have l1 := fun (W : World) (hW : Ext w W) => (h1.ext hW).len Try.underlying88
  have l2 := fun (W : World) (hW : Ext w W) => (h2.ext hW).len Try.underlying88
  by_cases hl : M1.length = M2.length
  · rw [← hl] at l2
    obtain ⟨w1, hrun, hit, hx1, hs1⟩ := h1.range Try.underlying88
    have hb1 := h1.lt
    have hb2 := h2.lt
    have h2' := hide h2
    have hit' := hide hit
    have hx1' := hide hx1
    have hl' := hide hl
    clear h1 h2 hit hs1 hl hx1
    go_enter Try.func48, Try.ntmps48
    have hself := Ext.refl w
    go_wp2_with fail
    clear hrun l1 l2 hself
    try go_frame
    generalize hr : w.heap.size = r at *
    have hr' := hide hr
    clear hr
    go_loopw [] (fun wr => ∃ done left : List ((Int × Int) × Thing), M1.Perm (done ++ left) ∧ (∀ p ∈ done, lookM M2 p.1 = some p.2) ∧ IterIs ekE evT okE wr r b1 M1 left ∧ Ext w wr) (fun wr => wr.rangeLeft b1 r)
    case atStart => exact ⟨[], M1, List.Perm.refl _, by simp, unhide hit', unhide hx1'⟩
    case round =>
      obtain ⟨done, left, hpd, hdn, hit, hxr⟩ := hrel
      have hlt := hit.left_eq
      rcases hit.next (P := Try.prog) 0 with ⟨hl0, hrun⟩ | ⟨p, l1, l2, w2, hl0, hrun, hit2, hk2, hs2, hen⟩
      · have hrun : ∀ ty, (Instr.next (.pointer (some ⟨r, 0, none⟩)) false ty).run Try.prog wr = .ok (.tuple #[.bool false]) wr := fun _ => hrun
        subst hl0
        rw [List.append_nil] at hpd
        have hres : eqBE M1 M2 = true := by
          unfold eqBE
          rw [decide_eq_true (unhide hl'), Bool.true_and, List.all_eq_true]
          exact fun p hp => decide_eq_true (hdn p (hpd.mem_iff.1 hp))
        have hres' := hide hres
        have hxr' := hide hxr
        clear hit hlt hpd hdn hres hit' hxr
        go_wp2_with fail
        go_ret
        exact ⟨ret_bool (unhide hres').symm, unhide hxr'⟩
      · have hrun : ∀ ty, (Instr.next (.pointer (some ⟨r, 0, none⟩)) false ty).run Try.prog wr = .ok (.tuple #[.bool true, ekE p.1, evT p.2]) w2 := fun _ => hrun
        subst hl0
        have hpm : p ∈ M1 := hpd.mem_iff.2 (by simp)
        have hokp : okE p.1 := hit.map.okk p hpm
        have hx2 : Ext w w2 := hxr.of_new hk2 (by have := unhide hr'; simp; omega)
        have hm2 := (unhide h2').ext hx2
        have hlk := fun (W : World) (hW : Ext w2 W) => (hm2.ext hW).lookup2 keE Try.underlying88 (zeroT W) hokp
        have hne : lookM M2 p.1 ≠ some p.2 → eqBE M1 M2 = false := fun hq => by
          unfold eqBE
          rw [Bool.and_eq_false_iff]
          exact .inr (Bool.eq_false_iff.2 fun ha => hq (of_decide_eq_true (List.all_eq_true.1 ha p hpm)))
        have hgo : lookM M2 p.1 = some p.2 → ∀ q ∈ done ++ [p], lookM M2 q.1 = some q.2 := fun hq q hm => by
          rcases List.mem_append.1 hm with h | h
          · exact hdn q h
          · rw [List.mem_singleton.1 h]; exact hq
        have hpd2 : M1.Perm ((done ++ [p]) ++ (l1 ++ l2)) := hpd.trans (by
          rw [List.append_assoc]
          exact List.Perm.append_left _ (List.perm_middle))
        have hpd' := hide hpd2
        have hgo' := hide hgo
        have hne' := hide hne
        have hit2' := hide hit2
        have hx2' := hide hx2
        have hlt' := hide hlt
        have hself := Ext.refl w2
        clear hit hlt hpd hdn hpm hokp hm2 hne hgo hpd2 hit2 hx2 hxr hit'
        obtain ⟨⟨a, b⟩, ⟨lab0, wt0⟩⟩ := p
        simp only [ekE, evT] at hrun hen hlk
        cases hq : lookM M2 (a, b) with
        | none =>
          have hnf := hide (unhide hne' (by rw [hq]; simp))
          rw [hq] at hlk
          clear hq
          simp only [Option.getD_none, Option.isSome_none] at hlk
          go_wp2_with fail
          go_ret
          exact ⟨ret_bool (unhide hnf).symm, (unhide hx2').trans (ext_self3 _ _ _ _)⟩
        | some q =>
          obtain ⟨lq, tq⟩ := q
          rw [hq] at hlk
          have hq' := hide hq
          clear hq
          simp only [Option.getD_some, Option.isSome_some] at hlk
          by_cases hh : lq = lab0 ∧ tq = wt0
          · obtain ⟨rfl, rfl⟩ := hh
            go_wp2_with fail
            go_roundw
            case rel => exact ⟨_, _, unhide hpd', unhide hgo' (unhide hq'), (unhide hit2').ext (ext_self3 _ _ _ _), (unhide hx2').trans (ext_self3 _ _ _ _)⟩
            case measure =>
              rw [((unhide hit2').ext (ext_self3 _ _ _ _)).left_eq, unhide hlt']
              simp
          · have hnf := hide (unhide hne' (by rw [unhide hq']; simpa using hh))
            have hh' : ¬ (lab0 = lq ∧ wt0 = tq) := fun h => hh ⟨h.1.symm, h.2.symm⟩
            have hh2 := hide hh'
            clear hh hh'
            go_wp2_with fail
            all_goals first
              | (go_ret; exact ⟨ret_bool (unhide hnf).symm, (unhide hx2').trans (ext_self3 _ _ _ _)⟩)
              | (exfalso; have h := unhide hh2; simp_all; done)
  · have hres : eqBE M1 M2 = false := by unfold eqBE; rw [decide_eq_false hl, Bool.false_and]
    have hres' := hide hres
    have hb : ((M1.length : Int) != (M2.length : Int)) = true := by simp; omega
    clear hres hl h1 h2
    have hself := Ext.refl w
    go_enter Try.func48, Try.ntmps48
    go_wp2_with fail
    go_ret
    exact ⟨ret_bool (unhide hres').symm, Ext.refl _⟩

theorem sub_perm {α : Type} [DecidableEq α] : ∀ (M1 M2 : List α), M1.Nodup → M1 ⊆ M2 → M2.length ≤ M1.length → M1.Perm M2
  | [], M2, _, _, h => by
    have : M2 = [] := List.eq_nil_of_length_eq_zero (by simpa using h)
    rw [this]
  | a :: l, M2, hn, hs, h => by
    obtain ⟨h1, h2⟩ := List.nodup_cons.1 hn
    have ha : a ∈ M2 := hs List.mem_cons_self
    have hp := List.perm_cons_erase ha
    have hl := hp.length_eq
    simp only [List.length_cons] at hl h
    refine ((sub_perm l (M2.erase a) h2 (fun x hx => ?_) (by omega)).cons a).trans hp.symm
    refine (List.mem_erase_of_ne ?_).2 (hs (List.mem_cons_of_mem _ hx))
    rintro rfl
    exact h1 hx
theorem eqB_plain {κ τ : Type} [DecidableEq κ] [DecidableEq τ] {lt : κ × τ → κ × τ → Prop} (hirr : ∀ a b, lt a b → ¬ lt b a) {M1 M2 S1 S2 : List (κ × τ)} (hn1 : (M1.map (·.1)).Nodup) (hn2 : (M2.map (·.1)).Nodup) (p1 : S1.Perm M1) (p2 : S2.Perm M2) (s1 : S1.Pairwise lt) (s2 : S2.Pairwise lt) :
    (decide (M1.length = M2.length) && M1.all fun p => decide (lookM M2 p.1 = some p.2)) = decide (S1 = S2) := by
  rw [Bool.eq_iff_iff]
  simp only [Bool.and_eq_true, decide_eq_true_eq, List.all_eq_true]
  constructor
  · rintro ⟨hl, ha⟩
    have hsub : M1 ⊆ M2 := fun p hp => (lookM_some hn2).1 (ha p hp)
    have hnd1 : M1.Nodup := (List.pairwise_map.1 hn1).imp fun h e => h (by rw [e])
    have hp : M1.Perm M2 := sub_perm M1 M2 hnd1 hsub (by omega)
    exact ((p1.trans hp).trans p2.symm).eq_of_pairwise (fun a b _ _ h1 h2 => absurd h2 (hirr a b h1)) s1 s2
  · rintro rfl
    have hp : M1.Perm M2 := p1.symm.trans p2
    exact ⟨hp.length_eq, fun p hm => (lookM_some hn2).2 (hp.mem_iff.1 hm)⟩
theorem IsG.eqV {w : World} {g1 v1 e1 g2 v2 e2 : Nat} {V1 V2 V1' V2' : List (Int × Thing)} {E1' E2' : List ((Int × Int) × Thing)} (h1 : GraphAt w g1 v1 e1 V1' E1') (h2 : GraphAt w g2 v2 e2 V2' E2') (p1 : V1.Perm V1') (p2 : V2.Perm V2') (s1 : V1.Pairwise ltV) (s2 : V2.Pairwise ltV) : eqBV V1' V2' = decide (V1 = V2) :=
  eqB_plain (fun a b h h' => by unfold ltV at h h'; omega) h1.vs.nodup h2.vs.nodup p1 p2 s1 s2
theorem IsG.eqE {w : World} {g1 v1 e1 g2 v2 e2 : Nat} {V1' V2' : List (Int × Thing)} {E1 E2 E1' E2' : List ((Int × Int) × Thing)} (h1 : GraphAt w g1 v1 e1 V1' E1') (h2 : GraphAt w g2 v2 e2 V2' E2') (p1 : E1.Perm E1') (p2 : E2.Perm E2') (s1 : E1.Pairwise ltE) (s2 : E2.Pairwise ltE) : eqBE E1' E2' = decide (E1 = E2) :=
  eqB_plain (fun a b h h' => by unfold ltE at h h'; omega) h1.es.nodup h2.es.nodup p1 p2 s1 s2

set_option maxRecDepth 100000 in
set_option maxHeartbeats 4000000 in
theorem equal_any (g1 v1 e1 g2 v2 e2 : Nat) (V1 V2 : List (Int × Thing)) (E1 E2 : List ((Int × Int) × Thing)) (w : World) (h1 : IsG w g1 v1 e1 V1 E1) (h2 : IsG w g2 v2 e2 V2 E2) :
    Calls Try.prog 21 #[.pointer (some ⟨g1, 0, none⟩), .pointer (some ⟨g2, 0, none⟩)] w fun e w' => e = .returned (.bool (decide (V1 = V2) && decide (E1 = E2))) ∧ Ext w w' := by
  obtain ⟨V1', E1', k1, p1, q1, i1⟩ := h1
  obtain ⟨V2', E2', k2, p2, q2, i2⟩ := h2
  have hqV := hide (IsG.eqV k1 k2 p1 p2 i1.sv i2.sv)
  have hqE := hide (IsG.eqE k1 k2 q1 q2 i1.se i2.se)
  have c0 := k1.ptr0
  have c1 := k1.ptr1
  have d0 := k2.ptr0
  have d1 := k2.ptr1
  have m1 := hide k1.vs
  have m2 := hide k2.vs
  have n1 := hide k1.es
  have n2 := hide k2.es
  clear k1 k2 p1 p2 q1 q2 i1 i2
  cases hv : decide (V1 = V2)
  · rw [hv] at hqV
    clear hv
    go_enter Try.func21, Try.ntmps21
    go_wp2_with fail
    refine wp_region_ext (P := Try.prog) [0,1,2,3,4,5,6,7,8,9,10,11,12,13,14,15,16,17,18,19,20] [] 0 #[true,true,true,true,true,true,true,true,true,true,true,true,true,true,true,true,true,true,true,true,true] (by kernel_rfl) (by kernel_rfl) rfl (by rfl) ?_
    iterate 10
      refine ql_want (v := ?_) rfl (by rfl) (fun W hW => ?_) ?_
      rotate_left
      · go_simp
        first | done | rfl | (go_at_call 47; refine (meqV_any v1 v2 V1' V2' _ ((unhide m1).ext hW) ((unhide m2).ext hW)).mono ?_; rw [unhide hqV]; rintro _ _ ⟨h1, h2⟩; refine ⟨_, h1, ?_, h2⟩; rfl)
      go_frame
    iterate 9
      refine ql_skip rfl (by rfl) ?_
      go_frame
    iterate 2
      refine ql_want (v := ?_) rfl (by rfl) (fun W hW => ?_) ?_
      rotate_left
      · go_simp
        first | done | rfl
      go_frame
    refine wpQL_nil (fun w3 hx3 => ?_)
    refine wpX_done (by kernel_rfl) ?_
    try go_frame
    go_wp2_with fail
    go_ret
    exact ⟨rfl, hx3⟩
  · rw [hv] at hqV
    clear hv
    go_enter Try.func21, Try.ntmps21
    go_wp2_with fail
    refine wp_region_ext (P := Try.prog) [0,1,2,3,4,5,6,7,8,9,10,11,12,13,14,15,16,17,18,19,20] [] 0 #[true,true,true,true,true,true,true,true,true,true,true,true,true,true,true,true,true,true,true,true,true] (by kernel_rfl) (by kernel_rfl) rfl (by rfl) ?_
    iterate 21
      refine ql_want (v := ?_) rfl (by rfl) (fun W hW => ?_) ?_
      rotate_left
      · go_simp
        first | done | rfl | (go_at_call 47; refine (meqV_any v1 v2 V1' V2' _ ((unhide m1).ext hW) ((unhide m2).ext hW)).mono ?_; rw [unhide hqV]; rintro _ _ ⟨h1, h2⟩; refine ⟨_, h1, ?_, h2⟩; rfl) | (go_at_call 48; refine (meqE_any e1 e2 E1' E2' _ ((unhide n1).ext hW) ((unhide n2).ext hW)).mono ?_; rw [unhide hqE]; rintro _ _ ⟨h1, h2⟩; refine ⟨_, h1, ?_, h2⟩; rfl)
      go_frame
    refine wpQL_nil (fun w3 hx3 => ?_)
    refine wpX_done (by kernel_rfl) ?_
    try go_frame
    go_wp2_with fail
    go_ret
    exact ⟨rfl, hx3⟩

theorem equal_self (g1 v1 e1 g2 v2 e2 : Nat) (V : List (Int × Thing)) (E : List ((Int × Int) × Thing)) (w : World) (h1 : IsG w g1 v1 e1 V E) (h2 : IsG w g2 v2 e2 V E) :
    Calls Try.prog 21 #[.pointer (some ⟨g1, 0, none⟩), .pointer (some ⟨g2, 0, none⟩)] w fun e w' => e = .returned (.bool true) ∧ Ext w w' := by
  have h := equal_any g1 v1 e1 g2 v2 e2 V V E E w h1 h2
  simpa using h
end Go.Proofs.Ytdkhondfahebnaa
/- graph.Vertices, graph.Edges by a graph's sorted lists. Conditions: see each theorem. -/
namespace Go.Proofs.Ytdkhondfahebnaa
open Go Go.RowKit

theorem vertices_rel (g bv be : Nat) (V : List (Int × Thing)) (E : List ((Int × Int) × Thing)) (w : World) (hg : IsG w g bv be V E) :
    Calls Try.prog 23 #[.pointer (some ⟨g, 0, none⟩)] w fun e w' => ∃ A c, e = .returned (.slice A V.length c) ∧ w'.ownsRow w.heap.size 44 3 (.slice A V.length c) V.length (V.flatMap encV) ∧ Ext w w' := by
  have n1 := hg.nV
  obtain ⟨V', E', h1, hV, hE, hi⟩ := hg
  refine (vertices_any g bv be V' E' V w h1 hV hi.sv (by rw [← hV.length_eq]; exact n1)).mono fun e w' ⟨v, he, ho, hx⟩ => ?_
  obtain ⟨A, c, rfl⟩ := own_slice ho
  exact ⟨A, c, he, ho, hx⟩
theorem edges_rel (g bv be : Nat) (V : List (Int × Thing)) (E : List ((Int × Int) × Thing)) (w : World) (hg : IsG w g bv be V E) :
    Calls Try.prog 24 #[.pointer (some ⟨g, 0, none⟩)] w fun e w' => ∃ A c, e = .returned (.slice A E.length c) ∧ w'.ownsRow w.heap.size 47 4 (.slice A E.length c) E.length (E.flatMap encE) ∧ Ext w w' := by
  have n1 := hg.nE
  obtain ⟨V', E', h1, hV, hE, hi⟩ := hg
  refine (edges_any g bv be V' E' E w h1 hE hi.se (by rw [← hE.length_eq]; exact n1)).mono fun e w' ⟨v, he, ho, hx⟩ => ?_
  obtain ⟨A, c, rfl⟩ := own_slice ho
  exact ⟨A, c, he, ho, hx⟩

end Go.Proofs.Ytdkhondfahebnaa
