/- maps.Equal, graph.Equal. Conditions: see each theorem. -/
import Derived.Test.YtdkhondfahebnaaGk
namespace Go.Proofs.Ytdkhondfahebnaa
open Go Go.RowKit
attribute [local go_sem] qUpon lUpon

def eqBV (M1 M2 : List (Int × Thing)) : Bool := decide (M1.length = M2.length) && M1.all fun p => decide (lookM M2 p.1 = some p.2)
set_option maxRecDepth 100000 in
set_option maxHeartbeats 4000000 in
theorem meqV_any (b1 b2 : Nat) (M1 M2 : List (Int × Thing)) (w : World) (h1 : MapIs ekV evT i64ok w b1 M1) (h2 : MapIs ekV evT i64ok w b2 M2) :
    Calls Try.prog 47 #[.map (some b1), .map (some b2)] w fun e w' => e = .returned (.bool (eqBV M1 M2)) ∧ Ext w w' := by
  have l1 := fun (W : World) (hW : Ext w W) => (h1.ext hW).len Try.underlying87
  have l2 := fun (W : World) (hW : Ext w W) => (h2.ext hW).len Try.underlying87
  by_cases hl : M1.length = M2.length
  · rw [← hl] at l2
    obtain ⟨w1, hrun, hit, hx1, hs1⟩ := h1.range Try.underlying87
    have hb1 := h1.lt
    have hb2 := h2.lt
    have h2' := hide h2
    have hit' := hide hit
    have hx1' := hide hx1
    have hl' := hide hl
    clear h1 h2 hit hs1 hl hx1
    go_enter Try.func47, Try.ntmps47
    have hself := Ext.refl w
    go_wp2_with fail
    clear hrun l1 l2 hself
    try go_frame
    generalize hr : w.heap.size = r at *
    have hr' := hide hr
    clear hr
    go_loopw [] (fun wr => ∃ done left : List (Int × Thing), M1.Perm (done ++ left) ∧ (∀ p ∈ done, lookM M2 p.1 = some p.2) ∧ IterIs ekV evT i64ok wr r b1 M1 left ∧ Ext w wr) (fun wr => wr.rangeLeft b1 r)
    case atStart => exact ⟨[], M1, List.Perm.refl _, by simp, unhide hit', unhide hx1'⟩
    case round =>
      obtain ⟨done, left, hpd, hdn, hit, hxr⟩ := hrel
      have hlt := hit.left_eq
      rcases hit.next (P := Try.prog) 0 with ⟨hl0, hrun⟩ | ⟨p, l1, l2, w2, hl0, hrun, hit2, hk2, hs2, hen⟩
      · have hrun : ∀ ty, (Instr.next (.pointer (some ⟨r, 0, none⟩)) false ty).run Try.prog wr = .ok (.tuple #[.bool false]) wr := fun _ => hrun
        subst hl0
        rw [List.append_nil] at hpd
        have hres : eqBV M1 M2 = true := by
          unfold eqBV
          rw [decide_eq_true (unhide hl'), Bool.true_and, List.all_eq_true]
          exact fun p hp => decide_eq_true (hdn p (hpd.mem_iff.1 hp))
        have hres' := hide hres
        have hxr' := hide hxr
        clear hit hlt hpd hdn hres hit' hxr
        go_wp2_with fail
        go_ret
        exact ⟨ret_bool (unhide hres').symm, unhide hxr'⟩
      · have hrun : ∀ ty, (Instr.next (.pointer (some ⟨r, 0, none⟩)) false ty).run Try.prog wr = .ok (.tuple #[.bool true, ekV p.1, evT p.2]) w2 := fun _ => hrun
        subst hl0
        have hpm : p ∈ M1 := hpd.mem_iff.2 (by simp)
        have hokp : i64ok p.1 := hit.map.okk p hpm
        have hx2 : Ext w w2 := hxr.of_new hk2 (by have := unhide hr'; simp; omega)
        have hm2 := (unhide h2').ext hx2
        have hlk := fun (W : World) (hW : Ext w2 W) => (hm2.ext hW).lookup2 keV Try.underlying87 (zeroT W) hokp
        have hne : lookM M2 p.1 ≠ some p.2 → eqBV M1 M2 = false := fun hq => by
          unfold eqBV
          rw [Bool.and_eq_false_iff]
          exact .inr (Bool.eq_false_iff.2 fun ha => hq (of_decide_eq_true (List.all_eq_true.1 ha p hpm)))
        have hgo : lookM M2 p.1 = some p.2 → ∀ q ∈ done ++ [p], lookM M2 q.1 = some q.2 := fun hq q hm => by
          rcases List.mem_append.1 hm with h | h
          · exact hdn q h
          · rw [List.mem_singleton.1 h]; exact hq
        have hpd2 : M1.Perm ((done ++ [p]) ++ (l1 ++ l2)) := hpd.trans (by
          rw [List.append_assoc]
          exact List.Perm.append_left _ (List.perm_middle))
        have hpd' := hide hpd2
        have hgo' := hide hgo
        have hne' := hide hne
        have hit2' := hide hit2
        have hx2' := hide hx2
        have hlt' := hide hlt
        have hself := Ext.refl w2
        clear hit hlt hpd hdn hpm hokp hm2 hne hgo hpd2 hit2 hx2 hxr hit'
        obtain ⟨a, ⟨lab0, wt0⟩⟩ := p
        simp only [ekV, evT] at hrun hen hlk
        cases hq : lookM M2 a with
        | none =>
          have hnf := hide (unhide hne' (by rw [hq]; simp))
          rw [hq] at hlk
          clear hq
          simp only [Option.getD_none, Option.isSome_none] at hlk
          go_wp2_with fail
          go_ret
          exact ⟨ret_bool (unhide hnf).symm, (unhide hx2').trans (ext_self2 _ _ _)⟩
        | some q =>
          obtain ⟨lq, tq⟩ := q
          rw [hq] at hlk
          have hq' := hide hq
          clear hq
          simp only [Option.getD_some, Option.isSome_some] at hlk
          by_cases hh : lq = lab0 ∧ tq = wt0
          · obtain ⟨rfl, rfl⟩ := hh
            go_wp2_with fail
            go_roundw
            case rel => exact ⟨_, _, unhide hpd', unhide hgo' (unhide hq'), (unhide hit2').ext (ext_self2 _ _ _), (unhide hx2').trans (ext_self2 _ _ _)⟩
            case measure =>
              rw [((unhide hit2').ext (ext_self2 _ _ _)).left_eq, unhide hlt']
              simp
          · have hnf := hide (unhide hne' (by rw [unhide hq']; simpa using hh))
            have hh' : ¬ (lab0 = lq ∧ wt0 = tq) := fun h => hh ⟨h.1.symm, h.2.symm⟩
            have hh2 := hide hh'
            clear hh hh'
            go_wp2_with fail
            all_goals first
              | (go_ret; exact ⟨ret_bool (unhide hnf).symm, (unhide hx2').trans (ext_self2 _ _ _)⟩)
              | (exfalso; have h := unhide hh2; simp_all; done)
  · have hres : eqBV M1 M2 = false := by unfold eqBV; rw [decide_eq_false hl, Bool.false_and]
    have hres' := hide hres
    have hb : ((M1.length : Int) != (M2.length : Int)) = true := by simp; omega
    clear hres hl h1 h2
    have hself := Ext.refl w
    go_enter Try.func47, Try.ntmps47
    go_wp2_with fail
    go_ret
    exact ⟨ret_bool (unhide hres').symm, Ext.refl _⟩

def eqBE (M1 M2 : List ((Int × Int) × Thing)) : Bool := decide (M1.length = M2.length) && M1.all fun p => decide (lookM M2 p.1 = some p.2)
set_option maxRecDepth 100000 in
set_option maxHeartbeats 4000000 in
theorem meqE_any (b1 b2 : Nat) (M1 M2 : List ((Int × Int) × Thing)) (w : World) (h1 : MapIs ekE evT okE w b1 M1) (h2 : MapIs ekE evT okE w b2 M2) :
    Calls Try.prog 48 #[.map (some b1), .map (some b2)] w fun e w' => e = .returned (.bool (eqBE M1 M2)) ∧ Ext w w' := by
  have l1 := fun (W : World) (hW : Ext w W) => (h1.ext hW).len Try.underlying88
  have l2 := fun (W : World) (hW : Ext w W) => (h2.ext hW).len Try.underlying88
  by_cases hl : M1.length = M2.length
  · rw [← hl] at l2
    obtain ⟨w1, hrun, hit, hx1, hs1⟩ := h1.range Try.underlying88
    have hb1 := h1.lt
    have hb2 := h2.lt
    have h2' := hide h2
    have hit' := hide hit
    have hx1' := hide hx1
    have hl' := hide hl
    clear h1 h2 hit hs1 hl hx1
    go_enter Try.func48, Try.ntmps48
    have hself := Ext.refl w
    go_wp2_with fail
    clear hrun l1 l2 hself
    try go_frame
    generalize hr : w.heap.size = r at *
    have hr' := hide hr
    clear hr
    go_loopw [] (fun wr => ∃ done left : List ((Int × Int) × Thing), M1.Perm (done ++ left) ∧ (∀ p ∈ done, lookM M2 p.1 = some p.2) ∧ IterIs ekE evT okE wr r b1 M1 left ∧ Ext w wr) (fun wr => wr.rangeLeft b1 r)
    case atStart => exact ⟨[], M1, List.Perm.refl _, by simp, unhide hit', unhide hx1'⟩
    case round =>
      obtain ⟨done, left, hpd, hdn, hit, hxr⟩ := hrel
      have hlt := hit.left_eq
      rcases hit.next (P := Try.prog) 0 with ⟨hl0, hrun⟩ | ⟨p, l1, l2, w2, hl0, hrun, hit2, hk2, hs2, hen⟩
      · have hrun : ∀ ty, (Instr.next (.pointer (some ⟨r, 0, none⟩)) false ty).run Try.prog wr = .ok (.tuple #[.bool false]) wr := fun _ => hrun
        subst hl0
        rw [List.append_nil] at hpd
        have hres : eqBE M1 M2 = true := by
          unfold eqBE
          rw [decide_eq_true (unhide hl'), Bool.true_and, List.all_eq_true]
          exact fun p hp => decide_eq_true (hdn p (hpd.mem_iff.1 hp))
        have hres' := hide hres
        have hxr' := hide hxr
        clear hit hlt hpd hdn hres hit' hxr
        go_wp2_with fail
        go_ret
        exact ⟨ret_bool (unhide hres').symm, unhide hxr'⟩
      · have hrun : ∀ ty, (Instr.next (.pointer (some ⟨r, 0, none⟩)) false ty).run Try.prog wr = .ok (.tuple #[.bool true, ekE p.1, evT p.2]) w2 := fun _ => hrun
        subst hl0
        have hpm : p ∈ M1 := hpd.mem_iff.2 (by simp)
        have hokp : okE p.1 := hit.map.okk p hpm
        have hx2 : Ext w w2 := hxr.of_new hk2 (by have := unhide hr'; simp; omega)
        have hm2 := (unhide h2').ext hx2
        have hlk := fun (W : World) (hW : Ext w2 W) => (hm2.ext hW).lookup2 keE Try.underlying88 (zeroT W) hokp
        have hne : lookM M2 p.1 ≠ some p.2 → eqBE M1 M2 = false := fun hq => by
          unfold eqBE
          rw [Bool.and_eq_false_iff]
          exact .inr (Bool.eq_false_iff.2 fun ha => hq (of_decide_eq_true (List.all_eq_true.1 ha p hpm)))
        have hgo : lookM M2 p.1 = some p.2 → ∀ q ∈ done ++ [p], lookM M2 q.1 = some q.2 := fun hq q hm => by
          rcases List.mem_append.1 hm with h | h
          · exact hdn q h
          · rw [List.mem_singleton.1 h]; exact hq
        have hpd2 : M1.Perm ((done ++ [p]) ++ (l1 ++ l2)) := hpd.trans (by
          rw [List.append_assoc]
          exact List.Perm.append_left _ (List.perm_middle))
        have hpd' := hide hpd2
        have hgo' := hide hgo
        have hne' := hide hne
        have hit2' := hide hit2
        have hx2' := hide hx2
        have hlt' := hide hlt
        have hself := Ext.refl w2
        clear hit hlt hpd hdn hpm hokp hm2 hne hgo hpd2 hit2 hx2 hxr hit'
        obtain ⟨⟨a, b⟩, ⟨lab0, wt0⟩⟩ := p
        simp only [ekE, evT] at hrun hen hlk
        cases hq : lookM M2 (a, b) with
        | none =>
          have hnf := hide (unhide hne' (by rw [hq]; simp))
          rw [hq] at hlk
          clear hq
          simp only [Option.getD_none, Option.isSome_none] at hlk
          go_wp2_with fail
          go_ret
          exact ⟨ret_bool (unhide hnf).symm, (unhide hx2').trans (ext_self3 _ _ _ _)⟩
        | some q =>
          obtain ⟨lq, tq⟩ := q
          rw [hq] at hlk
          have hq' := hide hq
          clear hq
          simp only [Option.getD_some, Option.isSome_some] at hlk
          by_cases hh : lq = lab0 ∧ tq = wt0
          · obtain ⟨rfl, rfl⟩ := hh
            go_wp2_with fail
            go_roundw
            case rel => exact ⟨_, _, unhide hpd', unhide hgo' (unhide hq'), (unhide hit2').ext (ext_self3 _ _ _ _), (unhide hx2').trans (ext_self3 _ _ _ _)⟩
            case measure =>
              rw [((unhide hit2').ext (ext_self3 _ _ _ _)).left_eq, unhide hlt']
              simp
          · have hnf := hide (unhide hne' (by rw [unhide hq']; simpa using hh))
            have hh' : ¬ (lab0 = lq ∧ wt0 = tq) := fun h => hh ⟨h.1.symm, h.2.symm⟩
            have hh2 := hide hh'
            clear hh hh'
            go_wp2_with fail
            all_goals first
              | (go_ret; exact ⟨ret_bool (unhide hnf).symm, (unhide hx2').trans (ext_self3 _ _ _ _)⟩)
              | (exfalso; have h := unhide hh2; simp_all; done)
  · have hres : eqBE M1 M2 = false := by unfold eqBE; rw [decide_eq_false hl, Bool.false_and]
    have hres' := hide hres
    have hb : ((M1.length : Int) != (M2.length : Int)) = true := by simp; omega
    clear hres hl h1 h2
    have hself := Ext.refl w
    go_enter Try.func48, Try.ntmps48
    go_wp2_with fail
    go_ret
    exact ⟨ret_bool (unhide hres').symm, Ext.refl _⟩

theorem sub_perm {α : Type} [DecidableEq α] : ∀ (M1 M2 : List α), M1.Nodup → M1 ⊆ M2 → M2.length ≤ M1.length → M1.Perm M2
  | [], M2, _, _, h => by
    have : M2 = [] := List.eq_nil_of_length_eq_zero (by simpa using h)
    rw [this]
  | a :: l, M2, hn, hs, h => by
    obtain ⟨h1, h2⟩ := List.nodup_cons.1 hn
    have ha : a ∈ M2 := hs List.mem_cons_self
    have hp := List.perm_cons_erase ha
    have hl := hp.length_eq
    simp only [List.length_cons] at hl h
    refine ((sub_perm l (M2.erase a) h2 (fun x hx => ?_) (by omega)).cons a).trans hp.symm
    refine (List.mem_erase_of_ne ?_).2 (hs (List.mem_cons_of_mem _ hx))
    rintro rfl
    exact h1 hx
theorem eqB_plain {κ τ : Type} [DecidableEq κ] [DecidableEq τ] {lt : κ × τ → κ × τ → Prop} (hirr : ∀ a b, lt a b → ¬ lt b a) {M1 M2 S1 S2 : List (κ × τ)} (hn1 : (M1.map (·.1)).Nodup) (hn2 : (M2.map (·.1)).Nodup) (p1 : S1.Perm M1) (p2 : S2.Perm M2) (s1 : S1.Pairwise lt) (s2 : S2.Pairwise lt) :
    (decide (M1.length = M2.length) && M1.all fun p => decide (lookM M2 p.1 = some p.2)) = decide (S1 = S2) := by
  rw [Bool.eq_iff_iff]
  simp only [Bool.and_eq_true, decide_eq_true_eq, List.all_eq_true]
  constructor
  · rintro ⟨hl, ha⟩
    have hsub : M1 ⊆ M2 := fun p hp => (lookM_some hn2).1 (ha p hp)
    have hnd1 : M1.Nodup := (List.pairwise_map.1 hn1).imp fun h e => h (by rw [e])
    have hp : M1.Perm M2 := sub_perm M1 M2 hnd1 hsub (by omega)
    exact ((p1.trans hp).trans p2.symm).eq_of_pairwise (fun a b _ _ h1 h2 => absurd h2 (hirr a b h1)) s1 s2
  · rintro rfl
    have hp : M1.Perm M2 := p1.symm.trans p2
    exact ⟨hp.length_eq, fun p hm => (lookM_some hn2).2 (hp.mem_iff.1 hm)⟩
theorem IsG.eqV {w : World} {g1 v1 e1 g2 v2 e2 : Nat} {V1 V2 V1' V2' : List (Int × Thing)} {E1' E2' : List ((Int × Int) × Thing)} (h1 : GraphAt w g1 v1 e1 V1' E1') (h2 : GraphAt w g2 v2 e2 V2' E2') (p1 : V1.Perm V1') (p2 : V2.Perm V2') (s1 : V1.Pairwise ltV) (s2 : V2.Pairwise ltV) : eqBV V1' V2' = decide (V1 = V2) :=
  eqB_plain (fun a b h h' => by unfold ltV at h h'; omega) h1.vs.nodup h2.vs.nodup p1 p2 s1 s2
theorem IsG.eqE {w : World} {g1 v1 e1 g2 v2 e2 : Nat} {V1' V2' : List (Int × Thing)} {E1 E2 E1' E2' : List ((Int × Int) × Thing)} (h1 : GraphAt w g1 v1 e1 V1' E1') (h2 : GraphAt w g2 v2 e2 V2' E2') (p1 : E1.Perm E1') (p2 : E2.Perm E2') (s1 : E1.Pairwise ltE) (s2 : E2.Pairwise ltE) : eqBE E1' E2' = decide (E1 = E2) :=
  eqB_plain (fun a b h h' => by unfold ltE at h h'; omega) h1.es.nodup h2.es.nodup p1 p2 s1 s2

set_option maxRecDepth 100000 in
set_option maxHeartbeats 4000000 in
theorem equal_any (g1 v1 e1 g2 v2 e2 : Nat) (V1 V2 : List (Int × Thing)) (E1 E2 : List ((Int × Int) × Thing)) (w : World) (h1 : IsG w g1 v1 e1 V1 E1) (h2 : IsG w g2 v2 e2 V2 E2) :
    Calls Try.prog 21 #[.pointer (some ⟨g1, 0, none⟩), .pointer (some ⟨g2, 0, none⟩)] w fun e w' => e = .returned (.bool (decide (V1 = V2) && decide (E1 = E2))) ∧ Ext w w' := by
  obtain ⟨V1', E1', k1, p1, q1, i1⟩ := h1
  obtain ⟨V2', E2', k2, p2, q2, i2⟩ := h2
  have hqV := hide (IsG.eqV k1 k2 p1 p2 i1.sv i2.sv)
  have hqE := hide (IsG.eqE k1 k2 q1 q2 i1.se i2.se)
  have c0 := k1.ptr0
  have c1 := k1.ptr1
  have d0 := k2.ptr0
  have d1 := k2.ptr1
  have m1 := hide k1.vs
  have m2 := hide k2.vs
  have n1 := hide k1.es
  have n2 := hide k2.es
  clear k1 k2 p1 p2 q1 q2 i1 i2
  cases hv : decide (V1 = V2)
  · rw [hv] at hqV
    clear hv
    go_enter Try.func21, Try.ntmps21
    go_wp2_with fail
    refine wp_region_ext (P := Try.prog) [0,1,2,3,4,5,6,7,8,9,10,11,12,13,14,15,16,17,18,19,20] [] 0 #[true,true,true,true,true,true,true,true,true,true,true,true,true,true,true,true,true,true,true,true,true] (by kernel_rfl) (by kernel_rfl) rfl (by rfl) ?_
    iterate 10
      refine ql_want (v := ?_) rfl (by rfl) (fun W hW => ?_) ?_
      rotate_left
      · go_simp
        first | done | rfl | (go_at_call 47; refine (meqV_any v1 v2 V1' V2' _ ((unhide m1).ext hW) ((unhide m2).ext hW)).mono ?_; rw [unhide hqV]; rintro _ _ ⟨h1, h2⟩; refine ⟨_, h1, ?_, h2⟩; rfl)
      go_frame
    iterate 9
      refine ql_skip rfl (by rfl) ?_
      go_frame
    iterate 2
      refine ql_want (v := ?_) rfl (by rfl) (fun W hW => ?_) ?_
      rotate_left
      · go_simp
        first | done | rfl
      go_frame
    refine wpQL_nil (fun w3 hx3 => ?_)
    refine wpX_done (by kernel_rfl) ?_
    try go_frame
    go_wp2_with fail
    go_ret
    exact ⟨rfl, hx3⟩
  · rw [hv] at hqV
    clear hv
    go_enter Try.func21, Try.ntmps21
    go_wp2_with fail
    refine wp_region_ext (P := Try.prog) [0,1,2,3,4,5,6,7,8,9,10,11,12,13,14,15,16,17,18,19,20] [] 0 #[true,true,true,true,true,true,true,true,true,true,true,true,true,true,true,true,true,true,true,true,true] (by kernel_rfl) (by kernel_rfl) rfl (by rfl) ?_
    iterate 21
      refine ql_want (v := ?_) rfl (by rfl) (fun W hW => ?_) ?_
      rotate_left
      · go_simp
        first | done | rfl | (go_at_call 47; refine (meqV_any v1 v2 V1' V2' _ ((unhide m1).ext hW) ((unhide m2).ext hW)).mono ?_; rw [unhide hqV]; rintro _ _ ⟨h1, h2⟩; refine ⟨_, h1, ?_, h2⟩; rfl) | (go_at_call 48; refine (meqE_any e1 e2 E1' E2' _ ((unhide n1).ext hW) ((unhide n2).ext hW)).mono ?_; rw [unhide hqE]; rintro _ _ ⟨h1, h2⟩; refine ⟨_, h1, ?_, h2⟩; rfl)
      go_frame
    refine wpQL_nil (fun w3 hx3 => ?_)
    refine wpX_done (by kernel_rfl) ?_
    try go_frame
    go_wp2_with fail
    go_ret
    exact ⟨rfl, hx3⟩

theorem equal_self (g1 v1 e1 g2 v2 e2 : Nat) (V : List (Int × Thing)) (E : List ((Int × Int) × Thing)) (w : World) (h1 : IsG w g1 v1 e1 V E) (h2 : IsG w g2 v2 e2 V E) :
    Calls Try.prog 21 #[.pointer (some ⟨g1, 0, none⟩), .pointer (some ⟨g2, 0, none⟩)] w fun e w' => e = .returned (.bool true) ∧ Ext w w' := by
  have h := equal_any g1 v1 e1 g2 v2 e2 V V E E w h1 h2
  simpa using h
end Go.Proofs.Ytdkhondfahebnaa
