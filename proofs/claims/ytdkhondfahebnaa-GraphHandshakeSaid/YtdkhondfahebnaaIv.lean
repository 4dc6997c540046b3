/- graph.Inverse: the edits that undo an edit. Conditions: see each theorem. -/
import Derived.Test.YtdkhondfahebnaaFr
import Derived.Test.YtdkhondfahebnaaEq
import Derived.Test.YtdkhondfahebnaaVr
namespace Go.Proofs.Ytdkhondfahebnaa
open Go Go.RowKit
attribute [local go_sem] qUpon lUpon

theorem wrong_rel (g bv be : Nat) (V : List (Int × Thing)) (E : List ((Int × Int) × Thing)) (op u v lab wt : Int) (w : World) (hg : IsG w g bv be V E) (hu : i64ok u) (hv : i64ok v) :
    Calls Try.prog 45 #[.pointer (some ⟨g, 0, none⟩), .agg #[.int .i64 op, .int .i64 u, .int .i64 v, .int .u8 lab, .int .i64 wt]] w fun e w' => e = .returned (.int .i64 (wrongR op u v wt V E)) ∧ Ext w w' := by
  obtain ⟨V', E', h1, hV, hE, hi⟩ := hg
  have h := wrong_err g bv be V' E' op u v lab wt w h1 hu hv
  rw [err_eq op u v wt hV hE hi] at h
  exact h
theorem IsG.lookV {w : World} {g bv be : Nat} {V : List (Int × Thing)} {E : List ((Int × Int) × Thing)} (h : IsG w g bv be V E) {x : Int} (hx : i64ok x) : ∀ W, Ext w W → ∃ bv', W.cell? ⟨g, 0, none⟩ = some (.map (some bv')) ∧ bv' = bv ∧ (Instr.lookup 87 (.map (some bv)) (.int .i64 x) false).run Try.prog W = .ok (evT ((lookM V x).getD (0, 0))) W := by
  intro W hW
  obtain ⟨V', E', h1, hV, hE, hi⟩ := h
  refine ⟨bv, h1.ptr0 W hW, rfl, ?_⟩
  rw [lookM_perm (sv_nodup hi.sv) hV]
  exact (h1.vs.ext hW).lookup1 keV Try.underlying87 (zeroT W) hx
theorem IsG.ptr0 {w : World} {g bv be : Nat} {V : List (Int × Thing)} {E : List ((Int × Int) × Thing)} (h : IsG w g bv be V E) : ∀ W, Ext w W → W.cell? ⟨g, 0, none⟩ = some (.map (some bv)) := by
  obtain ⟨V', E', h1, _⟩ := h
  exact h1.ptr0
theorem IsG.ptr1 {w : World} {g bv be : Nat} {V : List (Int × Thing)} {E : List ((Int × Int) × Thing)} (h : IsG w g bv be V E) : ∀ W, Ext w W → W.cell? ⟨g, 1, none⟩ = some (.map (some be)) := by
  obtain ⟨V', E', h1, _⟩ := h
  exact h1.ptr1
theorem IsG.look1 {w : World} {g bv be : Nat} {V : List (Int × Thing)} {E : List ((Int × Int) × Thing)} (h : IsG w g bv be V E) {x : Int} (hx : i64ok x) : ∀ W, Ext w W → (Instr.lookup 87 (.map (some bv)) (.int .i64 x) false).run Try.prog W = .ok (evT ((lookM V x).getD (0, 0))) W := by
  intro W hW
  obtain ⟨V', E', h1, hV, hE, hi⟩ := h
  rw [lookM_perm (sv_nodup hi.sv) hV]
  exact (h1.vs.ext hW).lookup1 keV Try.underlying87 (zeroT W) hx
theorem IsG.look2 {w : World} {g bv be : Nat} {V : List (Int × Thing)} {E : List ((Int × Int) × Thing)} (h : IsG w g bv be V E) {x : Int × Int} (hx : okE x) : ∀ W, Ext w W → (Instr.lookup 88 (.map (some be)) (.agg #[.int .i64 x.1, .int .i64 x.2]) false).run Try.prog W = .ok (evT ((lookM E x).getD (0, 0))) W := by
  intro W hW
  obtain ⟨V', E', h1, hV, hE, hi⟩ := h
  rw [lookM_perm (se_nodup hi.se) hE]
  exact (h1.es.ext hW).lookup1 keE Try.underlying88 (zeroT W) hx

/-- the edits that put an edge back -/
def bkE (u : Int) (e : (Int × Int) × Thing) : List Ed := if (e.1.1 == u || e.1.2 == u) = true then [(2, (e.1.1, (e.1.2, (e.2.1, e.2.2))))] else []
/-- the edits that undo an edit, out of what the vertex and the edge bear -/
def invT (op u lo hi : Int) (tv te : Thing) (E : List ((Int × Int) × Thing)) : List Ed :=
  if op = 0 then [(1, (u, (0, (0, 0))))] else if op = 1 then (0, (u, (0, (tv.1, tv.2)))) :: E.flatMap (bkE u) else if op = 2 then [(3, (lo, (hi, (0, 0))))] else if op = 3 then [(2, (lo, (hi, (te.1, te.2))))]
  else if op = 4 then [(4, (u, (0, (tv.1, 0))))] else if op = 5 then [(5, (u, (0, (0, tv.2))))] else if op = 6 then [(6, (lo, (hi, (te.1, 0))))] else [(7, (lo, (hi, (0, te.2))))]
def invS (op u v : Int) (V : List (Int × Thing)) (E : List ((Int × Int) × Thing)) : List Ed := invT op u (min u v) (max u v) ((lookM V u).getD (0, 0)) ((lookM E (min u v, max u v)).getD (0, 0)) E

theorem one_encD (d : Ed) : ∀ v ∈ encD d, v.oneCell' = true := by
  intro v hv
  simp [encD] at hv
  rcases hv with rfl | rfl | rfl | rfl | rfl <;> rfl
/-- a slice made of one element -/
theorem slAt_blk {α : Type} {enc : α → List Value} {k : Nat} {w : World} {b : Nat} {T : TypeId} {x : α} (h : Blk w b T (enc x).toArray) : SlAt enc k w (some ⟨b, 0, none⟩) [x] := fun _ => by
  refine ⟨b, 0, rfl, h.lt, fun i y hy j u hu => ?_⟩
  match i, hy with
  | 0, hy =>
    simp at hy
    subst hy
    have := h.cell j
    rw [show 0 + 0 * k + j = j by omega, this]
    simpa using hu
theorem own_blk {w : World} {base b : Nat} {T : TypeId} {x : Ed} (h : Blk w b T (encD x).toArray) (hb : base ≤ b) : w.ownsRow base T 5 (.slice (some ⟨b, 0, none⟩) 1 1) 1 ([x].flatMap encD) :=
  ⟨by simp [encD], .inr ⟨b, 1, _, rfl, hb, h, by omega, by unfold maxLen; omega, by simp [encD], by simp [encD]⟩⟩
theorem flat_le' {α β : Type} {f : α → List β} (h : ∀ x, (f x).length ≤ 1) : ∀ l : List α, (l.flatMap f).length ≤ l.length
  | [] => by simp
  | x :: r => by
    rw [List.flatMap_cons, List.length_append, List.length_cons]
    have := h x
    have := flat_le' h r
    omega
def InvPost (l : List Ed) (w : World) (e : Ending) (w' : World) : Prop := ∃ A c, e = .returned (.tuple #[.slice A l.length c, .int .i64 0]) ∧ SlAt encD 5 w' A l ∧ Ext w w'

theorem wp_abs_calls {P : Program} {f : FuncId} {args : Array Value} {w1 : World} {Q : Ending → World → Prop} (I : World → Prop) (h1 : I w1) (h : ∀ W, I W → Calls P f args W Q) : Calls P f args w1 Q := h w1 h1
theorem own_grown {wr w2 w' : World} {b1 b2 T1 T2 k1 k2 n1 n2 : Nat} {v1 v2 : Value} {xs1 xs2 : List Value} (h1 : wr.ownsRow b1 T1 k1 v1 n1 xs1) (h2 : wr.ownsRow b2 T2 k2 v2 n2 xs2) (hT : T1 ≠ T2) (hx : Ext wr w2) (hg : w2.grownBy w' v1.ownBlock) : w'.ownsRow b2 T2 k2 v2 n2 xs2 := by
  have h22 := own_ext h2 hx
  have hk : Keep v1.ownBlock.toList w2 w' := ⟨hg.os, hg.tape, hg.output, hg.size, fun i hi hne => hg.block i hi (by
    intro e
    rw [← e] at hne
    simp at hne)⟩
  refine own_keep h22 hk fun g hgm e => ?_
  have e1 : v1.ownBlock = some g := by simpa using hgm
  obtain ⟨_, _, c1, hc1⟩ := own_base h1 e1
  obtain ⟨_, _, c2, hc2⟩ := own_base h2 e
  rw [hc1] at hc2
  injection hc2 with hc2
  injection hc2 with _ hc3
  exact hT hc3
theorem infoGD : (Try.prog.info? 33).map (fun i => (i.zero.map (·.cells.size), i.size, i.bytes)) = some (some 5, 5, 40) := by kernel_rfl
theorem bkE_len (u : Int) (l : List ((Int × Int) × Thing)) : (l.flatMap (bkE u)).length ≤ l.length := flat_le' (fun x => by unfold bkE; split <;> simp) l

set_option maxRecDepth 100000 in
set_option maxHeartbeats 4000000 in
theorem inverse_no (g bv be : Nat) (V : List (Int × Thing)) (E : List ((Int × Int) × Thing)) (op u v lab wt : Int) (w : World) (hg : IsG w g bv be V E) (hu : i64ok u) (hv : i64ok v) (h0 : wrongR op u v wt V E ≠ 0) :
    Calls Try.prog 25 #[.pointer (some ⟨g, 0, none⟩), .agg #[.int .i64 op, .int .i64 u, .int .i64 v, .int .u8 lab, .int .i64 wt]] w fun e w' => e = .returned (.tuple #[.slice none 0 0, .int .i64 (wrongR op u v wt V E)]) ∧ Ext w w' := by
  have hg' := hide (hg.ext (ext_self1 w (.cells #[.int .i64 op, .int .i64 u, .int .i64 v, .int .u8 lab, .int .i64 wt] 33)))
  have hb := bne0 h0
  generalize hno : wrongR op u v wt V E = no at *
  have hno' := hide hno
  clear hg h0 hno
  go_enter Try.func25, Try.ntmps25
  go_wp2_with fail
  refine (wrong_rel g bv be V E op u v lab wt _ (unhide hg') hu hv).mono ?_
  rw [unhide hno']
  rintro e w1 ⟨rfl, hx1⟩
  have hx1' := hide hx1
  clear hx1
  go_wp2_with fail
  go_ret2
  exact ⟨rfl, (ext_self1 _ _).trans (unhide hx1')⟩

set_option maxRecDepth 100000 in
set_option maxHeartbeats 8000000 in
theorem inverse_yes (g bv be : Nat) (V : List (Int × Thing)) (E : List ((Int × Int) × Thing)) (op u v lab wt : Int) (w : World) (hg : IsG w g bv be V E) (hu : i64ok u) (hv : i64ok v) (h0 : wrongR op u v wt V E = 0) :
    Calls Try.prog 25 #[.pointer (some ⟨g, 0, none⟩), .agg #[.int .i64 op, .int .i64 u, .int .i64 v, .int .u8 lab, .int .i64 wt]] w (InvPost (invS op u v V E) w) := by
  have hop' := hide (wrongR_0_iff h0).1
  have hg' := hide (hg.ext (ext_self1 w (.cells #[.int .i64 op, .int .i64 u, .int .i64 v, .int .u8 lab, .int .i64 wt] 33)))
  have hb' := hide (Blk.new w 33 #[.int .i64 op, .int .i64 u, .int .i64 v, .int .u8 lab, .int .i64 wt])
  have h0' := hide h0
  have hmm' := hide (mm_ok hu hv)
  have hu' := hide hu
  have hv' := hide hv
  generalize hlo : min u v = lo at *
  generalize hhi : max u v = hi at *
  have hlh := hide (And.intro hlo hhi)
  clear hg h0 hlo hhi
  go_enter Try.func25, Try.ntmps25
  go_wp2_with fail
  refine (wrong_rel g bv be V E op u v lab wt _ (unhide hg') (unhide hu') (unhide hv')).mono ?_
  rw [unhide h0']
  rintro e w1 ⟨rfl, hx1⟩
  have hb1 := (unhide hb').ext hx1
  have e1 := hb1.cells 1 (v := .int .i64 u) rfl
  have e2 := hb1.cells 2 (v := .int .i64 v) rfl
  have hg1 := hide ((unhide hg').ext hx1)
  have hb1' := hide hb1
  have hx1' := hide ((ext_self1 _ _).trans hx1)
  have hself := Ext.refl w1
  clear hg' hb' hb1 hx1
  go_wp2_with fail
  refine (between_any _ _ _).mono ?_
  rw [(unhide hlh).1, (unhide hlh).2]
  rintro e w2 ⟨rfl, hx2⟩
  have hg2 := hide ((unhide hg1).ext hx2)
  have hb2' := hide ((unhide hb1').ext hx2)
  have hx2' := hide ((unhide hx1').trans hx2)
  clear hg1 hb1' hx1' hself e1 e2 hx2
  go_wp2_with fail
  refine wp_abs (fun W => Ext w2 W ∧ Blk W w2.heap.size 103 #[.int .i64 lo, .int .i64 hi]) ⟨ext_self1 _ _, Blk.new w2 _ _⟩ ?_
  rintro w3 ⟨hx3, hb7⟩
  generalize w2.heap.size = b7 at *
  have hg3 := (unhide hg2).ext hx3
  have hb3 := (unhide hb2').ext hx3
  have hx3' := hide ((unhide hx2').trans hx3)
  have e1 := hb3.cells 1 (v := .int .i64 u) rfl
  have g0 := hg3.ptr0
  have g1 := hg3.ptr1
  have q0 := hb7.cells 0 (v := .int .i64 lo) rfl
  have q1 := hb7.cells 1 (v := .int .i64 hi) rfl
  have lk1 := hg3.look1 (unhide hu')
  have lk2 := hg3.look2 (x := (lo, hi)) (unhide hmm')
  have hinv : invS op u v V E = invT op u lo hi ((lookM V u).getD (0, 0)) ((lookM E (lo, hi)).getD (0, 0)) E := by
    unfold invS
    rw [(unhide hlh).1, (unhide hlh).2]
  have hinv' := hide hinv
  clear hinv
  generalize (lookM V u).getD (0, 0) = tv at *
  generalize (lookM E (lo, hi)).getD (0, 0) = te at *
  obtain ⟨tl, tw⟩ := tv
  obtain ⟨sl, sw⟩ := te
  have hg3' := hide hg3
  have hb3' := hide hb3
  have hb7' := hide hb7
  simp only [evT] at lk1 lk2
  clear hg3 hb3 hb7 hg2 hb2' hx2' hx3 hlh hmm' hu' hv' h0'
  refine wp_region_still (P := Try.prog) [0,1,2,3,4,5,6,7,8,9,10,11,12] [] 4 #[true,true,true,true,true,true,true,true,true,true,true,true,true,false,false,false,false] (by kernel_rfl) (by kernel_rfl) rfl (by rfl) ?_
  iterate 13
    refine ql_want (v := ?_) rfl (by rfl) (fun W hW => ?_) ?_
    rotate_left
    · go_simp
      first | done | rfl
    go_frame
  refine wpQL_nil ?_
  refine p1_two eq_ext _ _ 13 14 15 16 8 9 100 100 #[.int .u8 0, .int .i64 0] #[.int .u8 0, .int .i64 0] (.tmp 32) (.tmp 38) (evT (tl, tw)) (evT (sl, sw)) _
      #[true,true,true,true,true,true,true,true,true,true,true,true,true,true,false,false,false] #[true,true,true,true,true,true,true,true,true,true,true,true,true,false,true,false,false] #[true,true,true,true,true,true,true,true,true,true,true,true,true,true,true,false,false] #[true,true,true,true,true,true,true,true,true,true,true,true,true,true,true,true,false] #[true,true,true,true,true,true,true,true,true,true,true,true,true,true,true,true,true]
      (by kernel_rfl) (by kernel_rfl) (by kernel_rfl) (by kernel_rfl) (by kernel_rfl) (by kernel_rfl) (by rfl) (by rfl) (by rfl) (by rfl) (by rfl) (by rfl) rfl rfl rfl rfl
      ⟨rfl, rfl, by intro ρ w; go_simp⟩ ⟨rfl, rfl, by intro ρ w; go_simp⟩ ⟨rfl, rfl, rfl⟩ ⟨rfl, rfl, rfl⟩ (by simp) rfl rfl rfl rfl (sizeThing) (sizeThing) (one_evT _) (one_evT _) ?_
  clear e1 g0 g1 q0 q1 lk1 lk2
  intro b8 b9 w4 hx4 n5 n6 n56 hb8 hb9
  clear n5 n6 n56
  go_frame
  have e0 := ((unhide hb3').ext hx4).cells 0 (v := .int .i64 op) rfl
  have e1 := ((unhide hb3').ext hx4).cells 1 (v := .int .i64 u) rfl
  have q0 := ((unhide hb7').ext hx4).cells 0 (v := .int .i64 lo) rfl
  have q1 := ((unhide hb7').ext hx4).cells 1 (v := .int .i64 hi) rfl
  have r0 := hb8.cells 0 (v := .int .u8 tl) rfl
  have r1 := hb8.cells 1 (v := .int .i64 tw) rfl
  have s0 := hb9.cells 0 (v := .int .u8 sl) rfl
  have s1 := hb9.cells 1 (v := .int .i64 sw) rfl
  have hg4 := hide ((unhide hg3').ext hx4)
  have hx4' := hide ((unhide hx3').trans hx4)
  have hself := Ext.refl w4
  clear hb8 hb9 hx4 hg3' hb3' hb7' hx3'
  rcases unhide hop' with rfl | rfl | rfl | rfl | rfl | rfl | rfl | rfl
  · go_wp2_with fail
    go_ret2
    unfold InvPost
    rw [unhide hinv', show invT 0 u lo hi (tl, tw) (sl, sw) E = [(1, (u, (0, (0, 0))))] by simp [invT]]
    exact ⟨_, 1, rfl, slAt_blk (Blk.new w4 _ _), (unhide hx4').trans (ext_self1 _ _)⟩
  · go_wp2_with fail
    have hB := Blk.new w4 33 (encD (0, (u, (0, (tl, tw))))).toArray
    refine wp_abs_calls (fun W => Ext w4 W ∧ Blk W w4.heap.size 33 (encD (0, (u, (0, (tl, tw))))).toArray) ⟨ext_self1 _ _, hB⟩ ?_
    rintro w5 ⟨hx5, hB5⟩
    have hrow := own_blk hB5 (Nat.le_refl w4.heap.size)
    have hrow' := hide hrow
    clear hrow hB hB5
    refine (edges_rel g bv be V E _ ((unhide hg4).ext hx5)).mono ?_
    rintro e w6 ⟨Ae, ce, rfl, ho6, hx6⟩
    have hx46 := hide (hx5.trans hx6)
    have hrow6 := hide (own_ext (unhide hrow') hx6)
    have ho6' := hide ho6
    have nE := (unhide hg4).inv.ne
    clear hrow' ho6 hx6 hx5 e0 q0 q1 r0 r1 s0 s1 hself
    go_wp2_with fail
    go_loopw [10, 60] (fun l i wr => ∃ (k : Nat) (vs : Value) (o : List Ed), k ≤ E.length ∧ i = .int .i64 k ∧ vs = l ∧ o = (0, (u, (0, (tl, tw)))) :: (E.take k).flatMap (bkE u) ∧ wr.ownsRow w4.heap.size 33 5 vs o.length (o.flatMap encD) ∧ wr.ownsRow w5.heap.size 47 4 (.slice Ae E.length ce) E.length (E.flatMap encE) ∧ Ext w4 wr) (fun _ i _ => E.length - (intOf i).toNat)
    case atStart => exact ⟨0, _, [(0, (u, (0, (tl, tw))))], Nat.zero_le _, rfl, rfl, rfl, unhide hrow6, unhide ho6', unhide hx46⟩
    case round =>
      obtain ⟨k, vs, o, hk, rfl, hl3, ho, hown, hoE, hx⟩ := hrel
      subst hl3
      have hown' := hide hown
      have hoE' := hide hoE
      have hx' := hide hx
      have ho' := hide ho
      have hol' := hide (show o.length ≤ 100000 by
        rw [ho, List.length_cons]
        have := bkE_len u (E.take k)
        rw [List.length_take] at this
        omega)
      clear hown hoE hrow6 ho6' hx46 ho
      by_cases hlt : k < E.length
      · obtain ⟨b0, off, rfl, c0, c1, c2, c3⟩ := atE (own_at (unhide hoE') (fun _ => rfl)) hlt
        have hst := hide (fun (o2 : List Ed) (h : bkE u E[k] = o2) => (show o ++ o2 = (0, (u, (0, (tl, tw)))) :: (E.take (k + 1)).flatMap (bkE u) by rw [unhide ho', List.take_succ_eq_append_getElem hlt, List.flatMap_append, ← h]; simp))
        generalize hy : E[k] = y at c0 c1 c2 c3 hst
        obtain ⟨⟨a, b⟩, ⟨l, t⟩⟩ := y
        clear hy
        simp only at c0 c1 c2 c3
        have hst1 := hide (fun h => unhide hst [(2, (a, (b, (l, t))))] h)
        have hst0 := hide (fun h => unhide hst [] h)
        clear hst
        by_cases ha : a = u
        · subst ha
          go_wp2_with (at_builtin; refine wp_ap infoGD Try.underlying22 one_encD (fun _ => rfl) (by decide) (by decide) (wr.alloc (.cells #[.int .i64 a, .int .i64 b, .int .u8 l, .int .i64 t] 47)) rfl _ _ rfl w4.heap.size vs o.length o (2, (a, (b, (l, t)))) rfl (wr.heap.size + 1) _ (by rfl) (by simp) (by rfl) (by rfl) (own_ext (unhide hown') (ext_self1 _ _)) (unhide hol') (Nat.le_trans (Below.size (unhide hx')) (Below.size (ext_self1 _ _))) ?_; intro A1 k1 w8 ho8 hg8; have hx8 := hide (app_step (unhide hx') (unhide hown') (ext_self2 _ _ _) hg8); have hoE8 := hide (own_grown (unhide hown') (unhide hoE') (by decide) (ext_self2 _ _ _) hg8); have ho8' := hide ho8; clear ho8 hg8)
          go_roundw
          case rel => exact ⟨k + 1, _, o ++ [(2, (a, (b, (l, t))))], by omega, by go_num, rfl, unhide hst1 (by simp [bkE]), by have h := unhide ho8'; simpa using h, unhide hoE8, unhide hx8⟩
          case measure => simp [intOf]; omega

        · have hA : (a == u) = false := by simpa using ha
          by_cases hb : b = u
          · subst hb
            go_wp2_with (at_builtin; refine wp_ap infoGD Try.underlying22 one_encD (fun _ => rfl) (by decide) (by decide) (wr.alloc (.cells #[.int .i64 a, .int .i64 b, .int .u8 l, .int .i64 t] 47)) rfl _ _ rfl w4.heap.size vs o.length o (2, (a, (b, (l, t)))) rfl (wr.heap.size + 1) _ (by rfl) (by simp) (by rfl) (by rfl) (own_ext (unhide hown') (ext_self1 _ _)) (unhide hol') (Nat.le_trans (Below.size (unhide hx')) (Below.size (ext_self1 _ _))) ?_; intro A1 k1 w8 ho8 hg8; have hx8 := hide (app_step (unhide hx') (unhide hown') (ext_self2 _ _ _) hg8); have hoE8 := hide (own_grown (unhide hown') (unhide hoE') (by decide) (ext_self2 _ _ _) hg8); have ho8' := hide ho8; clear ho8 hg8)
            go_roundw
            case rel => exact ⟨k + 1, _, o ++ [(2, (a, (b, (l, t))))], by omega, by go_num, rfl, unhide hst1 (by simp [bkE]), by have h := unhide ho8'; simpa using h, unhide hoE8, unhide hx8⟩
            case measure => simp [intOf]; omega

          · have hab := hide (And.intro ha hb)
            have hB : (b == u) = false := by simpa using hb
            clear ha hb
            go_wp2_with fail
            go_roundw
            case rel => exact ⟨k + 1, _, o, by omega, by go_num, rfl, by have h := unhide hst0 (by simp [bkE, (unhide hab).1, (unhide hab).2]); simpa using h, own_ext (unhide hown') (ext_self1 _ _), own_ext (unhide hoE') (ext_self1 _ _), (unhide hx').trans (ext_self1 _ _)⟩
            case measure => simp [intOf]; omega
      · have hkE : k = E.length := by omega
        subst hkE
        obtain ⟨A9, k9, rfl⟩ := own_slice (unhide hown')
        go_wp2_with fail
        go_ret2
        unfold InvPost
        rw [unhide hinv', show invT 1 u lo hi (tl, tw) (sl, sw) E = o by rw [unhide ho', List.take_length]; simp [invT]]
        exact ⟨A9, k9, rfl, own_at (unhide hown') (fun _ => rfl), (unhide hx4').trans (unhide hx')⟩
  · go_wp2_with fail
    go_ret2
    unfold InvPost
    rw [unhide hinv', show invT 2 u lo hi (tl, tw) (sl, sw) E = [(3, (lo, (hi, (0, 0))))] by simp [invT]]
    exact ⟨_, 1, rfl, slAt_blk (Blk.new w4 _ _), (unhide hx4').trans (ext_self1 _ _)⟩
  · go_wp2_with fail
    go_ret2
    unfold InvPost
    rw [unhide hinv', show invT 3 u lo hi (tl, tw) (sl, sw) E = [(2, (lo, (hi, (sl, sw))))] by simp [invT]]
    exact ⟨_, 1, rfl, slAt_blk (Blk.new w4 _ _), (unhide hx4').trans (ext_self1 _ _)⟩
  · go_wp2_with fail
    go_ret2
    unfold InvPost
    rw [unhide hinv', show invT 4 u lo hi (tl, tw) (sl, sw) E = [(4, (u, (0, (tl, 0))))] by simp [invT]]
    exact ⟨_, 1, rfl, slAt_blk (Blk.new w4 _ _), (unhide hx4').trans (ext_self1 _ _)⟩
  · go_wp2_with fail
    go_ret2
    unfold InvPost
    rw [unhide hinv', show invT 5 u lo hi (tl, tw) (sl, sw) E = [(5, (u, (0, (0, tw))))] by simp [invT]]
    exact ⟨_, 1, rfl, slAt_blk (Blk.new w4 _ _), (unhide hx4').trans (ext_self1 _ _)⟩
  · go_wp2_with fail
    go_ret2
    unfold InvPost
    rw [unhide hinv', show invT 6 u lo hi (tl, tw) (sl, sw) E = [(6, (lo, (hi, (sl, 0))))] by simp [invT]]
    exact ⟨_, 1, rfl, slAt_blk (Blk.new w4 _ _), (unhide hx4').trans (ext_self1 _ _)⟩
  · go_wp2_with fail
    go_ret2
    unfold InvPost
    rw [unhide hinv', show invT 7 u lo hi (tl, tw) (sl, sw) E = [(7, (lo, (hi, (0, sw))))] by simp [invT]]
    exact ⟨_, 1, rfl, slAt_blk (Blk.new w4 _ _), (unhide hx4').trans (ext_self1 _ _)⟩
end Go.Proofs.Ytdkhondfahebnaa
