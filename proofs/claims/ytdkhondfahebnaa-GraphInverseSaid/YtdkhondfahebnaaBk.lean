/- the reference's Back. Conditions: see each theorem. -/
import Derived.Test.YtdkhondfahebnaaIv
namespace Go.Proofs.Ytdkhondfahebnaa
open Go Go.RowKit
attribute [local go_sem] qUpon lUpon

theorem edge_at {u v : Int} {V : List (Int × Thing)} {E : List ((Int × Int) × Thing)} (hi : GInv V E) (h : hasE u v E = true) : ∃ (i : Nat) (hl : i < E.length), posI (isE (min u v) (max u v)) E = i ∧ E[i] = ((min u v, max u v), (lookM E (min u v, max u v)).getD (0, 0)) := by
  rw [hasE_look hi.lo, lookM_isSome] at h
  obtain ⟨p, hp, e⟩ := h
  obtain ⟨i, hl, rfl⟩ := List.getElem_of_mem hp
  refine ⟨i, hl, ?_, ?_⟩
  · have e1 : min (min u v) (max u v) = min u v := by omega
    have e2 : max (min u v) (max u v) = max u v := by omega
    have := (pos_iff (u := min u v) (v := max u v) hi.lo (se_nodup hi.se) (x := E[i]) (i := i) (List.mk_mem_zipIdx_iff_getElem?.2 (List.getElem?_eq_getElem hl))).2 (by rw [e1, e2]; exact e)
    exact this.symm
  · have h2 : lookM E (min u v, max u v) = some E[i].2 := (lookM_some (se_nodup hi.se)).2 (by rw [← e]; exact hp)
    rw [h2]
    exact Prod.ext e rfl
theorem vert_at {u : Int} {V : List (Int × Thing)} {E : List ((Int × Int) × Thing)} (hi : GInv V E) (h : hasV u V = true) : ∃ (i : Nat) (hl : i < V.length), posI (fun p => p.1 == u) V = i ∧ V[i] = (u, (lookM V u).getD (0, 0)) := by
  rw [hasV_look, lookM_isSome] at h
  obtain ⟨p, hp, e⟩ := h
  obtain ⟨i, hl, rfl⟩ := List.getElem_of_mem hp
  refine ⟨i, hl, posI_hit hl (by simpa using e) (fun j hj => ?_), ?_⟩
  · have hs := List.pairwise_iff_getElem.1 hi.sv j i (by omega) hl hj
    unfold ltV at hs
    simp
    omega
  · have h2 : lookM V u = some V[i].2 := (lookM_some (sv_nodup hi.sv)).2 (by rw [← e]; exact hp)
    rw [h2]
    exact Prod.ext e rfl

theorem infoRD : (Try.prog.info? 32).map (fun i => (i.zero.map (·.cells.size), i.size, i.bytes)) = some (some 5, 5, 40) := by kernel_rfl

set_option maxRecDepth 100000 in
set_option maxHeartbeats 4000000 in
theorem back_no (A B : Option Addr) (V : List (Int × Thing)) (E : List ((Int × Int) × Thing)) (cA cB : Nat) (op u v lab wt : Int) (w : World) (hV : SlAt encV 3 w A V) (hE : SlAt encE 4 w B E) (hi : GInv V E) (h0 : wrongR op u v wt V E ≠ 0) :
    Calls Try.prog 26 #[.agg #[.slice A V.length cA, .slice B E.length cB], .agg #[.int .i64 op, .int .i64 u, .int .i64 v, .int .u8 lab, .int .i64 wt]] w fun e w' => e = .returned (.tuple #[.slice none 0 0, .int .i64 (wrongR op u v wt V E)]) ∧ Ext w w' := by
  have hV' := hide hV
  have hE' := hide hE
  have nV := hi.nv
  have nE := hi.ne
  have hb := bne0 h0
  generalize hno : wrongR op u v wt V E = no at *
  have hno' := hide hno
  clear hV hE hi h0 hno
  go_enter Try.func26, Try.ntmps26
  go_wp2_with fail
  refine (rwrong_any A B V E cA cB op u v lab wt _ ((unhide hV').ext (ext_self2 _ _ _)) ((unhide hE').ext (ext_self2 _ _ _)) (by omega) (by omega)).mono ?_
  rw [unhide hno']
  rintro e w1 ⟨rfl, hx1⟩
  have hx1' := hide hx1
  clear hx1
  go_wp2_with fail
  go_ret2
  exact ⟨rfl, (ext_self2 _ _ _).trans (unhide hx1')⟩

set_option maxRecDepth 100000 in
set_option maxHeartbeats 16000000 in
theorem back_yes (A B : Option Addr) (V : List (Int × Thing)) (E : List ((Int × Int) × Thing)) (cA cB : Nat) (op u v lab wt : Int) (w : World) (hV : SlAt encV 3 w A V) (hE : SlAt encE 4 w B E) (hi : GInv V E) (h0 : wrongR op u v wt V E = 0) :
    Calls Try.prog 26 #[.agg #[.slice A V.length cA, .slice B E.length cB], .agg #[.int .i64 op, .int .i64 u, .int .i64 v, .int .u8 lab, .int .i64 wt]] w (InvPost (invS op u v V E) w) := by
  have hd' := hide (wrongR_0_iff h0)
  have hV' := hide hV
  have hE' := hide hE
  have hi' := hide hi
  have nV := hi.nv
  have nE := hi.ne
  have h0' := hide h0
  obtain ⟨hbG, hbD⟩ := blk2 w #[.slice A V.length cA, .slice B E.length cB] #[.int .i64 op, .int .i64 u, .int .i64 v, .int .u8 lab, .int .i64 wt] 28 32
  have hbG' := hide hbG
  have hbD' := hide hbD
  clear hV hE hi h0 hbG hbD
  go_enter Try.func26, Try.ntmps26
  go_wp2_with fail
  refine (rwrong_any A B V E cA cB op u v lab wt _ ((unhide hV').ext (ext_self2 _ _ _)) ((unhide hE').ext (ext_self2 _ _ _)) (by omega) (by omega)).mono ?_
  rw [unhide h0']
  rintro e w1 ⟨rfl, hx1⟩
  have hbG1 := (unhide hbG').ext hx1
  have hbD1 := (unhide hbD').ext hx1
  have hx1' := hide ((ext_self2 _ _ _).trans hx1)
  have a0 := hbG1.cells 0 (v := .slice A V.length cA) rfl
  have a1 := hbG1.cells 1 (v := .slice B E.length cB) rfl
  obtain ⟨e0, e1, e2, e3, e4⟩ := EditAt.of' hbD1
  have hself := Ext.refl w1
  clear hbG' hbD' hbG1 hbD1 hx1
  go_wp2_with fail
  refine wp_region_still (P := Try.prog) [0,1,2,3,4,5,6,7,8,9,10,11] [] 0 #[true,true,true,true,true,true,true,true,true,true,true,true] (by kernel_rfl) (by kernel_rfl) rfl (by rfl) ?_
  iterate 12
    refine ql_want (v := ?_) rfl (by rfl) (fun W hW => ?_) ?_
    rotate_left
    · go_simp
      first | done | rfl
    go_frame
  refine wpQL_nil (fun w2 hx2 => ?_)
  refine wpX_done (by kernel_rfl) ?_
  try go_frame
  have a0 := fun (W : World) (hW : Ext w2 W) => a0 W (hx2.trans hW)
  have a1 := fun (W : World) (hW : Ext w2 W) => a1 W (hx2.trans hW)
  have e0 := fun (W : World) (hW : Ext w2 W) => e0 W (hx2.trans hW)
  have e1 := fun (W : World) (hW : Ext w2 W) => e1 W (hx2.trans hW)
  have e2 := fun (W : World) (hW : Ext w2 W) => e2 W (hx2.trans hW)
  have e3 := fun (W : World) (hW : Ext w2 W) => e3 W (hx2.trans hW)
  have e4 := fun (W : World) (hW : Ext w2 W) => e4 W (hx2.trans hW)
  have hx2' := hide ((unhide hx1').trans hx2)
  have hself := Ext.refl w2
  clear hx1' hx2
  go_wp2_with fail
  rcases (unhide hd').1 with rfl | rfl | rfl | rfl | rfl | rfl | rfl | rfl
  · refine (pair_any 0 u v lab wt _).mono ?_
    rw [show pairsB 0 = false by decide]
    rintro e w3 ⟨rfl, hx3⟩
    have a0 := fun (W : World) (hW : Ext w3 W) => a0 W (hx3.trans hW)
    have a1 := fun (W : World) (hW : Ext w3 W) => a1 W (hx3.trans hW)
    have e0 := fun (W : World) (hW : Ext w3 W) => e0 W (hx3.trans hW)
    have e1 := fun (W : World) (hW : Ext w3 W) => e1 W (hx3.trans hW)
    have e2 := fun (W : World) (hW : Ext w3 W) => e2 W (hx3.trans hW)
    have e3 := fun (W : World) (hW : Ext w3 W) => e3 W (hx3.trans hW)
    have e4 := fun (W : World) (hW : Ext w3 W) => e4 W (hx3.trans hW)
    have hx3' := hide ((unhide hx2').trans hx3)
    have hself := Ext.refl w3
    clear hx2' hx3
    go_wp2_with fail
    go_ret2
    unfold InvPost
    rw [show invS 0 u v V E = [(1, (u, (0, (0, 0))))] by simp [invS, invT]]
    exact ⟨_, 1, rfl, slAt_blk (Blk.new w3 _ _), (unhide hx3').trans (ext_self1 _ _)⟩
  · refine (pair_any 1 u v lab wt _).mono ?_
    rw [show pairsB 1 = false by decide]
    rintro e w3 ⟨rfl, hx3⟩
    have a0 := fun (W : World) (hW : Ext w3 W) => a0 W (hx3.trans hW)
    have a1 := fun (W : World) (hW : Ext w3 W) => a1 W (hx3.trans hW)
    have e0 := fun (W : World) (hW : Ext w3 W) => e0 W (hx3.trans hW)
    have e1 := fun (W : World) (hW : Ext w3 W) => e1 W (hx3.trans hW)
    have e2 := fun (W : World) (hW : Ext w3 W) => e2 W (hx3.trans hW)
    have e3 := fun (W : World) (hW : Ext w3 W) => e3 W (hx3.trans hW)
    have e4 := fun (W : World) (hW : Ext w3 W) => e4 W (hx3.trans hW)
    have hx3' := hide ((unhide hx2').trans hx3)
    have hself := Ext.refl w3
    clear hx2' hx3
    go_wp2_with fail
    obtain ⟨i, hil, hpos, hVi⟩ := vert_at (unhide hi') ((unhide hd').2.2.2.2.1 (by decide))
    have hV3 := (unhide hV').ext (unhide hx3')
    obtain ⟨b, off, rfl, c0, c1, c2⟩ := atV hV3 hil
    rw [hVi] at c0 c1 c2
    simp only at c0 c1 c2
    generalize hte : (lookM V u).getD (0, 0) = te at *
    obtain ⟨tl, tw⟩ := te
    simp only at c1 c2
    have hV3' := hide hV3
    have hpos' := hide hpos
    have hte' := hide hte
    have hi0 : (0 : Int) ≤ (i : Int) := by omega
    have hi1 : (i : Int) < (V.length : Int) := by omega
    clear hV3 hpos hVi hte
    refine wp_region_ext (P := Try.prog) [0,1,2,3,4,5,6,7] [] 2 #[true,true,true,true,true,true,true,true,false,false] (by kernel_rfl) (by kernel_rfl) rfl (by rfl) ?_
    iterate 8
      refine ql_want (v := ?_) rfl (by rfl) (fun W hW => ?_) ?_
      rotate_left
      · go_simp
        first | done | rfl | ((go_at_call 30; refine (find_any (some ⟨b, off, none⟩) B V cA E.length cB u _ ((unhide hV3').ext hW) (by omega)).mono ?_; rw [unhide hpos']; rintro _ _ ⟨h1, h2⟩; refine ⟨_, h1, ?_, h2⟩; rfl))
      go_frame
    refine wpQL_nil (fun w4 hx4 => ?_)
    clear c0 c1 c2 hi0 hi1
    refine lx_one (i := 8) (by kernel_rfl) rfl (by rfl) #[true,true,true,true,true,true,true,true,true,false] (by rfl) ?_
    go_simp
    first | refine ⟨hx4.trans (ext_self1 _ _), ?_⟩ | skip
    intro w5 hx5
    have hb5 := (Blk.new w4 43 #[.int .i64 0, .int .u8 0, .int .i64 0]).ext hx5
    have hx45 := (ext_self1 w4 (.cells #[.int .i64 0, .int .u8 0, .int .i64 0] 43)).trans hx5
    have hn9 := Below.size hx4
    generalize w4.heap.size = b9 at *
    have s0 := hb5.cell 0
    have s1 := hb5.cell 1
    have s2 := hb5.cell 2
    have f0 := hb5.frozen 0
    have f1 := hb5.frozen 1
    have f2 := hb5.frozen 2
    simp at s0 s1 s2
    have hb5' := hide hb5
    clear hb5
    refine lx_one (i := 9) (by kernel_rfl) rfl (by rfl) #[true,true,true,true,true,true,true,true,true,true] (by rfl) ?_
    go_simp
    clear s0 s1 s2 f0 f1 f2
    have hb6 := (((unhide hb5').set 0 (.int .i64 u)).set 1 (.int .u8 tl)).set 2 (.int .i64 tw)
    have hk6 := ((Keep.setCell w5 b9 0 (.int .i64 u)).trans (Keep.setCell _ b9 1 (.int .u8 tl))).trans (Keep.setCell _ b9 2 (.int .i64 tw))
    simp only [List.setIfInBounds_toArray, List.set_cons_zero, List.set_cons_succ] at hb6
    have hx36 := (hx4.trans hx45).of_new hk6 (by simpa using hn9)
    generalize ((w5.setCell ⟨b9, 0, none⟩ (.int .i64 u)).setCell ⟨b9, 1, none⟩ (.int .u8 tl)).setCell ⟨b9, 2, none⟩ (.int .i64 tw) = w6 at *
    first | refine ⟨hx36, ?_⟩ | skip
    intro w7 hx7
    have hx37 := hx36.trans hx7
    have a0 := fun (W : World) (hW : Ext w7 W) => a0 W (hx37.trans hW)
    have a1 := fun (W : World) (hW : Ext w7 W) => a1 W (hx37.trans hW)
    have e0 := fun (W : World) (hW : Ext w7 W) => e0 W (hx37.trans hW)
    have e1 := fun (W : World) (hW : Ext w7 W) => e1 W (hx37.trans hW)
    have e2 := fun (W : World) (hW : Ext w7 W) => e2 W (hx37.trans hW)
    have e3 := fun (W : World) (hW : Ext w7 W) => e3 W (hx37.trans hW)
    have e4 := fun (W : World) (hW : Ext w7 W) => e4 W (hx37.trans hW)
    have r1 := (hb6.ext hx7).cells 1 (v := .int .u8 tl) rfl
    have r2 := (hb6.ext hx7).cells 2 (v := .int .i64 tw) rfl
    have hx7' := hide ((unhide hx3').trans hx37)
    have hself := Ext.refl w7
    clear hx3' hx4 hx5 hx45 hn9 hb5' hb6 hk6 hx36 hx7 hx37 hV3'
    refine wpX_done (by kernel_rfl) ?_
    try go_frame
    go_wp2_with fail
    have hrow := hide (own_blk (Blk.new w7 32 (encD (0, (u, (0, (tl, tw))))).toArray) (Nat.le_refl w7.heap.size))
    go_loopw [11, 12] (fun l i wr => ∃ (k : Nat) (vs : Value) (o : List Ed), k ≤ E.length ∧ i = .int .i64 k ∧ vs = l ∧ o = (0, (u, (0, (tl, tw)))) :: (E.take k).flatMap (bkE u) ∧ wr.ownsRow w7.heap.size 32 5 vs o.length (o.flatMap encD) ∧ Ext w7 wr) (fun _ i _ => E.length - (intOf i).toNat)
    case atStart => exact ⟨0, _, [(0, (u, (0, (tl, tw))))], Nat.zero_le _, rfl, rfl, rfl, unhide hrow, ext_self1 _ _⟩
    case round =>
      obtain ⟨k, vs, o, hk, rfl, hl3, ho, hown, hx⟩ := hrel
      subst hl3
      have hown' := hide hown
      have hx' := hide hx
      have ho' := hide ho
      have hol' := hide (show o.length ≤ 100000 by
        rw [ho, List.length_cons]
        have := bkE_len u (E.take k)
        rw [List.length_take] at this
        omega)
      clear hown hrow ho r1 r2 hself
      by_cases hlt : k < E.length
      · obtain ⟨b0, off0, rfl, c0, c1, c2, c3⟩ := atE ((unhide hE').ext ((unhide hx7').trans hx)) hlt
        have hst := hide (fun (o2 : List Ed) (h : bkE u E[k] = o2) => (show o ++ o2 = (0, (u, (0, (tl, tw)))) :: (E.take (k + 1)).flatMap (bkE u) by rw [unhide ho', List.take_succ_eq_append_getElem hlt, List.flatMap_append, ← h]; simp))
        generalize hy : E[k] = y at c0 c1 c2 c3 hst
        obtain ⟨⟨a, b'⟩, ⟨l, t⟩⟩ := y
        clear hy
        simp only at c0 c1 c2 c3
        have hst1 := hide (fun h => unhide hst [(2, (a, (b', (l, t))))] h)
        have hst0 := hide (fun h => unhide hst [] h)
        clear hst
        by_cases ha : a = u
        · subst ha
          go_wp2_with (at_builtin; refine wp_ap infoRD Try.underlying61 one_encD (fun _ => rfl) (by decide) (by decide) (wr.alloc (.cells #[.int .i64 a, .int .i64 b', .int .u8 l, .int .i64 t] 46)) rfl _ _ rfl w7.heap.size vs o.length o (2, (a, (b', (l, t)))) rfl (wr.heap.size + 1) _ (by rfl) (by simp) (by rfl) (by rfl) (own_ext (unhide hown') (ext_self1 _ _)) (unhide hol') (Nat.le_trans (Below.size (unhide hx')) (Below.size (ext_self1 _ _))) ?_; intro A1 k1 w8 ho8 hg8; have hx8 := hide (app_step (unhide hx') (unhide hown') (ext_self2 _ _ _) hg8); have ho8' := hide ho8; clear ho8 hg8)
          go_roundw
          case rel => exact ⟨k + 1, _, o ++ [(2, (a, (b', (l, t))))], by omega, by go_num, rfl, unhide hst1 (by simp [bkE]), by have h := unhide ho8'; simpa using h, unhide hx8⟩
          case measure => simp [intOf]; omega

        · have hA : (a == u) = false := by simpa using ha
          by_cases hb : b' = u
          · subst hb
            go_wp2_with (at_builtin; refine wp_ap infoRD Try.underlying61 one_encD (fun _ => rfl) (by decide) (by decide) (wr.alloc (.cells #[.int .i64 a, .int .i64 b', .int .u8 l, .int .i64 t] 46)) rfl _ _ rfl w7.heap.size vs o.length o (2, (a, (b', (l, t)))) rfl (wr.heap.size + 1) _ (by rfl) (by simp) (by rfl) (by rfl) (own_ext (unhide hown') (ext_self1 _ _)) (unhide hol') (Nat.le_trans (Below.size (unhide hx')) (Below.size (ext_self1 _ _))) ?_; intro A1 k1 w8 ho8 hg8; have hx8 := hide (app_step (unhide hx') (unhide hown') (ext_self2 _ _ _) hg8); have ho8' := hide ho8; clear ho8 hg8)
            go_roundw
            case rel => exact ⟨k + 1, _, o ++ [(2, (a, (b', (l, t))))], by omega, by go_num, rfl, unhide hst1 (by simp [bkE]), by have h := unhide ho8'; simpa using h, unhide hx8⟩
            case measure => simp [intOf]; omega

          · have hab := hide (And.intro ha hb)
            have hB : (b' == u) = false := by simpa using hb
            clear ha hb
            go_wp2_with fail
            go_roundw
            case rel => exact ⟨k + 1, _, o, by omega, by go_num, rfl, by have h := unhide hst0 (by simp [bkE, (unhide hab).1, (unhide hab).2]); simpa using h, own_ext (unhide hown') (ext_self1 _ _), (unhide hx').trans (ext_self1 _ _)⟩
            case measure => simp [intOf]; omega
      · have hkE : k = E.length := by omega
        subst hkE
        obtain ⟨A9, k9, rfl⟩ := own_slice (unhide hown')
        go_wp2_with fail
        go_ret2
        unfold InvPost
        rw [show invS 1 u v V E = o by rw [unhide ho', List.take_length]; simp [invS, invT, unhide hte']]
        exact ⟨A9, k9, rfl, own_at (unhide hown') (fun _ => rfl), (unhide hx7').trans hx⟩
  · refine (pair_any 2 u v lab wt _).mono ?_
    rw [show pairsB 2 = true by decide]
    rintro e w3 ⟨rfl, hx3⟩
    have a0 := fun (W : World) (hW : Ext w3 W) => a0 W (hx3.trans hW)
    have a1 := fun (W : World) (hW : Ext w3 W) => a1 W (hx3.trans hW)
    have e0 := fun (W : World) (hW : Ext w3 W) => e0 W (hx3.trans hW)
    have e1 := fun (W : World) (hW : Ext w3 W) => e1 W (hx3.trans hW)
    have e2 := fun (W : World) (hW : Ext w3 W) => e2 W (hx3.trans hW)
    have e3 := fun (W : World) (hW : Ext w3 W) => e3 W (hx3.trans hW)
    have e4 := fun (W : World) (hW : Ext w3 W) => e4 W (hx3.trans hW)
    have hx3' := hide ((unhide hx2').trans hx3)
    have hself := Ext.refl w3
    clear hx2' hx3
    go_wp2_with fail
    go_ret2
    unfold InvPost
    rw [show invS 2 u v V E = [(3, (min u v, (max u v, (0, 0))))] by simp [invS, invT]]
    exact ⟨_, 1, rfl, slAt_blk (Blk.new w3 _ _), (unhide hx3').trans (ext_self1 _ _)⟩
  · refine (pair_any 3 u v lab wt _).mono ?_
    rw [show pairsB 3 = true by decide]
    rintro e w3 ⟨rfl, hx3⟩
    have a0 := fun (W : World) (hW : Ext w3 W) => a0 W (hx3.trans hW)
    have a1 := fun (W : World) (hW : Ext w3 W) => a1 W (hx3.trans hW)
    have e0 := fun (W : World) (hW : Ext w3 W) => e0 W (hx3.trans hW)
    have e1 := fun (W : World) (hW : Ext w3 W) => e1 W (hx3.trans hW)
    have e2 := fun (W : World) (hW : Ext w3 W) => e2 W (hx3.trans hW)
    have e3 := fun (W : World) (hW : Ext w3 W) => e3 W (hx3.trans hW)
    have e4 := fun (W : World) (hW : Ext w3 W) => e4 W (hx3.trans hW)
    have hx3' := hide ((unhide hx2').trans hx3)
    have hself := Ext.refl w3
    clear hx2' hx3
    go_wp2_with fail
    obtain ⟨i, hil, hpos, hEi⟩ := edge_at (unhide hi') ((unhide hd').2.2.2.2.2.2 (by simp))
    have hE3 := (unhide hE').ext (unhide hx3')
    obtain ⟨b, off, rfl, c0, c1, c2, c3⟩ := atE hE3 hil
    rw [hEi] at c0 c1 c2 c3
    simp only at c0 c1 c2 c3
    generalize hte : (lookM E (min u v, max u v)).getD (0, 0) = te at *
    obtain ⟨sl, sw⟩ := te
    simp only at c2 c3
    have hE3' := hide hE3
    have hpos' := hide hpos
    have hte' := hide hte
    have hi0 : (0 : Int) ≤ (i : Int) := by omega
    have hi1 : (i : Int) < (E.length : Int) := by omega
    clear hE3 hpos hEi hte
    refine wp_region_ext (P := Try.prog) [0,1,2,3,4,5,6,7] [] 2 #[true,true,true,true,true,true,true,true,false,false] (by kernel_rfl) (by kernel_rfl) rfl (by rfl) ?_
    iterate 8
      refine ql_want (v := ?_) rfl (by rfl) (fun W hW => ?_) ?_
      rotate_left
      · go_simp
        first | done | rfl | ((go_at_call 31; refine (redge_any A (some ⟨b, off, none⟩) E V.length cA cB (min u v) (max u v) _ ((unhide hE3').ext hW) (by omega)).mono ?_; rw [unhide hpos']; rintro _ _ ⟨h1, h2⟩; refine ⟨_, h1, ?_, h2⟩; rfl))
      go_frame
    refine wpQL_nil (fun w4 hx4 => ?_)
    clear c0 c1 c2 c3 hi0 hi1
    refine lx_one (i := 8) (by kernel_rfl) rfl (by rfl) #[true,true,true,true,true,true,true,true,true,false] (by rfl) ?_
    go_simp
    first | refine ⟨hx4.trans (ext_self1 _ _), ?_⟩ | skip
    intro w5 hx5
    have hb5 := (Blk.new w4 46 #[.int .i64 0, .int .i64 0, .int .u8 0, .int .i64 0]).ext hx5
    have hx45 := (ext_self1 w4 (.cells #[.int .i64 0, .int .i64 0, .int .u8 0, .int .i64 0] 46)).trans hx5
    have hn9 := Below.size hx4
    generalize w4.heap.size = b9 at *
    have s0 := hb5.cell 0
    have s1 := hb5.cell 1
    have s2 := hb5.cell 2
    have s3 := hb5.cell 3
    have f0 := hb5.frozen 0
    have f1 := hb5.frozen 1
    have f2 := hb5.frozen 2
    have f3 := hb5.frozen 3
    simp at s0 s1 s2 s3
    have hb5' := hide hb5
    clear hb5
    refine lx_one (i := 9) (by kernel_rfl) rfl (by rfl) #[true,true,true,true,true,true,true,true,true,true] (by rfl) ?_
    go_simp
    clear s0 s1 s2 s3 f0 f1 f2 f3
    have hb6 := ((((unhide hb5').set 0 (.int .i64 (min u v))).set 1 (.int .i64 (max u v))).set 2 (.int .u8 sl)).set 3 (.int .i64 sw)
    have hk6 := (((Keep.setCell w5 b9 0 (.int .i64 (min u v))).trans (Keep.setCell _ b9 1 (.int .i64 (max u v)))).trans (Keep.setCell _ b9 2 (.int .u8 sl))).trans (Keep.setCell _ b9 3 (.int .i64 sw))
    simp only [List.setIfInBounds_toArray, List.set_cons_zero, List.set_cons_succ] at hb6
    have hx36 := (hx4.trans hx45).of_new hk6 (by simpa using hn9)
    generalize (((w5.setCell ⟨b9, 0, none⟩ (.int .i64 (min u v))).setCell ⟨b9, 1, none⟩ (.int .i64 (max u v))).setCell ⟨b9, 2, none⟩ (.int .u8 sl)).setCell ⟨b9, 3, none⟩ (.int .i64 sw) = w6 at *
    first | refine ⟨hx36, ?_⟩ | skip
    intro w7 hx7
    have hx37 := hx36.trans hx7
    have a0 := fun (W : World) (hW : Ext w7 W) => a0 W (hx37.trans hW)
    have a1 := fun (W : World) (hW : Ext w7 W) => a1 W (hx37.trans hW)
    have e0 := fun (W : World) (hW : Ext w7 W) => e0 W (hx37.trans hW)
    have e1 := fun (W : World) (hW : Ext w7 W) => e1 W (hx37.trans hW)
    have e2 := fun (W : World) (hW : Ext w7 W) => e2 W (hx37.trans hW)
    have e3 := fun (W : World) (hW : Ext w7 W) => e3 W (hx37.trans hW)
    have e4 := fun (W : World) (hW : Ext w7 W) => e4 W (hx37.trans hW)
    have r2 := (hb6.ext hx7).cells 2 (v := .int .u8 sl) rfl
    have r3 := (hb6.ext hx7).cells 3 (v := .int .i64 sw) rfl
    have hx7' := hide ((unhide hx3').trans hx37)
    have hself := Ext.refl w7
    clear hx3' hx4 hx5 hx45 hn9 hb5' hb6 hk6 hx36 hx7 hx37 hE3'
    refine wpX_done (by kernel_rfl) ?_
    try go_frame
    go_wp2_with fail
    go_ret2
    unfold InvPost
    rw [show invS 3 u v V E = [(2, (min u v, (max u v, (sl, sw))))] by simp [invS, invT, unhide hte']]
    exact ⟨_, 1, rfl, slAt_blk (Blk.new w7 _ _), (unhide hx7').trans (ext_self1 _ _)⟩
  · refine (pair_any 4 u v lab wt _).mono ?_
    rw [show pairsB 4 = false by decide]
    rintro e w3 ⟨rfl, hx3⟩
    have a0 := fun (W : World) (hW : Ext w3 W) => a0 W (hx3.trans hW)
    have a1 := fun (W : World) (hW : Ext w3 W) => a1 W (hx3.trans hW)
    have e0 := fun (W : World) (hW : Ext w3 W) => e0 W (hx3.trans hW)
    have e1 := fun (W : World) (hW : Ext w3 W) => e1 W (hx3.trans hW)
    have e2 := fun (W : World) (hW : Ext w3 W) => e2 W (hx3.trans hW)
    have e3 := fun (W : World) (hW : Ext w3 W) => e3 W (hx3.trans hW)
    have e4 := fun (W : World) (hW : Ext w3 W) => e4 W (hx3.trans hW)
    have hx3' := hide ((unhide hx2').trans hx3)
    have hself := Ext.refl w3
    clear hx2' hx3
    go_wp2_with fail
    obtain ⟨i, hil, hpos, hVi⟩ := vert_at (unhide hi') ((unhide hd').2.2.2.2.1 (by decide))
    have hV3 := (unhide hV').ext (unhide hx3')
    obtain ⟨b, off, rfl, c0, c1, c2⟩ := atV hV3 hil
    rw [hVi] at c0 c1 c2
    simp only at c0 c1 c2
    generalize hte : (lookM V u).getD (0, 0) = te at *
    obtain ⟨tl, tw⟩ := te
    simp only at c1 c2
    have hV3' := hide hV3
    have hpos' := hide hpos
    have hte' := hide hte
    have hi0 : (0 : Int) ≤ (i : Int) := by omega
    have hi1 : (i : Int) < (V.length : Int) := by omega
    clear hV3 hpos hVi hte
    refine wp_region_ext (P := Try.prog) [0,1,2,3,4,5,6,7] [] 2 #[true,true,true,true,true,true,true,true,false,false] (by kernel_rfl) (by kernel_rfl) rfl (by rfl) ?_
    iterate 8
      refine ql_want (v := ?_) rfl (by rfl) (fun W hW => ?_) ?_
      rotate_left
      · go_simp
        first | done | rfl | ((go_at_call 30; refine (find_any (some ⟨b, off, none⟩) B V cA E.length cB u _ ((unhide hV3').ext hW) (by omega)).mono ?_; rw [unhide hpos']; rintro _ _ ⟨h1, h2⟩; refine ⟨_, h1, ?_, h2⟩; rfl))
      go_frame
    refine wpQL_nil (fun w4 hx4 => ?_)
    clear c0 c1 c2 hi0 hi1
    refine lx_one (i := 8) (by kernel_rfl) rfl (by rfl) #[true,true,true,true,true,true,true,true,true,false] (by rfl) ?_
    go_simp
    first | refine ⟨hx4.trans (ext_self1 _ _), ?_⟩ | skip
    intro w5 hx5
    have hb5 := (Blk.new w4 43 #[.int .i64 0, .int .u8 0, .int .i64 0]).ext hx5
    have hx45 := (ext_self1 w4 (.cells #[.int .i64 0, .int .u8 0, .int .i64 0] 43)).trans hx5
    have hn9 := Below.size hx4
    generalize w4.heap.size = b9 at *
    have s0 := hb5.cell 0
    have s1 := hb5.cell 1
    have s2 := hb5.cell 2
    have f0 := hb5.frozen 0
    have f1 := hb5.frozen 1
    have f2 := hb5.frozen 2
    simp at s0 s1 s2
    have hb5' := hide hb5
    clear hb5
    refine lx_one (i := 9) (by kernel_rfl) rfl (by rfl) #[true,true,true,true,true,true,true,true,true,true] (by rfl) ?_
    go_simp
    clear s0 s1 s2 f0 f1 f2
    have hb6 := (((unhide hb5').set 0 (.int .i64 u)).set 1 (.int .u8 tl)).set 2 (.int .i64 tw)
    have hk6 := ((Keep.setCell w5 b9 0 (.int .i64 u)).trans (Keep.setCell _ b9 1 (.int .u8 tl))).trans (Keep.setCell _ b9 2 (.int .i64 tw))
    simp only [List.setIfInBounds_toArray, List.set_cons_zero, List.set_cons_succ] at hb6
    have hx36 := (hx4.trans hx45).of_new hk6 (by simpa using hn9)
    generalize ((w5.setCell ⟨b9, 0, none⟩ (.int .i64 u)).setCell ⟨b9, 1, none⟩ (.int .u8 tl)).setCell ⟨b9, 2, none⟩ (.int .i64 tw) = w6 at *
    first | refine ⟨hx36, ?_⟩ | skip
    intro w7 hx7
    have hx37 := hx36.trans hx7
    have a0 := fun (W : World) (hW : Ext w7 W) => a0 W (hx37.trans hW)
    have a1 := fun (W : World) (hW : Ext w7 W) => a1 W (hx37.trans hW)
    have e0 := fun (W : World) (hW : Ext w7 W) => e0 W (hx37.trans hW)
    have e1 := fun (W : World) (hW : Ext w7 W) => e1 W (hx37.trans hW)
    have e2 := fun (W : World) (hW : Ext w7 W) => e2 W (hx37.trans hW)
    have e3 := fun (W : World) (hW : Ext w7 W) => e3 W (hx37.trans hW)
    have e4 := fun (W : World) (hW : Ext w7 W) => e4 W (hx37.trans hW)
    have r1 := (hb6.ext hx7).cells 1 (v := .int .u8 tl) rfl
    have r2 := (hb6.ext hx7).cells 2 (v := .int .i64 tw) rfl
    have hx7' := hide ((unhide hx3').trans hx37)
    have hself := Ext.refl w7
    clear hx3' hx4 hx5 hx45 hn9 hb5' hb6 hk6 hx36 hx7 hx37 hV3'
    refine wpX_done (by kernel_rfl) ?_
    try go_frame
    go_wp2_with fail
    go_ret2
    unfold InvPost
    rw [show invS 4 u v V E = [(4, (u, (0, (tl, 0))))] by simp [invS, invT, unhide hte']]
    exact ⟨_, 1, rfl, slAt_blk (Blk.new w7 _ _), (unhide hx7').trans (ext_self1 _ _)⟩
  · refine (pair_any 5 u v lab wt _).mono ?_
    rw [show pairsB 5 = false by decide]
    rintro e w3 ⟨rfl, hx3⟩
    have a0 := fun (W : World) (hW : Ext w3 W) => a0 W (hx3.trans hW)
    have a1 := fun (W : World) (hW : Ext w3 W) => a1 W (hx3.trans hW)
    have e0 := fun (W : World) (hW : Ext w3 W) => e0 W (hx3.trans hW)
    have e1 := fun (W : World) (hW : Ext w3 W) => e1 W (hx3.trans hW)
    have e2 := fun (W : World) (hW : Ext w3 W) => e2 W (hx3.trans hW)
    have e3 := fun (W : World) (hW : Ext w3 W) => e3 W (hx3.trans hW)
    have e4 := fun (W : World) (hW : Ext w3 W) => e4 W (hx3.trans hW)
    have hx3' := hide ((unhide hx2').trans hx3)
    have hself := Ext.refl w3
    clear hx2' hx3
    go_wp2_with fail
    obtain ⟨i, hil, hpos, hVi⟩ := vert_at (unhide hi') ((unhide hd').2.2.2.2.1 (by decide))
    have hV3 := (unhide hV').ext (unhide hx3')
    obtain ⟨b, off, rfl, c0, c1, c2⟩ := atV hV3 hil
    rw [hVi] at c0 c1 c2
    simp only at c0 c1 c2
    generalize hte : (lookM V u).getD (0, 0) = te at *
    obtain ⟨tl, tw⟩ := te
    simp only at c1 c2
    have hV3' := hide hV3
    have hpos' := hide hpos
    have hte' := hide hte
    have hi0 : (0 : Int) ≤ (i : Int) := by omega
    have hi1 : (i : Int) < (V.length : Int) := by omega
    clear hV3 hpos hVi hte
    refine wp_region_ext (P := Try.prog) [0,1,2,3,4,5,6,7] [] 2 #[true,true,true,true,true,true,true,true,false,false] (by kernel_rfl) (by kernel_rfl) rfl (by rfl) ?_
    iterate 8
      refine ql_want (v := ?_) rfl (by rfl) (fun W hW => ?_) ?_
      rotate_left
      · go_simp
        first | done | rfl | ((go_at_call 30; refine (find_any (some ⟨b, off, none⟩) B V cA E.length cB u _ ((unhide hV3').ext hW) (by omega)).mono ?_; rw [unhide hpos']; rintro _ _ ⟨h1, h2⟩; refine ⟨_, h1, ?_, h2⟩; rfl))
      go_frame
    refine wpQL_nil (fun w4 hx4 => ?_)
    clear c0 c1 c2 hi0 hi1
    refine lx_one (i := 8) (by kernel_rfl) rfl (by rfl) #[true,true,true,true,true,true,true,true,true,false] (by rfl) ?_
    go_simp
    first | refine ⟨hx4.trans (ext_self1 _ _), ?_⟩ | skip
    intro w5 hx5
    have hb5 := (Blk.new w4 43 #[.int .i64 0, .int .u8 0, .int .i64 0]).ext hx5
    have hx45 := (ext_self1 w4 (.cells #[.int .i64 0, .int .u8 0, .int .i64 0] 43)).trans hx5
    have hn9 := Below.size hx4
    generalize w4.heap.size = b9 at *
    have s0 := hb5.cell 0
    have s1 := hb5.cell 1
    have s2 := hb5.cell 2
    have f0 := hb5.frozen 0
    have f1 := hb5.frozen 1
    have f2 := hb5.frozen 2
    simp at s0 s1 s2
    have hb5' := hide hb5
    clear hb5
    refine lx_one (i := 9) (by kernel_rfl) rfl (by rfl) #[true,true,true,true,true,true,true,true,true,true] (by rfl) ?_
    go_simp
    clear s0 s1 s2 f0 f1 f2
    have hb6 := (((unhide hb5').set 0 (.int .i64 u)).set 1 (.int .u8 tl)).set 2 (.int .i64 tw)
    have hk6 := ((Keep.setCell w5 b9 0 (.int .i64 u)).trans (Keep.setCell _ b9 1 (.int .u8 tl))).trans (Keep.setCell _ b9 2 (.int .i64 tw))
    simp only [List.setIfInBounds_toArray, List.set_cons_zero, List.set_cons_succ] at hb6
    have hx36 := (hx4.trans hx45).of_new hk6 (by simpa using hn9)
    generalize ((w5.setCell ⟨b9, 0, none⟩ (.int .i64 u)).setCell ⟨b9, 1, none⟩ (.int .u8 tl)).setCell ⟨b9, 2, none⟩ (.int .i64 tw) = w6 at *
    first | refine ⟨hx36, ?_⟩ | skip
    intro w7 hx7
    have hx37 := hx36.trans hx7
    have a0 := fun (W : World) (hW : Ext w7 W) => a0 W (hx37.trans hW)
    have a1 := fun (W : World) (hW : Ext w7 W) => a1 W (hx37.trans hW)
    have e0 := fun (W : World) (hW : Ext w7 W) => e0 W (hx37.trans hW)
    have e1 := fun (W : World) (hW : Ext w7 W) => e1 W (hx37.trans hW)
    have e2 := fun (W : World) (hW : Ext w7 W) => e2 W (hx37.trans hW)
    have e3 := fun (W : World) (hW : Ext w7 W) => e3 W (hx37.trans hW)
    have e4 := fun (W : World) (hW : Ext w7 W) => e4 W (hx37.trans hW)
    have r1 := (hb6.ext hx7).cells 1 (v := .int .u8 tl) rfl
    have r2 := (hb6.ext hx7).cells 2 (v := .int .i64 tw) rfl
    have hx7' := hide ((unhide hx3').trans hx37)
    have hself := Ext.refl w7
    clear hx3' hx4 hx5 hx45 hn9 hb5' hb6 hk6 hx36 hx7 hx37 hV3'
    refine wpX_done (by kernel_rfl) ?_
    try go_frame
    go_wp2_with fail
    go_ret2
    unfold InvPost
    rw [show invS 5 u v V E = [(5, (u, (0, (0, tw))))] by simp [invS, invT, unhide hte']]
    exact ⟨_, 1, rfl, slAt_blk (Blk.new w7 _ _), (unhide hx7').trans (ext_self1 _ _)⟩
  · refine (pair_any 6 u v lab wt _).mono ?_
    rw [show pairsB 6 = true by decide]
    rintro e w3 ⟨rfl, hx3⟩
    have a0 := fun (W : World) (hW : Ext w3 W) => a0 W (hx3.trans hW)
    have a1 := fun (W : World) (hW : Ext w3 W) => a1 W (hx3.trans hW)
    have e0 := fun (W : World) (hW : Ext w3 W) => e0 W (hx3.trans hW)
    have e1 := fun (W : World) (hW : Ext w3 W) => e1 W (hx3.trans hW)
    have e2 := fun (W : World) (hW : Ext w3 W) => e2 W (hx3.trans hW)
    have e3 := fun (W : World) (hW : Ext w3 W) => e3 W (hx3.trans hW)
    have e4 := fun (W : World) (hW : Ext w3 W) => e4 W (hx3.trans hW)
    have hx3' := hide ((unhide hx2').trans hx3)
    have hself := Ext.refl w3
    clear hx2' hx3
    go_wp2_with fail
    obtain ⟨i, hil, hpos, hEi⟩ := edge_at (unhide hi') ((unhide hd').2.2.2.2.2.2 (by simp))
    have hE3 := (unhide hE').ext (unhide hx3')
    obtain ⟨b, off, rfl, c0, c1, c2, c3⟩ := atE hE3 hil
    rw [hEi] at c0 c1 c2 c3
    simp only at c0 c1 c2 c3
    generalize hte : (lookM E (min u v, max u v)).getD (0, 0) = te at *
    obtain ⟨sl, sw⟩ := te
    simp only at c2 c3
    have hE3' := hide hE3
    have hpos' := hide hpos
    have hte' := hide hte
    have hi0 : (0 : Int) ≤ (i : Int) := by omega
    have hi1 : (i : Int) < (E.length : Int) := by omega
    clear hE3 hpos hEi hte
    refine wp_region_ext (P := Try.prog) [0,1,2,3,4,5,6,7] [] 2 #[true,true,true,true,true,true,true,true,false,false] (by kernel_rfl) (by kernel_rfl) rfl (by rfl) ?_
    iterate 8
      refine ql_want (v := ?_) rfl (by rfl) (fun W hW => ?_) ?_
      rotate_left
      · go_simp
        first | done | rfl | ((go_at_call 31; refine (redge_any A (some ⟨b, off, none⟩) E V.length cA cB (min u v) (max u v) _ ((unhide hE3').ext hW) (by omega)).mono ?_; rw [unhide hpos']; rintro _ _ ⟨h1, h2⟩; refine ⟨_, h1, ?_, h2⟩; rfl))
      go_frame
    refine wpQL_nil (fun w4 hx4 => ?_)
    clear c0 c1 c2 c3 hi0 hi1
    refine lx_one (i := 8) (by kernel_rfl) rfl (by rfl) #[true,true,true,true,true,true,true,true,true,false] (by rfl) ?_
    go_simp
    first | refine ⟨hx4.trans (ext_self1 _ _), ?_⟩ | skip
    intro w5 hx5
    have hb5 := (Blk.new w4 46 #[.int .i64 0, .int .i64 0, .int .u8 0, .int .i64 0]).ext hx5
    have hx45 := (ext_self1 w4 (.cells #[.int .i64 0, .int .i64 0, .int .u8 0, .int .i64 0] 46)).trans hx5
    have hn9 := Below.size hx4
    generalize w4.heap.size = b9 at *
    have s0 := hb5.cell 0
    have s1 := hb5.cell 1
    have s2 := hb5.cell 2
    have s3 := hb5.cell 3
    have f0 := hb5.frozen 0
    have f1 := hb5.frozen 1
    have f2 := hb5.frozen 2
    have f3 := hb5.frozen 3
    simp at s0 s1 s2 s3
    have hb5' := hide hb5
    clear hb5
    refine lx_one (i := 9) (by kernel_rfl) rfl (by rfl) #[true,true,true,true,true,true,true,true,true,true] (by rfl) ?_
    go_simp
    clear s0 s1 s2 s3 f0 f1 f2 f3
    have hb6 := ((((unhide hb5').set 0 (.int .i64 (min u v))).set 1 (.int .i64 (max u v))).set 2 (.int .u8 sl)).set 3 (.int .i64 sw)
    have hk6 := (((Keep.setCell w5 b9 0 (.int .i64 (min u v))).trans (Keep.setCell _ b9 1 (.int .i64 (max u v)))).trans (Keep.setCell _ b9 2 (.int .u8 sl))).trans (Keep.setCell _ b9 3 (.int .i64 sw))
    simp only [List.setIfInBounds_toArray, List.set_cons_zero, List.set_cons_succ] at hb6
    have hx36 := (hx4.trans hx45).of_new hk6 (by simpa using hn9)
    generalize (((w5.setCell ⟨b9, 0, none⟩ (.int .i64 (min u v))).setCell ⟨b9, 1, none⟩ (.int .i64 (max u v))).setCell ⟨b9, 2, none⟩ (.int .u8 sl)).setCell ⟨b9, 3, none⟩ (.int .i64 sw) = w6 at *
    first | refine ⟨hx36, ?_⟩ | skip
    intro w7 hx7
    have hx37 := hx36.trans hx7
    have a0 := fun (W : World) (hW : Ext w7 W) => a0 W (hx37.trans hW)
    have a1 := fun (W : World) (hW : Ext w7 W) => a1 W (hx37.trans hW)
    have e0 := fun (W : World) (hW : Ext w7 W) => e0 W (hx37.trans hW)
    have e1 := fun (W : World) (hW : Ext w7 W) => e1 W (hx37.trans hW)
    have e2 := fun (W : World) (hW : Ext w7 W) => e2 W (hx37.trans hW)
    have e3 := fun (W : World) (hW : Ext w7 W) => e3 W (hx37.trans hW)
    have e4 := fun (W : World) (hW : Ext w7 W) => e4 W (hx37.trans hW)
    have r2 := (hb6.ext hx7).cells 2 (v := .int .u8 sl) rfl
    have r3 := (hb6.ext hx7).cells 3 (v := .int .i64 sw) rfl
    have hx7' := hide ((unhide hx3').trans hx37)
    have hself := Ext.refl w7
    clear hx3' hx4 hx5 hx45 hn9 hb5' hb6 hk6 hx36 hx7 hx37 hE3'
    refine wpX_done (by kernel_rfl) ?_
    try go_frame
    go_wp2_with fail
    go_ret2
    unfold InvPost
    rw [show invS 6 u v V E = [(6, (min u v, (max u v, (sl, 0))))] by simp [invS, invT, unhide hte']]
    exact ⟨_, 1, rfl, slAt_blk (Blk.new w7 _ _), (unhide hx7').trans (ext_self1 _ _)⟩
  · refine (pair_any 7 u v lab wt _).mono ?_
    rw [show pairsB 7 = true by decide]
    rintro e w3 ⟨rfl, hx3⟩
    have a0 := fun (W : World) (hW : Ext w3 W) => a0 W (hx3.trans hW)
    have a1 := fun (W : World) (hW : Ext w3 W) => a1 W (hx3.trans hW)
    have e0 := fun (W : World) (hW : Ext w3 W) => e0 W (hx3.trans hW)
    have e1 := fun (W : World) (hW : Ext w3 W) => e1 W (hx3.trans hW)
    have e2 := fun (W : World) (hW : Ext w3 W) => e2 W (hx3.trans hW)
    have e3 := fun (W : World) (hW : Ext w3 W) => e3 W (hx3.trans hW)
    have e4 := fun (W : World) (hW : Ext w3 W) => e4 W (hx3.trans hW)
    have hx3' := hide ((unhide hx2').trans hx3)
    have hself := Ext.refl w3
    clear hx2' hx3
    go_wp2_with fail
    obtain ⟨i, hil, hpos, hEi⟩ := edge_at (unhide hi') ((unhide hd').2.2.2.2.2.2 (by simp))
    have hE3 := (unhide hE').ext (unhide hx3')
    obtain ⟨b, off, rfl, c0, c1, c2, c3⟩ := atE hE3 hil
    rw [hEi] at c0 c1 c2 c3
    simp only at c0 c1 c2 c3
    generalize hte : (lookM E (min u v, max u v)).getD (0, 0) = te at *
    obtain ⟨sl, sw⟩ := te
    simp only at c2 c3
    have hE3' := hide hE3
    have hpos' := hide hpos
    have hte' := hide hte
    have hi0 : (0 : Int) ≤ (i : Int) := by omega
    have hi1 : (i : Int) < (E.length : Int) := by omega
    clear hE3 hpos hEi hte
    refine wp_region_ext (P := Try.prog) [0,1,2,3,4,5,6,7] [] 2 #[true,true,true,true,true,true,true,true,false,false] (by kernel_rfl) (by kernel_rfl) rfl (by rfl) ?_
    iterate 8
      refine ql_want (v := ?_) rfl (by rfl) (fun W hW => ?_) ?_
      rotate_left
      · go_simp
        first | done | rfl | ((go_at_call 31; refine (redge_any A (some ⟨b, off, none⟩) E V.length cA cB (min u v) (max u v) _ ((unhide hE3').ext hW) (by omega)).mono ?_; rw [unhide hpos']; rintro _ _ ⟨h1, h2⟩; refine ⟨_, h1, ?_, h2⟩; rfl))
      go_frame
    refine wpQL_nil (fun w4 hx4 => ?_)
    clear c0 c1 c2 c3 hi0 hi1
    refine lx_one (i := 8) (by kernel_rfl) rfl (by rfl) #[true,true,true,true,true,true,true,true,true,false] (by rfl) ?_
    go_simp
    first | refine ⟨hx4.trans (ext_self1 _ _), ?_⟩ | skip
    intro w5 hx5
    have hb5 := (Blk.new w4 46 #[.int .i64 0, .int .i64 0, .int .u8 0, .int .i64 0]).ext hx5
    have hx45 := (ext_self1 w4 (.cells #[.int .i64 0, .int .i64 0, .int .u8 0, .int .i64 0] 46)).trans hx5
    have hn9 := Below.size hx4
    generalize w4.heap.size = b9 at *
    have s0 := hb5.cell 0
    have s1 := hb5.cell 1
    have s2 := hb5.cell 2
    have s3 := hb5.cell 3
    have f0 := hb5.frozen 0
    have f1 := hb5.frozen 1
    have f2 := hb5.frozen 2
    have f3 := hb5.frozen 3
    simp at s0 s1 s2 s3
    have hb5' := hide hb5
    clear hb5
    refine lx_one (i := 9) (by kernel_rfl) rfl (by rfl) #[true,true,true,true,true,true,true,true,true,true] (by rfl) ?_
    go_simp
    clear s0 s1 s2 s3 f0 f1 f2 f3
    have hb6 := ((((unhide hb5').set 0 (.int .i64 (min u v))).set 1 (.int .i64 (max u v))).set 2 (.int .u8 sl)).set 3 (.int .i64 sw)
    have hk6 := (((Keep.setCell w5 b9 0 (.int .i64 (min u v))).trans (Keep.setCell _ b9 1 (.int .i64 (max u v)))).trans (Keep.setCell _ b9 2 (.int .u8 sl))).trans (Keep.setCell _ b9 3 (.int .i64 sw))
    simp only [List.setIfInBounds_toArray, List.set_cons_zero, List.set_cons_succ] at hb6
    have hx36 := (hx4.trans hx45).of_new hk6 (by simpa using hn9)
    generalize (((w5.setCell ⟨b9, 0, none⟩ (.int .i64 (min u v))).setCell ⟨b9, 1, none⟩ (.int .i64 (max u v))).setCell ⟨b9, 2, none⟩ (.int .u8 sl)).setCell ⟨b9, 3, none⟩ (.int .i64 sw) = w6 at *
    first | refine ⟨hx36, ?_⟩ | skip
    intro w7 hx7
    have hx37 := hx36.trans hx7
    have a0 := fun (W : World) (hW : Ext w7 W) => a0 W (hx37.trans hW)
    have a1 := fun (W : World) (hW : Ext w7 W) => a1 W (hx37.trans hW)
    have e0 := fun (W : World) (hW : Ext w7 W) => e0 W (hx37.trans hW)
    have e1 := fun (W : World) (hW : Ext w7 W) => e1 W (hx37.trans hW)
    have e2 := fun (W : World) (hW : Ext w7 W) => e2 W (hx37.trans hW)
    have e3 := fun (W : World) (hW : Ext w7 W) => e3 W (hx37.trans hW)
    have e4 := fun (W : World) (hW : Ext w7 W) => e4 W (hx37.trans hW)
    have r2 := (hb6.ext hx7).cells 2 (v := .int .u8 sl) rfl
    have r3 := (hb6.ext hx7).cells 3 (v := .int .i64 sw) rfl
    have hx7' := hide ((unhide hx3').trans hx37)
    have hself := Ext.refl w7
    clear hx3' hx4 hx5 hx45 hn9 hb5' hb6 hk6 hx36 hx7 hx37 hE3'
    refine wpX_done (by kernel_rfl) ?_
    try go_frame
    go_wp2_with fail
    go_ret2
    unfold InvPost
    rw [show invS 7 u v V E = [(7, (min u v, (max u v, (0, sw))))] by simp [invS, invT, unhide hte']]
    exact ⟨_, 1, rfl, slAt_blk (Blk.new w7 _ _), (unhide hx7').trans (ext_self1 _ _)⟩
end Go.Proofs.Ytdkhondfahebnaa
