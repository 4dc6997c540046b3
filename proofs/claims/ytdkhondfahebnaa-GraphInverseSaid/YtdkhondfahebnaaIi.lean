/- LAW GraphInverse, the walk. Conditions: see each theorem. -/
import Derived.Test.YtdkhondfahebnaaBk
import Derived.Test.YtdkhondfahebnaaIp
import Derived.Test.YtdkhondfahebnaaKn
namespace Go.Proofs.Ytdkhondfahebnaa
open Go Go.RowKit
attribute [local go_sem] qUpon lUpon

theorem lx_re2 {P : Program} {R : World → World → Prop} {C : World → Prop} {safe : Nat → Bool} {Q : Act → World → Prop} {l : List Oper} {a : Act} {w : World} (C2 : World → Prop) (qs ts2 : List Nat) (n m : Nat) (listed listed2 : Array Bool) (hre : (listed.size == l.length && (List.range l.length).all fun i => !safe i || listed.getD i true) = true)
    (hB : mqB l.toArray qs ts2 (ancTab l.toArray) listed = true) (hn : n + qs.length = m) (hlst : qlListed l.toArray qs listed = listed2)
    (hR : ∀ w, R w w) (hRt : ∀ a b c, R a b → R b c → R a c) (hCR : ∀ w w', C2 w → R w w' → C2 w') (hC : C2 w)
    (h : wpQL P l.toArray R C2 (fun a' => ∀ w', C2 w' → wpX P l.toArray R C2 (fun j => !ts2.contains j) Q n listed2 a' w') qs a) : wpX P l.toArray R C safe Q m listed a w := by
  refine wpX_re (C2 := C2) (safe2 := fun j => !ts2.contains j) _ _ _ _ (fun i hi => ?_) (lx_ql C2 qs ts2 n m listed listed2 hB hn hlst (fun _ h => h) hR hRt hCR hC h)
  simp only [Bool.and_eq_true, beq_iff_eq] at hre
  rcases Nat.lt_or_ge i l.length with hlt | hge
  · have := List.all_eq_true.1 hre.2 i (List.mem_range.2 hlt)
    simpa [hi] using this
  · have : listed.size ≤ i := by omega
    simp [this]
theorem encD0 (x : Ed) : ∃ u : Value, (encD x)[0]? = some u := ⟨_, rfl⟩

structure IvRel (w wr : World) (g bv be gw : Nat) (V : List (Int × Thing)) (E : List ((Int × Int) × Thing)) (A B : Option Addr) (cA cB : Nat) (S : GS) (l : List Ed) (Ab : Option Addr) : Prop where
  isg : IsG wr g bv be S.1 S.2
  blk : Blk wr gw 28 #[.slice A V.length cA, .slice B E.length cB]
  sv : SlAt encV 3 wr A V
  se : SlAt encE 4 wr B E
  sl : SlAt encD 5 wr Ab l
  ext : Ext w wr
  lo : w.heap.size ≤ g ∧ w.heap.size ≤ bv ∧ w.heap.size ≤ be ∧ w.heap.size ≤ gw
section
variable {w wr wr' : World} {g bv be gw : Nat} {V : List (Int × Thing)} {E : List ((Int × Int) × Thing)} {A B Ab : Option Addr} {cA cB : Nat} {S S' : GS} {l : List Ed}
theorem IvRel.go (h : IvRel w wr g bv be gw V E A B cA cB S l Ab) (k : Ext wr wr') : IvRel w wr' g bv be gw V E A B cA cB S l Ab :=
  ⟨h.isg.ext k, h.blk.ext k, h.sv.ext k, h.se.ext k, h.sl.ext k, h.ext.trans k, h.lo⟩
theorem IvRel.step (h : IvRel w wr g bv be gw V E A B cA cB S l Ab) (hg : IsG wr' g bv be S'.1 S'.2) (hk : Keep [bv, be] wr wr') : IvRel w wr' g bv be gw V E A B cA cB S' l Ab := by
  have h6 := h.isg.off_G h.blk
  exact ⟨hg, h.blk.keep hk (by simp [h6.2.1, h6.2.2]), h.sv.keep_maps encV0 h.isg hk, h.se.keep_maps encE0 h.isg hk, h.sl.keep_maps encD0 h.isg hk, h.ext.of_new hk (by have := h.lo; simp; omega), h.lo⟩
theorem IvRel.ap (h : IvRel w wr g bv be gw V E A B cA cB (V, E) l Ab) : ApRel w wr g bv be gw V E A B cA cB := ⟨h.isg, h.blk, h.sv, h.se, h.ext, h.lo⟩
end
theorem inv_okD {op u v : Int} {V : List (Int × Thing)} {E : List ((Int × Int) × Thing)} (hi : GInv V E) (hu : i64ok u) (hv : i64ok v) : ∀ d ∈ invS op u v V E, i64ok d.2.1 ∧ i64ok d.2.2.1 := by
  have hz : i64ok 0 := by unfold i64ok; omega
  have h1 : i64ok (min u v) := by unfold i64ok at *; omega
  have h2 : i64ok (max u v) := by unfold i64ok at *; omega
  intro d hd
  unfold invS invT at hd
  split at hd
  · simp at hd; subst hd; exact ⟨hu, hz⟩
  split at hd
  · rcases List.mem_cons.1 hd with rfl | hd
    · exact ⟨hu, hz⟩
    · obtain ⟨e, he, hm⟩ := List.mem_flatMap.1 hd
      have := hi.okE e he
      unfold bkE at hm
      split at hm
      · simp at hm; subst hm; exact ⟨this.1, this.2.1⟩
      · simp at hm
  repeat (split at hd; · simp at hd; subst hd; first | exact ⟨h1, h2⟩ | exact ⟨hu, hz⟩)
  simp at hd; subst hd; exact ⟨h1, h2⟩

/-- what Inverse and Back give: the edits, where there is no error -/
def invL (op u v wt : Int) (V : List (Int × Thing)) (E : List ((Int × Int) × Thing)) : List Ed := if wrongR op u v wt V E = 0 then invS op u v V E else []
def InvAll (l : List Ed) (no : Int) (w : World) (e : Ending) (w' : World) : Prop := ∃ A c, e = .returned (.tuple #[.slice A l.length c, .int .i64 no]) ∧ SlAt encD 5 w' A l ∧ Ext w w'
theorem inverse_all (g bv be : Nat) (V : List (Int × Thing)) (E : List ((Int × Int) × Thing)) (op u v lab wt : Int) (w : World) (hg : IsG w g bv be V E) (hu : i64ok u) (hv : i64ok v) :
    Calls Try.prog 25 #[.pointer (some ⟨g, 0, none⟩), .agg #[.int .i64 op, .int .i64 u, .int .i64 v, .int .u8 lab, .int .i64 wt]] w (InvAll (invL op u v wt V E) (wrongR op u v wt V E) w) := by
  by_cases h0 : wrongR op u v wt V E = 0
  · rw [invL, if_pos h0, h0]
    exact inverse_yes g bv be V E op u v lab wt w hg hu hv h0
  · rw [invL, if_neg h0]
    exact (inverse_no g bv be V E op u v lab wt w hg hu hv h0).mono fun e w' h => ⟨none, 0, h.1, fun hne => absurd rfl hne, h.2⟩
theorem back_all (A B : Option Addr) (V : List (Int × Thing)) (E : List ((Int × Int) × Thing)) (cA cB : Nat) (op u v lab wt : Int) (w : World) (hV : SlAt encV 3 w A V) (hE : SlAt encE 4 w B E) (hi : GInv V E) :
    Calls Try.prog 26 #[.agg #[.slice A V.length cA, .slice B E.length cB], .agg #[.int .i64 op, .int .i64 u, .int .i64 v, .int .u8 lab, .int .i64 wt]] w (InvAll (invL op u v wt V E) (wrongR op u v wt V E) w) := by
  by_cases h0 : wrongR op u v wt V E = 0
  · rw [invL, if_pos h0, h0]
    exact back_yes A B V E cA cB op u v lab wt w hV hE hi h0
  · rw [invL, if_neg h0]
    exact (back_no A B V E cA cB op u v lab wt w hV hE hi h0).mono fun e w' h => ⟨none, 0, h.1, fun hne => absurd rfl hne, h.2⟩
theorem invS_len {op u v : Int} {V : List (Int × Thing)} {E : List ((Int × Int) × Thing)} (hi : GInv V E) : (invS op u v V E).length ≤ 4096 := by
  have h := hi.ne
  have h2 := bkE_len u E
  unfold invS invT
  repeat (split; · first | (simp; done) | (simp only [List.length_cons]; omega))
  simp
theorem invL_ok {op u v lab wt : Int} {V : List (Int × Thing)} {E : List ((Int × Int) × Thing)} (hi : GInv V E) :
    fe erD stD (invL op u v wt V E) (stD (V, E) (op, (u, (v, (lab, wt))))) = 0 ∧ (invL op u v wt V E).foldl stD (stD (V, E) (op, (u, (v, (lab, wt))))) = (V, E) := by
  by_cases h0 : wrongR op u v wt V E = 0
  · rw [invL, if_pos h0]
    exact inv_ok hi h0
  · rw [invL, if_neg h0]
    refine ⟨rfl, ?_⟩
    simp [stD, nxV, nxE, h0]

set_option maxRecDepth 100000 in
set_option maxHeartbeats 16000000 in
theorem graphInverse_walk (A : Option Addr) (L : List Ed) (cL : Nat) (x : Ed) (w : World) (hL : SlAt encD 5 w A L) (_hok : ∀ d ∈ L, okD d) (_hl : L.length ≤ 9223372036854775807) (_hc : L.length ≤ cL) (hx : okD x) :
    Calls Try.prog 7 #[.slice A L.length cL, .agg (encD x).toArray] w fun e w' => e = .returned (.bool true) ∧ Ext w w' := by
  obtain ⟨op, u, v, lab, wt⟩ := x
  have hok1 := hide hx.2.1
  have hok2 := hide hx.2.2.1
  have hL' := hide (hL.ext (ext_self1 w (.cells #[.int .i64 op, .int .i64 u, .int .i64 v, .int .u8 lab, .int .i64 wt] 33)))
  have hbd := hide (Blk.new w 33 #[.int .i64 op, .int .i64 u, .int .i64 v, .int .u8 lab, .int .i64 wt])
  clear hL hx
  simp only [encD]
  go_enter Try.func7, Try.ntmps7
  go_wp2_with fail
  refine (made_any A L cL _ (unhide hL')).mono ?_
  rintro e w1 ⟨A1, cA, B1, cB, rfl, hs1, he1, hx1⟩
  have hinv := mdS_inv L
  generalize mdS L = S at *
  obtain ⟨V, E⟩ := S
  simp only at hs1 he1 hinv
  have hs1' := hide hs1
  have he1' := hide he1
  have hx1' := hide ((ext_self1 w _).trans hx1)
  have hi' := hide hinv
  have nV := hinv.nv
  have nE := hinv.ne
  have hx1q := hx1
  clear hs1 he1 hx1 hinv
  go_wp2_with fail
  have hbd1 := hide (((unhide hbd).ext hx1q).ext (ext_self1 _ (.cells #[.slice A1 V.length cA, .slice B1 E.length cB] 28)))
  refine (from_any A1 B1 V E cA cB _ ((unhide hs1').ext (ext_self1 _ _)) ((unhide he1').ext (ext_self1 _ _)) (unhide hi')).mono ?_
  rintro e wr ⟨g, bv, be, rfl, hg0, hx0, n1, n2, n3⟩
  have hbd2 := hide ((unhide hbd1).ext hx0)
  clear hbd hbd1 hx1q
  have hR : ApRel w wr g bv be w1.heap.size V E A1 B1 cA cB := by
    have h1 := Below.size (unhide hx1')
    simp at n1 n2 n3
    exact ⟨hg0, (Blk.new w1 _ _).ext hx0, ((unhide hs1').ext (ext_self1 _ _)).ext hx0, ((unhide he1').ext (ext_self1 _ _)).ext hx0, ((unhide hx1').trans (ext_self1 _ _)).trans hx0, by omega, by omega, by omega, h1⟩
  have hR' := hide hR
  clear hR hg0 hx0 n1 n2 n3 hs1' he1' hx1'
  generalize w1.heap.size = gw at *
  clear w1

  have e0 := (unhide hbd2).cells 0 (v := .int .i64 op) rfl
  have e1 := (unhide hbd2).cells 1 (v := .int .i64 u) rfl
  have e2 := (unhide hbd2).cells 2 (v := .int .i64 v) rfl
  have e3 := (unhide hbd2).cells 3 (v := .int .u8 lab) rfl
  have e4 := (unhide hbd2).cells 4 (v := .int .i64 wt) rfl
  have q0 := (unhide hR').blk.cells 0 (v := .slice A1 V.length cA) rfl
  have q1 := (unhide hR').blk.cells 1 (v := .slice B1 E.length cB) rfl
  have hself := Ext.refl wr
  clear hbd2
  go_wp2_with fail
  refine (inverse_all g bv be V E op u v lab wt _ (unhide hR').isg (unhide hok1) (unhide hok2)).mono ?_
  have hfin := invL_ok (op := op) (u := u) (v := v) (lab := lab) (wt := wt) (unhide hi')
  have hlok : ∀ d ∈ invL op u v wt V E, i64ok d.2.1 ∧ i64ok d.2.2.1 := by
    intro d hd
    unfold invL at hd
    split at hd
    · exact inv_okD (unhide hi') (unhide hok1) (unhide hok2) d hd
    · simp at hd
  have hll : (invL op u v wt V E).length ≤ 4096 := by
    unfold invL
    split
    · exact invS_len (unhide hi')
    · simp
  have hnl : wrongR op u v wt V E ≠ 0 → invL op u v wt V E = [] := fun h => by rw [invL, if_neg h]
  have hbk := back_all A1 B1 V E cA cB op u v lab wt
  generalize hno : wrongR op u v wt V E = no at *
  generalize invL op u v wt V E = l at *
  have hfin' := hide hfin
  have hlok' := hide hlok
  have hnl' := hide hnl
  have hbk' := hide hbk
  have hno' := hide hno
  clear hfin hlok hnl hbk hno
  rintro e w5 ⟨A7, c7, rfl, hs7, hx5⟩
  have hs7' := hide hs7
  clear hs7 hself
  go_wp2_with fail
  refine (unhide hbk' _ ((unhide hR').sv.ext hx5) ((unhide hR').se.ext hx5) (unhide hi')).mono ?_
  rintro e w6 ⟨A9, c9, rfl, hs9, hx6⟩
  have hs9' := hide hs9
  have hx6' := hx5.trans hx6
  have hs7 := hide ((unhide hs7').ext hx6)
  clear hs9 hx5 hx6 hs7' hbk'
  go_wp2_with fail
  go_loopw [11] (fun i wr' => ∃ k : Nat, k ≤ l.length ∧ i = .int .i64 k ∧ Ext w6 wr') (fun i _ => l.length - (intOf i).toNat)
  case atStart => exact ⟨0, Nat.zero_le _, rfl, Ext.refl _⟩
  case round =>
    obtain ⟨k, hk, rfl, hx7⟩ := hrel
    by_cases hlt : k < l.length
    · obtain ⟨b, off, rfl, c0, c1, c2, c3, c4⟩ := atD ((unhide hs7).ext hx7) hlt
      obtain ⟨b', off', rfl, d0, d1, d2, d3, d4⟩ := atD ((unhide hs9').ext hx7) hlt
      generalize hy : l[k] = y at c0 c1 c2 c3 c4 d0 d1 d2 d3 d4
      obtain ⟨p0, p1, p2, p3, p4⟩ := y
      simp only at c0 c1 c2 c3 c4 d0 d1 d2 d3 d4
      clear hy
      go_wp2_with fail
      refine wp_region_still (P := Try.prog) [0,1,2,3,4,5,6,7,8] [] 0 #[true,true,true,true,true,true,true,true,true] (by kernel_rfl) (by kernel_rfl) rfl (by rfl) ?_
      iterate 9
        refine ql_want (v := ?_) rfl (by rfl) (fun W hW => ?_) ?_
        rotate_left
        · go_simp
          first | done | rfl
        go_frame
      refine wpQL_nil (fun wB hxB => ?_)
      refine wpX_done (by kernel_rfl) ?_
      try go_frame
      go_wp2_with fail
      go_roundw
      case rel => exact ⟨k + 1, by omega, by go_num, hx7.trans hxB⟩
      case measure => simp [intOf]; omega
    · have hI : IvRel w wr g bv be gw V E A1 B1 cA cB (V, E) l A7 := by
        have h := (unhide hR').go (hx6'.trans hx7)
        exact ⟨h.isg, h.blk, h.sv, h.se, (unhide hs7).ext hx7, h.ext, h.lo⟩
      have hI' := hide hI
      have hx8 := hx6'.trans hx7
      have q0' := fun (W : World) (hW : Ext wr W) => q0 W (hx8.trans hW)
      have q1' := fun (W : World) (hW : Ext wr W) => q1 W (hx8.trans hW)
      have e0' := fun (W : World) (hW : Ext wr W) => e0 W (hx8.trans hW)
      have e1' := fun (W : World) (hW : Ext wr W) => e1 W (hx8.trans hW)
      have e2' := fun (W : World) (hW : Ext wr W) => e2 W (hx8.trans hW)
      have e3' := fun (W : World) (hW : Ext wr W) => e3 W (hx8.trans hW)
      have e4' := fun (W : World) (hW : Ext wr W) => e4 W (hx8.trans hW)
      clear hI hR' hs7 hs9' hx6' hx7 hx8 q0 q1 e0 e1 e2 e3 e4
      go_wp2_with fail
      refine wp_region_ext (P := Try.prog) [0,2] [3,4,5,6,7,8,9,10,11,12,13,14] 13 #[true,false,true,false,false,false,false,false,false,false,false,false,false,false,false] (by kernel_rfl) (by kernel_rfl) rfl (by rfl) ?_
      iterate 2
        refine ql_want (v := ?_) rfl (by rfl) (fun W hW => ?_) ?_
        rotate_left
        · go_simp
          first | done | rfl
        go_frame
      refine wpQL_nil (fun wB hxB => ?_)
      refine lx_one (i := 1) (by kernel_rfl) rfl (by rfl) #[true,true,true,false,false,false,false,false,false,false,false,false,false,false,false] (by rfl) ?_
      go_simp
      refine (to_rel g bv be V E _ ((unhide hI').isg.ext hxB)).mono ?_
      rintro e wC ⟨A4, c4, B4, d4, rfl, hs7, he7, hxC⟩
      refine ⟨_, rfl, hxB.trans hxC, fun wD hxD => ?_⟩
      have hs8 := hide (hs7.ext hxD)
      have he8 := hide (he7.ext hxD)
      have hI2 := hide ((unhide hI').go ((hxB.trans hxC).trans hxD))
      have hx9 := (hxB.trans hxC).trans hxD
      have q0 := fun (W : World) (hW : Ext wD W) => q0' W (hx9.trans hW)
      have q1 := fun (W : World) (hW : Ext wD W) => q1' W (hx9.trans hW)
      have e0 := fun (W : World) (hW : Ext wD W) => e0' W (hx9.trans hW)
      have e1 := fun (W : World) (hW : Ext wD W) => e1' W (hx9.trans hW)
      have e2 := fun (W : World) (hW : Ext wD W) => e2' W (hx9.trans hW)
      have e3 := fun (W : World) (hW : Ext wD W) => e3' W (hx9.trans hW)
      have e4 := fun (W : World) (hW : Ext wD W) => e4' W (hx9.trans hW)
      clear hs7 he7 hI' hxB hxC hxD hx9 q0' q1' e0' e1' e2' e3' e4'
      rcases Classical.em (no = 0) with h0 | h0
      · subst h0
        refine lx_re2 (Ext wD) [3,4,5,6,7,8,9,10] [11,12,13,14] 4 12 #[true,true,true,false,false,false,false,false,false,false,false,false,false,false,false] #[true,true,true,true,true,true,true,true,true,true,true,false,false,false,false] (by kernel_rfl) (by kernel_rfl) rfl (by rfl) Ext.refl (fun _ _ _ => Ext.trans) (fun _ _ h e => h.trans e) (Ext.refl _) ?_
        iterate 8
          refine ql_want (v := ?_) rfl (by rfl) (fun W hW => ?_) ?_
          rotate_left
          · go_simp
            first | done | rfl | ((go_at_call 14; refine (same_refl A4 B4 A1 B1 V E c4 d4 cA cB _ ((unhide hs8).ext hW) ((unhide he8).ext hW) ((unhide hI2).sv.ext hW) ((unhide hI2).se.ext hW) (by omega) (by omega)).mono ?_; rintro _ _ ⟨h1, h2⟩; refine ⟨_, h1, ?_, h2⟩; rfl))
          go_frame
        refine wpQL_nil (fun wE hxE => ?_)
        refine lx_one (i := 11) (by kernel_rfl) rfl (by rfl) #[true,true,true,true,true,true,true,true,true,true,true,true,false,false,false] (by rfl) ?_
        go_simp
        refine (apply_any g bv be V E op u v lab wt _ ((unhide hI2).isg.ext hxE) (unhide hok1) (unhide hok2)).mono ?_
        rintro e wF ⟨he, hgF, hkF⟩
        rw [unhide hno'] at he
        subst he
        have hI3 := hide (((unhide hI2).go hxE).step (S' := stD (V, E) (op, (u, (v, (lab, wt))))) hgF hkF)
        clear hI2 hs8 he8 hxE q0 q1 e0 e1 e2 e3 e4 hgF hkF
        first | refine ⟨_, rfl, by simp, fun wG hxG => ?_⟩ | refine ⟨_, rfl, fun wG hxG => ?_⟩
        have hJ := hide ((unhide hI3).go hxG)
        clear hI3
        refine lx_re (Ext wG) [12,13,14] 0 3 #[true,true,true,true,true,true,true,true,true,true,true,true,false,false,false] #[true,true,true,true,true,true,true,true,true,true,true,true,true,true,true] (by kernel_rfl) (by kernel_rfl) rfl (by rfl) Ext.refl (fun _ _ _ => Ext.trans) (fun _ _ h e => h.trans e) (Ext.refl _) ?_
        clear hxG
        iterate 3
          refine ql_want (v := ?_) rfl (by rfl) (fun W hW => ?_) ?_
          rotate_left
          · go_simp
            first | done | rfl
          go_frame
        refine wpQL_nil (fun wH hxH => ?_)
        have hK := hide ((unhide hJ).go hxH)
        clear hJ hxH
        refine wpX_done (by kernel_rfl) ?_
        try go_frame
        obtain ⟨S0, hS0⟩ : ∃ S0, S0 = stD (V, E) (op, (u, (v, (lab, wt)))) := ⟨_, rfl⟩
        rw [← hS0] at hfin' hK
        clear hS0
        go_wp2_with fail
        go_loopw [12] (fun i wr => ∃ k : Nat, k ≤ l.length ∧ i = .int .i64 k ∧ IvRel w wr g bv be gw V E A1 B1 cA cB ((l.take k).foldl stD S0) l A7) (fun i _ => l.length - (intOf i).toNat)
        case atStart => exact ⟨0, Nat.zero_le _, rfl, unhide hK⟩
        case round =>
          obtain ⟨k, hk, rfl, hM⟩ := hrel
          have hM' := hide hM
          clear hM hK
          by_cases hlt : k < l.length
          · obtain ⟨b, off, rfl, c0, c1, c2, c3, c4⟩ := atD (unhide hM').sl hlt
            have hd := unhide hlok' l[k] (List.getElem_mem hlt)
            have hr := fe_at (unhide hfin').1 hlt
            have hst : (l.take (k + 1)).foldl stD S0 = stD ((l.take k).foldl stD S0) l[k] := by
              rw [List.take_succ_eq_append_getElem hlt, List.foldl_append, List.foldl_cons, List.foldl_nil]
            generalize hy : l[k] = y at c0 c1 c2 c3 c4 hd hr hst
            generalize (l.take k).foldl stD S0 = S at hM' hr hst
            obtain ⟨p0, p1, p2, p3, p4⟩ := y
            simp only at c0 c1 c2 c3 c4 hd
            have hd' := hide hd
            have hr' := hide hr
            have hst' := hide hst
            have hself := Ext.refl wr
            clear hy hd hr hst
            go_wp2_with fail
            refine (apply_any g bv be S.1 S.2 p0 p1 p2 p3 p4 _ (unhide hM').isg (unhide hd').1 (unhide hd').2).mono ?_
            rintro e wF ⟨he, hgF, hkF⟩
            have hr := unhide hr'
            unfold erD at hr
            rw [hr] at he
            subst he
            have hN := hide ((unhide hM').step (S' := stD S (p0, (p1, (p2, (p3, p4))))) hgF hkF)
            clear hr hgF hkF hM' c0 c1 c2 c3 c4
            go_wp2_with fail
            go_roundw
            case rel => exact ⟨k + 1, by omega, by go_num, by rw [unhide hst']; exact unhide hN⟩
            case measure => simp [intOf]; omega
          · have hke : k = l.length := by omega
            subst hke
            have hM : Hid (ApRel w wr g bv be gw V E A1 B1 cA cB) := by
              have h := unhide hM'
              rw [List.take_length, (unhide hfin').2] at h
              exact hide h.ap
            clear hM'
            go_wp2_with fail
            have q0 := (unhide hM).blk.cells 0 (v := .slice A1 V.length cA) rfl
            have q1 := (unhide hM).blk.cells 1 (v := .slice B1 E.length cB) rfl
            refine wp_region_ext (P := Try.prog) [0,1,2,4] [] 4 #[true,true,true,false,true,false,false,false] (by kernel_rfl) (by kernel_rfl) rfl (by rfl) ?_
            iterate 4
              refine ql_want (v := ?_) rfl (by rfl) (fun W hW => ?_) ?_
              rotate_left
              · go_simp
                first | done | rfl | ((go_at_call 16; refine (known_any _).mono ?_; rintro _ _ ⟨h1, h2⟩; refine ⟨_, h1, ?_, h2⟩; rfl))
              go_frame
            refine wpQL_nil (fun wB hxB => ?_)
            refine lx_one (i := 3) (by kernel_rfl) rfl (by rfl) #[true,true,true,true,true,false,false,false] (by rfl) ?_
            go_simp
            refine (to_rel g bv be V E _ ((unhide hM).isg.ext hxB)).mono ?_
            rintro e wC ⟨A4, c4, B4, d4, rfl, hs7, he7, hxC⟩
            refine ⟨_, rfl, hxB.trans hxC, fun wD hxD => ?_⟩
            have hs8 := hide (hs7.ext hxD)
            have he8 := hide (he7.ext hxD)
            have hxBD := (hxB.trans hxC).trans hxD
            have hM2 := hide ((unhide hM).go hxBD)
            clear hs7 he7 q0 q1 hM
            refine lx_ext [5,6,7] [] 0 3 #[true,true,true,true,true,false,false,false] #[true,true,true,true,true,true,true,true] (by kernel_rfl) rfl (by rfl) hxBD ?_
            clear hxB hxC hxD hxBD
            iterate 3
              refine ql_want (v := ?_) rfl (by rfl) (fun W hW => ?_) ?_
              rotate_left
              · go_simp
                first | done | rfl | ((go_at_call 14; refine (same_refl A4 B4 A1 B1 V E c4 d4 cA cB _ ((unhide hs8).ext hW) ((unhide he8).ext hW) ((unhide hM2).sv.ext hW) ((unhide hM2).se.ext hW) (by omega) (by omega)).mono ?_; rintro _ _ ⟨h1, h2⟩; refine ⟨_, h1, ?_, h2⟩; rfl))
              go_frame
            refine wpQL_nil (fun wH hxH => ?_)
            refine wpX_done (by kernel_rfl) ?_
            try go_frame
            go_wp2_with fail
            go_ret
            exact ⟨rfl, (unhide hM2).ext.trans hxH⟩
      · refine lx_re (Ext wD) [3,4,5,6,7,8,9,10,11,12,13,14] 0 12 #[true,true,true,false,false,false,false,false,false,false,false,false,false,false,false] #[true,true,true,true,true,true,true,true,true,true,true,true,true,true,true] (by kernel_rfl) (by kernel_rfl) rfl (by rfl) Ext.refl (fun _ _ _ => Ext.trans) (fun _ _ h e => h.trans e) (Ext.refl _) ?_
        have hb0 : (no == 0) = false := by simp [h0]
        iterate 6
          refine ql_want (v := ?_) rfl (by rfl) (fun W hW => ?_) ?_
          rotate_left
          · go_simp
            first | done | rfl | ((go_at_call 14; refine (same_refl A4 B4 A1 B1 V E c4 d4 cA cB _ ((unhide hs8).ext hW) ((unhide he8).ext hW) ((unhide hI2).sv.ext hW) ((unhide hI2).se.ext hW) (by omega) (by omega)).mono ?_; rintro _ _ ⟨h1, h2⟩; refine ⟨_, h1, ?_, h2⟩; rfl))
          go_frame
        iterate 4
          refine ql_skip rfl (by rfl) ?_
          try go_frame
        iterate 2
          refine ql_want (v := ?_) rfl (by rfl) (fun W hW => ?_) ?_
          rotate_left
          · go_simp
            first | done | rfl
          go_frame
        refine wpQL_nil (fun wE hxE => ?_)
        have hK : Hid (IvRel w wE g bv be gw V E A1 B1 cA cB (stD (V, E) (op, (u, (v, (lab, wt))))) l A7) := by
          have h := (unhide hI2).go hxE
          have h2 : stD (V, E) (op, (u, (v, (lab, wt)))) = (V, E) := by
            simp [stD, nxV, nxE, unhide hno', h0]
          rw [h2]
          exact hide h
        clear hI2 hs8 he8 hxE q0 q1 e0 e1 e2 e3 e4
        refine wpX_done (by kernel_rfl) ?_
        try go_frame
        obtain ⟨S0, hS0⟩ : ∃ S0, S0 = stD (V, E) (op, (u, (v, (lab, wt)))) := ⟨_, rfl⟩
        rw [← hS0] at hfin' hK
        clear hS0
        go_wp2_with fail
        go_loopw [12] (fun i wr => ∃ k : Nat, k ≤ l.length ∧ i = .int .i64 k ∧ IvRel w wr g bv be gw V E A1 B1 cA cB ((l.take k).foldl stD S0) l A7) (fun i _ => l.length - (intOf i).toNat)
        case atStart => exact ⟨0, Nat.zero_le _, rfl, unhide hK⟩
        case round =>
          obtain ⟨k, hk, rfl, hM⟩ := hrel
          have hM' := hide hM
          clear hM hK
          by_cases hlt : k < l.length
          · obtain ⟨b, off, rfl, c0, c1, c2, c3, c4⟩ := atD (unhide hM').sl hlt
            have hd := unhide hlok' l[k] (List.getElem_mem hlt)
            have hr := fe_at (unhide hfin').1 hlt
            have hst : (l.take (k + 1)).foldl stD S0 = stD ((l.take k).foldl stD S0) l[k] := by
              rw [List.take_succ_eq_append_getElem hlt, List.foldl_append, List.foldl_cons, List.foldl_nil]
            generalize hy : l[k] = y at c0 c1 c2 c3 c4 hd hr hst
            generalize (l.take k).foldl stD S0 = S at hM' hr hst
            obtain ⟨p0, p1, p2, p3, p4⟩ := y
            simp only at c0 c1 c2 c3 c4 hd
            have hd' := hide hd
            have hr' := hide hr
            have hst' := hide hst
            have hself := Ext.refl wr
            clear hy hd hr hst
            go_wp2_with fail
            refine (apply_any g bv be S.1 S.2 p0 p1 p2 p3 p4 _ (unhide hM').isg (unhide hd').1 (unhide hd').2).mono ?_
            rintro e wF ⟨he, hgF, hkF⟩
            have hr := unhide hr'
            unfold erD at hr
            rw [hr] at he
            subst he
            have hN := hide ((unhide hM').step (S' := stD S (p0, (p1, (p2, (p3, p4))))) hgF hkF)
            clear hr hgF hkF hM' c0 c1 c2 c3 c4
            go_wp2_with fail
            go_roundw
            case rel => exact ⟨k + 1, by omega, by go_num, by rw [unhide hst']; exact unhide hN⟩
            case measure => simp [intOf]; omega
          · have hke : k = l.length := by omega
            subst hke
            have hM : Hid (ApRel w wr g bv be gw V E A1 B1 cA cB) := by
              have h := unhide hM'
              rw [List.take_length, (unhide hfin').2] at h
              exact hide h.ap
            clear hM'
            go_wp2_with fail
            have q0 := (unhide hM).blk.cells 0 (v := .slice A1 V.length cA) rfl
            have q1 := (unhide hM).blk.cells 1 (v := .slice B1 E.length cB) rfl
            refine wp_region_ext (P := Try.prog) [0,1,2,4] [] 4 #[true,true,true,false,true,false,false,false] (by kernel_rfl) (by kernel_rfl) rfl (by rfl) ?_
            iterate 4
              refine ql_want (v := ?_) rfl (by rfl) (fun W hW => ?_) ?_
              rotate_left
              · go_simp
                first | done | rfl | ((go_at_call 16; refine (known_any _).mono ?_; rintro _ _ ⟨h1, h2⟩; refine ⟨_, h1, ?_, h2⟩; rfl))
              go_frame
            refine wpQL_nil (fun wB hxB => ?_)
            refine lx_one (i := 3) (by kernel_rfl) rfl (by rfl) #[true,true,true,true,true,false,false,false] (by rfl) ?_
            go_simp
            refine (to_rel g bv be V E _ ((unhide hM).isg.ext hxB)).mono ?_
            rintro e wC ⟨A4, c4, B4, d4, rfl, hs7, he7, hxC⟩
            refine ⟨_, rfl, hxB.trans hxC, fun wD hxD => ?_⟩
            have hs8 := hide (hs7.ext hxD)
            have he8 := hide (he7.ext hxD)
            have hxBD := (hxB.trans hxC).trans hxD
            have hM2 := hide ((unhide hM).go hxBD)
            clear hs7 he7 q0 q1 hM
            refine lx_ext [5,6,7] [] 0 3 #[true,true,true,true,true,false,false,false] #[true,true,true,true,true,true,true,true] (by kernel_rfl) rfl (by rfl) hxBD ?_
            clear hxB hxC hxD hxBD
            iterate 3
              refine ql_want (v := ?_) rfl (by rfl) (fun W hW => ?_) ?_
              rotate_left
              · go_simp
                first | done | rfl | ((go_at_call 14; refine (same_refl A4 B4 A1 B1 V E c4 d4 cA cB _ ((unhide hs8).ext hW) ((unhide he8).ext hW) ((unhide hM2).sv.ext hW) ((unhide hM2).se.ext hW) (by omega) (by omega)).mono ?_; rintro _ _ ⟨h1, h2⟩; refine ⟨_, h1, ?_, h2⟩; rfl))
              go_frame
            refine wpQL_nil (fun wH hxH => ?_)
            refine wpX_done (by kernel_rfl) ?_
            try go_frame
            go_wp2_with fail
            go_ret
            exact ⟨rfl, (unhide hM2).ext.trans hxH⟩
end Go.Proofs.Ytdkhondfahebnaa
