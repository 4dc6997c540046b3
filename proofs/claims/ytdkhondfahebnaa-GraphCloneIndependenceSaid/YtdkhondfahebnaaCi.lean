/- LAW GraphCloneIndependence, the walk. Conditions: see each theorem. -/
import Derived.Test.YtdkhondfahebnaaCl
import Derived.Test.YtdkhondfahebnaaPo
import Derived.Test.YtdkhondfahebnaaKn
namespace Go.Proofs.Ytdkhondfahebnaa
open Go Go.RowKit
attribute [local go_sem] qUpon lUpon

theorem vertices_rel (g bv be : Nat) (V : List (Int × Thing)) (E : List ((Int × Int) × Thing)) (w : World) (hg : IsG w g bv be V E) :
    Calls Try.prog 23 #[.pointer (some ⟨g, 0, none⟩)] w fun e w' => ∃ A c, e = .returned (.slice A V.length c) ∧ w'.ownsRow w.heap.size 44 3 (.slice A V.length c) V.length (V.flatMap encV) ∧ Ext w w' := by
  have n1 := hg.nV
  obtain ⟨V', E', h1, hV, hE, hi⟩ := hg
  refine (vertices_any g bv be V' E' V w h1 hV hi.sv (by rw [← hV.length_eq]; exact n1)).mono fun e w' ⟨v, he, ho, hx⟩ => ?_
  obtain ⟨A, c, rfl⟩ := own_slice ho
  exact ⟨A, c, he, ho, hx⟩
theorem edges_rel (g bv be : Nat) (V : List (Int × Thing)) (E : List ((Int × Int) × Thing)) (w : World) (hg : IsG w g bv be V E) :
    Calls Try.prog 24 #[.pointer (some ⟨g, 0, none⟩)] w fun e w' => ∃ A c, e = .returned (.slice A E.length c) ∧ w'.ownsRow w.heap.size 47 4 (.slice A E.length c) E.length (E.flatMap encE) ∧ Ext w w' := by
  have n1 := hg.nE
  obtain ⟨V', E', h1, hV, hE, hi⟩ := hg
  refine (edges_any g bv be V' E' E w h1 hE hi.se (by rw [← hE.length_eq]; exact n1)).mono fun e w' ⟨v, he, ho, hx⟩ => ?_
  obtain ⟨A, c, rfl⟩ := own_slice ho
  exact ⟨A, c, he, ho, hx⟩

/-- a slice of the call's own, whose field j of each element is an int -/
def IntRow (n0 : Nat) (wr : World) (A : Option Addr) (k j n : Nat) : Prop := n = 0 ∨ ∃ b cur T, A = some ⟨b, 0, none⟩ ∧ n0 ≤ b ∧ Blk wr b T cur ∧ ∀ i, i < n → ∃ m, cur[i * k + j]? = some (.int .i64 m)
theorem IntRow.ext {n0 : Nat} {w w' : World} {A : Option Addr} {k j n : Nat} (h : IntRow n0 w A k j n) (hx : Ext w w') : IntRow n0 w' A k j n := by
  rcases h with h | ⟨b, cur, T, h1, h2, h3, h4⟩
  · exact .inl h
  · exact .inr ⟨b, cur, T, h1, h2, h3.ext hx, h4⟩
theorem IntRow.of_own {α : Type} {enc : α → List Value} {n0 : Nat} {w : World} {A : Option Addr} {T k j c : Nat} {xs : List α} (h : w.ownsRow n0 T k (.slice A xs.length c) xs.length (xs.flatMap enc)) (hk : ∀ x, (enc x).length = k) (hj : ∀ x, ∃ m, (enc x)[j]? = some (.int .i64 m)) : IntRow n0 w A k j xs.length := by
  rcases h.2 with ⟨_, h0⟩ | ⟨b, cap, cur, hv, hb, hg, hn, hcap, hcur, htake⟩
  · exact .inl h0
  · cases hv
    refine .inr ⟨b, cur, T, rfl, hb, hg, fun i hi => ?_⟩
    obtain ⟨m, hm⟩ := hj xs[i]
    refine ⟨m, ?_⟩
    have hjk : j < k := by
      have := (List.getElem?_eq_some_iff.1 hm).1
      rw [hk] at this
      exact this
    have h1 := flat_at hk i xs[i] j _ (List.getElem?_eq_getElem hi) hm
    have hlt : i * k + j < xs.length * k := by
      have : (i + 1) * k ≤ xs.length * k := Nat.mul_le_mul_right k hi
      rw [Nat.add_mul, Nat.one_mul] at this
      omega
    have h2 : (cur.toList.take (xs.length * k))[i * k + j]? = (xs.flatMap enc)[i * k + j]? := by rw [htake]
    rw [List.getElem?_take_of_lt hlt, Array.getElem?_toList, h1] at h2
    exact h2
theorem IntRow.keep {n0 : Nat} {w w' : World} {A : Option Addr} {k j n b : Nat} (h : IntRow n0 w A k j n) (hk : Keep [b] w w') (hne : ∀ b', A = some ⟨b', 0, none⟩ → n ≠ 0 → b' ≠ b) : IntRow n0 w' A k j n := by
  by_cases hn : n = 0
  · exact .inl hn
  · rcases h with h | ⟨b', cur, T, h1, h2, h3, h4⟩
    · exact absurd h hn
    · exact .inr ⟨b', cur, T, h1, h2, h3.keep hk (by simpa using hne b' h1 hn), h4⟩
/-- one field is read and written -/
theorem IntRow.at_ {n0 : Nat} {w : World} {A : Option Addr} {k j n i : Nat} (h : IntRow n0 w A k j n) (hi : i < n) (_hjk : j < k) : ∃ b m, A = some ⟨b, 0, none⟩ ∧ n0 ≤ b ∧ w.cell? ⟨b, i * k + j, none⟩ = some (.int .i64 m) ∧ w.frozen? ⟨b, i * k + j, none⟩ = false ∧ ∀ x, IntRow n0 (w.setCell ⟨b, i * k + j, none⟩ (.int .i64 x)) A k j n := by
  rcases h with h | ⟨b, cur, T, h1, h2, h3, h4⟩
  · omega
  · obtain ⟨m, hm⟩ := h4 i hi
    refine ⟨b, m, h1, h2, (h3.cell _).trans hm, h3.frozen _, fun x => .inr ⟨b, _, T, h1, h2, h3.set _ _, fun i' hi' => ?_⟩⟩
    by_cases he : i' * k + j = i * k + j
    · refine ⟨x, ?_⟩
      rw [he]
      have := (Array.getElem?_eq_some_iff.1 hm).1
      simp [this]
    · obtain ⟨m', hm'⟩ := h4 i' hi'
      exact ⟨m', by rw [Array.getElem?_setIfInBounds_ne (Ne.symm he)]; exact hm'⟩

set_option maxRecDepth 100000 in
set_option maxHeartbeats 8000000 in
theorem graphCloneIndependence_walk (A : Option Addr) (L : List Ed) (cL : Nat) (B : Option Addr) (M : List Ed) (cM : Nat) (w : World) (hL : SlAt encD 5 w A L) (_hok : ∀ d ∈ L, okD d) (_hl : L.length ≤ 9223372036854775807) (_hc : L.length ≤ cL)
    (hM : SlAt encD 5 w B M) (hokM : ∀ d ∈ M, okD d) (_hlM : M.length ≤ 9223372036854775807) (_hcM : M.length ≤ cM) :
    Calls Try.prog 6 #[.slice A L.length cL, .slice B M.length cM] w fun e w' => e = .returned (.bool true) ∧ Ext w w' := by
  have hL' := hide hL
  have hM' := hide hM
  have hokM' := hide hokM
  clear hL hM hokM
  go_enter Try.func6, Try.ntmps6
  go_wp2_with fail
  refine (made_any A L cL _ (unhide hL')).mono ?_
  rintro e w1 ⟨A1, cA, B1, cB, rfl, hs1, he1, hx1⟩
  have hinv := mdS_inv L
  generalize mdS L = S at *
  obtain ⟨V, E⟩ := S
  simp only at hs1 he1 hinv
  have hs1' := hide hs1
  have he1' := hide he1
  have hx1' := hide hx1
  have hi' := hide hinv
  have nV := hinv.nv
  have nE := hinv.ne
  clear hs1 he1 hx1 hinv
  go_wp2_with fail
  refine (from_any A1 B1 V E cA cB _ ((unhide hs1').ext (ext_self1 _ _)) ((unhide he1').ext (ext_self1 _ _)) (unhide hi')).mono ?_
  rintro e wr ⟨g, bv, be, rfl, hg0, hx0, n1, n2, n3⟩
  have hR : ApRel w wr g bv be w1.heap.size V E A1 B1 cA cB := by
    have h1 := Below.size (unhide hx1')
    simp at n1 n2 n3
    exact ⟨hg0, (Blk.new w1 _ _).ext hx0, ((unhide hs1').ext (ext_self1 _ _)).ext hx0, ((unhide he1').ext (ext_self1 _ _)).ext hx0, ((unhide hx1').trans (ext_self1 _ _)).trans hx0, by omega, by omega, by omega, h1⟩
  have hR' := hide hR
  clear hR hg0 hx0 n1 n2 n3 hs1' he1' hx1'
  generalize w1.heap.size = gw at *
  clear w1
  go_wp2_with fail
  refine (clone_any g bv be V E _ (unhide hR').isg).mono ?_
  rintro e w2 ⟨o, ov, oe, rfl, hg0, hx0, n1, n2, n3⟩
  have hlt := (unhide hR').isg.lt
  have hR2 := hide ((unhide hR').go hx0)
  have hO := hide hg0
  have hlo := (unhide hR').lo
  have hsz := Below.size (unhide hR').ext
  have hov : ov ≠ g ∧ ov ≠ bv ∧ ov ≠ be ∧ w.heap.size ≤ ov := by omega
  have hoe : oe ≠ g ∧ oe ≠ bv ∧ oe ≠ be ∧ w.heap.size ≤ oe := by omega
  have hov' := hide hov
  have hoe' := hide hoe
  clear hR' hg0 hx0 n1 n2 n3 hlt hlo hsz hov hoe
  go_wp2_with fail
  refine (equal_self o ov oe g bv be V E _ (unhide hO) (unhide hR2).isg).mono ?_
  rintro e w3 ⟨rfl, hx3⟩
  have hR3 := hide ((unhide hR2).go hx3)
  have hO3 := hide ((unhide hO).ext hx3)
  clear hR2 hO hx3
  go_wp2_with fail
  go_loopw [8] (fun i wr => ∃ (k : Nat) (OV : List (Int × Thing)) (OE : List ((Int × Int) × Thing)), k ≤ M.length ∧ i = .int .i64 k ∧ ApRel w wr g bv be gw V E A1 B1 cA cB ∧ IsG wr o ov oe OV OE) (fun i _ => M.length - (intOf i).toNat)
  case atStart => exact ⟨0, V, E, Nat.zero_le _, rfl, unhide hR3, unhide hO3⟩
  case round =>
    obtain ⟨k, OV, OE, hk, rfl, hR, hO⟩ := hrel
    have hR' := hide hR
    have hO' := hide hO
    clear hR hO hR3 hO3
    by_cases hlt : k < M.length
    · by_cases h60 : k < 60
      · obtain ⟨b, off, rfl, c0, c1, c2, c3, c4⟩ := atD ((unhide hM').ext (unhide hR').ext) hlt
        have hd := (unhide hokM') M[k] (List.getElem_mem hlt)
        generalize hy : M[k] = y at c0 c1 c2 c3 c4 hd
        obtain ⟨op, u, v, lab, wt⟩ := y
        have hok1 := hide hd.2.1
        have hok2 := hide hd.2.2.1
        have hself := Ext.refl wr
        clear hd hy
        simp only at c0 c1 c2 c3 c4
        go_wp2_with fail
        refine (apply_any o ov oe OV OE op u v lab wt _ (unhide hO') (unhide hok1) (unhide hok2)).mono ?_
        rintro e w5 ⟨rfl, hg5, hk5⟩
        have hR5 := hide ((unhide hR').other (unhide hO') hk5 (unhide hov') (unhide hoe'))
        have hO5 := hide hg5
        clear hg5 hk5 hR' hO' hself c0 c1 c2 c3 c4
        go_wp2_with fail
        go_roundw
        case rel => exact ⟨k + 1, _, _, by omega, by go_num, unhide hR5, unhide hO5⟩
        case measure => simp [intOf]; omega
      · go_wp2_with fail
        refine (vertices_rel g bv be V E _ (unhide hR').isg).mono ?_
        rintro e w5 ⟨Av, cv, rfl, ho5, hx5⟩
        obtain ⟨wA, hwA⟩ : ∃ wA, wA = wr := ⟨_, rfl⟩
        have hv5 := hide (IntRow.of_own ho5 (fun _ => rfl) (j := 0) (fun _ => ⟨_, rfl⟩))
        have hx5' := hide hx5
        clear ho5 hx5
        go_wp2_with fail
        refine (edges_rel g bv be V E _ ((unhide hR').isg.ext (unhide hx5'))).mono ?_
        rintro e w6 ⟨Ae, ce, rfl, ho6, hx6⟩
        have he6 : IntRow wr.heap.size w6 Ae 4 3 E.length := by
          rcases IntRow.of_own ho6 (fun _ => rfl) (j := 3) (fun _ => ⟨_, rfl⟩) with h | ⟨b, cur, T, h1, h2, h3⟩
          · exact .inl h
          · exact .inr ⟨b, cur, T, h1, Nat.le_trans (Below.size (unhide hx5')) h2, h3⟩
        have hv6 := hide ((unhide hv5).ext hx6)
        have hrow : ∀ W, Keep [] w6 W → True := fun _ _ => trivial
        have hx6' := hide ((unhide hx5').trans hx6)
        have he6' := hide he6
        have ho6' := hide ho6
        have hdis : ∀ b b', Av = some ⟨b, 0, none⟩ → Ae = some ⟨b', 0, none⟩ → E.length ≠ 0 → V.length ≠ 0 → b' ≠ b := fun b b' e1 e2 hne hnv => by
          have q1 : b < w5.heap.size := by
            rcases unhide hv5 with h | ⟨b1, cur, T, h1, h2, h3, _⟩
            · omega
            · rw [e1] at h1; cases h1; exact h3.lt
          have q2 : w5.heap.size ≤ b' := by
            rcases ho6.2 with ⟨h, _⟩ | ⟨b1, cap, cur, h1, h2, _⟩
            · rw [e2] at h; cases h
            · rw [e2] at h1; cases h1; exact h2
          omega
        have hdis' := hide hdis
        clear hv5 hx5' he6 hrow ho6 hx6 hdis
        rw [← hwA] at hv6 he6' hx6' hR' hO'
        have hwA' := hide hwA
        clear hwA ho6'
        go_wp2_with fail
        go_loopw [11] (fun i wr => ∃ k : Nat, k ≤ V.length ∧ i = .int .i64 k ∧ IntRow wA.heap.size wr Av 3 0 V.length ∧ IntRow wA.heap.size wr Ae 4 3 E.length ∧ Ext wA wr) (fun i _ => V.length - (intOf i).toNat)
        case atStart => exact ⟨0, Nat.zero_le _, rfl, unhide hv6, unhide he6', unhide hx6'⟩
        case round =>
          obtain ⟨k, hk, rfl, hI, hJ, hx⟩ := hrel
          have hI' := hide hI
          have hx' := hide hx
          clear hI hx
          have hJ' := hide hJ
          clear hJ hv6 he6' hx6'
          by_cases hlt : k < V.length
          · obtain ⟨b, m, hA, hb, hc, hf, hset⟩ := (unhide hI').at_ hlt (by decide)
            have hdb := hide (fun b' (e : Ae = some ⟨b', 0, none⟩) hne => unhide hdis' b b' hA e hne (by omega))
            have hset' := hide hset
            have hb' := hide hb
            have hA' := hide hA
            clear hset hb
            try simp only [Nat.add_zero] at hc hf hset'
            go_wp2_with fail
            go_roundw
            case rel => exact ⟨k + 1, by omega, by go_num, unhide hset' _, (unhide hJ').keep (Keep.setCell _ _ _ _) (unhide hdb), (unhide hx').of_new (Keep.setCell _ _ _ _) (by simpa using unhide hb')⟩
            case measure => simp [intOf]; omega
          · have hx8' := hide (unhide hx')
            have he8' := hide (unhide hJ')
            clear hx' hJ' hI'
            go_wp2_with fail
            go_loopw [12] (fun i wr => ∃ k : Nat, k ≤ E.length ∧ i = .int .i64 k ∧ IntRow wA.heap.size wr Ae 4 3 E.length ∧ Ext wA wr) (fun i _ => E.length - (intOf i).toNat)
            case atStart => exact ⟨0, Nat.zero_le _, rfl, unhide he8', unhide hx8'⟩
            case round =>
              obtain ⟨k, hk, rfl, hI, hx⟩ := hrel
              have hI' := hide hI
              have hx' := hide hx
              clear hI hx

              clear he8' hx8'
              by_cases hlt : k < E.length
              · obtain ⟨b, m, hA, hb, hc, hf, hset⟩ := (unhide hI').at_ hlt (by decide)
                
                have hset' := hide hset
                have hb' := hide hb
                have hA' := hide hA
                clear hset hb
                try simp only [Nat.add_zero] at hc hf hset'
                go_wp2_with fail
                go_roundw
                case rel => exact ⟨k + 1, by omega, by go_num, unhide hset' _, (unhide hx').of_new (Keep.setCell _ _ _ _) (by simpa using unhide hb')⟩
                case measure => simp [intOf]; omega
              · have hR9 := hide ((unhide hR').go (unhide hx'))
                have hO9 := hide ((unhide hO').ext (unhide hx'))
                clear hx' hI' hR' hO' hdis'
                go_wp2_with fail
                generalize hbb : (decide (V = OV) && decide (E = OE)) = bb
                have hbb' := hide hbb
                have hbc : (decide (OV = V) && decide (OE = E)) = bb := by
                  rw [← hbb, Bool.eq_iff_iff]
                  simp only [Bool.and_eq_true, decide_eq_true_eq]
                  exact ⟨fun h => ⟨h.1.symm, h.2.symm⟩, fun h => ⟨h.1.symm, h.2.symm⟩⟩
                have hbc' := hide hbc
                have hB := (unhide hR9).blk
                have q0 := hB.cells 0 (v := .slice A1 V.length cA) rfl
                have q1 := hB.cells 1 (v := .slice B1 E.length cB) rfl
                have hnn := hide (And.intro (unhide hO9).nV (unhide hO9).nE)
                clear hbb hbc hB
                refine wp_region_ext (P := Try.prog) [0,1,2,4] [] 14 #[true,true,true,false,true,false,false,false,false,false,false,false,false,false,false,false,false,false] (by kernel_rfl) (by kernel_rfl) rfl (by rfl) ?_
                iterate 4
                  refine ql_want (v := ?_) rfl (by rfl) (fun W hW => ?_) ?_
                  rotate_left
                  · go_simp
                    first | done | rfl | ((go_at_call 16; refine (known_any _).mono ?_; rintro _ _ ⟨h1, h2⟩; refine ⟨_, h1, ?_, h2⟩; rfl))
                  go_frame
                refine wpQL_nil (fun wB hxB => ?_)
                refine lx_one (i := 3) (by kernel_rfl) rfl (by rfl) #[true,true,true,true,true,false,false,false,false,false,false,false,false,false,false,false,false,false] (by rfl) ?_
                go_simp
                refine (to_rel g bv be V E _ ((unhide hR9).isg.ext hxB)).mono ?_
                rintro e wC ⟨A4, c4, B4, d4, rfl, hs7, he7, hxC⟩
                refine ⟨_, rfl, hxB.trans hxC, fun wD hxD => ?_⟩
                have hs8 := hide (hs7.ext hxD)
                have he8 := hide (he7.ext hxD)
                have hxBD := (hxB.trans hxC).trans hxD
                have hR10 := hide ((unhide hR9).go hxBD)
                have hO10 := hide ((unhide hO9).ext hxBD)
                have q0' := fun (W : World) (hW : Ext wD W) => q0 W (hxBD.trans hW)
                have q1' := fun (W : World) (hW : Ext wD W) => q1 W (hxBD.trans hW)
                clear hs7 he7 q0 q1
                refine lx_ext [5,6,7,8,9,10,11,13] [] 5 13 #[true,true,true,true,true,false,false,false,false,false,false,false,false,false,false,false,false,false] #[true,true,true,true,true,true,true,true,true,true,true,true,false,true,false,false,false,false] (by kernel_rfl) rfl (by rfl) hxBD ?_
                clear hxB hxC hxD hxBD
                iterate 5
                  refine ql_want (v := ?_) rfl (by rfl) (fun W hW => ?_) ?_
                  rotate_left
                  · go_simp
                    first | done | rfl | ((go_at_call 14; refine (same_refl A4 B4 A1 B1 V E c4 d4 cA cB _ ((unhide hs8).ext hW) ((unhide he8).ext hW) ((unhide hR10).sv.ext hW) ((unhide hR10).se.ext hW) (by omega) (by omega)).mono ?_; rintro _ _ ⟨h1, h2⟩; refine ⟨_, h1, ?_, h2⟩; rfl))
                  go_frame
                iterate 3
                  refine ql_want (v := ?_) rfl (by rfl) (fun W hW => ?_) ?_
                  rotate_left
                  · go_simp
                    first | done | rfl | ((go_at_call 21; refine (equal_any g bv be o ov oe V OV E OE _ ((unhide hR10).isg.ext hW) ((unhide hO10).ext hW)).mono ?_; rw [unhide hbb']; rintro _ _ ⟨h1, h2⟩; refine ⟨_, h1, ?_, h2⟩; rfl))
                  go_frame
                refine wpQL_nil (fun wE hxE => ?_)
                clear q0' q1'
                refine lx_one (i := 12) (by kernel_rfl) rfl (by rfl) #[true,true,true,true,true,true,true,true,true,true,true,true,true,true,false,false,false,false] (by rfl) ?_
                go_simp
                refine (to_rel o ov oe OV OE _ ((unhide hO10).ext hxE)).mono ?_
                rintro e wF ⟨A5, c5, B5, d5, rfl, hs9, he9, hxF⟩
                refine ⟨_, rfl, hxE.trans hxF, fun wG hxG => ?_⟩
                have hs10 := hide (hs9.ext hxG)
                have he10 := hide (he9.ext hxG)
                have hxEG := (hxE.trans hxF).trans hxG
                have hR11 := hide ((unhide hR10).go hxEG)
                clear hs9 he9
                refine lx_ext [14,15,16,17] [] 0 4 #[true,true,true,true,true,true,true,true,true,true,true,true,true,true,false,false,false,false] #[true,true,true,true,true,true,true,true,true,true,true,true,true,true,true,true,true,true] (by kernel_rfl) rfl (by rfl) hxEG ?_
                clear hxE hxF hxG hxEG
                iterate 4
                  refine ql_want (v := ?_) rfl (by rfl) (fun W hW => ?_) ?_
                  rotate_left
                  · go_simp
                    first | done | rfl | ((go_at_call 14; refine (same_any A5 B5 A1 B1 OV V OE E c5 d5 cA cB _ ((unhide hs10).ext hW) ((unhide he10).ext hW) ((unhide hR11).sv.ext hW) ((unhide hR11).se.ext hW) (unhide hnn).1 (unhide hnn).2).mono ?_; rw [unhide hbc']; rintro _ _ ⟨h1, h2⟩; refine ⟨_, h1, ?_, h2⟩; rfl))
                  go_frame
                refine wpQL_nil (fun wH hxH => ?_)
                refine wpX_done (by kernel_rfl) ?_
                try go_frame
                go_wp2_with fail
                go_ret
                exact ⟨rfl, (unhide hR11).ext.trans hxH⟩
    · go_wp2_with fail
      refine (vertices_rel g bv be V E _ (unhide hR').isg).mono ?_
      rintro e w5 ⟨Av, cv, rfl, ho5, hx5⟩
      obtain ⟨wA, hwA⟩ : ∃ wA, wA = wr := ⟨_, rfl⟩
      have hv5 := hide (IntRow.of_own ho5 (fun _ => rfl) (j := 0) (fun _ => ⟨_, rfl⟩))
      have hx5' := hide hx5
      clear ho5 hx5
      go_wp2_with fail
      refine (edges_rel g bv be V E _ ((unhide hR').isg.ext (unhide hx5'))).mono ?_
      rintro e w6 ⟨Ae, ce, rfl, ho6, hx6⟩
      have he6 : IntRow wr.heap.size w6 Ae 4 3 E.length := by
        rcases IntRow.of_own ho6 (fun _ => rfl) (j := 3) (fun _ => ⟨_, rfl⟩) with h | ⟨b, cur, T, h1, h2, h3⟩
        · exact .inl h
        · exact .inr ⟨b, cur, T, h1, Nat.le_trans (Below.size (unhide hx5')) h2, h3⟩
      have hv6 := hide ((unhide hv5).ext hx6)
      have hrow : ∀ W, Keep [] w6 W → True := fun _ _ => trivial
      have hx6' := hide ((unhide hx5').trans hx6)
      have he6' := hide he6
      have ho6' := hide ho6
      have hdis : ∀ b b', Av = some ⟨b, 0, none⟩ → Ae = some ⟨b', 0, none⟩ → E.length ≠ 0 → V.length ≠ 0 → b' ≠ b := fun b b' e1 e2 hne hnv => by
        have q1 : b < w5.heap.size := by
          rcases unhide hv5 with h | ⟨b1, cur, T, h1, h2, h3, _⟩
          · omega
          · rw [e1] at h1; cases h1; exact h3.lt
        have q2 : w5.heap.size ≤ b' := by
          rcases ho6.2 with ⟨h, _⟩ | ⟨b1, cap, cur, h1, h2, _⟩
          · rw [e2] at h; cases h
          · rw [e2] at h1; cases h1; exact h2
        omega
      have hdis' := hide hdis
      clear hv5 hx5' he6 hrow ho6 hx6 hdis
      rw [← hwA] at hv6 he6' hx6' hR' hO'
      have hwA' := hide hwA
      clear hwA ho6'
      go_wp2_with fail
      go_loopw [11] (fun i wr => ∃ k : Nat, k ≤ V.length ∧ i = .int .i64 k ∧ IntRow wA.heap.size wr Av 3 0 V.length ∧ IntRow wA.heap.size wr Ae 4 3 E.length ∧ Ext wA wr) (fun i _ => V.length - (intOf i).toNat)
      case atStart => exact ⟨0, Nat.zero_le _, rfl, unhide hv6, unhide he6', unhide hx6'⟩
      case round =>
        obtain ⟨k, hk, rfl, hI, hJ, hx⟩ := hrel
        have hI' := hide hI
        have hx' := hide hx
        clear hI hx
        have hJ' := hide hJ
        clear hJ hv6 he6' hx6'
        by_cases hlt : k < V.length
        · obtain ⟨b, m, hA, hb, hc, hf, hset⟩ := (unhide hI').at_ hlt (by decide)
          have hdb := hide (fun b' (e : Ae = some ⟨b', 0, none⟩) hne => unhide hdis' b b' hA e hne (by omega))
          have hset' := hide hset
          have hb' := hide hb
          have hA' := hide hA
          clear hset hb
          try simp only [Nat.add_zero] at hc hf hset'
          go_wp2_with fail
          go_roundw
          case rel => exact ⟨k + 1, by omega, by go_num, unhide hset' _, (unhide hJ').keep (Keep.setCell _ _ _ _) (unhide hdb), (unhide hx').of_new (Keep.setCell _ _ _ _) (by simpa using unhide hb')⟩
          case measure => simp [intOf]; omega
        · have hx8' := hide (unhide hx')
          have he8' := hide (unhide hJ')
          clear hx' hJ' hI'
          go_wp2_with fail
          go_loopw [12] (fun i wr => ∃ k : Nat, k ≤ E.length ∧ i = .int .i64 k ∧ IntRow wA.heap.size wr Ae 4 3 E.length ∧ Ext wA wr) (fun i _ => E.length - (intOf i).toNat)
          case atStart => exact ⟨0, Nat.zero_le _, rfl, unhide he8', unhide hx8'⟩
          case round =>
            obtain ⟨k, hk, rfl, hI, hx⟩ := hrel
            have hI' := hide hI
            have hx' := hide hx
            clear hI hx

            clear he8' hx8'
            by_cases hlt : k < E.length
            · obtain ⟨b, m, hA, hb, hc, hf, hset⟩ := (unhide hI').at_ hlt (by decide)
              
              have hset' := hide hset
              have hb' := hide hb
              have hA' := hide hA
              clear hset hb
              try simp only [Nat.add_zero] at hc hf hset'
              go_wp2_with fail
              go_roundw
              case rel => exact ⟨k + 1, by omega, by go_num, unhide hset' _, (unhide hx').of_new (Keep.setCell _ _ _ _) (by simpa using unhide hb')⟩
              case measure => simp [intOf]; omega
            · have hR9 := hide ((unhide hR').go (unhide hx'))
              have hO9 := hide ((unhide hO').ext (unhide hx'))
              clear hx' hI' hR' hO' hdis'
              go_wp2_with fail
              generalize hbb : (decide (V = OV) && decide (E = OE)) = bb
              have hbb' := hide hbb
              have hbc : (decide (OV = V) && decide (OE = E)) = bb := by
                rw [← hbb, Bool.eq_iff_iff]
                simp only [Bool.and_eq_true, decide_eq_true_eq]
                exact ⟨fun h => ⟨h.1.symm, h.2.symm⟩, fun h => ⟨h.1.symm, h.2.symm⟩⟩
              have hbc' := hide hbc
              have hB := (unhide hR9).blk
              have q0 := hB.cells 0 (v := .slice A1 V.length cA) rfl
              have q1 := hB.cells 1 (v := .slice B1 E.length cB) rfl
              have hnn := hide (And.intro (unhide hO9).nV (unhide hO9).nE)
              clear hbb hbc hB
              refine wp_region_ext (P := Try.prog) [0,1,2,4] [] 14 #[true,true,true,false,true,false,false,false,false,false,false,false,false,false,false,false,false,false] (by kernel_rfl) (by kernel_rfl) rfl (by rfl) ?_
              iterate 4
                refine ql_want (v := ?_) rfl (by rfl) (fun W hW => ?_) ?_
                rotate_left
                · go_simp
                  first | done | rfl | ((go_at_call 16; refine (known_any _).mono ?_; rintro _ _ ⟨h1, h2⟩; refine ⟨_, h1, ?_, h2⟩; rfl))
                go_frame
              refine wpQL_nil (fun wB hxB => ?_)
              refine lx_one (i := 3) (by kernel_rfl) rfl (by rfl) #[true,true,true,true,true,false,false,false,false,false,false,false,false,false,false,false,false,false] (by rfl) ?_
              go_simp
              refine (to_rel g bv be V E _ ((unhide hR9).isg.ext hxB)).mono ?_
              rintro e wC ⟨A4, c4, B4, d4, rfl, hs7, he7, hxC⟩
              refine ⟨_, rfl, hxB.trans hxC, fun wD hxD => ?_⟩
              have hs8 := hide (hs7.ext hxD)
              have he8 := hide (he7.ext hxD)
              have hxBD := (hxB.trans hxC).trans hxD
              have hR10 := hide ((unhide hR9).go hxBD)
              have hO10 := hide ((unhide hO9).ext hxBD)
              have q0' := fun (W : World) (hW : Ext wD W) => q0 W (hxBD.trans hW)
              have q1' := fun (W : World) (hW : Ext wD W) => q1 W (hxBD.trans hW)
              clear hs7 he7 q0 q1
              refine lx_ext [5,6,7,8,9,10,11,13] [] 5 13 #[true,true,true,true,true,false,false,false,false,false,false,false,false,false,false,false,false,false] #[true,true,true,true,true,true,true,true,true,true,true,true,false,true,false,false,false,false] (by kernel_rfl) rfl (by rfl) hxBD ?_
              clear hxB hxC hxD hxBD
              iterate 5
                refine ql_want (v := ?_) rfl (by rfl) (fun W hW => ?_) ?_
                rotate_left
                · go_simp
                  first | done | rfl | ((go_at_call 14; refine (same_refl A4 B4 A1 B1 V E c4 d4 cA cB _ ((unhide hs8).ext hW) ((unhide he8).ext hW) ((unhide hR10).sv.ext hW) ((unhide hR10).se.ext hW) (by omega) (by omega)).mono ?_; rintro _ _ ⟨h1, h2⟩; refine ⟨_, h1, ?_, h2⟩; rfl))
                go_frame
              iterate 3
                refine ql_want (v := ?_) rfl (by rfl) (fun W hW => ?_) ?_
                rotate_left
                · go_simp
                  first | done | rfl | ((go_at_call 21; refine (equal_any g bv be o ov oe V OV E OE _ ((unhide hR10).isg.ext hW) ((unhide hO10).ext hW)).mono ?_; rw [unhide hbb']; rintro _ _ ⟨h1, h2⟩; refine ⟨_, h1, ?_, h2⟩; rfl))
                go_frame
              refine wpQL_nil (fun wE hxE => ?_)
              clear q0' q1'
              refine lx_one (i := 12) (by kernel_rfl) rfl (by rfl) #[true,true,true,true,true,true,true,true,true,true,true,true,true,true,false,false,false,false] (by rfl) ?_
              go_simp
              refine (to_rel o ov oe OV OE _ ((unhide hO10).ext hxE)).mono ?_
              rintro e wF ⟨A5, c5, B5, d5, rfl, hs9, he9, hxF⟩
              refine ⟨_, rfl, hxE.trans hxF, fun wG hxG => ?_⟩
              have hs10 := hide (hs9.ext hxG)
              have he10 := hide (he9.ext hxG)
              have hxEG := (hxE.trans hxF).trans hxG
              have hR11 := hide ((unhide hR10).go hxEG)
              clear hs9 he9
              refine lx_ext [14,15,16,17] [] 0 4 #[true,true,true,true,true,true,true,true,true,true,true,true,true,true,false,false,false,false] #[true,true,true,true,true,true,true,true,true,true,true,true,true,true,true,true,true,true] (by kernel_rfl) rfl (by rfl) hxEG ?_
              clear hxE hxF hxG hxEG
              iterate 4
                refine ql_want (v := ?_) rfl (by rfl) (fun W hW => ?_) ?_
                rotate_left
                · go_simp
                  first | done | rfl | ((go_at_call 14; refine (same_any A5 B5 A1 B1 OV V OE E c5 d5 cA cB _ ((unhide hs10).ext hW) ((unhide he10).ext hW) ((unhide hR11).sv.ext hW) ((unhide hR11).se.ext hW) (unhide hnn).1 (unhide hnn).2).mono ?_; rw [unhide hbc']; rintro _ _ ⟨h1, h2⟩; refine ⟨_, h1, ?_, h2⟩; rfl))
                go_frame
              refine wpQL_nil (fun wH hxH => ?_)
              refine wpX_done (by kernel_rfl) ?_
              try go_frame
              go_wp2_with fail
              go_ret
              exact ⟨rfl, (unhide hR11).ext.trans hxH⟩
end Go.Proofs.Ytdkhondfahebnaa
