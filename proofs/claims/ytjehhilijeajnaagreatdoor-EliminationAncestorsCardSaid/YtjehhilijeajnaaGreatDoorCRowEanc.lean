/- Every input makes the law EliminationAncestors answer true, and each argument reads behind the call as it read before: the given card, tied to the program's text. No condition. -/
import Derived.Test.YtjehhilijeajnaaGreatDoorC10
import Derived.Test.YtjehhilijeajnaaGreatDoorCards
import Derived.Test.YtjehhilijeajnaaGreatDoorTie
import Derived.WalkKit
import Derived.ProofKit
import Derived.OpenShut
import Derived.ShutString
import Derived.ChangeOld
import Derived.Below
import Derived.SevenTiedAt
/- EliminationAncestors: every input makes the law answer true: the walk. Conditions: see each theorem. -/
namespace Go.Proofs.YtjehhilijeajnaaGreatDoor
open Go Go.RowKit
attribute [local go_sem] qUpon lUpon

/-- what is left of a set when the vertices at these places are taken out -/
def leftS (L : List Int) (N : Nat) (js : List Nat) : Nat := js.foldl (fun N j => withoutS N (L[j]?.getD 0)) N
theorem leftS_next (L : List Int) (N : Nat) (js : List Nat) (j : Nat) : leftS L N (js ++ [j]) = withoutS (leftS L N js) (L[j]?.getD 0) := by unfold leftS; rw [List.foldl_append]; rfl
theorem leftS_bit (L : List Int) (k : Nat) : ∀ (js : List Nat) (N : Nat), (leftS L N js).testBit k = (N.testBit k && js.all fun j => !(decide (k < 1024) && decide (L[j]?.getD 0 = (k : Int))))
  | [], N => by simp [leftS]
  | j :: js, N => by
    have h : leftS L N (j :: js) = leftS L (withoutS N (L[j]?.getD 0)) js := rfl
    rw [h, leftS_bit L k js, withoutS_bit, List.all_cons, Bool.and_assoc]
section
variable {V : List (Int × Thing)} {E : List ((Int × Int) × Thing)} {L : List Int}
theorem left_none (hi : GInv V E) (ho : Ord V L) {i : Nat} (hl : i < L.length) : eqS (leftS L (sAt E L i) (anc (treeR E L L.length) i)) 0 = true := by
  rw [eqS_iff]
  intro k hk
  rw [leftS_bit, Nat.zero_testBit, Bool.and_eq_false_iff]
  by_cases hb : (sAt E L i).testBit k = true
  · right
    have hm : (k : Int) ∈ toL (sAt E L i) := mem_toL'.2 ⟨by omega, by omega, hb⟩
    obtain ⟨h1, h2⟩ := (mem_sAt hi ho hl).1 hm
    obtain ⟨j, hj, hij, e⟩ := mem_drop_get.1 h1
    rw [← e] at h2
    have h3 := near_anc hi ho _ i j hl hj (Nat.le_refl _) hij h2
    rw [Bool.eq_false_iff]
    intro hall
    have := List.all_eq_true.1 hall j h3
    rw [get_D hj, e] at this
    simp [hk] at this
  · left; simpa using hb
theorem not_self (hi : GInv V E) (ho : Ord V L) {i : Nat} (hl : i < L.length) : (fitB L[i] && (sAt E L i).testBit L[i].toNat) = false := by
  rw [Bool.and_eq_false_iff]
  right
  have hr := ho.rng hi (List.getElem_mem hl)
  rw [Bool.eq_false_iff]
  intro h
  exact Adj.ne hi ((mem_sAt hi ho hl).1 (mem_toL'.2 ⟨hr.1, hr.2, h⟩)).2 rfl
end
/-- the walk along the ancestors: js are passed, u is next -/
def AncAt (P : List Int) (k : Nat) (js : List Nat) (u : Int) : Prop := (u = -1 ∧ js = anc P k) ∨ ∃ j : Nat, u = (j : Int) ∧ k < j ∧ j < P.length ∧ anc P k = js ++ j :: anc P j
theorem AncAt.start {P : List Int} (hP : UpOK P) {k : Nat} (hk : k < P.length) : AncAt P k [] P[k] := by
  rcases hP k hk with h | ⟨h1, h2⟩
  · exact .inl ⟨h, (anc_none hk (by omega)).symm⟩
  · refine .inr ⟨P[k].toNat, by omega, by omega, by omega, ?_⟩
    rw [anc_some hP hk (by omega)]; rfl
theorem AncAt.next {P : List Int} (hP : UpOK P) {k j : Nat} {js : List Nat} (hkj : k < j) (hj : j < P.length) (h : anc P k = js ++ j :: anc P j) : AncAt P k (js ++ [j]) P[j] := by
  rcases hP j hj with h1 | ⟨h1, h2⟩
  · refine .inl ⟨h1, ?_⟩
    rw [h, anc_none hj (by omega)]
  · refine .inr ⟨P[j].toNat, by omega, by omega, by omega, ?_⟩
    rw [h, anc_some hP hj (by omega), List.append_assoc]; rfl
theorem AncAt.few {P : List Int} (hP : UpOK P) {k : Nat} (hk : k < P.length) {js : List Nat} {j : Nat} (h : anc P k = js ++ j :: anc P j) : js.length + 1 ≤ P.length := by
  have h1 := (anc_dep hP _ k (Nat.le_refl _) hk).1
  have h2 := (depF_bound P k).2
  have h3 := congrArg List.length h
  rw [List.length_append, List.length_cons] at h3
  omega

set_option maxRecDepth 100000 in
set_option maxHeartbeats 8000000 in
theorem eliminationAncestors_walk (A0 : Option Addr) (D : List Ed) (cD : Nat) (A1 : Option Addr) (Bs : List Int) (cT : Nat) (w : World) (hD : SlAt encD 5 w A0 D) (hB : SlAt encU8 1 w A1 Bs) (hb : ∀ x ∈ Bs, 0 ≤ x ∧ x < 256) (hBl : Bs.length ≤ 9223372036854775807) (hT : Tab w) :
    Calls Tryz.prog 5 #[.slice A0 D.length cD, .slice A1 Bs.length cT] w fun e w' => e = .returned (.bool true) ∧ Ext w w' := by
  have hT' := hide hT
  have hmi := mdS_inv D
  have hml := mdS_len D
  have hbg := begun_any A0 D cD A1 Bs cT w hD hB hb hBl
  clear hT hD hB hb
  generalize mdS D = S at *
  obtain ⟨V, E⟩ := S
  simp only at hmi hml hbg
  have hbg' := hide hbg
  have hi' := hide hmi
  clear hbg
  go_enter Tryz.func5, Tryz.ntmps5
  go_wp2_with fail
  refine (unhide hbg').mono ?_
  rintro e w1 ⟨g, bv, be, A, B, cA, cB, C, L, cL, rfl, hg1, hV1, hE1, hL1, hord1, hx1, _, _, _⟩
  have hck := ord_check hord1 (hord1.len hmi)
  have hl : L.length ≤ 100 := by rw [hord1.len hmi]; omega
  have hnE : E.length ≤ 4096 := Nat.le_trans hmi.ne (by omega)
  have hck' := hide hck
  have hord := hide hord1
  have hB1 := hide (Blk.new w1 28 #[.slice A V.length cA, .slice B E.length cB])
  have hxa := ext_self1 w1 (.cells #[.slice A V.length cA, .slice B E.length cB] 28)
  have hg2 := hide (hg1.ext hxa)
  have hV2 := hide (hV1.ext hxa)
  have hE2 := hide (hE1.ext hxa)
  have hL2 := hide (hL1.ext hxa)
  have hx2 := hide (hx1.trans hxa)
  clear hg1 hV1 hE1 hL1 hord1 hx1 hxa hck hmi hbg'
  go_wp2_with fail
  generalize w1.alloc (.cells #[.slice A V.length cA, .slice B E.length cB] 28) = w2 at *
  generalize w1.heap.size = gw at *
  have htu := hide (tree_up (unhide hi') (unhide hord))
  have htl := hide (treeR_len E L L.length)
  have hhl := hide (show (highK E L L.length).length = L.length by simp [highK])
  have hwh := hide (wid_hgt (unhide hi') (unhide hord))
  have hwg := hide (wid_ge E L L.length)
  have hhb := hide (hgt_bound (treeR E L L.length))
  have hln := hide (fun (i : Nat) (hl : i < L.length) => left_none (unhide hi') (unhide hord) hl)
  have hns := hide (fun (i : Nat) (hl : i < L.length) => not_self (unhide hi') (unhide hord) hl)
  have hte := hide (tree_eq (unhide hi') (unhide hord))
  obtain ⟨P, hP⟩ : ∃ P, treeR E L L.length = P := ⟨_, rfl⟩
  rw [hP] at htu htl hwh hhb hln hte
  obtain ⟨nw, hnw⟩ : ∃ nw, widK E L L.length = nw := ⟨_, rfl⟩
  rw [hnw] at hwh hwg
  obtain ⟨nh, hnh⟩ : ∃ nh, hgtM P = nh := ⟨_, rfl⟩
  rw [hnh] at hwh hhb
  rw [unhide htl] at hhb
  replace hnw := hide hnw
  replace hnh := hide hnh
  have hT2 := hide ((unhide hT').ext (unhide hx2))
  have hx2' := hx2
  clear hx2 hT' hB1 hP hV2 hE2
  refine (parents_ok C L cL g bv be V E w2 (unhide hL2) (by omega) (unhide hg2) (unhide hT2) (unhide hck')).mono ?_
  rw [unhide hte, unhide htl]
  rintro e w3 ⟨At, ct, rfl, hst, hx⟩
  have hst3 := hide (hst)
  have hL3 := hide ((unhide hL2).ext hx)
  have hg3 := hide ((unhide hg2).ext hx)
  have hT3 := hide ((unhide hT2).ext hx)
  have hx3' := hide ((unhide hx2').trans hx)
  clear hL2 hg2 hT2
  clear hx hx2'
  go_wp2_with fail
  refine (high_ok C L cL g bv be V E w3 (unhide hL3) (by omega) (unhide hg3) (unhide hT3) (unhide hck')).mono ?_
  rw [unhide hhl]
  rintro e w4 ⟨Ah, ch, rfl, hsh, hx⟩
  have hsh4 := hide (hsh)
  have hL4 := hide ((unhide hL3).ext hx)
  have hg4 := hide ((unhide hg3).ext hx)
  have hT4 := hide ((unhide hT3).ext hx)
  have hst4 := hide ((unhide hst3).ext hx)
  have hx4' := hide ((unhide hx3').trans hx)
  clear hL3 hg3 hT3 hst3
  clear hx hx3'
  go_wp2_with fail
  refine (height_gen (.pointer (some ⟨g, 0, none⟩)) (.slice C L.length cL) P 0 w4 (unhide htu) (by rw [unhide htl]; omega) ((parents_ok C L cL g bv be V E w4 (unhide hL4) (by omega) (unhide hg4) (unhide hT4) (unhide hck')).mono fun e w' h => by
      rw [unhide hte] at h
      obtain ⟨A', c', h1, h2, h3⟩ := h
      exact ⟨A', c', h1, h2, h3⟩)).mono ?_
  rw [unhide hnh]
  rintro e w5 ⟨rfl, hx⟩
  have hL5 := hide ((unhide hL4).ext hx)
  have hg5 := hide ((unhide hg4).ext hx)
  have hT5 := hide ((unhide hT4).ext hx)
  have hst5 := hide ((unhide hst4).ext hx)
  have hsh5 := hide ((unhide hsh4).ext hx)
  have hx5' := hide ((unhide hx4').trans hx)
  clear hL4 hg4 hT4 hst4 hsh4
  clear hx hx4'
  go_wp2_with fail
  refine (width_ok C L cL g bv be V E w5 (unhide hL5) (by omega) (unhide hg5) (unhide hT5) (unhide hck')).mono ?_
  rw [unhide hnw]
  rintro e w6 ⟨rfl, hx⟩
  have hL6 := hide ((unhide hL5).ext hx)
  have hg6 := hide ((unhide hg5).ext hx)
  have hT6 := hide ((unhide hT5).ext hx)
  have hst6 := hide ((unhide hst5).ext hx)
  have hsh6 := hide ((unhide hsh5).ext hx)
  have hx6' := hide ((unhide hx5').trans hx)
  clear hL5 hg5 hT5 hst5 hsh5
  clear hx hx5'
  go_wp2_with fail
  go_loopw [16] (fun iv wr => ∃ k : Nat, k ≤ L.length ∧ iv = .int .i64 k ∧ Ext w6 wr) (fun iv _ => L.length - (intOf iv).toNat)
  case atStart => exact ⟨0, Nat.zero_le _, rfl, Ext.refl _⟩
  case round =>
    obtain ⟨k, hk, rfl, hx⟩ := hrel
    have hx' := hide hx
    clear hx
    by_cases hlt : k < L.length
    · have hkt : k < P.length := by rw [unhide htl]; exact hlt
      have hkh : k < (highK E L L.length).length := by rw [unhide hhl]; exact hlt
      have hgh : (highK E L L.length)[k] = sAt E L k := by simp [highK]
      obtain ⟨b1, o1, rfl, c0⟩ := atI ((unhide hst6).ext (unhide hx')) hkt
      obtain ⟨b2, o2, rfl, hc2⟩ := ((unhide hsh6).ext (unhide hx')).at_ hkh
      obtain ⟨b3, o3, rfl, e0⟩ := atI ((unhide hL6).ext (unhide hx')) hlt
      rw [hgh] at hc2
      have hks := hide (unhide hln k hlt)
      have hkn := hide (unhide hns k hlt)
      have hst := hide (AncAt.start (unhide htu) hkt)
      generalize hs : sAt E L k = s at *
      have hc3 : ∀ W, Ext wr W → ∀ (j : Nat) v, (setC s)[j]? = some v → W.cell? ⟨b2, o2 + k * 16 + j, none⟩ = some v := fun W hW j v hv => hc2 j v (by unfold encS; simpa using hv) W hW
      replace hc3 := hide hc3
      clear hgh hkh hs hc2
      try dsimp only
      repeat ((fail_if_success (with_reducible refine wp_reg (id := 13) ?_)); (first | go_values | go_skip | go_step | go_guarded | go_upon | go_in | go_back | fail))
      with_reducible refine wp_reg (id := 13) ?_
      iterate 3
        refine wpO_want rfl ?_
        go_simp
      refine wpO_val rfl (load_SetR (N := s) rfl rfl (unhide hc3 wr (Ext.refl _))) ?_
      refine wpO_want rfl ?_
      go_simp
      have hB0 : Blk (wr.alloc (.cells #[.int .u64 0, .int .u64 0, .int .u64 0, .int .u64 0, .int .u64 0, .int .u64 0, .int .u64 0, .int .u64 0, .int .u64 0, .int .u64 0, .int .u64 0, .int .u64 0, .int .u64 0, .int .u64 0, .int .u64 0, .int .u64 0] 56)) wr.heap.size 56 (setC 0) := Blk.new wr 56 (setC 0)
      have hx0 := ext_self1 wr (.cells #[.int .u64 0, .int .u64 0, .int .u64 0, .int .u64 0, .int .u64 0, .int .u64 0, .int .u64 0, .int .u64 0, .int .u64 0, .int .u64 0, .int .u64 0, .int .u64 0, .int .u64 0, .int .u64 0, .int .u64 0, .int .u64 0] 56)
      refine wpO_skip rfl (store_SetR (N := s) rfl rfl rfl hB0) (wpO_done ?_)
      have hBl := hide (hB0.row (setC s))
      have hxl := hide (hx0.of_new (Keep.setRow _ wr.heap.size (setC s)) (by simp))
      clear hB0 hx0
      generalize (wr.alloc (.cells #[.int .u64 0, .int .u64 0, .int .u64 0, .int .u64 0, .int .u64 0, .int .u64 0, .int .u64 0, .int .u64 0, .int .u64 0, .int .u64 0, .int .u64 0, .int .u64 0, .int .u64 0, .int .u64 0, .int .u64 0, .int .u64 0] 56)).setRow wr.heap.size (setC s) = w7 at *
      have c7 := fun W (hW : Ext w7 W) => c0 W ((unhide hxl).trans hW)
      have hself := Ext.refl w7
      clear c0
      go_wp2_with fail
      generalize wr = wo at *
      go_loopw [18, 19] (fun uv mv wr => ∃ (js : List Nat) (u : Int), AncAt P k js u ∧ js.length ≤ L.length ∧ uv = .int .i64 u ∧ mv = .int .i64 js.length ∧ Blk wr wo.heap.size 56 (setC (leftS L s js)) ∧ Ext wo wr) (fun _ mv _ => L.length + 1 - (intOf mv).toNat)
      case atStart => exact ⟨[], _, unhide hst, Nat.zero_le _, rfl, rfl, unhide hBl, unhide hxl⟩
      case round =>
        obtain ⟨js, u, ha, hjl, rfl, rfl, hB, hx⟩ := hrel
        have hB' := hide hB
        have hx2' := hide hx
        clear hB hx c7 hself
        rcases ha with ⟨rfl, hjs⟩ | ⟨j, rfl, hkj, hjP, hjs⟩
        · have hg1 : decide ((k : Int) < -1) = false := by simp; try omega
          have hlz := unhide hks
          rw [← hjs] at hlz
          have hlz' := hide hlz
          clear hlz hjs hst
          generalize leftS L s js = R at *
          have hself := Ext.refl wr
          have e7 := fun W (hW : Ext wr W) => e0 W ((unhide hx2').trans hW)
          go_wp2_with fail
          refine wp_region_ext (P := Tryz.prog) [0,1,2,3,4,5,6,7,8,9,10,11,12,13] [] 0 #[true,true,true,true,true,true,true,true,true,true,true,true,true,true] (by kernel_rfl) (by kernel_rfl) rfl (by rfl) ?_
          refine ql_want (v := .agg (setC R)) rfl (by rfl) (fun W hW => qUpon_of (load_SetR rfl (by rfl) ((unhide hB').ext hW).whole)) ?_
          go_frame
          refine ql_want (v := .agg (setC 0)) rfl (by rfl) (fun W hW => ?_) ?_
          · go_simp
            first | done | rfl
          go_frame
          refine ql_want (v := .bool (!eqS R 0)) rfl (by rfl) (fun W hW => qUpon_of (run_neq_Set rfl (by rfl) (by rfl))) ?_
          rw [unhide hlz']
          go_frame
          iterate 4
            refine ql_want (v := ?_) rfl (by rfl) (fun W hW => ?_) ?_
            rotate_left
            · go_simp
              first | done | rfl
            go_frame
          refine ql_want (v := .agg (setC s)) rfl (by rfl) (fun W hW => qUpon_of (load_SetR rfl (by rfl) (unhide hc3 W ((unhide hx2').trans hW)))) ?_
          go_frame
          iterate 4
            refine ql_want (v := ?_) rfl (by rfl) (fun W hW => ?_) ?_
            rotate_left
            · go_simp
              first | done | rfl
            go_frame
          refine ql_want (v := .bool false) rfl (by rfl) (fun W hW => ?_) ?_
          · go_simp
            refine (has_any s _ _).mono ?_
            rw [unhide hkn]
            rintro _ _ ⟨h1, h2⟩
            exact ⟨_, h1, rfl, h2⟩
          go_frame
          iterate 1
            refine ql_want (v := ?_) rfl (by rfl) (fun W hW => ?_) ?_
            rotate_left
            · go_simp
              first | done | rfl
            go_frame
          refine wpQL_nil (fun wz hxz => ?_)
          refine wpX_done (by kernel_rfl) ?_
          try go_frame
          have hx9' := hide (((unhide hx').trans (unhide hx2')).trans hxz)
          clear hxz e7 hself
          go_wp2_with fail
          go_roundw
          case rel => exact ⟨k + 1, by omega, by go_num, unhide hx9'⟩
          case measure => simp [intOf]; omega
        · have hjL : j < L.length := by rw [← unhide htl]; exact hjP
          have hfw := hide (AncAt.few (unhide htu) hkt hjs)
          have hnx := hide (AncAt.next (unhide htu) hkj hjP hjs)
          obtain ⟨bj, oj, hbj, d0⟩ := atI ((unhide hL6).ext ((unhide hx').trans (unhide hx2'))) hjL
          injection hbj with hbj
          injection hbj with hbj1 hbj2
          subst hbj1
          subst hbj2
          have hlf := hide (leftS_next L s js j)
          rw [get_D hjL] at hlf
          generalize hxj : L[j] = xj at *
          have hg1 : decide ((k : Int) < j) = true := by simp; omega
          have hg2 : decide ((j : Int) < L.length) = true := by simp; omega
          have hg3 : decide ((js.length : Int) ≤ L.length) = true := by simp; omega
          have hself := Ext.refl wr
          clear hjs hxj hst
          go_wp2_with fail
          refine wp_region_ext (P := Tryz.prog) [0,1,2,3,4,5] [6] 1 #[true,true,true,true,true,true,false] (by kernel_rfl) (by kernel_rfl) rfl (by rfl) ?_
          refine ql_want (v := .agg (setC (leftS L s js))) rfl (by rfl) (fun W hW => qUpon_of (load_SetR rfl (by rfl) ((unhide hB').ext hW).whole)) ?_
          go_frame
          iterate 5
            refine ql_want (v := ?_) rfl (by rfl) (fun W hW => ?_) ?_
            rotate_left
            · go_simp
              first | done | rfl | (go_at_call 28; refine (without_S (leftS L s js) xj _).mono ?_; rintro _ _ ⟨h1, h2⟩; refine ⟨_, h1, ?_, h2⟩; rfl)
            go_frame
          refine wpQL_nil (fun w8 hx8 => ?_)
          have hB8 := (unhide hB').ext hx8
          refine lx_one (i := 6) (by kernel_rfl) rfl (by rfl) #[true,true,true,true,true,true,true] (by rfl) ?_
          rw [store_SetR (N := withoutS (leftS L s js) xj) (M := leftS L s js) rfl (by rfl) (by rfl) hB8]
          refine ⟨fun h => absurd h (by decide), fun w9 hx9 => ?_⟩
          have hB9 := hide ((hB8.row (setC (withoutS (leftS L s js) xj))).ext hx9)
          have hx9' := hide ((((unhide hx2').trans hx8).of_new (Keep.setRow w8 wo.heap.size _) (by simp)).trans hx9)
          refine wpX_done (by kernel_rfl) ?_
          try go_frame
          obtain ⟨bp, op, hbp, f0⟩ := atI ((unhide hst6).ext ((unhide hx').trans (unhide hx9'))) hjP
          injection hbp with hbp
          injection hbp with hbp1 hbp2
          subst hbp1
          subst hbp2
          have hself := Ext.refl w9
          clear hx8 hB8 hx9 d0
          go_wp2_with fail
          go_roundw
          case rel => exact ⟨js ++ [j], _, unhide hnx, by rw [List.length_append, List.length_singleton]; have := unhide hfw; rw [unhide htl] at this; omega, rfl, by rw [List.length_append, List.length_singleton]; go_num, by rw [unhide hlf]; exact unhide hB9, unhide hx9'⟩
          case measure => simp [intOf]; omega
    · have hke : k = L.length := by omega
      subst hke
      have hx := unhide hx'
      clear hx'
      have hd1 : decide (nw < nh) = true := by simpa using unhide hwh
      have hd2 : decide (nh ≤ (L.length : Int)) = true := by simpa using (unhide hhb).2
      have hd3 : decide ((-1 : Int) ≤ nw) = true := by simpa using unhide hwg
      have hL7 := hide ((unhide hL6).ext hx)
      have hg7 := hide ((unhide hg6).ext hx)
      have hT7 := hide ((unhide hT6).ext hx)
      have hst7 := hide ((unhide hst6).ext hx)
      have hsh7 := hide ((unhide hsh6).ext hx)
      have hx7' := hide ((unhide hx6').trans hx)
      clear hL6 hg6 hT6 hst6 hsh6
      clear hx hx6'
      generalize wr = w7 at *
      go_wp2_with fail
      refine (known21_any w7 (unhide hT7)).mono ?_
      rintro e w8 ⟨rfl, hx⟩
      have hL8 := hide ((unhide hL7).ext hx)
      have hg8 := hide ((unhide hg7).ext hx)
      have hT8 := hide ((unhide hT7).ext hx)
      have hst8 := hide ((unhide hst7).ext hx)
      have hsh8 := hide ((unhide hsh7).ext hx)
      have hx8' := hide ((unhide hx7').trans hx)
      clear hL7 hg7 hT7 hst7 hsh7
      clear hx hx7'
      go_wp2_with fail
      go_ret
      exact ⟨rfl, unhide hx8'⟩
end Go.Proofs.YtjehhilijeajnaaGreatDoor
/- Every input makes the law EliminationAncestors answer true, and each argument reads behind the call as it read before: the given card, tied to the program's text. No condition. -/
namespace Go.Proofs.YtjehhilijeajnaaGreatDoor.eliminationAncestorsRow
open Go.ChangeShapes Go.WideShapes Go.ChangeAt Go.RowKit
set_option linter.unusedVariables false

theorem own : ownKnob Tryz.prog.godebug = none := by kernel_rfl
theorem laidOut : laidOutB Tryz.prog = true := by kernel_rfl
theorem door_met (os : Os) (args : Array Value) : laidMetH Tryz.prog laidL ((World.doorLaid Tryz.prog 400 os).forCall (fun _ _ => 0) ⟨#[], args, []⟩).memory :=
  laidMetH_of_parts3 (fuel := 8) (laidMet_of_run' 8 (by kernel_rfl) (by kernel_rfl)) (by kernel_rfl) (by kernel_rfl)

set_option maxRecDepth 100000 in
theorem lifted (os : Os) (started : os.Started) (H : Type) (enc : TypeId × Value → H) :
    ReturnsInHanded {} Tryz.checked os 5 .any (fun w args => (Rows.eliminationAncestorsSpec.pre enc Tryz.prog Tryz.f5 [] false w args ∧ laidMetH Tryz.prog laidL w) ∧ sizedMet enc Tryz.prog Tryz.f5 (OpenSpec.ofChange Rows.eliminationAncestorsSpec) false w args)
      (Rows.eliminationAncestorsSpec.post enc Tryz.prog Tryz.f5 false true false false) := by
  refine returnsInHanded_of_change_and (C := Tryz.checked) (X := fun w _ => laidMetH Tryz.prog laidL w) (fun _ _ _ hh h => h.of_heap hh) own started (by kernel_rfl) Tryz.func5
    (ChangeSpec.witness_shaped (enc := enc) (C := Tryz.checked) (os := os) (X := fun w _ => laidMetH Tryz.prog laidL w) false (World.doorLaid Tryz.prog 400 os) #[.slice none 0 0, .slice none 0 0] 8 rfl (World.shaped_of_RefB (by kernel_rfl) (by kernel_rfl)) (by kernel_rfl) (by kernel_rfl) (by kernel_rfl) (door_met os _)) ?_
  intro W base args ds gs before hval0 hW _ _ hL _
  have hval : ∀ (j : Nat) t v, Tryz.f5.params[j]? = some t → args[j]? = some v → Value.okWide Tryz.prog W .any base t v := hval0
  have hW' := hW
  obtain ⟨p, q, hA0, hV, rfl, hfz, hnd⟩ := hW
  have hA : DataW.TrodAll enc Tryz.prog W 0 (fun _ => true) true Tryz.f5.params.toList args.toList ds p := hA0
  rw [Tryz.params5] at hA hval
  obtain ⟨v0, vs0, d0, ds0, p0, q0, hargs, rfl, rfl, h0, r0⟩ := trodAll_cons hA
  obtain ⟨v1, vs1, d1, ds1, p1, q1, rfl, rfl, rfl, h1, r1⟩ := trodAll_cons r0
  obtain ⟨rfl, rfl, rfl⟩ := trodAll_nil r1
  obtain rfl : args = #[v0, v1] := by cases args; simp_all
  obtain ⟨rfl, rfl⟩ := trodVars_none hV
  obtain ⟨a0, len0, cap0, rfl⟩ := okWide_slice Tryz.underlying22 (hval 0 22 v0 rfl rfl)
  have k0 := h0
  have lt0 : ∀ x ∈ p0, x.block < W.heap.size := by obtain ⟨m, hm⟩ := k0; exact DataW.trod_lt m _ _ _ hm
  obtain ⟨fu0, hf0⟩ := h0
  obtain ⟨L0, hn0, hs0, ho0, hm0, hz0⟩ := open_edits (by simpa [Value.cells] using hf0)
  subst hn0
  obtain ⟨a1, len1, cap1, rfl⟩ := okWide_slice Tryz.underlying23 (hval 1 23 v1 rfl rfl)
  have k1 := h1
  have lt1 : ∀ x ∈ p1, x.block < W.heap.size := by obtain ⟨m, hm⟩ := k1; exact DataW.trod_lt m _ _ _ hm
  obtain ⟨fu1, hf1⟩ := h1
  obtain ⟨L1, hn1, hs1, ho1, hm1, hz1⟩ := open_bytes (by simpa [Value.cells] using hf1)
  subst hn1
  clear hA0 hval0
  refine (eliminationAncestors_walk a0 L0 cap0 a1 L1 cap1 W hs0 hs1 ho1 hm1 (tab_of_laid hL)).mono fun e W' ⟨he, bel⟩ => ?_
  subst he
  exact ⟨_, rfl, _, _, _, [], _, [], hW', trodAll_mk1 (shut_bool Tryz.underlying4 _), (trodAll_cons_mk (Below.trod laidOut (by kernel_rfl) (of_decide_eq_true (by kernel_rfl)) k0 bel lt0) (trodAll_cons_mk (Below.trod laidOut (by kernel_rfl) (of_decide_eq_true (by kernel_rfl)) k1 bel lt1) trodAll_mk0)), rfl, bel.frame _, fun h => by cases h⟩

theorem over : Rows.eliminationAncestorsRow.holds Tryz.pinned (OpenSpec.ofChange Rows.eliminationAncestorsSpec) :=
  OpenClaim.holds_of_wide 5 Tryz.f5 rfl rfl rfl rfl rfl rfl rfl ⟨rfl, rfl, rfl, rfl, rfl⟩ rfl rfl rfl rfl rfl (by kernel_rfl) Tryz.func5 (by kernel_rfl)
    (of_decide_eq_true (by kernel_rfl)) (by unfold Func.isWrapper; first | (rw [if_pos (by decide +kernel)]; kernel_rfl) | (rw [if_neg (by decide +kernel)]; exact ⟨rfl, rfl⟩))
    (fun os started H enc _ => lifted os started H enc)
end Go.Proofs.YtjehhilijeajnaaGreatDoor.eliminationAncestorsRow
namespace Go.Proofs.YtjehhilijeajnaaGreatDoor
open Go
/-- the given statement -/
theorem eliminationAncestors_holds : Rows.EliminationAncestorsCardSaid :=
  Claim7.holds_tied_plain_at .later [] [.data] true (true, "0ceec30d3f7ff7f423cc43cb0ed385367f6dd2ec832c5276d81adf283899bfa9") true
    eliminationAncestorsRow.over (fun _ h => by cases h) (by kernel_rfl) (fun _ h => by cases h) eliminationAncestors_row_tie rfl ⟨rfl, rfl⟩ (by kernel_rfl) rfl
    (fun f fn hf hfn => by
      obtain rfl : f = 5 := Option.some.inj ((show Tryz.prog.funcNamed "palmette/palmettelaw21.EliminationAncestors" = some 5 by kernel_rfl).symm.trans hf) |>.symm
      obtain rfl : fn = Tryz.f5 := (Option.some.inj (Tryz.func5.symm.trans hfn)).symm
      exact ⟨by kernel_rfl, fun j t ht => by
        rw [Tryz.params5] at ht
        have h3 : t = 22 ∨ t = 23 := by
          rcases j with _ | _ | j
          · simp at ht; simp [ht]
          · simp at ht; simp [ht]
          · simp at ht
        rcases h3 with rfl | rfl
        · exact (show Tryz.prog.wantsStandIn 22 = false by kernel_rfl)
        · exact (show Tryz.prog.wantsStandIn 23 = false by kernel_rfl)⟩)
    (by kernel_rfl)
#print axioms eliminationAncestors_holds
end Go.Proofs.YtjehhilijeajnaaGreatDoor
