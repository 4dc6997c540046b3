/- Every input makes the law EliminationExtremes answer true, and each argument reads behind the call as it read before: the given card, tied to the program's text. No condition. -/
import Derived.Test.YtjehhilijeajnaaGreatDoorC10
import Derived.Test.YtjehhilijeajnaaGreatDoorC11
import Derived.Test.YtjehhilijeajnaaGreatDoorC3
import Derived.Test.YtjehhilijeajnaaGreatDoorCards
import Derived.Test.YtjehhilijeajnaaGreatDoorTie
import Derived.WalkKit
import Derived.ProofKit
import Derived.OpenShut
import Derived.ShutString
import Derived.ChangeOld
import Derived.Below
import Derived.SevenTiedAt
/- EliminationExtremes: every input makes the law answer true: the walk. Conditions: see each theorem. -/
namespace Go.Proofs.YtjehhilijeajnaaGreatDoor
open Go Go.RowKit
attribute [local go_sem] qUpon lUpon

theorem encD0 (x : Ed) : ∃ u : Value, (encD x)[0]? = some u := ⟨_, rfl⟩
/-- an empty graph is built -/
theorem build_none {w : World} {e : Ending} {w' : World} (h : BuildPost [] [] w e w') : ∃ g bv be, e = .returned (.tuple #[.pointer (some ⟨g, 0, none⟩), .int .i64 0]) ∧ IsG w' g bv be [] [] ∧ Ext w w' ∧ w.heap.size ≤ g ∧ w.heap.size ≤ bv ∧ w.heap.size ≤ be := by
  rcases h with ⟨_, g, bv, be, he, hg, hx, h1, h2, h3⟩ | ⟨h0, _⟩
  · exact ⟨g, bv, be, he, hg, hx, h1, h2, h3⟩
  · exact absurd rfl h0
theorem IsG.lts {w : World} {g bv be : Nat} {V : List (Int × Thing)} {E : List ((Int × Int) × Thing)} (h : IsG w g bv be V E) : g < w.heap.size ∧ bv < w.heap.size ∧ be < w.heap.size := by
  obtain ⟨V', E', h1, _⟩ := h
  obtain ⟨es, c1, e1, _⟩ := h1.vs
  obtain ⟨es', c2, e2, _⟩ := h1.es
  exact ⟨h1.blk.lt, (Array.getElem?_eq_some_iff.1 e1).1, (Array.getElem?_eq_some_iff.1 e2).1⟩
/-- two graphs that are edited side by side -/
structure Xt (w wr : World) (g bv be h hv he : Nat) (V : List (Int × Thing)) (E : List ((Int × Int) × Thing)) (V' : List (Int × Thing)) (Aa : Option Addr) (D : List Ed) (C : Option Addr) (L : List Int) : Prop where
  gg : IsG wr g bv be V E
  hh : IsG wr h hv he V' []
  sa : SlAt encD 5 wr Aa D
  sl : SlAt encI 1 wr C L
  tb : Tab wr
  tl : 0 < w.heap.size
  ex : Ext w wr
  lo : w.heap.size ≤ bv ∧ w.heap.size ≤ be ∧ w.heap.size ≤ hv ∧ w.heap.size ≤ he
  ag : g < h ∧ g < hv ∧ g < he ∧ bv < h ∧ bv < hv ∧ bv < he ∧ be < h ∧ be < hv ∧ be < he
section
variable {w wr wr' : World} {g bv be h hv he : Nat} {V V2 : List (Int × Thing)} {E E2 : List ((Int × Int) × Thing)} {V' : List (Int × Thing)} {Aa : Option Addr} {D : List Ed} {C : Option Addr} {L : List Int}
theorem Xt.go (x : Xt w wr g bv be h hv he V E V' Aa D C L) (k : Ext wr wr') : Xt w wr' g bv be h hv he V E V' Aa D C L :=
  ⟨x.gg.ext k, x.hh.ext k, x.sa.ext k, x.sl.ext k, x.tb.ext k, x.tl, x.ex.trans k, x.lo, x.ag⟩
theorem Xt.stepG (x : Xt w wr g bv be h hv he V E V' Aa D C L) (k : Keep [bv, be] wr wr') (hG : IsG wr' g bv be V2 E2) : Xt w wr' g bv be h hv he V2 E2 V' Aa D C L := by
  have lo := x.lo
  have ag := x.ag
  have tl := x.tl
  exact ⟨hG, x.hh.keep k (by simp; omega) (by simp; omega) (by simp; omega), x.sa.keep_maps encD0 x.gg k, x.sl.keep_maps encI0 x.gg k, x.tb.keep k (by simp; omega), tl, x.ex.of_new k (by simp; omega), lo, ag⟩
theorem Xt.stepH {V2 : List (Int × Thing)} (x : Xt w wr g bv be h hv he V E V' Aa D C L) (k : Keep [hv, he] wr wr') (hG : IsG wr' h hv he V2 []) : Xt w wr' g bv be h hv he V E V2 Aa D C L := by
  have lo := x.lo
  have ag := x.ag
  have tl := x.tl
  exact ⟨x.gg.keep k (by simp; omega) (by simp; omega) (by simp; omega), hG, x.sa.keep_maps encD0 x.hh k, x.sl.keep_maps encI0 x.hh k, x.tb.keep k (by simp; omega), tl, x.ex.of_new k (by simp; omega), lo, ag⟩
end

set_option maxRecDepth 100000 in
set_option maxHeartbeats 16000000 in
theorem eliminationExtremes_walk (a : Int) (A1 : Option Addr) (Bs : List Int) (cT : Nat) (w : World) (ha : 0 ≤ a ∧ a ≤ 255) (hB : SlAt encU8 1 w A1 Bs) (hb : ∀ x ∈ Bs, 0 ≤ x ∧ x < 256) (hBl : Bs.length ≤ 9223372036854775807) (hT : Tab w) :
    Calls Tryz.prog 7 #[.int .u8 a, .slice A1 Bs.length cT] w fun e w' => e = .returned (.bool true) ∧ Ext w w' := by
  obtain ⟨a, rfl⟩ : ∃ n : Nat, a = (n : Int) := ⟨a.toNat, by omega⟩
  have hT' := hide hT
  have hTl := hide hT.lt
  have hB' := hide hB
  have hb' := hide hb
  have hrem : (a : Int).tmod 21 = ((a % 21 : Nat) : Int) := rem_nat (n := 21) (by omega)
  have hk20 : a % 21 ≤ 20 := by omega
  generalize a % 21 = K at hrem hk20
  have hwu : IntKind.u8.wrap (K : Int) = (K : Int) := IntWalk.u8_in _ (by omega)
  have hwk : IntKind.i64.wrap (K : Int) = (K : Int) := IntWalk.i64_in _ (by omega)
  clear hT hB hb ha
  go_enter Tryz.func7, Tryz.ntmps7
  go_wp2_with fail
  go_loopw [6, 7, 8] (fun av bv iv wr => ∃ (i : Nat) (va vb : Value), i ≤ K ∧ va = av ∧ vb = bv ∧ iv = .int .i64 i ∧ wr.ownsRow w.heap.size 76 5 va i ((bareK i).flatMap encD) ∧ wr.ownsRow w.heap.size 76 5 vb i ((bareK i).flatMap encD) ∧ apart2 va vb ∧ Ext w wr) (fun _ _ iv _ => K - (intOf iv).toNat)
  case atStart => exact ⟨0, _, _, Nat.zero_le _, rfl, rfl, rfl, World.ownsRow_nil _ _ _ _, World.ownsRow_nil _ _ _ _, fun g h1 h2 => (by cases h2), Ext.refl _⟩
  case round =>
    obtain ⟨i, va, vb, hi, e1, e2, rfl, hoa, hob, hap, hx⟩ := hrel
    subst e1
    subst e2
    have hoa' := hide hoa
    have hob' := hide hob
    have hap' := hide hap
    have hx' := hide hx
    have hb1 := hide (Below.size hx)
    clear hoa hob hap hx
    by_cases hlt : i < K
    · have hnx := hide (bareK_next i)
      try dsimp only
      repeat ((fail_if_success (with_reducible refine wp_reg (id := 6) ?_)); (first | go_values | go_skip | go_step | go_guarded | go_upon | go_in | go_back | fail))
      with_reducible refine wp_reg (id := 6) ?_
      iterate 4
        refine wpO_want rfl ?_
        go_simp
      have hBa : Blk (wr.alloc (.cells #[.int .i64 0, .int .i64 i, .int .i64 0, .int .u8 0, .int .i64 0] 76)) wr.heap.size 76 (encD (0, ((i : Int), (0, (0, 0))))).toArray := Blk.new wr 76 #[.int .i64 0, .int .i64 i, .int .i64 0, .int .u8 0, .int .i64 0]
      have hxa := ext_self1 wr (.cells #[.int .i64 0, .int .i64 i, .int .i64 0, .int .u8 0, .int .i64 0] 76)
      refine wpO_ap1 (enc := encD) rfl infoEd Tryz.underlying22 one_encGD (fun _ => rfl) (by decide) (by decide) rfl (v := va) (xs := bareK i) (0, ((i : Int), (0, (0, 0)))) rfl rfl hBa (own_ext (unhide hoa') hxa) (by omega) (Nat.le_trans (unhide hb1) (Below.size hxa)) ?_
      intro A2 c2 w2 ho2 hg2 hat2
      have hobx := own_keep (own_ext (unhide hob') hxa) (Keep.of_grown hg2) (fun z hz e => unhide hap' z (by simpa using hz) e)
      have hap2 : apart2 (.slice A2 (i + 1) c2) vb := fun z h1 h2 => by
        rcases hat2 with hq | hq
        · exact unhide hap' z (hq ▸ h1) h2
        · rw [hq] at h1
          injection h1 with h1
          have := (own_base (unhide hob') h2).2.1
          simp at h1
          omega
      have hx2 := hide (((unhide hx').trans hxa).of_new (Keep.of_grown hg2) (fun z hz => (own_base (unhide hoa') (by simpa using hz)).1))
      have ho2' := hide ho2
      have hobx' := hide hobx
      have hap2' := hide hap2
      have hb2 := hide (Below.size (unhide hx2))
      clear hBa hxa ho2 hg2 hat2 hobx hap2 hap' hoa' hob' hx' hb1
      try go_frame
      iterate 4
        refine wpO_want rfl ?_
        go_simp
      have hBb : Blk (w2.alloc (.cells #[.int .i64 0, .int .i64 i, .int .i64 0, .int .u8 0, .int .i64 0] 76)) w2.heap.size 76 (encD (0, ((i : Int), (0, (0, 0))))).toArray := Blk.new w2 76 #[.int .i64 0, .int .i64 i, .int .i64 0, .int .u8 0, .int .i64 0]
      have hxb := ext_self1 w2 (.cells #[.int .i64 0, .int .i64 i, .int .i64 0, .int .u8 0, .int .i64 0] 76)
      refine wpO_ap1 (enc := encD) rfl infoEd Tryz.underlying22 one_encGD (fun _ => rfl) (by decide) (by decide) rfl (v := vb) (xs := bareK i) (0, ((i : Int), (0, (0, 0)))) rfl rfl hBb (own_ext (unhide hobx') hxb) (by omega) (Nat.le_trans (unhide hb2) (Below.size hxb)) ?_
      intro A3 c3 w3 ho3 hg3 hat3
      have hoa3 := own_keep (own_ext (unhide ho2') hxb) (Keep.of_grown hg3) (fun z hz e => unhide hap2' z e (by simpa using hz))
      have hap3 : apart2 (.slice A2 (i + 1) c2) (.slice A3 (i + 1) c3) := fun z h1 h2 => by
        rcases hat3 with hq | hq
        · exact unhide hap2' z h1 (hq ▸ h2)
        · rw [hq] at h2
          injection h2 with h2
          have := (own_base (unhide ho2') h1).2.1
          simp at h2
          omega
      have hx3 := hide (((unhide hx2).trans hxb).of_new (Keep.of_grown hg3) (fun z hz => (own_base (unhide hobx') (by simpa using hz)).1))
      have ho3' := hide ho3
      have hoa3' := hide hoa3
      have hap3' := hide hap3
      clear hBb hxb ho3 hg3 hat3 hoa3 hap3 hap2' ho2' hobx' hx2 hb2
      try go_frame
      iterate 2
        refine wpO_want rfl ?_
        go_simp
      refine wpO_done ?_
      try go_frame
      go_wp2_with fail
      go_roundw
      case rel => exact ⟨i + 1, _, _, by omega, rfl, rfl, by go_num, by rw [unhide hnx]; exact unhide hoa3', by rw [unhide hnx]; exact unhide ho3', unhide hap3', unhide hx3⟩
      case measure => simp [intOf]; omega
    · have hie : i = K := by omega
      subst hie
      obtain ⟨Aa, ca, rfl⟩ := own_slice (unhide hoa')
      obtain ⟨Ab, cb, rfl⟩ := own_slice (unhide hob')
      have hsa1 := hide (own_at (enc := encD) (own_n (m := (bareK i).length) (unhide hoa') (bareK_len i)) (fun _ => rfl))
      have hsb1 := hide (own_at (enc := encD) (own_n (m := (bareK i).length) (unhide hob') (bareK_len i)) (fun _ => rfl))
      have hmb := hide (mdS_bare (k := i) (by omega))
      clear hoa' hob' hap' hlt hi hrem hwu
      generalize wr = w1 at *
      go_wp2_with fail
      have hbd := build_any none none [] [] 0 0 w1 SlAt.nil SlAt.nil (fun d h => by cases h) (fun d h => by cases h) (by simp) (by simp)
      refine hbd.mono ?_
      rintro e w2 hbp
      obtain ⟨g, bv, be, rfl, hgg, hx2, hn1, hn2, hn3⟩ := build_none hbp
      have hgg2 := hide hgg
      have hx2' := hide ((unhide hx').trans hx2)
      have hsa2 := hide ((unhide hsa1).ext hx2)
      have hsb2 := hide ((unhide hsb1).ext hx2)
      have hng := hide (And.intro (Nat.le_trans (Below.size (unhide hx')) hn1) (And.intro (Nat.le_trans (Below.size (unhide hx')) hn2) (Nat.le_trans (Below.size (unhide hx')) hn3)))
      clear hbd hbp hgg hx2 hn1 hn2 hn3 hx' hsa1 hsb1 hb1
      go_wp2_with fail
      have hbg := begun_any Ab (bareK i) cb A1 Bs cT w2 (unhide hsb2) ((unhide hB').ext (unhide hx2')) (unhide hb') hBl
      rw [bareK_len] at hbg
      refine hbg.mono ?_
      rintro e w3 ⟨g0, bv0, be0, A0, B0, cA0, cB0, C, L, cL, rfl, _, _, _, hL, hord, hx, _, _, _, _⟩
      have hsa3 := hide ((unhide hsa2).ext hx)
      have hgg3 := hide ((unhide hgg2).ext hx)
      have hL3 := hide hL
      have hord' := hide hord
      have hx3' := hide ((unhide hx2').trans hx)
      clear hbg hL hord hx hsa2 hsb2 hgg2 hx2'
      generalize hVM : (mdS (bareK i)).1 = VM at *
      clear hVM
      go_wp2_with fail
      have hlts := hide (unhide hgg3).lts
      refine (clone_any g bv be [] [] w3 (unhide hgg3)).mono ?_
      rintro e w4 ⟨h, hv, he, rfl, hhh, hx, hn1, hn2, hn3⟩
      have hXt : Xt w w4 g bv be h hv he [] [] [] Aa (bareK i) C L := by
        have l1 := (unhide hlts).1
        have l2 := (unhide hlts).2.1
        have l3 := (unhide hlts).2.2
        have l4 := unhide hng
        have l5 := Below.size (unhide hx3')
        exact ⟨(unhide hgg3).ext hx, hhh, (unhide hsa3).ext hx, (unhide hL3).ext hx, (unhide hT').ext ((unhide hx3').trans hx), unhide hTl, (unhide hx3').trans hx, by omega, by omega⟩
      have hXt' := hide hXt
      clear hhh hx hn1 hn2 hn3 hXt hlts hng hgg3 hsa3 hL3 hx3' hT'
      go_wp2_with fail
      generalize i = K at *
      go_loopw [13] (fun iv wr => ∃ (i : Nat) (V V' : List (Int × Thing)) (E : List ((Int × Int) × Thing)), i ≤ K ∧ iv = .int .i64 i ∧ IdsTo i V ∧ IdsTo i V' ∧ PairsTo i 0 E ∧ E.length ≤ 20 * i ∧ Xt w wr g bv be h hv he V E V' Aa (bareK K) C L) (fun iv _ => K - (intOf iv).toNat)
      case atStart => exact ⟨0, [], [], [], Nat.zero_le _, rfl, fun x => by simp; try omega, fun x => by simp; try omega, PairsTo.nil, Nat.zero_le _, unhide hXt'⟩
      case round =>
        obtain ⟨i, V, V', E, hi, rfl, hV, hV', hP, hEl, hX⟩ := hrel
        have hX' := hide hX
        have hVi := hide hV
        have hVi' := hide hV'
        have hPi := hide hP
        clear hX hV hV' hP hXt'
        by_cases hlt : i < K
        · have hkb : i < (bareK K).length := by rw [bareK_len]; exact hlt
          obtain ⟨b, off, hAa, d0, d1, d2, d3, d4⟩ := atD (unhide hX').sa hkb
          rw [bareK_get] at d0 d1 d2 d3 d4
          simp only at d0 d1 d2 d3 d4
          have hst1 := hide (addV_step (E := E) (unhide hVi) (show i < 1024 by omega))
          have hst2 := hide (addV_step (E := []) (unhide hVi') (show i < 1024 by omega))
          have hself := Ext.refl wr
          have hAa' := hide hAa
          subst hAa
          clear hkb
          go_wp2_with fail
          refine (apply_any g bv be V E 0 i 0 0 0 wr (unhide hX').gg (okK (by omega)) (by unfold i64ok; decide)).mono ?_
          rw [(unhide hst1).1, (unhide hst1).2.2]
          rintro e w5 ⟨rfl, hg5, hk5⟩
          have hX5 := hide ((unhide hX').stepG hk5 hg5)
          have hid5 := hide (unhide hst1).2.1
          generalize nxV 0 i 0 0 0 V E = V2 at *
          clear hg5 hk5 hX' hst1 hVi d0 d1 d2 d3 d4 hself
          obtain ⟨b', off', hAa2, d0, d1, d2, d3, d4⟩ := atD (unhide hX5).sa (show i < (bareK K).length by rw [bareK_len]; exact hlt)
          rw [bareK_get] at d0 d1 d2 d3 d4
          simp only at d0 d1 d2 d3 d4
          injection hAa2 with hAa2
          injection hAa2 with hq1 hq2
          subst hq1
          subst hq2
          have hself := Ext.refl w5
          go_wp2_with fail
          refine (apply_any h hv he V' [] 0 i 0 0 0 w5 (unhide hX5).hh (okK (by omega)) (by unfold i64ok; decide)).mono ?_
          rw [(unhide hst2).1, (unhide hst2).2.2]
          rintro e w6 ⟨rfl, hg6, hk6⟩
          have hX6 := hide ((unhide hX5).stepH hk6 hg6)
          have hid6 := hide (unhide hst2).2.1
          generalize nxV 0 i 0 0 0 V' [] = V2' at *
          clear hg6 hk6 hX5 hst2 hVi' d0 d1 d2 d3 d4 hself
          go_wp2_with fail
          go_loopw [14] (fun jv wr => ∃ (j : Nat) (E' : List ((Int × Int) × Thing)), j ≤ i ∧ jv = .int .i64 j ∧ PairsTo i j E' ∧ E'.length ≤ 20 * i + j ∧ Xt w wr g bv be h hv he V2 E' V2' (some ⟨b, off, none⟩) (bareK K) C L) (fun jv _ => i - (intOf jv).toNat)
          case atStart => exact ⟨0, E, Nat.zero_le _, rfl, unhide hPi, by omega, unhide hX6⟩
          case round =>
            obtain ⟨j, E', hj, rfl, hPj, hEj, hXj⟩ := hrel
            have hXj' := hide hXj
            have hPj' := hide hPj
            clear hXj hPj
            by_cases hlj : j < i
            · have hst := hide (addE_step (unhide hXj').gg.inv (unhide hid5) (unhide hPj') hlj (show i < 1024 by omega) (show E'.length < 1024 by omega))
              go_wp2_with fail
              refine (apply_any g bv be V2 E' 2 i j 0 0 wr (unhide hXj').gg (okK (by omega)) (okK (by omega))).mono ?_
              rw [(unhide hst).1, (unhide hst).2.1]
              rintro e w7 ⟨rfl, hg7, hk7⟩
              have hX7 := hide ((unhide hXj').stepG hk7 hg7)
              have hP7 := hide (unhide hst).2.2.1
              have hl7 := hide (unhide hst).2.2.2
              generalize nxE 2 i j 0 0 V2 E' = E2 at *
              clear hg7 hk7 hst hXj' hPj'
              go_wp2_with fail
              go_roundw
              case rel => exact ⟨j + 1, E2, by omega, by go_num, unhide hP7, by have := unhide hl7; omega, unhide hX7⟩
              case measure => simp [intOf]; omega
            · have hje : j = i := by omega
              subst hje
              have hPr := hide (unhide hPj').row
              clear hPj'
              go_wp2_with fail
              go_roundw
              case rel => exact ⟨j + 1, V2, V2', E', by omega, by go_num, unhide hid5, unhide hid6, unhide hPr, by omega, unhide hXj'⟩
              case measure => simp [intOf]; omega
        · have hie : i = K := by omega
          subst hie
          have hgi := hide (unhide hX').gg.inv
          have hhi := hide (unhide hX').hh.inv
          have ho1 := hide (ids_ord (unhide hmb).2 (unhide hVi) (unhide hord'))
          have ho2 := hide (ids_ord (unhide hmb).2 (unhide hVi') (unhide hord'))
          have hLl := ids_len (unhide ho1) (unhide hVi)
          have hck1 := hide (ord_check (unhide ho1) ((unhide ho1).len (unhide hgi)))
          have hck2 := hide (ord_check (unhide ho2) ((unhide ho2).len (unhide hhi)))
          have hap := all_pairs (unhide ho1) (unhide hVi) (unhide hPi)
          have hw1 := hide (show widK E L L.length = (i : Int) - 1 by rw [all_wid (unhide hgi) (unhide ho1) hap, hLl])
          have hf1 := hide (all_fill (unhide hgi) (unhide ho1) hap)
          have hne : ∀ u v, ¬ Adj0 ([] : List ((Int × Int) × Thing)) u v := fun u v ⟨e, he, _⟩ => by cases he
          have hw2 := hide (show widK [] L L.length = min (i : Int) 1 - 1 by rw [none_wid (unhide hhi) (unhide ho2) hne, hLl])
          have hh2 := hide (show hgtM (treeR [] L L.length) = min (i : Int) 1 by rw [none_hgt (unhide hhi) (unhide ho2) hne, hLl])
          have hcL : L.length ≤ 100 := by omega
          replace hLl := hide hLl
          have hTw9 := hide (unhide hX').tb
          have hLw9 := hide (unhide hX').sl
          have hgw9 := hide (unhide hX').gg
          have hhw9 := hide (unhide hX').hh
          have hx9' := hide (unhide hX').ex
          have hmin : min (i : Int) 1 = ((min i 1 : Nat) : Int) := by omega
          have hwm : IntKind.i64.wrap ((min i 1 : Nat) : Int) = ((min i 1 : Nat) : Int) := IntWalk.i64_in _ (by omega)
          have hwm1 : IntKind.i64.wrap (((min i 1 : Nat) : Int) - 1) = ((min i 1 : Nat) : Int) - 1 := IntWalk.i64_in _ (by omega)
          have hwk1 : IntKind.i64.wrap ((i : Int) - 1) = (i : Int) - 1 := IntWalk.i64_in _ (by omega)
          clear hne hap hX' hlt hPi hVi hVi' hord' hgi hhi
          generalize wr = w9 at *
          go_wp2_with fail
          refine (width_ok C L cL g bv be V E w9 (unhide hLw9) (by omega) (unhide hgw9) (unhide hTw9) (unhide hck1)).mono ?_
          rw [unhide hw1]
          rintro e w10 ⟨rfl, hx⟩
          have hTw10 := hide ((unhide hTw9).ext hx)
          have hLw10 := hide ((unhide hLw9).ext hx)
          have hgw10 := hide ((unhide hgw9).ext hx)
          have hhw10 := hide ((unhide hhw9).ext hx)
          have hx10' := hide ((unhide hx9').trans hx)
          clear hTw9 hLw9 hgw9 hhw9
          clear hx hx9'
          go_wp2_with fail
          refine (fill_ok C L cL g bv be V E w10 (unhide hLw10) (by omega) (unhide hgw10) (unhide hTw10) (unhide hck1)).mono ?_
          rw [unhide hf1]
          rintro e w11 ⟨Af, cf, rfl, hof, hx⟩
          have hTw11 := hide ((unhide hTw10).ext hx)
          have hLw11 := hide ((unhide hLw10).ext hx)
          have hgw11 := hide ((unhide hgw10).ext hx)
          have hhw11 := hide ((unhide hhw10).ext hx)
          have hx11' := hide ((unhide hx10').trans hx)
          clear hTw10 hLw10 hgw10 hhw10
          clear hx hx10'
          clear hof
          go_wp2_with fail
          refine (width_ok C L cL h hv he V' [] w11 (unhide hLw11) (by omega) (unhide hhw11) (unhide hTw11) (unhide hck2)).mono ?_
          rw [unhide hw2]
          rintro e w12 ⟨rfl, hx⟩
          have hTw12 := hide ((unhide hTw11).ext hx)
          have hLw12 := hide ((unhide hLw11).ext hx)
          have hgw12 := hide ((unhide hgw11).ext hx)
          have hhw12 := hide ((unhide hhw11).ext hx)
          have hx12' := hide ((unhide hx11').trans hx)
          clear hTw11 hLw11 hgw11 hhw11
          clear hx hx11'
          go_wp2_with fail
          refine (hgt_ok C L cL h hv he V' [] w12 (unhide hLw12) (by omega) (unhide hhw12) (unhide hTw12) (unhide ho2)).mono ?_
          rw [unhide hh2]
          rintro e w13 ⟨rfl, hx⟩
          have hTw13 := hide ((unhide hTw12).ext hx)
          have hLw13 := hide ((unhide hLw12).ext hx)
          have hgw13 := hide ((unhide hgw12).ext hx)
          have hhw13 := hide ((unhide hhw12).ext hx)
          have hx13' := hide ((unhide hx12').trans hx)
          clear hTw12 hLw12 hgw12 hhw12
          clear hx hx12'
          go_wp2_with fail
          refine (known21_any w13 (unhide hTw13)).mono ?_
          rintro e w14 ⟨rfl, hx⟩
          have hTw14 := hide ((unhide hTw13).ext hx)
          have hLw14 := hide ((unhide hLw13).ext hx)
          have hgw14 := hide ((unhide hgw13).ext hx)
          have hhw14 := hide ((unhide hhw13).ext hx)
          have hx14' := hide ((unhide hx13').trans hx)
          clear hTw13 hLw13 hgw13 hhw13
          clear hx hx13'
          go_wp2_with fail
          go_ret
          exact ⟨rfl, unhide hx14'⟩
end Go.Proofs.YtjehhilijeajnaaGreatDoor
/- Every input makes the law EliminationExtremes answer true, and each argument reads behind the call as it read before: the given card, tied to the program's text. No condition. -/
namespace Go.Proofs.YtjehhilijeajnaaGreatDoor.eliminationExtremesRow
open Go.ChangeShapes Go.WideShapes Go.ChangeAt Go.RowKit
set_option linter.unusedVariables false

theorem own : ownKnob Tryz.prog.godebug = none := by kernel_rfl
theorem laidOut : laidOutB Tryz.prog = true := by kernel_rfl
theorem door_met (os : Os) (args : Array Value) : laidMetH Tryz.prog laidL ((World.doorLaid Tryz.prog 400 os).forCall (fun _ _ => 0) ⟨#[], args, []⟩).memory :=
  laidMetH_of_parts3 (fuel := 8) (laidMet_of_run' 8 (by kernel_rfl) (by kernel_rfl)) (by kernel_rfl) (by kernel_rfl)

set_option maxRecDepth 100000 in
theorem lifted (os : Os) (started : os.Started) (H : Type) (enc : TypeId × Value → H) :
    ReturnsInHanded {} Tryz.checked os 7 .any (fun w args => (Rows.eliminationExtremesSpec.pre enc Tryz.prog Tryz.f7 [] false w args ∧ laidMetH Tryz.prog laidL w) ∧ sizedMet enc Tryz.prog Tryz.f7 (OpenSpec.ofChange Rows.eliminationExtremesSpec) false w args)
      (Rows.eliminationExtremesSpec.post enc Tryz.prog Tryz.f7 false true false false) := by
  refine returnsInHanded_of_change_and (C := Tryz.checked) (X := fun w _ => laidMetH Tryz.prog laidL w) (fun _ _ _ hh h => h.of_heap hh) own started (by kernel_rfl) Tryz.func7
    (ChangeSpec.witness_shaped (enc := enc) (C := Tryz.checked) (os := os) (X := fun w _ => laidMetH Tryz.prog laidL w) false (World.doorLaid Tryz.prog 400 os) #[.int .u8 0, .slice none 0 0] 8 rfl (World.shaped_of_RefB (by kernel_rfl) (by kernel_rfl)) (by kernel_rfl) (by kernel_rfl) (by kernel_rfl) (door_met os _)) ?_
  intro W base args ds gs before hval0 hW _ _ hL _
  have hval : ∀ (j : Nat) t v, Tryz.f7.params[j]? = some t → args[j]? = some v → Value.okWide Tryz.prog W .any base t v := hval0
  have hW' := hW
  obtain ⟨p, q, hA0, hV, rfl, hfz, hnd⟩ := hW
  have hA : DataW.TrodAll enc Tryz.prog W 0 (fun _ => true) true Tryz.f7.params.toList args.toList ds p := hA0
  rw [Tryz.params7] at hA hval
  obtain ⟨v0, vs0, d0, ds0, p0, q0, hargs, rfl, rfl, h0, r0⟩ := trodAll_cons hA
  obtain ⟨v1, vs1, d1, ds1, p1, q1, rfl, rfl, rfl, h1, r1⟩ := trodAll_cons r0
  obtain ⟨rfl, rfl, rfl⟩ := trodAll_nil r1
  obtain rfl : args = #[v0, v1] := by cases args; simp_all
  obtain ⟨rfl, rfl⟩ := trodVars_none hV
  obtain ⟨a0, rfl, rfl, rfl, w0⟩ := open_int Tryz.underlying5 (hval 0 5 v0 rfl rfl) h0
  obtain ⟨a1, len1, cap1, rfl⟩ := okWide_slice Tryz.underlying23 (hval 1 23 v1 rfl rfl)
  have k1 := h1
  have lt1 : ∀ x ∈ p1, x.block < W.heap.size := by obtain ⟨m, hm⟩ := k1; exact DataW.trod_lt m _ _ _ hm
  obtain ⟨fu1, hf1⟩ := h1
  obtain ⟨L1, hn1, hs1, ho1, hm1, hz1⟩ := open_bytes (by simpa [Value.cells] using hf1)
  subst hn1
  clear hA0 hval0
  refine (eliminationExtremes_walk a0 a1 L1 cap1 W (Go.bounds_u8 w0) hs1 ho1 hm1 (tab_of_laid hL)).mono fun e W' ⟨he, bel⟩ => ?_
  subst he
  exact ⟨_, rfl, _, _, _, [], _, [], hW', trodAll_mk1 (shut_bool Tryz.underlying4 _), (trodAll_cons_mk (shut_int Tryz.underlying5 w0) (trodAll_cons_mk (Below.trod laidOut (by kernel_rfl) (of_decide_eq_true (by kernel_rfl)) k1 bel lt1) trodAll_mk0)), rfl, bel.frame _, fun h => by cases h⟩

theorem over : Rows.eliminationExtremesRow.holds Tryz.pinned (OpenSpec.ofChange Rows.eliminationExtremesSpec) :=
  OpenClaim.holds_of_wide 7 Tryz.f7 rfl rfl rfl rfl rfl rfl rfl ⟨rfl, rfl, rfl, rfl, rfl⟩ rfl rfl rfl rfl rfl (by kernel_rfl) Tryz.func7 (by kernel_rfl)
    (of_decide_eq_true (by kernel_rfl)) (by unfold Func.isWrapper; first | (rw [if_pos (by decide +kernel)]; kernel_rfl) | (rw [if_neg (by decide +kernel)]; exact ⟨rfl, rfl⟩))
    (fun os started H enc _ => lifted os started H enc)
end Go.Proofs.YtjehhilijeajnaaGreatDoor.eliminationExtremesRow
namespace Go.Proofs.YtjehhilijeajnaaGreatDoor
open Go
/-- the given statement -/
theorem eliminationExtremes_holds : Rows.EliminationExtremesCardSaid :=
  Claim7.holds_tied_plain_at .later [] [.data] true (true, "0ceec30d3f7ff7f423cc43cb0ed385367f6dd2ec832c5276d81adf283899bfa9") true
    eliminationExtremesRow.over (fun _ h => by cases h) (by kernel_rfl) (fun _ h => by cases h) eliminationExtremes_row_tie rfl ⟨rfl, rfl⟩ (by kernel_rfl) rfl
    (fun f fn hf hfn => by
      obtain rfl : f = 7 := Option.some.inj ((show Tryz.prog.funcNamed "palmette/palmettelaw21.EliminationExtremes" = some 7 by kernel_rfl).symm.trans hf) |>.symm
      obtain rfl : fn = Tryz.f7 := (Option.some.inj (Tryz.func7.symm.trans hfn)).symm
      exact ⟨by kernel_rfl, fun j t ht => by
        rw [Tryz.params7] at ht
        have h3 : t = 5 ∨ t = 23 := by
          rcases j with _ | _ | j
          · simp at ht; simp [ht]
          · simp at ht; simp [ht]
          · simp at ht
        rcases h3 with rfl | rfl
        · exact (show Tryz.prog.wantsStandIn 5 = false by kernel_rfl)
        · exact (show Tryz.prog.wantsStandIn 23 = false by kernel_rfl)⟩)
    (by kernel_rfl)
#print axioms eliminationExtremes_holds
end Go.Proofs.YtjehhilijeajnaaGreatDoor
