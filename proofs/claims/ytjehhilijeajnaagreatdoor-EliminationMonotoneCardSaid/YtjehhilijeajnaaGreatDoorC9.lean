/- Parts of a proof, laid together: Bg, Ep, Et, Am. Each part says its own conditions. -/
import Derived.Test.YtjehhilijeajnaaGreatDoorC8
import Derived.Test.YtjehhilijeajnaaGreatDoorC6
/- palmettelaw21.begun: a graph, its reference, an order of its vertices. Conditions: see each theorem. -/
namespace Go.Proofs.YtjehhilijeajnaaGreatDoor
open Go Go.RowKit
attribute [local go_sem] qUpon lUpon

theorem nxV_len (op u v lab wt : Int) (V : List (Int × Thing)) (E : List ((Int × Int) × Thing)) : (nxV op u v lab wt V E).length ≤ V.length + 1 := by
  unfold nxV
  split
  · unfold refV
    split
    · have h := ins_len (gt := gtV (u, (lab, wt))) (x := (u, (lab, wt))) V (false, [])
      unfold insF
      split
      · have := h.1; simp at this; omega
      · rename_i hd
        have := h.2.1 (by simpa using hd)
        simp at this
        simp [this]
    · split
      · omega
      · have hfv : ∀ x, (fV op u lab wt x).length ≤ 1 := by
          intro x
          unfold fV
          repeat' split
          all_goals simp
        have h := flat_len hfv V
        omega
  · omega
def encU8 (n : Int) : List Value := [.int .u8 n]
theorem atU8 {w : World} {A : Option Addr} {L : List Int} (h : SlAt encU8 1 w A L) {i : Nat} (hi : i < L.length) : ∃ b off, A = some ⟨b, off, none⟩ ∧ (∀ W, Ext w W → W.cell? ⟨b, off + i, none⟩ = some (.int .u8 L[i])) := by
  obtain ⟨b, off, hA, hc⟩ := h.at_ hi
  exact ⟨b, off, hA, fun W hW => by have := hc 0 _ rfl W hW; simpa using this⟩
theorem stD_len : ∀ (L : List Ed) (s : GS), (L.foldl stD s).1.length ≤ s.1.length + L.length
  | [], s => by simp
  | d :: L, s => by
    rw [List.foldl_cons]
    have h1 := stD_len L (stD s d)
    have h2 := nxV_len d.1 d.2.1 d.2.2.1 d.2.2.2.1 d.2.2.2.2 s.1 s.2
    have h3 : (stD s d).1.length ≤ s.1.length + 1 := h2
    simp only [List.length_cons]
    omega
theorem mdS_len (L : List Ed) : (mdS L).1.length ≤ 60 := by
  have := stD_len (L.take 60) ([], [])
  have h2 : (L.take 60).length ≤ 60 := by rw [List.length_take]; omega
  unfold mdS
  simp only [List.length_nil] at this
  omega

/-- append of a slice, as a step of a drawn region -/
theorem lx_apA {α : Type} {enc : α → List Value} {T ST : TypeId} {kk byt : Nat} {R : World → World → Prop} {C : World → Prop} {safe : Nat → Bool} {Q : Act → World → Prop} {l : List Oper} {n i : Nat} {o : Oper} {s x : Operand} {listed : Array Bool} {a : Act} {W : World}
    (hr : Region.ready .any l.toArray listed = [i]) (ho0 : pick l i = some o) (hw : Region.wanted o (yielded l.toArray a.tmps) = true) (listed' : Array Bool) (hli : listed.setIfInBounds i true = listed')
    (hi0 : (Tryz.prog.info? T).map (fun i => (i.zero.map (·.cells.size), i.size, i.bytes)) = some (some kk, kk, byt)) (hu : Tryz.prog.underlying ST = some (.slice T)) (hone : ∀ x, ∀ v ∈ enc x, v.oneCell' = true) (hlen : ∀ x, (enc x).length = kk) (hk : 0 < kk) (hby : byt ≤ 1000)
    (ho : o.op = .call { callee := .builtin .append, args := #[s, x], argTypes := #[ST, ST] }) {base : Nat} {v : Value} {m : Nat} {xs : List α} (ys : List α) {my c : Nat} {A : Option Addr} (hsv : a.eval s = v) (hx : a.eval x = .slice A my c) (hmy : ys.length = my) (hsrc : SlAt enc kk W A ys)
    (hown : W.ownsRow base T kk v m (xs.flatMap enc)) (hl : m + my ≤ 100000000) (hb : base ≤ W.heap.size)
    (h : ∀ A' c' w', w'.ownsRow base T kk (.slice A' (m + my) c') (m + my) ((xs ++ ys).flatMap enc) → W.grownBy w' v.ownBlock → (Value.ownBlock (.slice A' (m + my) c') = v.ownBlock ∨ Value.ownBlock (.slice A' (m + my) c') = some W.heap.size) → (safe i = true → C w') ∧ ∀ w'', R w' w'' → wpX Tryz.prog l.toArray R C safe Q n listed' (a.put o.dst (.slice A' (m + my) c')) w'') : wpX Tryz.prog l.toArray R C safe Q (n + 1) listed a W := by
  obtain ⟨A', c', w', h1, h2, h3, h4⟩ := run_apA hi0 hu hone hlen hk hby ho ys hsv hx hmy hsrc hown hl hb
  refine lx_one hr ho0 hw listed' hli ?_
  rw [h1]
  refine lUpon_value ?_
  exact h A' c' w' h2 h3 h4

theorem ret_tct {P : Program} {fn : Func} {t c T u : Nat} {tmps : Array Value} {p : Addr} {W : World} {v : Value} (h : fn.results = #[.tmp t, .cell c T, .tmp u]) (hp : tmps.getD c undef = .pointer (some p)) (hl : (loadVar T p).run P W = .ok v W) :
    (results fn tmps).run P W = .ok (.tuple #[tmps.getD t undef, v, tmps.getD u undef]) W := by
  simp only [Array.getD_eq_getD_getElem?] at hp
  simp [results, h, hp, asAddr, hl]
theorem encI_ns (x : Int) (A : Option Addr) (n c : Nat) : (encI x)[0]? ≠ some (.slice A n c) := by simp [encI]
def CG (b : Nat) (w W : World) : Prop := Keep [b] w W ∧ ∃ cs : Array Value, cs.size = 2 ∧ Blk W b 28 cs
theorem CG.ext {b : Nat} {w W W' : World} (h : CG b w W) (k : Ext W W') : CG b w W' := ⟨h.1.trans (k.keep _), by obtain ⟨cs, h1, h2⟩ := h.2; exact ⟨cs, h1, h2.ext k⟩⟩
def BgPost (w : World) (V : List (Int × Thing)) (E : List ((Int × Int) × Thing)) (e : Ending) (w' : World) : Prop :=
  ∃ g bv be A B cA cB C L cL, e = .returned (.tuple #[.pointer (some ⟨g, 0, none⟩), .agg #[.slice A V.length cA, .slice B E.length cB], .slice C L.length cL]) ∧ IsG w' g bv be V E ∧ SlAt encV 3 w' A V ∧ SlAt encE 4 w' B E ∧ SlAt encI 1 w' C L ∧ Ord V L ∧ Ext w w' ∧ w.heap.size ≤ g ∧ w.heap.size ≤ bv ∧ w.heap.size ≤ be ∧ L.length ≤ cL

set_option maxRecDepth 100000 in
set_option maxHeartbeats 8000000 in
theorem begun_any (A0 : Option Addr) (D : List Ed) (cD : Nat) (A1 : Option Addr) (Bs : List Int) (cT : Nat) (w : World) (hD : SlAt encD 5 w A0 D) (hT : SlAt encU8 1 w A1 Bs) (hb : ∀ x ∈ Bs, 0 ≤ x ∧ x < 256) (hBl : Bs.length ≤ 9223372036854775807) :
    Calls Tryz.prog 11 #[.slice A0 D.length cD, .slice A1 Bs.length cT] w (BgPost w (mdS D).1 (mdS D).2) := by
  have hT' := hide hT
  have hD' := hide hD
  have hb' := hide hb
  have hinv0 := mdS_inv D
  have hlen0 := mdS_len D
  clear hT hD hb
  go_enter Tryz.func11, Tryz.ntmps11
  go_wp2_with fail
  have hB5 := hide (Blk.new w 28 #[.slice none 0 0, .slice none 0 0])
  have hx1 := hide (ext_self1 w (.cells #[.slice none 0 0, .slice none 0 0] 28))
  generalize w.alloc (.cells #[.slice none 0 0, .slice none 0 0] 28) = w1 at *
  refine (made_any A0 D cD w1 ((unhide hD').ext (unhide hx1))).mono ?_
  generalize mdS D = S at *
  obtain ⟨V, E⟩ := S
  rintro e w2 ⟨A, cA, B, cB, rfl, hs2, he2, hx2⟩
  simp only at hs2 he2 hinv0 hlen0
  have hs2' := hide hs2
  have he2' := hide he2
  have hi' := hide hinv0
  have hlV := hide hlen0
  have hx2' := hide ((unhide hx1).trans hx2)
  have hB52 := hide ((unhide hB5).ext hx2)
  clear hs2 he2 hinv0 hlen0 hx2 hB5 hx1 hD'
  go_wp2_with fail
  have hB7 := hide (Blk.new w2 28 #[.slice A V.length cA, .slice B E.length cB])
  have hB53 := hide ((unhide hB52).ext (ext_self1 w2 (.cells #[.slice A V.length cA, .slice B E.length cB] 28)))
  have hs3 := hide ((unhide hs2').ext (ext_self1 w2 (.cells #[.slice A V.length cA, .slice B E.length cB] 28)))
  have he3 := hide ((unhide he2').ext (ext_self1 w2 (.cells #[.slice A V.length cA, .slice B E.length cB] 28)))
  have hx3 := hide ((unhide hx2').trans (ext_self1 w2 (.cells #[.slice A V.length cA, .slice B E.length cB] 28)))
  have hgl := hide (unhide hB52).lt
  generalize w2.alloc (.cells #[.slice A V.length cA, .slice B E.length cB] 28) = w3 at *
  generalize w2.heap.size = gw at *
  clear hs2' he2' hx2' hB52
  have hV60 := unhide hlV
  go_loopw [8, 10] (fun lv iv wr => ∃ (k : Nat) (vo : Value), k ≤ V.length ∧ iv = .int .i64 k ∧ vo = lv ∧ wr.ownsRow w3.heap.size 3 1 vo ((V.take k).map (·.1)).length (((V.take k).map (·.1)).flatMap encI) ∧ Ext w3 wr) (fun _ iv _ => V.length - (intOf iv).toNat)
  case atStart => exact ⟨0, _, Nat.zero_le _, rfl, rfl, World.ownsRow_nil _ _ _ _, Ext.refl _⟩
  case round =>
    obtain ⟨k, vo, hk, rfl, hv, hown, hx⟩ := hrel
    subst hv
    have hown' := hide hown
    have hx' := hide hx
    have hb1 := hide (Below.size hx)
    have q0 := ((unhide hB7).ext hx).cells 0 (v := .slice A V.length cA) rfl
    have hself := Ext.refl wr
    clear hown hx
    by_cases hlt : k < V.length
    · obtain ⟨b, off, rfl, c0, _, _⟩ := atV ((unhide hs3).ext (unhide hx')) hlt
      have hnx := hide (show (V.take k).map (·.1) ++ [V[k].1] = (V.take (k + 1)).map (·.1) by rw [List.take_succ_eq_append_getElem hlt, List.map_append]; rfl)
      have hll := hide (show ((V.take k).map (·.1)).length ≤ 10000000 by have := unhide hlV; rw [List.length_map, List.length_take]; omega)
      generalize V[k].1 = y at c0 hnx
      obtain ⟨lf, hlf⟩ : ∃ lf, lf = (V.take k).map (·.1) := ⟨_, rfl⟩
      rw [← hlf] at hown' hnx hll
      try dsimp only
      repeat ((fail_if_success (with_reducible refine wp_reg (id := 6) ?_)); (first | go_values | go_skip | go_step | go_guarded | go_upon | go_in | go_back | fail))
      with_reducible refine wp_reg (id := 6) ?_
      iterate 8
        refine wpO_want rfl ?_
        go_simp
      refine wpO_ap1 (enc := _) rfl infoI Tryz.underlying29 one_encI (fun _ => rfl) (by decide) (by decide) rfl (v := vo) (xs := lf) y rfl rfl (Blk.new wr 3 #[.int .i64 y]) (own_ext (unhide hown') (ext_self1 wr (.cells #[.int .i64 y] 3))) (unhide hll) (Nat.le_trans (unhide hb1) (Below.size (ext_self1 wr (.cells #[.int .i64 y] 3)))) ?_
      intro A_w6 c_w6 w6 ho6 hg6 _
      obtain ⟨n_w6, hlen6⟩ : ∃ n_w6, n_w6 = (lf).length + 1 := ⟨_, rfl⟩
      rw [← hlen6] at ho6 ⊢
      have hx_w6 := hide (((unhide hx').trans (ext_self1 wr (.cells #[.int .i64 y] 3))).of_new (Keep.of_grown hg6) (fun z hz => Nat.le_trans (Nat.le_refl _) (own_base (unhide hown') (by simpa using hz)).1))
      have hown_w6 := hide (own_n ho6 (m := (lf ++ [y]).length) (by rw [hlen6, List.length_append (bs := [_])]; rfl))
      have hn_w6 := hide hlen6
      clear ho6 hg6 hlen6
      try go_frame
      refine wpO_want rfl ?_
      go_simp
      refine wpO_done ?_
      try go_frame
      rw [unhide hnx] at hown_w6
      clear q0 c0 hself hlf
      go_wp2_with fail
      go_roundw
      case rel => exact ⟨k + 1, _, by omega, by go_num, rfl, unhide hown_w6, unhide hx_w6⟩
      case measure => simp [intOf]; omega
    · have hke : k = V.length := by omega
      subst hke
      rw [List.take_length] at hown'
      go_wp2_with fail
      generalize wr = wo at *
      go_loopw [8, 9, 11] (fun lv ov iv wr => ∃ (i : Nat) (left o : List Int) (vl vo : Value), iv = .int .i64 i ∧ i + left.length = V.length ∧ vl = lv ∧ vo = ov ∧ (o ++ left).Perm (V.map (·.1)) ∧ wr.ownsRow w3.heap.size 3 1 vl left.length (left.flatMap encI) ∧ wr.ownsRow w3.heap.size 3 1 vo o.length (o.flatMap encI) ∧ apart2 vl vo ∧ Ext w3 wr) (fun _ _ iv _ => V.length - (intOf iv).toNat)
      case atStart => exact ⟨0, V.map (·.1), [], _, _, rfl, by simp, rfl, rfl, by simp, unhide hown', World.ownsRow_nil _ _ _ _, fun g h1 h2 => (by cases h2), unhide hx'⟩
      case round =>
        obtain ⟨i, left, o, vl, vo, rfl, hil, hv1, hv2, hperm, hownl, howno, hapt, hx⟩ := hrel
        subst hv1
        subst hv2
        have hp' := hide hperm
        have hownL := hide hownl
        have hownO := hide howno
        have hap := hide hapt
        clear hx' hown' hb1 hperm hownl howno hapt q0 hself
        have hx' := hide hx
        have hbB := hide (Below.size hx)
        have hlens := hide (show i + left.length ≤ 60 ∧ o.length ≤ 60 from by
          have h1 := (unhide hp').length_eq
          have h2 := unhide hlV
          simp at h1
          omega)
        clear hx
        obtain ⟨Ao, co, rfl⟩ := own_slice (unhide hownO)
        obtain ⟨Al, cl, rfl⟩ := own_slice (unhide hownL)
        have hcl := hide (show left.length ≤ cl from by
          rcases (unhide hownL).2 with ⟨he, h0⟩ | ⟨g, cap, cur, he, _, _, hn, _⟩
          · omega
          · injection he with _ _ he
            omega)
        have hco := hide (show o.length ≤ co from by
          rcases (unhide hownO).2 with ⟨he, h0⟩ | ⟨g, cap, cur, he, _, _, hn, _⟩
          · omega
          · injection he with _ _ he
            omega)
        by_cases hne : 0 < left.length
        · have hself := Ext.refl wr
          have hl0 := own_at (enc := encI) (unhide hownL) (fun _ => rfl)
          obtain ⟨bl, offl, rfl, hzz⟩ := atI hl0 hne
          clear hzz
          by_cases hit : i < Bs.length
          · obtain ⟨bt, offt, rfl, t0⟩ := atU8 ((unhide hT').ext ((unhide hx3).trans (unhide hx'))) hit
            have hxr := unhide hb' Bs[i] (List.getElem_mem hit)
            generalize Bs[i] = x at t0 hxr
            obtain ⟨xn, rfl⟩ : ∃ xn : Nat, x = (xn : Int) := ⟨x.toNat, by omega⟩
            have hkk : xn % left.length < left.length := Nat.mod_lt _ hne
            have hrem : (xn : Int).tmod (left.length : Int) = ((xn % left.length : Nat) : Int) := by
              rw [Int.tmod_eq_emod_of_nonneg (by omega)]
              exact (Int.natCast_emod _ _).symm
            have hnn : left ≠ [] := fun e => by rw [e] at hne; simp at hne
            have hwx : IntKind.i64.wrap (xn : Int) = (xn : Int) := IntWalk.i64_in _ (by omega)
            have hl60 : left.length ≤ 60 := by have := unhide hlens; omega
            generalize hkke : xn % left.length = kk at hkk hrem
            have hwk : IntKind.i64.wrap (kk : Int) = (kk : Int) := IntWalk.i64_in _ (by omega)
            have hwk1 : IntKind.i64.wrap ((kk : Int) + 1) = (kk : Int) + 1 := IntWalk.i64_in _ (by omega)
            have c0 := atI_at hl0 hkk
            generalize hy : left[kk] = y at c0
            have hy' := hide hy
            have hd0 : decide ((i : Int) < (Bs.length : Int)) = true := decide_eq_true (by omega)
            clear hl0 hy hkke hxr
            try dsimp only
            repeat ((fail_if_success (with_reducible refine wp_reg (id := 12) ?_)); (first | go_values | go_skip | go_step | go_guarded | go_upon | go_in | go_back | fail))
            with_reducible refine wp_reg (id := 12) ?_
            iterate 9
              refine wpO_want rfl ?_
              go_simp
            refine wpO_done ?_
            try go_frame
            clear hrem hwx hnn t0 hd0
            try dsimp only
            repeat ((fail_if_success (with_reducible refine wp_reg (id := 13) ?_)); (first | go_values | go_skip | go_step | go_guarded | go_upon | go_in | go_back | fail))
            with_reducible refine wp_reg (id := 13) ?_
            iterate 6
              refine wpO_want rfl ?_
              go_simp
            refine wpO_ap1 rfl infoI Tryz.underlying29 one_encI (fun _ => rfl) (by decide) (by decide) rfl (v := .slice Ao o.length co) (xs := o) y rfl rfl (Blk.new wr 3 #[.int .i64 y]) (own_ext (unhide hownO) (ext_self1 wr _)) (by have := unhide hlens; omega) (Nat.le_trans (unhide hbB) (Below.size (ext_self1 wr _))) ?_
            intro A6 c6 w6 ho6 hg6 hat6
            obtain ⟨n6, hn6⟩ : ∃ n6, n6 = o.length + 1 := ⟨_, rfl⟩
            rw [← hn6] at ho6 hat6 ⊢
            have ho6' := own_n ho6 (m := (o ++ [y]).length) (by rw [hn6, List.length_append]; rfl)
            have hk6 := ((ext_self1 wr (.cells #[.int .i64 y] 3)).keep (Value.ownBlock (.slice Ao o.length co)).toList).trans (Keep.of_grown hg6)
            have hL6 : w6.ownsRow w3.heap.size 3 1 (.slice (some ⟨bl, offl, none⟩) left.length cl) left.length (left.flatMap encI) := own_keep (unhide hownL) hk6 (fun g hg e => unhide hap g e (by simpa using hg))
            have hx6 : Ext w3 w6 := (unhide hx').of_new hk6 (fun z hz => (own_base (unhide hownO) (by simpa using hz)).1)
            have hLs := hide (own_at (enc := encI) hL6 (fun _ => rfl))
            have hO6 := hide ho6'
            have hx6' := hide hx6
            have hbv6 : ∀ g, Value.ownBlock (.slice A6 n6 c6) = some g → g < w6.heap.size := fun g hg => (own_base ho6' hg).2.1
            have hbv6' := hide hbv6
            clear ho6 hg6 hat6 hn6 ho6' hk6 hL6 hx6 hbv6 c0
            try go_frame
            refine wpO_want rfl ?_
            go_simp
            refine wpO_done ?_
            try go_frame
            go_wp2_with fail
            refine wp_region_ext (P := Tryz.prog) [1,2,3,5,6,7,8] [] 4 #[false,true,true,true,false,true,true,true,true,false,false] (by kernel_rfl) (by kernel_rfl) rfl (by rfl) ?_
            iterate 2
              refine ql_want (v := ?_) rfl (by rfl) (fun W hW => ?_) ?_
              rotate_left
              · go_simp
                first | done | rfl
              go_frame
            refine ql_want (v := .slice (some ⟨bl, offl, none⟩) kk cl) rfl (by rfl) (fun W hW => by rw [run_sl_to (k := kk) rfl rfl (by rfl) Tryz.underlying29 (Tryz.sizeOf3 W) (by have := unhide hcl; omega)]; exact qUpon_value (Ext.refl _)) ?_
            go_frame
            iterate 3
              refine ql_want (v := ?_) rfl (by rfl) (fun W hW => ?_) ?_
              rotate_left
              · go_simp
                first | done | rfl
              go_frame
            refine ql_want (v := .slice (restA (some ⟨bl, offl, none⟩) (kk + 1) cl 1) (left.length - (kk + 1)) (cl - (kk + 1))) rfl (by rfl) (fun W hW => by rw [run_sl_from (k := kk + 1) rfl rfl (by rfl) Tryz.underlying29 (Tryz.sizeOf3 W) (by omega)]; exact qUpon_value (Ext.refl _)) ?_
            go_frame
            refine wpQL_nil (fun w7 hx7 => ?_)
            have hx7' := hide hx7
            clear hx7
            refine lx_one (i := 0) (by kernel_rfl) rfl (by rfl) #[true,true,true,true,false,true,true,true,true,false,false] (by rfl) ?_
            go_simp
            refine ⟨(unhide hx7').alloc _, fun w8 hx8 => ?_⟩
            have hown8 := hide (own_ext (World.ownsRow_made (base := w3.heap.size) (e := 3) (size := 1) w7 #[] 0 (Below.size ((unhide hx6').trans (unhide hx7'))) (by decide) rfl) hx8)
            have hx8' := hide (((unhide hx7').alloc _).trans hx8)
            clear hx8
            try go_frame
            refine lx_apA (i := 4) (enc := encI) (by kernel_rfl) rfl (by rfl) #[true,true,true,true,true,true,true,true,true,false,false] (by rfl) infoI Tryz.underlying29 one_encI (fun _ => rfl) (by decide) (by decide) rfl (v := .slice (some ⟨w7.heap.size, 0, none⟩) 0 0) (xs := []) (left.take kk) (by rfl) (by rfl) (by rw [List.length_take]; omega) (SlAt.upto ((unhide hLs).ext (unhide hx8')) kk) (unhide hown8) (by have := unhide hlens; omega) (Below.size ((unhide hx6').trans (unhide hx8'))) ?_
            intro A9 c9 w9 ho9 hg9 hat9
            have hge : ∀ z ∈ (Value.ownBlock (.slice (some ⟨w7.heap.size, 0, none⟩) 0 0)).toList, w6.heap.size ≤ z := fun z hz => by
              have h1 := Below.size (unhide hx7')
              simp [Value.ownBlock] at hz
              omega
            have hx9 := (unhide hx8').of_new (Keep.of_grown hg9) hge
            refine ⟨fun _ => hx9, fun w10 hx10 => ?_⟩
            rw [List.nil_append] at ho9
            have hown10 := hide (own_ext ho9 hx10)
            have hx10' := hide (hx9.trans hx10)
            have hge9 := hide (show ∀ g, Value.ownBlock (.slice A9 (0 + kk) c9) = some g → w6.heap.size ≤ g from fun g hg => by
              rcases hat9 with h | h
              · rw [h] at hg
                exact hge g (by simpa using hg)
              · rw [h] at hg
                have h1 := Below.size (unhide hx8')
                injection hg with hg
                omega)
            clear ho9 hg9 hge hx9 hx10 hown8 hat9
            clear hx8'
            try go_frame
            refine lx_apA (i := 9) (enc := encI) (by kernel_rfl) rfl (by rfl) #[true,true,true,true,true,true,true,true,true,true,false] (by rfl) infoI Tryz.underlying29 one_encI (fun _ => rfl) (by decide) (by decide) rfl (v := .slice A9 (0 + kk) c9) (xs := left.take kk) (left.drop (kk + 1)) (by rfl) (by rfl) (by rw [List.length_drop]) (SlAt.rest ((unhide hLs).ext (unhide hx10')) (kk + 1) cl (unhide hcl)) (unhide hown10) (by have := unhide hlens; omega) (Below.size ((unhide hx6').trans (unhide hx10'))) ?_
            intro A11 c11 w11 ho11 hg11 hat11
            have hx11 := (unhide hx10').of_new (Keep.of_grown hg11) (fun z hz => unhide hge9 z (by simpa using hz))
            refine ⟨fun _ => hx11, fun w12 hx12 => ?_⟩
            have hge11 := hide (show ∀ g, Value.ownBlock (.slice A11 (0 + kk + (left.length - (kk + 1))) c11) = some g → w6.heap.size ≤ g from fun g hg => by
              rcases hat11 with h | h
              · rw [h] at hg
                exact unhide hge9 g hg
              · rw [h] at hg
                have h1 := Below.size (unhide hx10')
                injection hg with hg
                omega)
            obtain ⟨nl, hnl⟩ : ∃ nl, nl = 0 + kk + (left.length - (kk + 1)) := ⟨_, rfl⟩
            rw [← hnl] at ho11 hge11 ⊢
            have hlen11 : (left.take kk ++ left.drop (kk + 1)).length = nl := by rw [len_out left hkk, hnl]; omega
            have hown12 := hide (own_ext (own_n ho11 hlen11) hx12)
            have hx12' := hide (hx11.trans hx12)
            have hnl' := hide hnl
            clear ho11 hg11 hat11 hx11 hx12 hown10 hx10' hge9 hlen11 hnl
            try go_frame
            refine lx_one (i := 10) (by kernel_rfl) rfl (by rfl) #[true,true,true,true,true,true,true,true,true,true,true] (by rfl) ?_
            go_simp
            refine ⟨(unhide hx12'), fun w13 hx13 => ?_⟩
            refine wpX_done (by kernel_rfl) ?_
            try go_frame
            have hL13 := hide (own_ext (unhide hown12) hx13)
            have hO13 := hide (own_ext (unhide hO6) ((unhide hx12').trans hx13))
            have hx13' := hide ((unhide hx6').trans ((unhide hx12').trans hx13))
            clear hx13
            go_wp2_with fail
            go_roundw
            case rel =>
              refine ⟨i + 1, left.take kk ++ left.drop (kk + 1), o ++ [y], _, _, by go_num, ?_, rfl, rfl, ?_, unhide hL13, unhide hO13, ?_, unhide hx13'⟩
              · rw [len_out left hkk]; omega
              · rw [← unhide hy']
                exact (perm_out o left hkk).trans (unhide hp')
              · intro g h1 h2
                have := unhide hge11 g h1
                have := unhide hbv6' g h2
                omega
            case measure => simp [intOf]; omega
          · have hkk : 0 < left.length := hne
            have c0 := atI_at hl0 hkk
            rw [Nat.add_zero] at c0
            generalize hy : left[0] = y at c0
            have hy' := hide hy
            have hd0 : decide ((i : Int) < (Bs.length : Int)) = false := decide_eq_false (by omega)
            clear hl0 hy
            try dsimp only
            repeat ((fail_if_success (with_reducible refine wp_reg (id := 13) ?_)); (first | go_values | go_skip | go_step | go_guarded | go_upon | go_in | go_back | fail))
            with_reducible refine wp_reg (id := 13) ?_
            iterate 6
              refine wpO_want rfl ?_
              go_simp
            refine wpO_ap1 rfl infoI Tryz.underlying29 one_encI (fun _ => rfl) (by decide) (by decide) rfl (v := .slice Ao o.length co) (xs := o) y rfl rfl (Blk.new wr 3 #[.int .i64 y]) (own_ext (unhide hownO) (ext_self1 wr _)) (by have := unhide hlens; omega) (Nat.le_trans (unhide hbB) (Below.size (ext_self1 wr _))) ?_
            intro A6 c6 w6 ho6 hg6 hat6
            obtain ⟨n6, hn6⟩ : ∃ n6, n6 = o.length + 1 := ⟨_, rfl⟩
            rw [← hn6] at ho6 hat6 ⊢
            have ho6' := own_n ho6 (m := (o ++ [y]).length) (by rw [hn6, List.length_append]; rfl)
            have hk6 := ((ext_self1 wr (.cells #[.int .i64 y] 3)).keep (Value.ownBlock (.slice Ao o.length co)).toList).trans (Keep.of_grown hg6)
            have hL6 : w6.ownsRow w3.heap.size 3 1 (.slice (some ⟨bl, offl, none⟩) left.length cl) left.length (left.flatMap encI) := own_keep (unhide hownL) hk6 (fun g hg e => unhide hap g e (by simpa using hg))
            have hx6 : Ext w3 w6 := (unhide hx').of_new hk6 (fun z hz => (own_base (unhide hownO) (by simpa using hz)).1)
            have hLs := hide (own_at (enc := encI) hL6 (fun _ => rfl))
            have hO6 := hide ho6'
            have hx6' := hide hx6
            have hbv6 : ∀ g, Value.ownBlock (.slice A6 n6 c6) = some g → g < w6.heap.size := fun g hg => (own_base ho6' hg).2.1
            have hbv6' := hide hbv6
            clear ho6 hg6 hat6 hn6 ho6' hk6 hL6 hx6 hbv6 c0
            try go_frame
            refine wpO_want rfl ?_
            go_simp
            refine wpO_done ?_
            try go_frame
            go_wp2_with fail
            refine wp_region_ext (P := Tryz.prog) [1,2,3,5,6,7,8] [] 4 #[false,true,true,true,false,true,true,true,true,false,false] (by kernel_rfl) (by kernel_rfl) rfl (by rfl) ?_
            iterate 2
              refine ql_want (v := ?_) rfl (by rfl) (fun W hW => ?_) ?_
              rotate_left
              · go_simp
                first | done | rfl
              go_frame
            refine ql_want (v := .slice (some ⟨bl, offl, none⟩) 0 cl) rfl (by rfl) (fun W hW => by rw [run_sl_to (k := 0) rfl rfl (by rfl) Tryz.underlying29 (Tryz.sizeOf3 W) (by have := unhide hcl; omega)]; exact qUpon_value (Ext.refl _)) ?_
            go_frame
            iterate 3
              refine ql_want (v := ?_) rfl (by rfl) (fun W hW => ?_) ?_
              rotate_left
              · go_simp
                first | done | rfl
              go_frame
            refine ql_want (v := .slice (restA (some ⟨bl, offl, none⟩) (0 + 1) cl 1) (left.length - (0 + 1)) (cl - (0 + 1))) rfl (by rfl) (fun W hW => by rw [run_sl_from (k := 0 + 1) rfl rfl (by rfl) Tryz.underlying29 (Tryz.sizeOf3 W) (by omega)]; exact qUpon_value (Ext.refl _)) ?_
            go_frame
            refine wpQL_nil (fun w7 hx7 => ?_)
            have hx7' := hide hx7
            clear hx7
            refine lx_one (i := 0) (by kernel_rfl) rfl (by rfl) #[true,true,true,true,false,true,true,true,true,false,false] (by rfl) ?_
            go_simp
            refine ⟨(unhide hx7').alloc _, fun w8 hx8 => ?_⟩
            have hown8 := hide (own_ext (World.ownsRow_made (base := w3.heap.size) (e := 3) (size := 1) w7 #[] 0 (Below.size ((unhide hx6').trans (unhide hx7'))) (by decide) rfl) hx8)
            have hx8' := hide (((unhide hx7').alloc _).trans hx8)
            clear hx8
            try go_frame
            refine lx_apA (i := 4) (enc := encI) (by kernel_rfl) rfl (by rfl) #[true,true,true,true,true,true,true,true,true,false,false] (by rfl) infoI Tryz.underlying29 one_encI (fun _ => rfl) (by decide) (by decide) rfl (v := .slice (some ⟨w7.heap.size, 0, none⟩) 0 0) (xs := []) (left.take 0) (by rfl) (by rfl) (by rw [List.length_take]; omega) (SlAt.upto ((unhide hLs).ext (unhide hx8')) 0) (unhide hown8) (by have := unhide hlens; omega) (Below.size ((unhide hx6').trans (unhide hx8'))) ?_
            intro A9 c9 w9 ho9 hg9 hat9
            have hge : ∀ z ∈ (Value.ownBlock (.slice (some ⟨w7.heap.size, 0, none⟩) 0 0)).toList, w6.heap.size ≤ z := fun z hz => by
              have h1 := Below.size (unhide hx7')
              simp [Value.ownBlock] at hz
              omega
            have hx9 := (unhide hx8').of_new (Keep.of_grown hg9) hge
            refine ⟨fun _ => hx9, fun w10 hx10 => ?_⟩
            rw [List.nil_append] at ho9
            have hown10 := hide (own_ext ho9 hx10)
            have hx10' := hide (hx9.trans hx10)
            have hge9 := hide (show ∀ g, Value.ownBlock (.slice A9 (0 + 0) c9) = some g → w6.heap.size ≤ g from fun g hg => by
              rcases hat9 with h | h
              · rw [h] at hg
                exact hge g (by simpa using hg)
              · rw [h] at hg
                have h1 := Below.size (unhide hx8')
                injection hg with hg
                omega)
            clear ho9 hg9 hge hx9 hx10 hown8 hat9
            clear hx8'
            try go_frame
            refine lx_apA (i := 9) (enc := encI) (by kernel_rfl) rfl (by rfl) #[true,true,true,true,true,true,true,true,true,true,false] (by rfl) infoI Tryz.underlying29 one_encI (fun _ => rfl) (by decide) (by decide) rfl (v := .slice A9 (0 + 0) c9) (xs := left.take 0) (left.drop (0 + 1)) (by rfl) (by rfl) (by rw [List.length_drop]) (SlAt.rest ((unhide hLs).ext (unhide hx10')) (0 + 1) cl (unhide hcl)) (unhide hown10) (by have := unhide hlens; omega) (Below.size ((unhide hx6').trans (unhide hx10'))) ?_
            intro A11 c11 w11 ho11 hg11 hat11
            have hx11 := (unhide hx10').of_new (Keep.of_grown hg11) (fun z hz => unhide hge9 z (by simpa using hz))
            refine ⟨fun _ => hx11, fun w12 hx12 => ?_⟩
            have hge11 := hide (show ∀ g, Value.ownBlock (.slice A11 (0 + 0 + (left.length - (0 + 1))) c11) = some g → w6.heap.size ≤ g from fun g hg => by
              rcases hat11 with h | h
              · rw [h] at hg
                exact unhide hge9 g hg
              · rw [h] at hg
                have h1 := Below.size (unhide hx10')
                injection hg with hg
                omega)
            obtain ⟨nl, hnl⟩ : ∃ nl, nl = 0 + 0 + (left.length - (0 + 1)) := ⟨_, rfl⟩
            rw [← hnl] at ho11 hge11 ⊢
            have hlen11 : (left.take 0 ++ left.drop (0 + 1)).length = nl := by rw [len_out left hkk, hnl]; omega
            have hown12 := hide (own_ext (own_n ho11 hlen11) hx12)
            have hx12' := hide (hx11.trans hx12)
            have hnl' := hide hnl
            clear ho11 hg11 hat11 hx11 hx12 hown10 hx10' hge9 hlen11 hnl
            try go_frame
            refine lx_one (i := 10) (by kernel_rfl) rfl (by rfl) #[true,true,true,true,true,true,true,true,true,true,true] (by rfl) ?_
            go_simp
            refine ⟨(unhide hx12'), fun w13 hx13 => ?_⟩
            refine wpX_done (by kernel_rfl) ?_
            try go_frame
            have hL13 := hide (own_ext (unhide hown12) hx13)
            have hO13 := hide (own_ext (unhide hO6) ((unhide hx12').trans hx13))
            have hx13' := hide ((unhide hx6').trans ((unhide hx12').trans hx13))
            clear hx13
            go_wp2_with fail
            go_roundw
            case rel =>
              refine ⟨i + 1, left.take 0 ++ left.drop (0 + 1), o ++ [y], _, _, by go_num, ?_, rfl, rfl, ?_, unhide hL13, unhide hO13, ?_, unhide hx13'⟩
              · rw [len_out left hkk]; omega
              · rw [← unhide hy']
                exact (perm_out o left hkk).trans (unhide hp')
              · intro g h1 h2
                have := unhide hge11 g h1
                have := unhide hbv6' g h2
                omega
            case measure => simp [intOf]; omega
        · have hl0 : left = [] := List.eq_nil_of_length_eq_zero (by omega)
          have hd0 : decide (0 < left.length) = false := decide_eq_false (by omega)
          subst hl0
          rw [List.append_nil] at hp'
          go_wp2_with fail
          have hBw := hide ((unhide hB53).ext (unhide hx'))
          have hB7w := hide ((unhide hB7).ext (unhide hx'))
          have hsw := hide ((unhide hs3).ext (unhide hx'))
          have hew := hide ((unhide he3).ext (unhide hx'))
          have how := hide (own_at (enc := encI) (unhide hownO) (fun _ => rfl))
          have hxw := hide ((unhide hx3).trans (unhide hx'))
          have hord := hide (show Ord V o from ⟨(unhide hp').nodup_iff.2 (sv_nodup (unhide hi').sv), fun x => (unhide hp').mem_iff⟩)
          obtain ⟨b5, hb5⟩ : ∃ b5, b5 = w.heap.size := ⟨_, rfl⟩
          rw [← hb5] at hBw ⊢
          have hb5' := hide hb5
          have hb5g : gw ≠ b5 := (by have := unhide hgl; omega)
          clear hb5
          have hB7k : ∀ W, Keep [b5] wr W → Blk W gw 28 #[.slice A V.length cA, .slice B E.length cB] := fun W hW => (unhide hB7w).keep hW (by simpa using hb5g)
          have hB7k' := hide hB7k
          have hsk := hide (fun (W : World) (hW : Keep [b5] wr W) => SlAt.keep_G (unhide hsw) (unhide hBw) ⟨_, _, _, rfl⟩ ⟨_, _, _, rfl⟩ encV_ns (fun x => ⟨_, rfl⟩) hW)
          have hek := hide (fun (W : World) (hW : Keep [b5] wr W) => SlAt.keep_G (unhide hew) (unhide hBw) ⟨_, _, _, rfl⟩ ⟨_, _, _, rfl⟩ encE_ns (fun x => ⟨_, rfl⟩) hW)
          have hok := hide (fun (W : World) (hW : Keep [b5] wr W) => SlAt.keep_G (unhide how) (unhide hBw) ⟨_, _, _, rfl⟩ ⟨_, _, _, rfl⟩ encI_ns (fun x => ⟨_, rfl⟩) hW)
          clear hB7k hb5g
          refine wp_region_ql (P := Tryz.prog) Ext (CG b5 wr) [0,2,3] [] 4 #[true,false,true,true,false,false,false] (by kernel_rfl) (by kernel_rfl) rfl (by rfl) Ext.refl (fun _ _ _ => Ext.trans) (fun _ _ h e => h.ext e) (CG.ext ⟨Keep.refl _ wr, _, rfl, unhide hBw⟩ (Ext.refl wr).drew) ?_
          iterate 2
            refine ql_want (v := .agg #[.slice A V.length cA, .slice B E.length cB]) rfl (by rfl) (fun W hW => by rw [run_load_agg (T := 28) (cs := #[.slice A V.length cA, .slice B E.length cB]) rfl rfl (by simp [go_sem]) (by simp [go_sem]) (unhide hB7k' W hW.1).whole]; exact qUpon_value (Ext.refl _)) ?_
            go_frame
          refine ql_want (v := .slice Ao o.length co) rfl (by rfl) (fun W hW => by exact qUpon_value (Ext.refl _)) ?_
          go_frame
          refine wpQL_nil (fun w5 hk5 => ?_)
          have hc5 := hide hk5
          have hk5' := hide hk5.1
          clear hk5
          refine lx_one (i := 1) (by kernel_rfl) rfl (by rfl) #[true,true,true,true,false,false,false] (by rfl) ?_
          go_simp
          refine (from_any A B V E cA cB w5 (unhide hsk w5 (unhide hk5')) (unhide hek w5 (unhide hk5')) (unhide hi')).mono ?_
          rintro e w6 ⟨g, bv, be, rfl, hg6, hx6, n1, n2, n3⟩
          refine ⟨_, rfl, (unhide hc5).ext hx6, fun w7 hx7 => ?_⟩
          have hg7 := hide (hg6.ext hx7)
          have hk7 := hide (((unhide hk5').trans (hx6.keep _)).trans (hx7.keep _))
          have hn := hide (And.intro n1 (And.intro n2 n3))
          have hc7 := hide (((unhide hc5).ext hx6).ext hx7)
          clear hg6 hx6 n1 n2 n3 hx7
          try go_frame
          refine lx_one (i := 4) (by kernel_rfl) rfl (by rfl) #[true,true,true,true,true,false,false] (by rfl) ?_
          go_simp
          refine ⟨unhide hc7, fun w8 hx8 => ?_⟩
          obtain ⟨cs8, hcs8, hB8⟩ := ((unhide hc7).ext hx8).2
          try go_frame
          refine lx_one (i := 5) (by kernel_rfl) rfl (by rfl) #[true,true,true,true,true,true,false] (by rfl) ?_
          rw [run_store_row (v := .agg #[.slice A V.length cA, .slice B E.length cB]) rfl (by rfl) (by rfl) (by simp [go_sem]) hB8 (by rw [hcs8]; rfl) (fun u hu => by simp [Value.cells] at hu; rcases hu with rfl | rfl <;> rfl)]
          refine lUpon_skip ?_
          have hk9 := ((unhide hk7).trans (hx8.keep _)).trans (Keep.setRow w8 b5 #[.slice A V.length cA, .slice B E.length cB])
          refine ⟨fun _ => ⟨hk9, _, rfl, hB8.row #[.slice A V.length cA, .slice B E.length cB]⟩, fun w10 hx10 => ?_⟩
          have hB10 := hide ((hB8.row #[.slice A V.length cA, .slice B E.length cB]).ext hx10)
          have hg10 := hide ((((unhide hg7).ext hx8).keep (Keep.setRow w8 b5 #[.slice A V.length cA, .slice B E.length cB]) (by have := unhide hn; have := (unhide hk5').size; have := (unhide hBw).lt; rw [List.mem_singleton]; omega) (by have := unhide hn; have := (unhide hk5').size; have := (unhide hBw).lt; rw [List.mem_singleton]; omega) (by have := unhide hn; have := (unhide hk5').size; have := (unhide hBw).lt; rw [List.mem_singleton]; omega)).ext hx10)
          have hk10 := hide (hk9.trans (hx10.keep _))
          clear hx8 hk9 hx10 hB8 hcs8
          try go_frame
          refine lx_one (i := 6) (by kernel_rfl) rfl (by rfl) #[true,true,true,true,true,true,true] (by rfl) ?_
          go_simp
          refine ⟨⟨unhide hk10, _, rfl, unhide hB10⟩, fun w11 hx11 => ?_⟩
          refine wpX_done (by kernel_rfl) ?_
          try go_frame
          have hB11 := hide ((unhide hB10).ext hx11)
          have hg11 := hide ((unhide hg10).ext hx11)
          have hk11 := hide ((unhide hk10).trans (hx11.keep _))
          clear hx11
          go_wp2_with fail
          refine bodyPost_ret (ret_tct rfl rfl (load_G _ b5 _ _ ((unhide hB11).cell 0) ((unhide hB11).cell 1))) rfl ?_
          have hn := unhide hn
          have hw5 := Below.size (unhide hxw)
          have hks := (unhide hk5').size
          refine ⟨g, bv, be, A, B, cA, cB, Ao, o, co, rfl, unhide hg11, unhide hsk _ (unhide hk11), unhide hek _ (unhide hk11), unhide hok _ (unhide hk11), unhide hord, (unhide hxw).of_new (unhide hk11) (fun x hx => by rw [List.mem_singleton] at hx; rw [hx, unhide hb5']; exact Nat.le_refl _), by omega, by omega, by omega, unhide hco⟩
end Go.Proofs.YtjehhilijeajnaaGreatDoor
/- ELIMINATION, plain: the reference answers what the code answers. No program in sight. Conditions: see each theorem. -/
namespace Go.Proofs.YtjehhilijeajnaaGreatDoor
open Go Go.RowKit

theorem withR_perm {L : List Int} {n : Int} (h : 0 ≤ n ∧ n < 1024) (hn : n ∉ L) : (withR L n).Perm (L ++ [n]) := by
  unfold withR
  rw [if_neg]
  · rw [insF_eq]; exact insP_perm _ _ _
  · rintro (h1 | h1 | h1)
    · omega
    · omega
    · rw [List.any_eq_true] at h1
      obtain ⟨x, hx, e⟩ := h1
      have : x = n := by simpa using e
      exact hn (this ▸ hx)
theorem withR_sorted {L : List Int} {n : Int} (hn : n ∉ L) (hs : L.Pairwise (· < ·)) : (withR L n).Pairwise (· < ·) := by
  unfold withR
  split
  · exact hs
  · rw [insF_eq]
    refine insP_sorted (lt := fun a b : Int => a < b) (fun a b c h1 h2 => Int.lt_trans h1 h2) (fun y hy => by simpa using hy) L (fun y hy => ?_) hs
    by_cases h : n < y
    · exact .inl (decide_eq_true h)
    · right
      have : y ≠ n := fun e => hn (e ▸ hy)
      omega
section
variable {V : List (Int × Thing)} {E : List ((Int × Int) × Thing)} {L : List Int}
theorem adj0_iff (hi : GInv V E) (u v : Int) : 0 ≤ posI (isE u v) E ↔ Adj0 E u v := by
  rw [posI_nonneg]
  constructor
  · rintro ⟨e, he, h⟩; exact ⟨e, he, (isE_iff (hi.lo e he)).1 h⟩
  · rintro ⟨e, he, h⟩; exact ⟨e, he, (isE_iff (hi.lo e he)).2 h⟩
/-- what the fill-in holds before step i -/
def ComeIs (E : List ((Int × Int) × Thing)) (L : List Int) (i : Nat) (come : List (Int × Int)) : Prop := come.Nodup ∧ ∀ p, p ∈ come ↔ p.1 < p.2 ∧ Adj E L i p.1 p.2 ∧ ¬ Adj0 E p.1 p.2
theorem adjR_iff (hi : GInv V E) {i : Nat} {come : List (Int × Int)} (hc : ComeIs E L i come) (u v : Int) : adjR E come u v = true ↔ Adj E L i u v := by
  unfold adjR
  rw [Bool.or_eq_true, decide_eq_true_eq, adj0_iff hi, List.any_eq_true]
  constructor
  · rintro (h | ⟨p, hp, h⟩)
    · exact Adj.mono (k := 0) h (Nat.zero_le _)
    · have h2 := (hc.2 p).1 hp
      simp only [inP, Bool.or_eq_true, Bool.and_eq_true, beq_iff_eq] at h
      rcases h with ⟨h3, h4⟩ | ⟨h3, h4⟩
      · rw [h3, h4] at h2; exact h2.2.1
      · rw [h3, h4] at h2; exact h2.2.1.symm
  · intro h
    by_cases h0 : Adj0 E u v
    · exact .inl h0
    · right
      have hne := Adj.ne hi h
      rcases Int.lt_or_gt_of_ne hne with hlt | hlt
      · exact ⟨(u, v), (hc.2 _).2 ⟨hlt, h, h0⟩, by simp [inP]⟩
      · exact ⟨(v, u), (hc.2 _).2 ⟨hlt, h.symm, fun h1 => h0 (Adj.symm (L := L) (k := 0) h1)⟩, by simp [inP]⟩
/-- what is near -/
theorem nearR_is (hi : GInv V E) (ho : Ord V L) {i : Nat} (hil : i < L.length) {come : List (Int × Int)} (hc : ComeIs E L i come) : ∀ k, i + 1 ≤ k → k ≤ L.length → (nearR E come L i k).Pairwise (· < ·) ∧ ∀ x, x ∈ nearR E come L i k ↔ x ∈ (L.take k).drop (i + 1) ∧ Adj E L i L[i] x := by
  have key : ∀ m, i + 1 + m ≤ L.length → (nearR E come L i (i + 1 + m)).Pairwise (· < ·) ∧ ∀ x, x ∈ nearR E come L i (i + 1 + m) ↔ x ∈ (L.take (i + 1 + m)).drop (i + 1) ∧ Adj E L i L[i] x := by
   intro m
   induction m with
   | zero =>
    intro _
    rw [Nat.add_zero, nearR_start]
    refine ⟨.nil, fun x => ?_⟩
    rw [List.drop_eq_nil_of_le (by rw [List.length_take]; omega)]
    simp
   | succ m ih =>
    intro hkl
    obtain ⟨h1, h2⟩ := ih (by omega)
    rw [show i + 1 + (m + 1) = (i + 1 + m) + 1 by omega]
    have hk : i + 1 ≤ i + 1 + m := by omega
    have hkL : i + 1 + m < L.length := by omega
    generalize i + 1 + m = k at *
    have hg : L[i]?.getD 0 = L[i] := by simp [hil]
    have ht : (L.take (k + 1)).drop (i + 1) = (L.take k).drop (i + 1) ++ [L[k]] := by
      rw [List.take_succ_eq_append_getElem hkL, List.drop_append_of_le_length (by rw [List.length_take]; omega)]
    have hnk : L[k] ∉ nearR E come L i k := fun hm => by
      have h3 := List.mem_of_mem_drop ((h2 _).1 hm).1
      obtain ⟨j, hj, e⟩ := List.getElem_of_mem h3
      rw [List.length_take] at hj
      rw [List.getElem_take] at e
      have := (List.getElem_inj ho.nodup).1 e
      omega
    rw [nearR_next E come L i k hkL (by omega), ht]
    unfold nearF21
    rw [hg]
    by_cases ha : adjR E come L[i] L[k] = true
    · rw [if_pos ha]
      have hr := ho.rng hi (List.getElem_mem hkL)
      refine ⟨withR_sorted hnk h1, fun x => ?_⟩
      rw [(withR_perm hr hnk).mem_iff, List.mem_append, List.mem_singleton, h2, List.mem_append, List.mem_singleton]
      have ha2 := (adjR_iff hi hc _ _).1 ha
      constructor
      · rintro (h | rfl)
        · exact ⟨.inl h.1, h.2⟩
        · exact ⟨.inr rfl, ha2⟩
      · rintro ⟨h | rfl, h3⟩
        · exact .inl ⟨h, h3⟩
        · exact .inr rfl
    · rw [if_neg ha]
      refine ⟨h1, fun x => ?_⟩
      rw [h2, List.mem_append, List.mem_singleton]
      constructor
      · rintro ⟨h3, h4⟩; exact ⟨.inl h3, h4⟩
      · rintro ⟨h3 | rfl, h4⟩
        · exact ⟨h3, h4⟩
        · exact absurd ((adjR_iff hi hc _ _).2 h4) ha
  intro k hk1 hk2
  have := key (k - (i + 1)) (by omega)
  rwa [show i + 1 + (k - (i + 1)) = k by omega] at this
theorem sorted_eq {l m : List Int} (h1 : l.Pairwise (· < ·)) (h2 : m.Pairwise (· < ·)) (h : ∀ x, x ∈ l ↔ x ∈ m) : l = m := by
  have n1 : l.Nodup := h1.imp fun {_ _} h => by omega
  have n2 : m.Nodup := h2.imp fun {_ _} h => by omega
  refine sorted_unique (lt := fun a b : Int => decide (a < b)) m l ((List.perm_ext_iff_of_nodup n1 n2).2 h) (h2.imp fun {_ _} h => decide_eq_true h) (h1.imp fun {_ _} h => decide_eq_false (by omega))
theorem nearR_eq (hi : GInv V E) (ho : Ord V L) {i : Nat} (hil : i < L.length) {come : List (Int × Int)} (hc : ComeIs E L i come) : nearR E come L i L.length = toL (sAt E L i) := by
  obtain ⟨h1, h2⟩ := nearR_is hi ho hil hc L.length hil (Nat.le_refl _)
  refine sorted_eq h1 (toL_sorted _) fun x => ?_
  rw [h2, mem_sAt hi ho hil, List.take_length]
theorem rowF_mem (hi : GInv V E) {near : List Int} (hs : near.Pairwise (· < ·)) {a b : Nat} (ha : a < near.length) (hb : b < a) {come : List (Int × Int)} (hlt : ∀ p ∈ come, p.1 < p.2) (hn : come.Nodup) :
    (rowF E near a come b).Nodup ∧ ∀ p, p ∈ rowF E near a come b ↔ p ∈ come ∨ (p = (near[b]?.getD 0, near[a]?.getD 0) ∧ ¬ Adj0 E p.1 p.2) := by
  have hba : near[b]?.getD 0 < near[a]?.getD 0 := by
    rw [show near[b]?.getD 0 = near[b]'(by omega) by simp [show b < near.length by omega], show near[a]?.getD 0 = near[a] by simp [ha]]
    exact List.pairwise_iff_getElem.1 hs b a (by omega) ha hb
  unfold rowF
  generalize near[b]?.getD 0 = y at *
  generalize near[a]?.getD 0 = x at *
  have key : adjR E come x y = true ↔ Adj0 E x y ∨ (y, x) ∈ come := by
    unfold adjR
    rw [Bool.or_eq_true, decide_eq_true_eq, adj0_iff hi, List.any_eq_true]
    refine or_congr Iff.rfl ⟨?_, fun h => ⟨(y, x), h, by simp [inP]⟩⟩
    rintro ⟨p, hp, h⟩
    simp only [inP, Bool.or_eq_true, Bool.and_eq_true, beq_iff_eq] at h
    have h3 := hlt p hp
    obtain ⟨p1, p2⟩ := p
    simp only at h h3
    rcases h with ⟨rfl, rfl⟩ | ⟨rfl, rfl⟩
    · omega
    · exact hp
  have hsym : Adj0 E x y ↔ Adj0 E y x := ⟨fun h => Adj.symm (L := []) (k := 0) h, fun h => Adj.symm (L := []) (k := 0) h⟩
  by_cases hA : adjR E come x y = true
  · rw [if_pos (by simpa using hA)]
    refine ⟨hn, fun p => ⟨.inl, ?_⟩⟩
    rintro (h | ⟨rfl, h⟩)
    · exact h
    · rcases key.1 hA with h1 | h1
      · exact absurd (hsym.1 h1) h
      · exact h1
  · rw [if_neg (by simpa using hA)]
    have hA0 : ¬ Adj0 E y x := fun h => hA (key.2 (.inl (hsym.2 h)))
    have hAc : (y, x) ∉ come := fun h => hA (key.2 (.inr h))
    refine ⟨?_, fun p => ?_⟩
    · rw [List.nodup_append]
      exact ⟨hn, by simp, fun p hp q hq e => by rw [List.mem_singleton] at hq; rw [e, hq] at hp; exact hAc hp⟩
    · rw [List.mem_append, List.mem_singleton]
      exact or_congr Iff.rfl ⟨fun h => ⟨h, by rw [h]; exact hA0⟩, fun h => h.1⟩
theorem rowR_mem (hi : GInv V E) {near : List Int} (hs : near.Pairwise (· < ·)) {a : Nat} (ha : a < near.length) {come : List (Int × Int)} (hlt : ∀ p ∈ come, p.1 < p.2) (hn : come.Nodup) : ∀ b, b ≤ a →
    (rowR E near a come b).Nodup ∧ (∀ p ∈ rowR E near a come b, p.1 < p.2) ∧ ∀ p, p ∈ rowR E near a come b ↔ p ∈ come ∨ ((∃ b', b' < b ∧ p = (near[b']?.getD 0, near[a]?.getD 0)) ∧ ¬ Adj0 E p.1 p.2)
  | 0, _ => by simp [rowR]; exact ⟨hn, fun a b h => hlt (a, b) h⟩
  | b + 1, hb => by
    obtain ⟨h1, h2, h3⟩ := rowR_mem hi hs ha hlt hn b (by omega)
    rw [rowR_next]
    obtain ⟨h4, h5⟩ := rowF_mem hi hs ha (show b < a by omega) h2 h1
    have hba : near[b]?.getD 0 < near[a]?.getD 0 := by
      rw [show near[b]?.getD 0 = near[b]'(by omega) by simp [show b < near.length by omega], show near[a]?.getD 0 = near[a] by simp [ha]]
      exact List.pairwise_iff_getElem.1 hs b a (by omega) ha (by omega)
    refine ⟨h4, fun p hp => ?_, fun p => ?_⟩
    · rcases (h5 p).1 hp with h | ⟨rfl, _⟩
      · exact h2 p h
      · exact hba
    · rw [h5, h3]
      constructor
      · rintro ((h | ⟨⟨b', hb', e⟩, h⟩) | ⟨e, h⟩)
        · exact .inl h
        · exact .inr ⟨⟨b', by omega, e⟩, h⟩
        · exact .inr ⟨⟨b, by omega, e⟩, h⟩
      · rintro (h | ⟨⟨b', hb', e⟩, h⟩)
        · exact .inl (.inl h)
        · by_cases hbb : b' = b
          · subst hbb; exact .inr ⟨e, h⟩
          · exact .inl (.inr ⟨⟨b', by omega, e⟩, h⟩)
theorem pairR_mem (hi : GInv V E) {near : List Int} (hs : near.Pairwise (· < ·)) {come : List (Int × Int)} (hlt : ∀ p ∈ come, p.1 < p.2) (hn : come.Nodup) : ∀ a, a ≤ near.length →
    (pairR E near come a).Nodup ∧ (∀ p ∈ pairR E near come a, p.1 < p.2) ∧ ∀ p, p ∈ pairR E near come a ↔ p ∈ come ∨ ((∃ a' b', a' < a ∧ b' < a' ∧ p = (near[b']?.getD 0, near[a']?.getD 0)) ∧ ¬ Adj0 E p.1 p.2)
  | 0, _ => by simp [pairR]; exact ⟨hn, fun a b h => hlt (a, b) h⟩
  | a + 1, ha => by
    obtain ⟨h1, h2, h3⟩ := pairR_mem hi hs hlt hn a (by omega)
    rw [pairR_next]
    obtain ⟨h4, h5, h6⟩ := rowR_mem hi hs (show a < near.length by omega) h2 h1 a (Nat.le_refl _)
    refine ⟨h4, h5, fun p => ?_⟩
    rw [h6, h3]
    constructor
    · rintro ((h | ⟨⟨a', b', h7, h8, e⟩, h⟩) | ⟨⟨b', hb', e⟩, h⟩)
      · exact .inl h
      · exact .inr ⟨⟨a', b', by omega, h8, e⟩, h⟩
      · exact .inr ⟨⟨a, b', by omega, hb', e⟩, h⟩
    · rintro (h | ⟨⟨a', b', h7, h8, e⟩, h⟩)
      · exact .inl (.inl h)
      · by_cases haa : a' = a
        · subst haa; exact .inr ⟨⟨b', h8, e⟩, h⟩
        · exact .inl (.inr ⟨⟨a', b', by omega, h8, e⟩, h⟩)
theorem pair_places {near : List Int} (hs : near.Pairwise (· < ·)) (p : Int × Int) : (∃ a' b', a' < near.length ∧ b' < a' ∧ p = (near[b']?.getD 0, near[a']?.getD 0)) ↔ p.1 < p.2 ∧ p.1 ∈ near ∧ p.2 ∈ near := by
  constructor
  · rintro ⟨a, b, ha, hb, rfl⟩
    have hbl : b < near.length := by omega
    rw [show near[b]?.getD 0 = near[b] by simp [hbl], show near[a]?.getD 0 = near[a] by simp [ha]]
    exact ⟨List.pairwise_iff_getElem.1 hs b a hbl ha hb, List.getElem_mem _, List.getElem_mem _⟩
  · obtain ⟨u, v⟩ := p
    rintro ⟨h1, h2, h3⟩
    simp only at h1 h2 h3
    obtain ⟨b, hb, rfl⟩ := List.getElem_of_mem h2
    obtain ⟨a, ha, rfl⟩ := List.getElem_of_mem h3
    refine ⟨a, b, ha, ?_, by simp [ha, hb]⟩
    rcases Nat.lt_or_ge b a with h | h
    · exact h
    · rcases Nat.lt_or_ge a b with h4 | h4
      · have := List.pairwise_iff_getElem.1 hs a b ha hb h4
        omega
      · have : a = b := by omega
        subst this
        omega
/-- THE FILL-IN of the reference, step by step -/
theorem comR_is (hi : GInv V E) (ho : Ord V L) : ∀ i, i ≤ L.length → ComeIs E L i (comR E L i)
  | 0, _ => by
    refine ⟨.nil, fun p => ?_⟩
    simp only [comR, List.not_mem_nil, false_iff]
    rintro ⟨_, h1, h2⟩
    exact h2 h1
  | i + 1, hil => by
    have ih := comR_is hi ho i (by omega)
    have hi2 : i < L.length := by omega
    have hne := nearR_eq hi ho hi2 ih
    have hs := toL_sorted (sAt E L i)
    obtain ⟨h1, h2, h3⟩ := pairR_mem hi hs (fun p hp => ((ih.2 p).1 hp).1) ih.1 _ (Nat.le_refl (toL (sAt E L i)).length)
    have he : comR E L (i + 1) = pairR E (toL (sAt E L i)) (comR E L i) (toL (sAt E L i)).length := by
      show pairR E (nearR E (comR E L i) L i L.length) (comR E L i) (nearR E (comR E L i) L i L.length).length = _
      rw [hne]
    rw [he]
    refine ⟨h1, fun p => ?_⟩
    have hg : Adj E L (i + 1) p.1 p.2 ↔ Adj E L i p.1 p.2 ∨ (p.1 ≠ p.2 ∧ p.1 ∈ L.drop (i + 1) ∧ p.2 ∈ L.drop (i + 1) ∧ Adj E L i L[i] p.1 ∧ Adj E L i L[i] p.2) := by
      show (_ ∨ _) ↔ _
      rw [show L[i]?.getD 0 = L[i] by simp [hi2]]
    rw [h3, pair_places hs, ih.2, hg, mem_sAt hi ho hi2, mem_sAt hi ho hi2]
    constructor
    · rintro (⟨h4, h5, h6⟩ | ⟨⟨h4, h5, h6⟩, h7⟩)
      · exact ⟨h4, .inl h5, h6⟩
      · exact ⟨h4, .inr ⟨by omega, h5.1, h6.1, h5.2, h6.2⟩, h7⟩
    · rintro ⟨h4, h5 | ⟨_, h5, h6, h7, h8⟩, h9⟩
      · exact .inl ⟨h4, h5, h9⟩
      · exact .inr ⟨⟨h4, ⟨h5, h7⟩, h6, h8⟩, h9⟩
theorem neaR_eq (hi : GInv V E) (ho : Ord V L) {i : Nat} (hil : i < L.length) : neaR E L i = toL (sAt E L i) := nearR_eq hi ho hil (comR_is hi ho i (by omega))
theorem comR_eq (hi : GInv V E) (ho : Ord V L) : fillS (comR E L L.length) = fillS (comeK E L L.length) := by
  have h := comR_is hi ho L.length (Nat.le_refl _)
  refine fillS_congr h.1 (comeK_nodup hi ho (Nat.le_refl _)) fun p => ?_
  rw [h.2, mem_comeK hi ho (Nat.le_refl _)]
end
end Go.Proofs.YtjehhilijeajnaaGreatDoor
/- ELIMINATION, plain: width, tree and height of the reference. No program in sight. Conditions: see each theorem. -/
namespace Go.Proofs.YtjehhilijeajnaaGreatDoor
open Go Go.RowKit

theorem toK_len (N k : Nat) : (toK N k).length = cntF N k := by
  induction k with
  | zero => rfl
  | succ k ih =>
    rw [toK_next]
    show _ = cntF N k + (N.testBit k).toNat
    cases hb : N.testBit k
    · simp [ih]
    · simp [ih]
theorem toL_len (N : Nat) : (toL N).length = cntF N 1024 := toK_len N 1024

theorem lookI_map (u x : Int) (v : Int) : ∀ M : List (Int × Int), lookM (M.map fun p => if p.1 = u then (u, v) else p) x = if x = u ∧ (lookM M u).isSome = true then some v else lookM M x
  | [] => by simp [lookM]
  | p :: r => by
    have ih := lookI_map u x v r
    unfold lookM at ih ⊢
    rw [List.map_cons, List.find?_cons, List.find?_cons, List.find?_cons]
    by_cases h1 : p.1 = u
    · by_cases h2 : x = u
      · subst h2; simp [h1]
      · have h3 : ¬ u = x := fun e => h2 e.symm
        rw [if_pos h1, decide_eq_false h3, decide_eq_false (show ¬ p.1 = x from fun e => h3 (h1.symm.trans e)), ih, if_neg (fun h => h2 h.1), if_neg (fun h => h2 h.1)]
    · rw [if_neg h1, decide_eq_false h1]
      by_cases h2 : p.1 = x
      · have h3 : ¬ x = u := fun e => h1 (h2.trans e)
        rw [decide_eq_true h2, if_neg (fun h => h3 h.1)]
      · rw [decide_eq_false h2, ih]
theorem lookI_putM (M : List (Int × Int)) (u x : Int) (v : Int) : lookM (putM M u v) x = if x = u then some v else lookM M x := by
  unfold putM
  split
  · rename_i h
    rw [lookI_map]
    by_cases h2 : x = u
    · rw [if_pos ⟨h2, h⟩, if_pos h2]
    · rw [if_neg (fun h => h2 h.1), if_neg h2]
  · rename_i h
    have h0 : lookM M u = none := by simpa using h
    unfold lookM at h0 ⊢
    rw [List.find?_append]
    by_cases h2 : x = u
    · subst h2
      have h1 : M.find? (fun p => decide (p.1 = x)) = none := by simpa using h0
      rw [h1, if_pos rfl]
      simp
    · rw [if_neg h2]
      have h3 : ¬ u = x := fun e => h2 e.symm
      simp [h3]
theorem plK_look {L : List Int} (hn : L.Nodup) : ∀ (k : Nat), k ≤ L.length → ∀ j (_hj : j < k) (hl : j < L.length), lookM (plK L k) L[j] = some (j : Int)
  | 0, _, j, hj, _ => by omega
  | k + 1, hk, j, hj, hl => by
    rw [plK_next L k (by omega), lookI_putM]
    by_cases h : j = k
    · subst h; rw [if_pos rfl]
    · rw [if_neg (fun e => h ((List.getElem_inj hn).1 e)), plK_look hn k (by omega) j (by omega) hl]
theorem plM_at {L : List Int} (hn : L.Nodup) {j : Nat} (hl : j < L.length) : plM (plK L L.length) L[j] = (j : Int) := by
  unfold plM
  rw [plK_look hn L.length (Nat.le_refl _) j hl hl]
  rfl

theorem fold_min (M : List (Int × Int)) : ∀ (l : List Int) (up : Int), 0 ≤ up → (∀ x ∈ l, 0 ≤ plM M x) → 0 ≤ l.foldl (upF M) up ∧ l.foldl (upF M) up ≤ up ∧ (∀ y ∈ l, l.foldl (upF M) up ≤ plM M y) ∧ (l.foldl (upF M) up = up ∨ ∃ x ∈ l, l.foldl (upF M) up = plM M x)
  | [], up, h, _ => ⟨h, Int.le_refl _, by simp, .inl rfl⟩
  | a :: r, up, h, hp => by
    have ha := hp a (by simp)
    have hf : upF M up a = if plM M a < up then plM M a else up := by unfold upF; rw [if_neg (by omega)]
    rw [List.foldl_cons, hf]
    split
    · rename_i hlt
      obtain ⟨h1, h2, h3, h4⟩ := fold_min M r (plM M a) ha (fun x hx => hp x (by simp [hx]))
      refine ⟨h1, by omega, fun y hy => ?_, .inr ?_⟩
      · rcases List.mem_cons.1 hy with rfl | hy
        · exact h2
        · exact h3 y hy
      · rcases h4 with h4 | ⟨x, hx, h4⟩
        · exact ⟨a, by simp, h4⟩
        · exact ⟨x, by simp [hx], h4⟩
    · rename_i hlt
      obtain ⟨h1, h2, h3, h4⟩ := fold_min M r up h (fun x hx => hp x (by simp [hx]))
      refine ⟨h1, h2, fun y hy => ?_, ?_⟩
      · rcases List.mem_cons.1 hy with rfl | hy
        · omega
        · exact h3 y hy
      · rcases h4 with h4 | ⟨x, hx, h4⟩
        · exact .inl h4
        · exact .inr ⟨x, by simp [hx], h4⟩
theorem fold_up (M : List (Int × Int)) (l : List Int) (hp : ∀ x ∈ l, 0 ≤ plM M x) : l = [] ∧ l.foldl (upF M) (-1) = -1 ∨ ∃ x ∈ l, l.foldl (upF M) (-1) = plM M x ∧ ∀ y ∈ l, plM M x ≤ plM M y := by
  cases l with
  | nil => exact .inl ⟨rfl, rfl⟩
  | cons a r =>
    right
    have ha := hp a (by simp)
    have hf : upF M (-1) a = plM M a := by unfold upF; rw [if_pos (by omega)]
    rw [List.foldl_cons, hf]
    obtain ⟨h1, h2, h3, h4⟩ := fold_min M r (plM M a) ha (fun x hx => hp x (by simp [hx]))
    rcases h4 with h4 | ⟨x, hx, h4⟩
    · refine ⟨a, by simp, h4, fun y hy => ?_⟩
      rcases List.mem_cons.1 hy with rfl | hy
      · exact Int.le_refl _
      · rw [← h4]; exact h3 y hy
    · refine ⟨x, by simp [hx], h4, fun y hy => ?_⟩
      rw [← h4]
      rcases List.mem_cons.1 hy with rfl | hy
      · exact h2
      · exact h3 y hy
theorem upR_none {near L : List Int} {m : Nat} (h : ∀ k, m ≤ k → (hk : k < L.length) → L[k] ∉ near) : upR near L m = -1 := by
  unfold upR
  have : (List.range' m (L.length - m)).find? (fun k => near.any (· == L[k]?.getD 0)) = none := by
    rw [List.find?_eq_none]
    intro k hk
    rw [List.mem_range'] at hk
    obtain ⟨i, hi, rfl⟩ := hk
    have hkl : m + 1 * i < L.length := by omega
    simp only [Bool.not_eq_true, List.any_eq_false, beq_iff_eq]
    intro x hx e
    rw [show L[m + 1 * i]?.getD 0 = L[m + 1 * i] by rw [List.getElem?_eq_getElem hkl]; rfl] at e
    exact h _ (by omega) hkl (e ▸ hx)
  rw [this]
theorem upR_some {near L : List Int} {m k : Nat} (hm : m ≤ k) (hk : k < L.length) (h1 : L[k] ∈ near) (h2 : ∀ j, m ≤ j → (hj : j < k) → L[j] ∉ near) : upR near L m = (k : Int) := by
  obtain ⟨d, rfl⟩ : ∃ d, k = m + d := ⟨k - m, by omega⟩
  clear hm
  induction d generalizing m with
  | zero =>
    rw [upR_step near L m (by omega), if_pos]
    · rfl
    · rw [List.any_eq_true]; exact ⟨L[m], by simpa using h1, by simp⟩
  | succ d ih =>
    rw [upR_step near L m (by omega), if_neg]
    · have := ih (m := m + 1) (by omega) (by simpa [Nat.add_assoc, Nat.add_comm 1 d] using h1) (fun j h3 h4 => h2 j (by omega) (by omega))
      rw [this]
      omega
    · rw [Bool.not_eq_true, List.any_eq_false]
      intro x hx
      have h3 := h2 m (Nat.le_refl _) (by omega)
      simp only [beq_iff_eq]
      intro e
      exact h3 (e ▸ hx)
section
variable {V : List (Int × Thing)} {E : List ((Int × Int) × Thing)} {L : List Int}
theorem up_eq (hi : GInv V E) (ho : Ord V L) {i : Nat} (hil : i < L.length) : upS (plK L L.length) (sAt E L i) = upR (neaR E L i) L (i + 1) ∧ (upR (neaR E L i) L (i + 1) = -1 ∨ (i : Int) < upR (neaR E L i) L (i + 1) ∧ upR (neaR E L i) L (i + 1) < L.length) := by
  rw [neaR_eq hi ho hil]
  have hpos : ∀ x ∈ toL (sAt E L i), ∃ j, ∃ hj : j < L.length, i + 1 ≤ j ∧ L[j] = x := fun x hx => by
    have h1 := ((mem_sAt hi ho hil).1 hx).1
    obtain ⟨j, hj, e⟩ := List.getElem_of_mem h1
    rw [List.getElem_drop] at e
    rw [List.length_drop] at hj
    exact ⟨i + 1 + j, by omega, by omega, e⟩
  have hp : ∀ x ∈ toL (sAt E L i), 0 ≤ plM (plK L L.length) x := fun x hx => by
    obtain ⟨j, hj, _, rfl⟩ := hpos x hx
    rw [plM_at ho.nodup hj]
    omega
  unfold upS
  rcases fold_up (plK L L.length) (toL (sAt E L i)) hp with ⟨h1, h2⟩ | ⟨x, hx, h2, h3⟩
  · have : upR (toL (sAt E L i)) L (i + 1) = -1 := upR_none fun k _ _ => by rw [h1]; simp
    rw [h2, this]
    exact ⟨rfl, .inl rfl⟩
  · obtain ⟨j, hj, hij, rfl⟩ := hpos x hx
    have : upR (toL (sAt E L i)) L (i + 1) = (j : Int) := upR_some hij hj hx fun j' h4 h5 hm => by
      have := h3 _ hm
      rw [plM_at ho.nodup hj, plM_at ho.nodup (by omega)] at this
      omega
    rw [h2, this, plM_at ho.nodup hj]
    exact ⟨rfl, .inr (by omega)⟩
theorem tree_eq (hi : GInv V E) (ho : Ord V L) : parK E L (plK L L.length) L.length = treeR E L L.length := by
  unfold parK treeR
  refine List.map_congr_left fun i hmem => ?_
  exact (up_eq hi ho (List.mem_range.1 hmem)).1
theorem tree_up (hi : GInv V E) (ho : Ord V L) : UpOK (treeR E L L.length) := by
  intro i h
  rw [treeR_len] at h
  have hg : (treeR E L L.length)[i]'(by rw [treeR_len]; exact h) = upR (neaR E L i) L (i + 1) := by simp [treeR]
  rw [hg, treeR_len]
  exact (up_eq hi ho h).2
theorem fold_max_pull {α : Type} (f : α → Int) : ∀ (l : List α) (m c : Int), l.foldl (fun m x => max m (f x)) (max m c) = max (l.foldl (fun m x => max m (f x)) m) c
  | [], m, c => rfl
  | a :: r, m, c => by
    rw [List.foldl_cons, List.foldl_cons, show max (max m c) (f a) = max (max m (f a)) c by omega, fold_max_pull f r]
theorem fold_max_rev {α : Type} (f : α → Int) : ∀ (l : List α) (m : Int), l.reverse.foldl (fun m x => max m (f x)) m = l.foldl (fun m x => max m (f x)) m
  | [], m => rfl
  | a :: r, m => by
    rw [List.reverse_cons, List.foldl_append, fold_max_rev f r, List.foldl_cons, List.foldl_nil, List.foldl_cons, fold_max_pull]
theorem hgt_eq (P : List Int) : hgtM P = depRK P P.length := by
  unfold hgtM mostF bwL depRK
  rw [fold_max_rev (fun p : Int × Int => dep P p.1.toNat), List.foldl_map]
  rfl
theorem wid_eq (hi : GInv V E) (ho : Ord V L) : widR E L = widK E L L.length := by
  unfold widR widRK widK neasR
  rw [List.take_of_length_le (by simp), List.foldl_map]
  have : ∀ (l : List Nat) (m : Int), (∀ i ∈ l, i < L.length) → l.foldl (fun m i => max m ((neaR E L i).length : Int)) m = l.foldl (fun m i => max m (cntF (sAt E L i) 1024 : Int)) m := by
    intro l
    induction l with
    | nil => intro m _; rfl
    | cons a r ih =>
      intro m h
      rw [List.foldl_cons, List.foldl_cons, neaR_eq hi ho (h a (by simp)), toL_len]
      exact ih _ (fun i hi => h i (by simp [hi]))
  exact this _ _ (fun i hi => List.mem_range.1 hi)
end
end Go.Proofs.YtjehhilijeajnaaGreatDoor
/- ELIMINATION, plain: later neighbors are ancestors; width and height are monotone; the filled graph has no fill-in; complete and edgeless graphs. No program in sight. Conditions: see each theorem. -/
namespace Go.Proofs.YtjehhilijeajnaaGreatDoor
open Go

section
variable {V : List (Int × Thing)} {E : List ((Int × Int) × Thing)} {L : List Int}

theorem treeR_get (E : List ((Int × Int) × Thing)) (L : List Int) {i : Nat} (h : i < (treeR E L L.length).length) : (treeR E L L.length)[i] = upR (neaR E L i) L (i + 1) := by simp [treeR]
theorem mem_drop_get {k : Nat} {x : Int} : x ∈ L.drop k ↔ ∃ j, ∃ hj : j < L.length, k ≤ j ∧ L[j] = x := by
  constructor
  · intro h
    obtain ⟨j, hj, e⟩ := List.getElem_of_mem h
    rw [List.getElem_drop] at e
    rw [List.length_drop] at hj
    exact ⟨k + j, by omega, by omega, e⟩
  · rintro ⟨j, hj, hk, rfl⟩
    rw [List.mem_iff_getElem]
    exact ⟨j - k, by rw [List.length_drop]; omega, by rw [List.getElem_drop]; congr 1; omega⟩
/-- the parent of i: the least later neighbor -/
theorem par_spec (hi : GInv V E) (ho : Ord V L) {i : Nat} (hl : i < L.length) (ht : i < (treeR E L L.length).length) :
    ((treeR E L L.length)[i] = -1 ∧ ∀ j (hj : j < L.length), i < j → ¬ Adj E L i L[i] L[j]) ∨
    ∃ k, ∃ hk : k < L.length, (treeR E L L.length)[i] = (k : Int) ∧ i < k ∧ Adj E L i L[i] L[k] ∧ ∀ j (hj : j < L.length), i < j → j < k → ¬ Adj E L i L[i] L[j] := by
  rw [treeR_get, neaR_eq hi ho hl]
  have hm : ∀ j (hj : j < L.length), i < j → (L[j] ∈ toL (sAt E L i) ↔ Adj E L i L[i] L[j]) := fun j hj hij => by
    rw [mem_sAt hi ho hl]
    exact ⟨fun h => h.2, fun h => ⟨mem_drop_get.2 ⟨j, hj, hij, rfl⟩, h⟩⟩
  by_cases hex : ∃ k, ∃ hk : k < L.length, i < k ∧ Adj E L i L[i] L[k]
  · have hlst : ∀ m, (∃ k, ∃ hk : k < L.length, i < k ∧ k ≤ m ∧ Adj E L i L[i] L[k]) → ∃ k, ∃ hk : k < L.length, i < k ∧ Adj E L i L[i] L[k] ∧ ∀ j (hj : j < L.length), i < j → j < k → ¬ Adj E L i L[i] L[j] := by
      intro m
      induction m with
      | zero => rintro ⟨k, hk, h1, h2, _⟩; omega
      | succ m ih =>
        rintro ⟨k, hk, h1, h2, h3⟩
        by_cases hs : ∃ k', ∃ hk' : k' < L.length, i < k' ∧ k' ≤ m ∧ Adj E L i L[i] L[k']
        · exact ih hs
        · exact ⟨k, hk, h1, h3, fun j hj h4 h5 h6 => hs ⟨j, hj, h4, by omega, h6⟩⟩
    obtain ⟨k, hk, h1, h2⟩ := hex
    obtain ⟨k, hk, h1, h2, h3⟩ := hlst k ⟨k, hk, h1, Nat.le_refl _, h2⟩
    exact .inr ⟨k, hk, upR_some h1 hk ((hm k hk h1).2 h2) (fun j h4 h5 h6 => h3 j (by omega) h4 h5 ((hm j (by omega) h4).1 h6)), h1, h2, h3⟩
  · exact .inl ⟨upR_none fun k h1 hk h2 => hex ⟨k, hk, h1, (hm k hk h1).1 h2⟩, fun j hj h1 h2 => hex ⟨j, hj, h1, h2⟩⟩

/-- the ancestors of i -/
def ancF (P : List Int) : Nat → Nat → List Nat
  | 0, _ => []
  | f + 1, i => if P[i]?.getD (-1) < 0 then [] else (P[i]?.getD (-1)).toNat :: ancF P f (P[i]?.getD (-1)).toNat
def anc (P : List Int) (i : Nat) : List Nat := ancF P (P.length - i) i
theorem ancF_fuel {P : List Int} (hP : UpOK P) : ∀ (f g i : Nat), P.length - i ≤ f → P.length - i ≤ g → i < P.length → ancF P f i = ancF P g i
  | 0, _, i, h, _, hi => by omega
  | _, 0, i, _, h, hi => by omega
  | f + 1, g + 1, i, h1, h2, hi => by
    unfold ancF
    rw [List.getElem?_eq_getElem hi, Option.getD_some]
    split
    · rfl
    · rename_i hn
      have h3 := (hP i hi).resolve_left (by omega)
      rw [ancF_fuel hP f g P[i].toNat (by omega) (by omega) (by omega)]
theorem anc_none {P : List Int} {i : Nat} (hi : i < P.length) (h : P[i] < 0) : anc P i = [] := by
  unfold anc
  obtain ⟨f, hf⟩ : ∃ f, P.length - i = f + 1 := ⟨P.length - i - 1, by omega⟩
  rw [hf]
  unfold ancF
  rw [List.getElem?_eq_getElem hi, Option.getD_some, if_pos h]
theorem anc_some {P : List Int} (hP : UpOK P) {i : Nat} (hi : i < P.length) (h : 0 ≤ P[i]) : anc P i = P[i].toNat :: anc P P[i].toNat := by
  have h3 := (hP i hi).resolve_left (by omega)
  unfold anc
  obtain ⟨f, hf⟩ : ∃ f, P.length - i = f + 1 := ⟨P.length - i - 1, by omega⟩
  rw [hf]
  conv => lhs; unfold ancF
  rw [List.getElem?_eq_getElem hi, Option.getD_some, if_neg (by omega)]
  rw [ancF_fuel hP f (P.length - P[i].toNat) P[i].toNat (by omega) (by omega) (by omega)]
theorem anc_dep {P : List Int} (hP : UpOK P) : ∀ (n i : Nat), P.length - i ≤ n → i < P.length → dep P i = 1 + (anc P i).length ∧ ∀ j ∈ anc P i, i < j ∧ j < P.length ∧ dep P j + 1 ≤ dep P i
  | 0, i, h, hi => by omega
  | n + 1, i, h, hi => by
    rcases hP i hi with h1 | ⟨h1, h2⟩
    · rw [dep_none hi (by omega), anc_none hi (by omega)]
      exact ⟨rfl, fun j hj => by cases hj⟩
    · have hp0 : 0 ≤ P[i] := by omega
      obtain ⟨h3, h4⟩ := anc_dep hP n P[i].toNat (by omega) (by omega)
      rw [dep_some hP hi hp0, anc_some hP hi hp0]
      refine ⟨by rw [List.length_cons, h3]; omega, fun j hj => ?_⟩
      rcases List.mem_cons.1 hj with rfl | hj
      · refine ⟨by omega, by omega, by omega⟩
      · obtain ⟨h5, h6, h7⟩ := h4 j hj
        exact ⟨by omega, h6, by omega⟩
/-- a later neighbor is an ancestor -/
theorem near_anc (hi : GInv V E) (ho : Ord V L) : ∀ (n i j : Nat) (hil : i < L.length) (hj : j < L.length), L.length - i ≤ n → i < j → Adj E L i L[i] L[j] → j ∈ anc (treeR E L L.length) i
  | 0, i, j, hil, hj, h, _, _ => by omega
  | n + 1, i, j, hil, hj, h, hij, ha => by
    have ht : i < (treeR E L L.length).length := by rw [treeR_len]; exact hil
    rcases par_spec hi ho hil ht with ⟨_, h2⟩ | ⟨k, hk, h1, h2, h3, h4⟩
    · exact absurd ha (h2 j hj hij)
    · rw [anc_some (tree_up hi ho) ht (by omega), h1, Int.toNat_natCast]
      by_cases e : j = k
      · subst e; simp
      · have hkj : k < j := by
          rcases Nat.lt_trichotomy j k with h5 | h5 | h5
          · exact absurd ha (h4 j hj hij h5)
          · exact absurd h5 e
          · exact h5
        have hne : L[k] ≠ L[j] := fun e2 => by
          have := (List.getElem_inj ho.nodup).1 e2
          omega
        have h5 : Adj E L (i + 1) L[k] L[j] := .inr ⟨hne, mem_drop_get.2 ⟨k, hk, h2, rfl⟩, mem_drop_get.2 ⟨j, hj, hij, rfl⟩, by rw [get_D hil]; exact h3, by rw [get_D hil]; exact ha⟩
        exact List.mem_cons_of_mem _ (near_anc hi ho n k j hk hj (by omega) hkj (h5.mono h2))
theorem cnt_anc (hi : GInv V E) (ho : Ord V L) {i : Nat} (hl : i < L.length) : (cntF (sAt E L i) 1024 : Int) + 1 ≤ dep (treeR E L L.length) i := by
  have hd := anc_dep (tree_up hi ho) _ i (Nat.le_refl _) (by rw [treeR_len]; exact hl)
  rw [hd.1, ← toL_len]
  have : (toL (sAt E L i)).length ≤ ((anc (treeR E L L.length) i).map fun j => L[j]?.getD 0).length := by
    refine len_le_of_sub _ _ (toL_nodup _) fun x hx => ?_
    obtain ⟨h1, h2⟩ := (mem_sAt hi ho hl).1 hx
    obtain ⟨j, hj, hij, rfl⟩ := mem_drop_get.1 h1
    refine List.mem_map.2 ⟨j, near_anc hi ho _ i j hl hj (Nat.le_refl _) hij h2, get_D hj⟩
  rw [List.length_map] at this
  omega
theorem fold_max_ge {α : Type} (f : α → Int) : ∀ (l : List α) (m : Int), m ≤ l.foldl (fun m x => max m (f x)) m ∧ ∀ x ∈ l, f x ≤ l.foldl (fun m x => max m (f x)) m
  | [], m => ⟨Int.le_refl _, fun x hx => by cases hx⟩
  | a :: r, m => by
    obtain ⟨h1, h2⟩ := fold_max_ge f r (max m (f a))
    rw [List.foldl_cons]
    refine ⟨by omega, fun x hx => ?_⟩
    rcases List.mem_cons.1 hx with rfl | hx
    · omega
    · exact h2 x hx
theorem fold_max_le {α : Type} (f : α → Int) {c : Int} : ∀ (l : List α) (m : Int), m ≤ c → (∀ x ∈ l, f x ≤ c) → l.foldl (fun m x => max m (f x)) m ≤ c
  | [], m, h, _ => h
  | a :: r, m, h, h2 => by
    rw [List.foldl_cons]
    refine fold_max_le f r _ ?_ (fun x hx => h2 x (by simp [hx]))
    have := h2 a (by simp)
    omega
theorem hgt_fold (P : List Int) : hgtM P = (List.range P.length).foldl (fun d i => max d (dep P i)) 0 := hgt_eq P
theorem hgt_bound (P : List Int) : 0 ≤ hgtM P ∧ hgtM P ≤ P.length := by
  rw [hgt_fold]
  refine ⟨(fold_max_ge (dep P) (List.range P.length) 0).1, fold_max_le _ _ _ (by omega) fun x _ => (depF_bound P x).2⟩
theorem wid_ge (E : List ((Int × Int) × Thing)) (L : List Int) (k : Nat) : -1 ≤ widK E L k := (fold_max_ge (fun i => (cntF (sAt E L i) 1024 : Int)) (List.range k) (-1)).1
theorem wid_le {c : Int} {k : Nat} (hc : -1 ≤ c) (h : ∀ i, i < k → (cntF (sAt E L i) 1024 : Int) ≤ c) : widK E L k ≤ c :=
  fold_max_le (fun i => (cntF (sAt E L i) 1024 : Int)) _ _ hc fun x hx => h x (List.mem_range.1 hx)
theorem cnt_wid {i k : Nat} (h : i < k) : (cntF (sAt E L i) 1024 : Int) ≤ widK E L k := (fold_max_ge (fun i => (cntF (sAt E L i) 1024 : Int)) (List.range k) (-1)).2 i (List.mem_range.2 h)
/-- the height exceeds the width -/
theorem wid_hgt (hi : GInv V E) (ho : Ord V L) : widK E L L.length < hgtM (treeR E L L.length) := by
  have h0 := hgt_bound (treeR E L L.length)
  have : widK E L L.length ≤ hgtM (treeR E L L.length) - 1 := wid_le (by omega) fun i hl => by
    have h1 := cnt_anc hi ho hl
    have h2 := (fold_max_ge (dep (treeR E L L.length)) (List.range (treeR E L L.length).length) 0).2 i (List.mem_range.2 (by rw [treeR_len]; exact hl))
    rw [← hgt_fold] at h2
    omega
  omega

/-- fewer edges: fewer neighbors, and no greater depth -/
theorem Adj.sub {E' : List ((Int × Int) × Thing)} (h : ∀ u v, Adj0 E' u v → Adj0 E u v) : ∀ {k : Nat} {u v : Int}, Adj E' L k u v → Adj E L k u v
  | 0, u, v, h1 => h u v h1
  | k + 1, u, v, h1 => by
    rcases h1 with h1 | ⟨h2, h3, h4, h5, h6⟩
    · exact .inl (Adj.sub h h1)
    · exact .inr ⟨h2, h3, h4, Adj.sub h h5, Adj.sub h h6⟩
theorem sub_cnt {E' : List ((Int × Int) × Thing)} {V' : List (Int × Thing)} {L' : List Int} (hi : GInv V E) (ho : Ord V L) (hi' : GInv V' E') (ho' : Ord V' L') {i j : Nat} (hl : i < L.length) (hl' : j < L'.length)
    (h : ∀ x, x ∈ L'.drop (j + 1) → Adj E' L' j L'[j] x → x ∈ L.drop (i + 1) ∧ Adj E L i L[i] x) : (cntF (sAt E' L' j) 1024 : Int) ≤ cntF (sAt E L i) 1024 := by
  rw [← toL_len, ← toL_len]
  have := len_le_of_sub (toL (sAt E' L' j)) (toL (sAt E L i)) (toL_nodup _) fun x hx => by
    obtain ⟨h1, h2⟩ := (mem_sAt hi' ho' hl').1 hx
    exact (mem_sAt hi ho hl).2 (h x h1 h2)
  omega
theorem sub_wid {E' : List ((Int × Int) × Thing)} {V' : List (Int × Thing)} (hi : GInv V E) (ho : Ord V L) (hi' : GInv V' E') (ho' : Ord V' L) (h : ∀ u v, Adj0 E' u v → Adj0 E u v) : widK E' L L.length ≤ widK E L L.length :=
  wid_le (wid_ge E L L.length) fun _ hl => Int.le_trans (sub_cnt hi ho hi' ho' hl hl fun _ h1 h2 => ⟨h1, Adj.sub h h2⟩) (cnt_wid hl)
theorem sub_dep {E' : List ((Int × Int) × Thing)} {V' : List (Int × Thing)} (hi : GInv V E) (ho : Ord V L) (hi' : GInv V' E') (ho' : Ord V' L) (h : ∀ u v, Adj0 E' u v → Adj0 E u v) :
    ∀ (n i : Nat), L.length - i ≤ n → i < L.length → dep (treeR E' L L.length) i ≤ dep (treeR E L L.length) i
  | 0, i, h1, h2 => by omega
  | n + 1, i, h1, hl => by
    have ht : i < (treeR E L L.length).length := by rw [treeR_len]; exact hl
    have ht' : i < (treeR E' L L.length).length := by rw [treeR_len]; exact hl
    have hd := anc_dep (tree_up hi ho) _ i (Nat.le_refl _) ht
    rcases par_spec hi' ho' hl ht' with ⟨h2, _⟩ | ⟨k, hk, h2, h3, h4, _⟩
    · rw [dep_none ht' (by omega), hd.1]
      omega
    · rw [dep_some (tree_up hi' ho') ht' (by omega), h2, Int.toNat_natCast]
      have h5 := sub_dep hi ho hi' ho' h n k (by omega) hk
      have h6 := (hd.2 k (near_anc hi ho _ i k hl hk (Nat.le_refl _) h3 (Adj.sub h h4))).2.2
      omega
theorem sub_hgt {E' : List ((Int × Int) × Thing)} {V' : List (Int × Thing)} (hi : GInv V E) (ho : Ord V L) (hi' : GInv V' E') (ho' : Ord V' L) (h : ∀ u v, Adj0 E' u v → Adj0 E u v) : hgtM (treeR E' L L.length) ≤ hgtM (treeR E L L.length) := by
  rw [hgt_fold (treeR E' L L.length)]
  refine fold_max_le _ _ _ (hgt_bound _).1 fun i h1 => ?_
  rw [List.mem_range, treeR_len] at h1
  have h2 := (fold_max_ge (dep (treeR E L L.length)) (List.range (treeR E L L.length).length) 0).2 i (List.mem_range.2 (by rw [treeR_len]; exact h1))
  rw [← hgt_fold] at h2
  exact Int.le_trans (sub_dep hi ho hi' ho' h _ i (Nat.le_refl _) h1) h2

/-- without the vertex at place k -/
theorem era_get (L : List Int) (k : Nat) {j : Nat} (hj : j < (L.eraseIdx k).length) (hk : k < L.length) : (L.eraseIdx k)[j] = if j < k then L[j]'(by rw [List.length_eraseIdx_of_lt hk] at hj; omega) else L[j + 1]'(by rw [List.length_eraseIdx_of_lt hk] at hj; omega) := by
  rw [List.getElem_eraseIdx]
  split <;> rfl
def up1 (k j : Nat) : Nat := if j < k then j else j + 1
theorem era_get1 (L : List Int) (k : Nat) {j : Nat} (hj : j < (L.eraseIdx k).length) (hk : k < L.length) : ∃ h : up1 k j < L.length, (L.eraseIdx k)[j] = L[up1 k j] := by
  have hj' := hj
  rw [List.length_eraseIdx_of_lt hk] at hj'
  refine ⟨by unfold up1; split <;> omega, ?_⟩
  rw [era_get L k hj hk]
  unfold up1
  split
  · simp [*]
  · simp [*]
theorem era_drop {k j : Nat} (hk : k < L.length) {x : Int} (h : x ∈ (L.eraseIdx k).drop j) : x ∈ L.drop (up1 k j) := by
  obtain ⟨i, hi, hji, rfl⟩ := mem_drop_get.1 h
  obtain ⟨h1, h2⟩ := era_get1 L k hi hk
  rw [h2]
  refine mem_drop_get.2 ⟨_, h1, ?_, rfl⟩
  unfold up1
  split <;> split <;> omega
theorem Adj.era {E' : List ((Int × Int) × Thing)} {k : Nat} (hk : k < L.length) (h : ∀ u v, Adj0 E' u v → Adj0 E u v) : ∀ {j : Nat} {u v : Int}, j ≤ (L.eraseIdx k).length → Adj E' (L.eraseIdx k) j u v → Adj E L (if j ≤ k then j else j + 1) u v
  | 0, u, v, _, h1 => by rw [if_pos (by omega)]; exact h u v h1
  | j + 1, u, v, hj, h1 => by
    rcases h1 with h1 | ⟨h2, h3, h4, h5, h6⟩
    · refine (Adj.era hk h (by omega) h1).mono ?_
      split <;> split <;> omega
    · have hjl : j < (L.eraseIdx k).length := by omega
      obtain ⟨h7, h8⟩ := era_get1 L k hjl hk
      have h9 : (L.eraseIdx k)[j]?.getD 0 = L[up1 k j] := by rw [get_D hjl, h8]
      rw [h9] at h5 h6
      have a5 := Adj.era hk h (by omega) h5
      have a6 := Adj.era hk h (by omega) h6
      have e1 : (if j + 1 ≤ k then j + 1 else j + 1 + 1) = up1 k j + 1 := by unfold up1; split <;> split <;> omega
      rw [e1]
      have e2 : (if j ≤ k then j else j + 1) ≤ up1 k j := by unfold up1; split <;> split <;> omega
      have e3 : up1 k j + 1 ≤ up1 k (j + 1) := by unfold up1; split <;> split <;> omega
      refine .inr ⟨h2, ?_, ?_, by rw [get_D h7]; exact a5.mono e2, by rw [get_D h7]; exact a6.mono e2⟩
      · obtain ⟨i, hi, h10, rfl⟩ := mem_drop_get.1 (era_drop hk h3)
        exact mem_drop_get.2 ⟨i, hi, by omega, rfl⟩
      · obtain ⟨i, hi, h10, rfl⟩ := mem_drop_get.1 (era_drop hk h4)
        exact mem_drop_get.2 ⟨i, hi, by omega, rfl⟩
theorem era_wid {E' : List ((Int × Int) × Thing)} {V' : List (Int × Thing)} {k : Nat} (hk : k < L.length) (hi : GInv V E) (ho : Ord V L) (hi' : GInv V' E') (ho' : Ord V' (L.eraseIdx k)) (h : ∀ u v, Adj0 E' u v → Adj0 E u v) : widK E' (L.eraseIdx k) (L.eraseIdx k).length ≤ widK E L L.length := by
  refine wid_le (wid_ge E L L.length) fun j hj => ?_
  obtain ⟨h7, h8⟩ := era_get1 L k hj hk
  refine Int.le_trans (sub_cnt hi ho hi' ho' h7 hj fun x h1 h2 => ⟨?_, ?_⟩) (cnt_wid h7)
  · obtain ⟨i, hi, h10, rfl⟩ := mem_drop_get.1 (era_drop hk h1)
    refine mem_drop_get.2 ⟨i, hi, ?_, rfl⟩
    unfold up1 at *
    split <;> split at h10 <;> omega
  · rw [← h8]
    refine (Adj.era hk h (by omega) h2).mono ?_
    unfold up1
    split <;> split <;> omega

/-- the filled graph -/
theorem Adj.full {E' : List ((Int × Int) × Thing)} (hi : GInv V E) (ho : Ord V L) (h : ∀ u v, Adj0 E' u v ↔ Adj E L L.length u v) : ∀ {k : Nat} {u v : Int}, k ≤ L.length → (Adj E' L k u v ↔ Adj E L L.length u v)
  | 0, u, v, _ => h u v
  | k + 1, u, v, hk => by
    constructor
    · rintro (h1 | ⟨h2, h3, h4, h5, h6⟩)
      · exact (Adj.full hi ho h (by omega)).1 h1
      · rw [get_D (by omega)] at h5 h6
        have h7 := Adj.back ho.nodup (show k ≤ L.length by omega) (by omega) ((Adj.full hi ho h (by omega)).1 h5)
        have h8 := Adj.back ho.nodup (show k ≤ L.length by omega) (by omega) ((Adj.full hi ho h (by omega)).1 h6)
        exact Adj.mono (k := k + 1) (.inr ⟨h2, h3, h4, by rw [get_D (by omega)]; exact h7, by rw [get_D (by omega)]; exact h8⟩) hk
    · intro h1
      exact .inl ((Adj.full hi ho h (by omega)).2 h1)
theorem full_fill {E' : List ((Int × Int) × Thing)} {V' : List (Int × Thing)} (hi : GInv V E) (ho : Ord V L) (hi' : GInv V' E') (ho' : Ord V' L) (h : ∀ u v, Adj0 E' u v ↔ Adj E L L.length u v) : fillS (comeK E' L L.length) = [] := by
  have : comeK E' L L.length = [] := by
    rw [List.eq_nil_iff_forall_not_mem]
    intro p hp
    obtain ⟨_, h1, h2⟩ := (mem_comeK hi' ho' (Nat.le_refl _)).1 hp
    exact h2 ((h _ _).2 ((Adj.full hi ho h (Nat.le_refl _)).1 h1))
  rw [this]; rfl
theorem full_wid {E' : List ((Int × Int) × Thing)} {V' : List (Int × Thing)} (hi : GInv V E) (ho : Ord V L) (hi' : GInv V' E') (ho' : Ord V' L) (h : ∀ u v, Adj0 E' u v ↔ Adj E L L.length u v) : widK E' L L.length = widK E L L.length := by
  have a : widK E' L L.length ≤ widK E L L.length := wid_le (wid_ge E L L.length) fun i hl => Int.le_trans (sub_cnt hi ho hi' ho' hl hl fun x h1 h2 => ⟨h1, Adj.back ho.nodup (by omega) hl ((Adj.full hi ho h (by omega)).1 h2)⟩) (cnt_wid hl)
  have b : widK E L L.length ≤ widK E' L L.length := wid_le (wid_ge E' L L.length) fun i hl => Int.le_trans (sub_cnt hi' ho' hi ho hl hl fun x h1 h2 => ⟨h1, (Adj.full hi ho h (by omega)).2 (h2.mono (by omega))⟩) (cnt_wid hl)
  omega

/-- complete graphs -/
theorem all_fill (hi : GInv V E) (ho : Ord V L) (h : ∀ u v, u ∈ L → v ∈ L → u ≠ v → Adj0 E u v) : fillS (comeK E L L.length) = [] := by
  have : comeK E L L.length = [] := by
    rw [List.eq_nil_iff_forall_not_mem]
    intro p hp
    obtain ⟨_, h1, h2⟩ := (mem_comeK hi ho (Nat.le_refl _)).1 hp
    obtain ⟨h3, h4⟩ := Adj.mem hi ho h1
    exact h2 (h _ _ h3 h4 (Adj.ne hi h1))
  rw [this]; rfl
theorem all_wid (hi : GInv V E) (ho : Ord V L) (h : ∀ u v, u ∈ L → v ∈ L → u ≠ v → Adj0 E u v) : widK E L L.length = (L.length : Int) - 1 := by
  have hc : ∀ i (hl : i < L.length), (cntF (sAt E L i) 1024 : Int) = (L.length : Int) - 1 - i := fun i hl => by
    rw [← toL_len]
    have hp : (toL (sAt E L i)).Perm (L.drop (i + 1)) := (List.perm_ext_iff_of_nodup (toL_nodup _) ((List.drop_sublist _ _).nodup ho.nodup)).2 fun x => by
      rw [mem_sAt hi ho hl]
      refine ⟨fun h => h.1, fun h1 => ⟨h1, ?_⟩⟩
      have hx := (mem_drop_iff ho.nodup hl).1 h1
      exact Adj.mono (k := 0) (h _ _ (List.getElem_mem hl) (List.mem_of_mem_drop h1) hx.2.symm) (Nat.zero_le _)
    have := hp.length_eq
    rw [List.length_drop] at this
    omega
  have a : widK E L L.length ≤ (L.length : Int) - 1 := wid_le (by omega) fun i hl => by rw [hc i hl]; omega
  rcases Nat.eq_zero_or_pos L.length with h0 | h0
  · have := wid_ge E L L.length
    omega
  · have b := cnt_wid (E := E) (L := L) h0
    rw [hc 0 h0] at b
    omega
/-- edgeless graphs -/
theorem Adj.none (hE : ∀ u v, ¬ Adj0 E u v) : ∀ {k : Nat} {u v : Int}, ¬ Adj E L k u v
  | 0, u, v => hE u v
  | k + 1, u, v => by
    rintro (h | ⟨_, _, _, h, _⟩)
    · exact Adj.none hE h
    · exact Adj.none hE h
theorem none_wid (hi : GInv V E) (ho : Ord V L) (hE : ∀ u v, ¬ Adj0 E u v) : widK E L L.length = min (L.length : Int) 1 - 1 := by
  have hc : ∀ i (hl : i < L.length), (cntF (sAt E L i) 1024 : Int) = 0 := fun i hl => by
    rw [← toL_len]
    have : toL (sAt E L i) = [] := by
      rw [List.eq_nil_iff_forall_not_mem]
      intro x hx
      exact Adj.none hE ((mem_sAt hi ho hl).1 hx).2
    rw [this]; rfl
  have a : widK E L L.length ≤ min (L.length : Int) 1 - 1 := wid_le (by omega) fun i hl => by rw [hc i hl]; omega
  have := wid_ge E L L.length
  rcases Nat.eq_zero_or_pos L.length with h0 | h0
  · omega
  · have b := cnt_wid (E := E) (L := L) h0
    rw [hc 0 h0] at b
    omega
theorem none_hgt (hi : GInv V E) (ho : Ord V L) (hE : ∀ u v, ¬ Adj0 E u v) : hgtM (treeR E L L.length) = min (L.length : Int) 1 := by
  have hd : ∀ i, i < L.length → dep (treeR E L L.length) i = 1 := fun i hl => by
    have ht : i < (treeR E L L.length).length := by rw [treeR_len]; exact hl
    rcases par_spec hi ho hl ht with ⟨h1, _⟩ | ⟨k, hk, _, _, h4, _⟩
    · exact dep_none ht (by omega)
    · exact absurd h4 (Adj.none hE)
  have hb := hgt_bound (treeR E L L.length)
  rw [treeR_len] at hb
  have a : hgtM (treeR E L L.length) ≤ 1 := by
    rw [hgt_fold]
    refine fold_max_le _ _ _ (by omega) fun i h1 => ?_
    rw [List.mem_range, treeR_len] at h1
    rw [hd i h1]
    omega
  rcases Nat.eq_zero_or_pos L.length with h0 | h0
  · omega
  · have h2 := (fold_max_ge (dep (treeR E L L.length)) (List.range (treeR E L L.length).length) 0).2 0 (List.mem_range.2 (by rw [treeR_len]; exact h0))
    rw [← hgt_fold, hd 0 h0] at h2
    omega
end
end Go.Proofs.YtjehhilijeajnaaGreatDoor
