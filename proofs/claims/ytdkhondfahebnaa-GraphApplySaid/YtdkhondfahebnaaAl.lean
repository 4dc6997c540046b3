/- LAW GraphApply, the walk: whatever edits come in, it answers true. Conditions: see each theorem. -/
import Derived.Test.YtdkhondfahebnaaKn
import Derived.Test.YtdkhondfahebnaaRx
import Derived.Test.YtdkhondfahebnaaOp
namespace Go.Proofs.Ytdkhondfahebnaa
open Go Go.RowKit
attribute [local go_sem] qUpon lUpon

theorem atD {w : World} {A : Option Addr} {L : List Ed} (h : SlAt encD 5 w A L) {i : Nat} (hi : i < L.length) :
    ∃ b off, A = some ⟨b, off, none⟩ ∧ (∀ W, Ext w W → W.cell? ⟨b, off + i * 5, none⟩ = some (.int .i64 L[i].1)) ∧ (∀ W, Ext w W → W.cell? ⟨b, off + i * 5 + 1, none⟩ = some (.int .i64 L[i].2.1)) ∧
      (∀ W, Ext w W → W.cell? ⟨b, off + i * 5 + 2, none⟩ = some (.int .i64 L[i].2.2.1)) ∧ (∀ W, Ext w W → W.cell? ⟨b, off + i * 5 + 3, none⟩ = some (.int .u8 L[i].2.2.2.1)) ∧ (∀ W, Ext w W → W.cell? ⟨b, off + i * 5 + 4, none⟩ = some (.int .i64 L[i].2.2.2.2)) := by
  obtain ⟨b, off, hA, hc⟩ := h.at_ hi
  exact ⟨b, off, hA, hc 0 _ rfl, hc 1 _ rfl, hc 2 _ rfl, hc 3 _ rfl, hc 4 _ rfl⟩

/-- what holds at a round's head -/
structure ApRel (w wr : World) (g bv be gw : Nat) (V : List (Int × Thing)) (E : List ((Int × Int) × Thing)) (A B : Option Addr) (cA cB : Nat) : Prop where
  isg : IsG wr g bv be V E
  blk : Blk wr gw 28 #[.slice A V.length cA, .slice B E.length cB]
  sv : SlAt encV 3 wr A V
  se : SlAt encE 4 wr B E
  ext : Ext w wr
  lo : w.heap.size ≤ g ∧ w.heap.size ≤ bv ∧ w.heap.size ≤ be ∧ w.heap.size ≤ gw
theorem ApRel.go {w wr wr' : World} {g bv be gw : Nat} {V : List (Int × Thing)} {E : List ((Int × Int) × Thing)} {A B : Option Addr} {cA cB : Nat} (h : ApRel w wr g bv be gw V E A B cA cB) (k : Ext wr wr') : ApRel w wr' g bv be gw V E A B cA cB :=
  ⟨h.isg.ext k, h.blk.ext k, h.sv.ext k, h.se.ext k, h.ext.trans k, h.lo⟩
theorem blkG_off (p q : Value) (hp : ∃ A n c, p = .slice A n c) (hq : ∃ A n c, q = .slice A n c) : ∀ (i : Nat) (u : Value), (#[p, q] : Array Value)[i]? = some u → ∃ A n c, u = .slice A n c := by
  intro i u h
  match i, h with
  | 0, h => simp at h; subst h; exact hp
  | 1, h => simp at h; subst h; exact hq
theorem encV_ns (x : Int × Thing) (A : Option Addr) (n c : Nat) : (encV x)[0]? ≠ some (.slice A n c) := by simp [encV]
theorem encE_ns (x : (Int × Int) × Thing) (A : Option Addr) (n c : Nat) : (encE x)[0]? ≠ some (.slice A n c) := by simp [encE]
theorem encD_ns (x : Ed) (A : Option Addr) (n c : Nat) : (encD x)[0]? ≠ some (.slice A n c) := by simp [encD]
theorem IsG.off_G {w : World} {g bv be : Nat} {V : List (Int × Thing)} {E : List ((Int × Int) × Thing)} (h : IsG w g bv be V E) {b : Nat} {T : TypeId} {A B : Option Addr} {n m c d : Nat} (hb : Blk w b T #[.slice A n c, .slice B m d]) : b ≠ g ∧ b ≠ bv ∧ b ≠ be := by
  obtain ⟨V', E', h1, _⟩ := h
  have e0 := h1.blk
  obtain ⟨es, c1, e1, _⟩ := h1.vs
  obtain ⟨es', c2, e2, _⟩ := h1.es
  unfold Blk at hb e0
  refine ⟨?_, ?_, ?_⟩
  · rintro rfl; rw [hb] at e0; simp at e0
  · rintro rfl; rw [hb] at e1; simp at e1
  · rintro rfl; rw [hb] at e2; simp at e2
theorem Blk.set2 {w : World} {b : Nat} {T : TypeId} {p q p' q' : Value} (h : Blk w b T #[p, q]) : Blk ((w.setCell ⟨b, 0, none⟩ p').setCell ⟨b, 1, none⟩ q') b T #[p', q'] := by
  have := (h.set 0 p').set 1 q'
  simpa using this
theorem Keep.set2 (w : World) (b : Nat) (p q : Value) : Keep [b] w ((w.setCell ⟨b, 0, none⟩ p).setCell ⟨b, 1, none⟩ q) := (Keep.setCell w b 0 p).trans (Keep.setCell _ b 1 q)
theorem same_refl (A B A' B' : Option Addr) (V : List (Int × Thing)) (E : List ((Int × Int) × Thing)) (cV cE cV' cE' : Nat) (w : World) (hV : SlAt encV 3 w A V) (hE : SlAt encE 4 w B E) (hV' : SlAt encV 3 w A' V) (hE' : SlAt encE 4 w B' E) (hl : V.length ≤ 4096) (hle : E.length ≤ 4096) :
    Calls Try.prog 14 #[.agg #[.slice A V.length cV, .slice B E.length cE], .agg #[.slice A' V.length cV', .slice B' E.length cE']] w fun e w' => e = .returned (.bool true) ∧ Ext w w' := by
  have h := same_any A B A' B' V V E E cV cE cV' cE' w hV hE hV' hE' hl hle
  simpa using h
/-- a list stays where only a block of two slices turns -/
theorem SlAt.keep_G {α : Type} {enc : α → List Value} {k : Nat} {w w' : World} {A : Option Addr} {xs : List α} {b : Nat} {T : TypeId} {p q : Value} (h : SlAt enc k w A xs) (hb : Blk w b T #[p, q]) (hp : ∃ A n c, p = .slice A n c) (hq : ∃ A n c, q = .slice A n c)
    (hns : ∀ (x : α) A n c, (enc x)[0]? ≠ some (.slice A n c)) (hen : ∀ x : α, ∃ u : Value, (enc x)[0]? = some u) (hk : Keep [b] w w') : SlAt enc k w' A xs :=
  h.off hb (fun i u hu x => by obtain ⟨A', n', c', rfl⟩ := blkG_off p q hp hq i u hu; exact hns x _ _ _) hen hk.size (fun j hj hlt => hk.block j hlt (by simpa using hj))

set_option maxRecDepth 100000 in
set_option maxHeartbeats 4000000 in
theorem graphApply_walk (A : Option Addr) (L : List Ed) (cL : Nat) (w : World) (hL : SlAt encD 5 w A L) (hok : ∀ d ∈ L, okD d) (_hl : L.length ≤ 9223372036854775807) :
    Calls Try.prog 3 #[.slice A L.length cL] w fun e w' => e = .returned (.bool true) ∧ Ext w w' := by
  have hL' := hide hL
  have hok' := hide hok
  clear hL hok
  go_enter Try.func3, Try.ntmps3
  go_wp2_with fail
  refine (new_rel _).mono ?_
  rintro e w1 ⟨g, bv, be, rfl, hg10, hx10, n1, n2, n3⟩
  have hg1 := hide hg10
  have hx1 := hide hx10
  have hn1 := hide (And.intro n1 (And.intro n2 n3))
  clear hg10 hx10 n1 n2 n3
  go_wp2_with fail
  refine wp_abs (fun W => ApRel w W g bv be w1.heap.size [] [] none none 0 0) ⟨(unhide hg1).ext (ext_self1 _ _), Blk.new _ _ _, SlAt.nil, SlAt.nil, (unhide hx1).alloc _, ?_⟩ ?_
  · obtain ⟨n1, n2, n3⟩ := unhide hn1
    exact ⟨n1, n2, n3, Below.size (unhide hx1)⟩
  rintro w2 hr0
  have hr0' := hide hr0
  clear hr0 hg1 hx1 hn1
  generalize w1.heap.size = gw at *
  go_loopw [5] (fun i wr => ∃ (k : Nat) (V : List (Int × Thing)) (E : List ((Int × Int) × Thing)) (A1 B1 : Option Addr) (cA cB : Nat), k ≤ L.length ∧ i = .int .i64 k ∧ ApRel w wr g bv be gw V E A1 B1 cA cB) (fun i _ => L.length - (intOf i).toNat)
  case atStart => exact ⟨0, [], [], none, none, 0, 0, Nat.zero_le _, rfl, unhide hr0'⟩
  case round =>
    obtain ⟨k, V, E, A1, B1, cA, cB, hk, rfl, hr⟩ := hrel
    have hr' := hide hr
    clear hr hr0'
    by_cases hlt : k < L.length
    · by_cases h60 : k < 60
      · obtain ⟨b, off, rfl, c0, c1, c2, c3, c4⟩ := atD ((unhide hL').ext (unhide hr').ext) hlt
        have hd := (unhide hok') L[k] (List.getElem_mem hlt)
        generalize hy : L[k] = y at c0 c1 c2 c3 c4 hd
        obtain ⟨op, u, v, lab, wt⟩ := y
        have hd' := hide hd
        have hB0 := (unhide hr').blk
        have q0 := hB0.cells 0 (v := .slice A1 V.length cA) rfl
        have q1 := hB0.cells 1 (v := .slice B1 E.length cB) rfl
        clear hd hy hB0
        simp only at c0 c1 c2 c3 c4
        go_wp2_with fail
        refine wp_region_ext (P := Try.prog) [0,1,2,3,4] [] 7 #[true,true,true,true,true,false,false,false,false,false,false,false] (by kernel_rfl) (by kernel_rfl) rfl (by rfl) ?_
        iterate 5
          refine ql_want (v := ?_) rfl (by rfl) (fun W hW => ?_) ?_
          rotate_left
          · go_simp
            first | done | rfl
          go_frame
        refine wpQL_nil (fun w3 hx3 => ?_)
        have hr3' := hide ((unhide hr').go hx3)
        have hx3' := hide hx3
        clear hr' q0 q1 hx3
        refine lx_two (i := 5) (k := 9) (by kernel_rfl) rfl (by rfl) #[true,true,true,true,true,true,false,false,false,false,false,false] (by rfl) rfl (by rfl) #[true,true,true,true,true,false,false,false,false,true,false,false] (by rfl) ?_ ?_
        rotate_left
        go_simp
        refine ⟨(unhide hx3').trans (ext_self1 _ _), fun w5 hx5 => ?_⟩
        have hb5 := (Blk.new w3 28 #[.slice none 0 0, .slice none 0 0]).ext hx5
        have hlo := Nat.le_refl w3.heap.size
        generalize hb6 : w3.heap.size = b6 at hb5 hlo
        have hb6' := hide hb6
        clear hb6
        refine lx_one (i := 5) (by kernel_rfl) rfl (by rfl) #[true,true,true,true,true,true,false,false,false,true,false,false] (by rfl) ?_
        go_simp
        have hr5 := (unhide hr3').go ((ext_self1 _ _).trans hx5)
        refine (do_any A1 B1 V E cA cB op u v lab wt _ hr5.sv hr5.se hr5.isg.nV hr5.isg.nE).mono ?_
        rintro e w4 ⟨A2, cA2, B2, cB2, rfl, hs4, he4, hx4⟩
        have hx34 := ((ext_self1 w3 _).trans hx5).trans hx4
        have hb4 := hb5.ext hx4
        clear hlo
        refine ⟨_, rfl, (unhide hx3').trans hx34, fun w6 hx6 => ?_⟩
        clear hr5 hx4 hx5 hb5
        have hb6 := hb4.ext hx6
        have hs6 := hs4.ext hx6
        have he6 := he4.ext hx6
        have hx36 := hx34.trans hx6
        have hx6r := (unhide hx3').trans hx36
        have hlo3 : wr.heap.size ≤ b6 := Nat.le_trans (Below.size (unhide hx3')) (Nat.le_of_eq (unhide hb6'))
        have hlo : w3.heap.size ≤ b6 := Nat.le_of_eq (unhide hb6')
        clear hx34 hb4 hx6 hs4 he4 hb6'
        refine lx_ql (fun W => Keep [b6] w6 W ∧ ∃ A n c B m d, Blk W b6 28 #[.slice A n c, .slice B m d]) [6,7,8] [] 2 5 #[true,true,true,true,true,true,false,false,false,true,false,false] #[true,true,true,true,true,true,true,true,true,true,false,false] (by kernel_rfl) rfl (by rfl) (fun W hW => hx6r.of_new hW.1 (by simpa using hlo3)) Ext.refl (fun _ _ _ => Ext.trans)
          (fun W W' hW hR => ⟨hW.1.trans (hR.keep _), by obtain ⟨A, n, c, B, m, d, h⟩ := hW.2; exact ⟨A, n, c, B, m, d, h.ext hR⟩⟩) ⟨Keep.refl _ _, _, _, _, _, _, _, hb6⟩ ?_
        iterate 3
          refine ql_want (v := ?_) rfl (by rfl) (fun W hW => ?_) ?_
          rotate_left
          · go_simp
            first | done | rfl
          go_frame
        refine wpQL_nil (fun w7 hx7 => ?_)
        obtain ⟨hk7, A0, n0, k0, B0, m0, d0, hb7⟩ := hx7
        have hx37 := hx36.of_new hk7 (by simpa using hlo)
        have hs7 := hs6.keep_G hb6 ⟨_, _, _, rfl⟩ ⟨_, _, _, rfl⟩ encV_ns encV0 hk7
        have he7 := he6.keep_G hb6 ⟨_, _, _, rfl⟩ ⟨_, _, _, rfl⟩ encE_ns encE0 hk7
        clear hx36 hb6 hs6 he6
        have s0 := hb7.cell 0
        have s1 := hb7.cell 1
        have f0 := hb7.frozen 0
        have f1 := hb7.frozen 1
        simp at s0 s1
        refine lx_one (i := 10) (by kernel_rfl) rfl (by rfl) #[true,true,true,true,true,true,true,true,true,true,true,false] (by rfl) ?_
        go_simp
        clear s0 s1 f0 f1
        have hb8 := hb7.set2 (p' := .slice A2 (nxV op u v lab wt V E).length cA2) (q' := .slice B2 (nxE op u v lab wt V E).length cB2)
        have hk8 := Keep.set2 w7 b6 (.slice A2 (nxV op u v lab wt V E).length cA2) (.slice B2 (nxE op u v lab wt V E).length cB2)
        have hx8 : Ext w3 ((w7.setCell ⟨b6, 0, none⟩ (.slice A2 (nxV op u v lab wt V E).length cA2)).setCell ⟨b6, 1, none⟩ (.slice B2 (nxE op u v lab wt V E).length cB2)) := hx37.of_new hk8 (by simpa using hlo)
        have hc8 : Keep [b6] w6 ((w7.setCell ⟨b6, 0, none⟩ (.slice A2 (nxV op u v lab wt V E).length cA2)).setCell ⟨b6, 1, none⟩ (.slice B2 (nxE op u v lab wt V E).length cB2)) ∧ ∃ A n c B m d, Blk ((w7.setCell ⟨b6, 0, none⟩ (.slice A2 (nxV op u v lab wt V E).length cA2)).setCell ⟨b6, 1, none⟩ (.slice B2 (nxE op u v lab wt V E).length cB2)) b6 28 #[.slice A n c, .slice B m d] := ⟨hk7.trans hk8, _, _, _, _, _, _, hb8⟩
        have hs8 := hs7.keep_G hb7 ⟨_, _, _, rfl⟩ ⟨_, _, _, rfl⟩ encV_ns encV0 hk8
        have he8 := he7.keep_G hb7 ⟨_, _, _, rfl⟩ ⟨_, _, _, rfl⟩ encE_ns encE0 hk8
        generalize (w7.setCell ⟨b6, 0, none⟩ (.slice A2 (nxV op u v lab wt V E).length cA2)).setCell ⟨b6, 1, none⟩ (.slice B2 (nxE op u v lab wt V E).length cB2) = w8 at *
        first | refine ⟨hc8, ?_⟩ | skip
        intro w9 hx9
        refine lx_one (i := 11) (by kernel_rfl) rfl (by rfl) #[true,true,true,true,true,true,true,true,true,true,true,true] (by rfl) ?_
        go_simp
        first | refine ⟨⟨hc8.1.trans (hx9.keep _), by obtain ⟨A, n, c, B, m, d, h⟩ := hc8.2; exact ⟨A, n, c, B, m, d, h.ext hx9⟩⟩, ?_⟩ | skip
        intro wc hx10
        have hb := (hb8.ext hx9).ext hx10
        have hs := (hs8.ext hx9).ext hx10
        have he := (he8.ext hx9).ext hx10
        have hx := (hx8.trans hx9).trans hx10
        have hR := (unhide hr3').go hx
        have hxr := (unhide hx3').trans hx
        clear hr3' hx3' hc8 hx8 hx9 hx10 hb8 hs8 he8 hx37 hlo hlo3 hb7 hk8 hk7 hs7 he7 hx6r hx
        refine wpX_done (by kernel_rfl) ?_
        try go_frame
        rotate_left
        go_simp
        refine (do_any A1 B1 V E cA cB op u v lab wt _ (unhide hr3').sv (unhide hr3').se (unhide hr3').isg.nV (unhide hr3').isg.nE).mono ?_
        rintro e w4 ⟨A2, cA2, B2, cB2, rfl, hs4, he4, hx4⟩
        refine ⟨_, rfl, (unhide hx3').trans hx4, fun w5 hx5 => ?_⟩
        refine lx_ext [6,7,8] [] 3 6 #[true,true,true,true,true,true,false,false,false,false,false,false] #[true,true,true,true,true,true,true,true,true,false,false,false] (by kernel_rfl) rfl (by rfl) (((unhide hx3').trans hx4).trans hx5) ?_
        iterate 3
          refine ql_want (v := ?_) rfl (by rfl) (fun W hW => ?_) ?_
          rotate_left
          · go_simp
            first | done | rfl
          go_frame
        refine wpQL_nil (fun w6 hx6 => ?_)
        refine lx_one (i := 9) (by kernel_rfl) rfl (by rfl) #[true,true,true,true,true,true,true,true,true,true,false,false] (by rfl) ?_
        go_simp
        intro w7 hx7
        have hb7 := (Blk.new w6 28 #[.slice none 0 0, .slice none 0 0]).ext hx7
        have hx57 := (hx6.trans (ext_self1 _ _)).trans hx7
        have hx37 := (hx4.trans hx5).trans hx57
        have hlo5 := Below.size hx6
        have hlo := Below.size ((hx4.trans hx5).trans hx6)
        have hs5 := hs4.ext hx5
        have he5 := he4.ext hx5
        clear hx4 hx5 hx6 hx7 hs4 he4
        generalize w6.heap.size = b6 at *
        have s0 := hb7.cell 0
        have s1 := hb7.cell 1
        have f0 := hb7.frozen 0
        have f1 := hb7.frozen 1
        simp at s0 s1
        refine lx_one (i := 10) (by kernel_rfl) rfl (by rfl) #[true,true,true,true,true,true,true,true,true,true,true,false] (by rfl) ?_
        go_simp
        clear s0 s1 f0 f1
        have hb8 := hb7.set2 (p' := .slice A2 (nxV op u v lab wt V E).length cA2) (q' := .slice B2 (nxE op u v lab wt V E).length cB2)
        have hk8 := Keep.set2 w7 b6 (.slice A2 (nxV op u v lab wt V E).length cA2) (.slice B2 (nxE op u v lab wt V E).length cB2)
        have hx8 : Ext w3 ((w7.setCell ⟨b6, 0, none⟩ (.slice A2 (nxV op u v lab wt V E).length cA2)).setCell ⟨b6, 1, none⟩ (.slice B2 (nxE op u v lab wt V E).length cB2)) := hx37.of_new hk8 (by simpa using hlo)
        have hc8 : Ext w5 ((w7.setCell ⟨b6, 0, none⟩ (.slice A2 (nxV op u v lab wt V E).length cA2)).setCell ⟨b6, 1, none⟩ (.slice B2 (nxE op u v lab wt V E).length cB2)) := hx57.of_new hk8 (by simpa using hlo5)
        have hs8 := (hs5.ext hx57).keep_G hb7 ⟨_, _, _, rfl⟩ ⟨_, _, _, rfl⟩ encV_ns encV0 hk8
        have he8 := (he5.ext hx57).keep_G hb7 ⟨_, _, _, rfl⟩ ⟨_, _, _, rfl⟩ encE_ns encE0 hk8
        generalize (w7.setCell ⟨b6, 0, none⟩ (.slice A2 (nxV op u v lab wt V E).length cA2)).setCell ⟨b6, 1, none⟩ (.slice B2 (nxE op u v lab wt V E).length cB2) = w8 at *
        first | refine ⟨hc8, ?_⟩ | skip
        intro w9 hx9
        refine lx_one (i := 11) (by kernel_rfl) rfl (by rfl) #[true,true,true,true,true,true,true,true,true,true,true,true] (by rfl) ?_
        go_simp
        first | refine ⟨hc8.trans hx9, ?_⟩ | skip
        intro wc hx10
        have hb := (hb8.ext hx9).ext hx10
        have hs := (hs8.ext hx9).ext hx10
        have he := (he8.ext hx9).ext hx10
        have hx := (hx8.trans hx9).trans hx10
        have hR := (unhide hr3').go hx
        have hxr := (unhide hx3').trans hx
        clear hr3' hx3' hc8 hx8 hx9 hx10 hb8 hs8 he8 hx57 hx37 hlo5 hlo hs5 he5 hb7 hk8 hx
        refine wpX_done (by kernel_rfl) ?_
        try go_frame
        all_goals
          have hd := unhide hd'
          have hok1 := hd.2.1
          have hok2 := hd.2.2.1
          have h6 := hR.isg.off_G hb
          have h7 := hR.isg.off_G hR.blk
          have h8 := hide (And.intro h6 h7)
          have hb' := hide hb
          have hs' := hide hs
          have he' := hide he
          have hR' := hide hR
          have hok1' := hide hok1
          have hok2' := hide hok2
          clear hd hd' hok1 hok2 h6 h7 hb hs he hR
          go_wp2_with fail
          refine (apply_any g bv be V E op u v lab wt _ (unhide hR').isg (unhide hok1') (unhide hok2')).mono ?_
          rintro e wa ⟨rfl, hga, hka⟩
          obtain ⟨⟨x1, x2, x3⟩, y1, y2, y3⟩ := unhide h8
          have hb6 := (unhide hb').keep hka (by simp [x2, x3])
          have hbw := (unhide hR').blk.keep hka (by simp [y2, y3])
          have hsa := hide ((unhide hs').keep_maps encV0 (unhide hR').isg hka)
          have hea := hide ((unhide he').keep_maps encE0 (unhide hR').isg hka)
          have hxa := hide ((unhide hR').ext.of_new hka (by have := (unhide hR').lo; simp; omega))
          have hlo := hide (unhide hR').lo
          have hga' := hide hga
          have d0 := hb6.cell 0
          have d1 := hb6.cell 1
          have s0 := hbw.cell 0
          have s1 := hbw.cell 1
          have f0 := hbw.frozen 0
          have f1 := hbw.frozen 1
          have hbw' := hide hbw
          have hy' := hide (And.intro y1 (And.intro y2 y3))
          simp at d0 d1 s0 s1
          clear x1 x2 x3 y1 y2 y3 hb6 hbw hka hga hb' hs' he' hR' h8 hok1' hok2' hxr c0 c1 c2 c3 c4
          go_wp2_with fail
          clear d0 d1 s0 s1 f0 f1
          refine wp_abs (fun W => ApRel w W g bv be gw (nxV op u v lab wt V E) (nxE op u v lab wt V E) A2 B2 cA2 cB2) ?_ ?_
          · obtain ⟨y1, y2, y3⟩ := unhide hy'
            have hk := Keep.set2 wa gw (.slice A2 (nxV op u v lab wt V E).length cA2) (.slice B2 (nxE op u v lab wt V E).length cB2)
            exact ⟨(unhide hga').keep hk (by simpa using Ne.symm y1) (by simpa using Ne.symm y2) (by simpa using Ne.symm y3), (unhide hbw').set2, (unhide hsa).keep_G (unhide hbw') ⟨_, _, _, rfl⟩ ⟨_, _, _, rfl⟩ encV_ns encV0 hk,
              (unhide hea).keep_G (unhide hbw') ⟨_, _, _, rfl⟩ ⟨_, _, _, rfl⟩ encE_ns encE0 hk, (unhide hxa).of_new hk (by have := (unhide hlo).2.2.2; simpa using this), unhide hlo⟩
          rintro wb hrb
          have hB := hrb.blk
          have q0 := hB.cells 0 (v := .slice A2 (nxV op u v lab wt V E).length cA2) rfl
          have q1 := hB.cells 1 (v := .slice B2 (nxE op u v lab wt V E).length cB2) rfl
          have hrb' := hide hrb
          clear hB hrb hga' hbw' hsa hea hxa hlo hy'
          refine wp_region_ext (P := Try.prog) [0,2] [] 3 #[true,false,true,false,false] (by kernel_rfl) (by kernel_rfl) rfl (by rfl) ?_
          iterate 2
            refine ql_want (v := ?_) rfl (by rfl) (fun W hW => ?_) ?_
            rotate_left
            · go_simp
              first | done | rfl
            go_frame
          refine wpQL_nil (fun wd hxd => ?_)
          clear q0 q1
          refine lx_one (i := 1) (by kernel_rfl) rfl (by rfl) #[true,true,true,false,false] (by rfl) ?_
          go_simp
          refine (to_rel g bv be _ _ _ ((unhide hrb').isg.ext hxd)).mono ?_
          rintro e we ⟨A3, c3, B3, d3, rfl, hs3, he3, hxe⟩
          refine ⟨_, rfl, hxd.trans hxe, fun wf hxf => ?_⟩
          refine lx_one (i := 3) (by kernel_rfl) rfl (by rfl) #[true,true,true,true,false] (by rfl) ?_
          go_simp
          have hxbf := (hxd.trans hxe).trans hxf
          refine (same_refl A3 B3 A2 B2 _ _ _ _ _ _ _ (hs3.ext hxf) (he3.ext hxf) ((unhide hrb').sv.ext hxbf) ((unhide hrb').se.ext hxbf) (unhide hrb').isg.nV (unhide hrb').isg.nE).mono ?_
          rintro e wm ⟨rfl, hxm⟩
          refine ⟨_, rfl, hxbf.trans hxm, fun wn hxn => ?_⟩
          refine lx_one (i := 4) (by kernel_rfl) rfl (by rfl) #[true,true,true,true,true] (by rfl) ?_
          go_simp
          have hxbn := (hxbf.trans hxm).trans hxn
          first | refine ⟨hxbn, ?_⟩ | skip
          intro wo hxo
          have hro := hide ((unhide hrb').go (hxbn.trans hxo))
          clear hs3 he3 hxd hxe hxf hxm hxn hxo hxbf hxbn hrb'
          refine wpX_done (by kernel_rfl) ?_
          try go_frame
          go_wp2_with fail
          go_roundw
          case rel => exact ⟨k + 1, _, _, _, _, _, _, by omega, by go_num, unhide hro⟩
          case measure => simp [intOf]; omega
      · go_wp2_with fail
        refine (known_any _).mono ?_
        rintro e w3 ⟨rfl, hx3⟩
        go_wp2_with fail
        go_ret
        exact ⟨rfl, (unhide hr').ext.trans hx3⟩
    · go_wp2_with fail
      refine (known_any _).mono ?_
      rintro e w3 ⟨rfl, hx3⟩
      go_wp2_with fail
      go_ret
      exact ⟨rfl, (unhide hr').ext.trans hx3⟩
end Go.Proofs.Ytdkhondfahebnaa
