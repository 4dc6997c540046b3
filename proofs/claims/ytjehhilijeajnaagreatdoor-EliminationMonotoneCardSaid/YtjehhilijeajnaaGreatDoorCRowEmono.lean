/- Every input makes the law EliminationMonotone answer true, and each argument reads behind the call as it read before: the given card, tied to the program's text. No condition. -/
import Derived.Test.YtjehhilijeajnaaGreatDoorC10
import Derived.Test.YtjehhilijeajnaaGreatDoorC11
import Derived.Test.YtjehhilijeajnaaGreatDoorCards
import Derived.Test.YtjehhilijeajnaaGreatDoorTie
import Derived.WalkKit
import Derived.ProofKit
import Derived.OpenShut
import Derived.ShutString
import Derived.ChangeOld
import Derived.Below
import Derived.SevenTiedAt
/- EliminationMonotone: every input makes the law answer true: the walk. Conditions: see each theorem. -/
namespace Go.Proofs.YtjehhilijeajnaaGreatDoor
open Go Go.RowKit
attribute [local go_sem] qUpon lUpon

set_option maxRecDepth 100000 in
set_option maxHeartbeats 16000000 in
theorem eliminationMonotone_walk (A0 : Option Addr) (D : List Ed) (cD : Nat) (A1 : Option Addr) (Bs : List Int) (cT : Nat) (a : Int) (w : World) (hD : SlAt encD 5 w A0 D) (hB : SlAt encU8 1 w A1 Bs) (hb : ∀ x ∈ Bs, 0 ≤ x ∧ x < 256) (hBl : Bs.length ≤ 9223372036854775807) (ha : 0 ≤ a ∧ a ≤ 255) (hT : Tab w) :
    Calls Tryz.prog 6 #[.slice A0 D.length cD, .slice A1 Bs.length cT, .int .u8 a] w fun e w' => e = .returned (.bool true) ∧ Ext w w' := by
  obtain ⟨a, rfl⟩ : ∃ n : Nat, a = (n : Int) := ⟨a.toNat, by omega⟩
  have hT' := hide hT
  have hmi := mdS_inv D
  have hml := mdS_len D
  have hbg := begun_any A0 D cD A1 Bs cT w hD hB hb hBl
  clear hT hD hB hb
  generalize mdS D = S at *
  obtain ⟨V, E⟩ := S
  simp only at hmi hml hbg
  have hbg' := hide hbg
  have hi' := hide hmi
  clear hbg
  go_enter Tryz.func6, Tryz.ntmps6
  go_wp2_with fail
  refine (unhide hbg').mono ?_
  rintro e w1 ⟨g, bv, be, A, B, cA, cB, C, L, cL, rfl, hg1, hV1, hE1, hL1, hord1, hx1, _, _, _, hcL⟩
  have hck := ord_check hord1 (hord1.len hmi)
  have hl : L.length ≤ 100 := by rw [hord1.len hmi]; omega
  have hnE : E.length ≤ 4096 := Nat.le_trans hmi.ne (by omega)
  have hck' := hide hck
  have hord := hide hord1
  have hB1 := hide (Blk.new w1 28 #[.slice A V.length cA, .slice B E.length cB])
  have hxa := ext_self1 w1 (.cells #[.slice A V.length cA, .slice B E.length cB] 28)
  have hg2 := hide (hg1.ext hxa)
  have hV2 := hide (hV1.ext hxa)
  have hE2 := hide (hE1.ext hxa)
  have hL2 := hide (hL1.ext hxa)
  have hx2 := hide (hx1.trans hxa)
  clear hg1 hV1 hE1 hL1 hord1 hx1 hxa hck hmi hbg'
  go_wp2_with fail
  generalize w1.alloc (.cells #[.slice A V.length cA, .slice B E.length cB] 28) = w2 at *
  generalize w1.heap.size = gw at *
  have hT2 := hide ((unhide hT').ext (unhide hx2))
  have hB2 := hB1
  have hx2' := hx2
  have hcap := hide hcL
  have hsub := hide (fun (V' : List (Int × Thing)) (E' : List ((Int × Int) × Thing)) (hi2 : GInv V' E') (ho2 : Ord V' L) (h : ∀ e ∈ E', e ∈ E) => And.intro (sub_wid (unhide hi') (unhide hord) hi2 ho2 (adj0_sub h)) (sub_hgt (unhide hi') (unhide hord) hi2 ho2 (adj0_sub h)))
  have hera := hide (fun (k : Nat) (hk : k < L.length) (V' : List (Int × Thing)) (E' : List ((Int × Int) × Thing)) (hi2 : GInv V' E') (ho2 : Ord V' (L.eraseIdx k)) (h : ∀ e ∈ E', e ∈ E) => era_wid hk (unhide hi') (unhide hord) hi2 ho2 (adj0_sub h))
  obtain ⟨nw, hnw⟩ : ∃ nw, widK E L L.length = nw := ⟨_, rfl⟩
  obtain ⟨nh, hnh⟩ : ∃ nh, hgtM (treeR E L L.length) = nh := ⟨_, rfl⟩
  rw [hnw, hnh] at hsub
  rw [hnw] at hera
  replace hnw := hide hnw
  replace hnh := hide hnh
  clear hx2 hT' hB1 hV2 hcL
  refine (width_ok C L cL g bv be V E w2 (unhide hL2) (by omega) (unhide hg2) (unhide hT2) (unhide hck')).mono ?_
  rw [unhide hnw]
  rintro e w3 ⟨rfl, hx⟩
  have hL3 := hide ((unhide hL2).ext hx)
  have hg3 := hide ((unhide hg2).ext hx)
  have hE3 := hide ((unhide hE2).ext hx)
  have hB3 := hide ((unhide hB2).ext hx)
  have hT3 := hide ((unhide hT2).ext hx)
  have hx3' := hide ((unhide hx2').trans hx)
  clear hL2 hg2 hE2 hB2 hT2
  clear hx hx2'
  go_wp2_with fail
  refine (hgt_ok C L cL g bv be V E w3 (unhide hL3) (by omega) (unhide hg3) (unhide hT3) (unhide hord)).mono ?_
  rw [unhide hnh]
  rintro e w4 ⟨rfl, hx⟩
  have hL4 := hide ((unhide hL3).ext hx)
  have hg4 := hide ((unhide hg3).ext hx)
  have hE4 := hide ((unhide hE3).ext hx)
  have hB4 := hide ((unhide hB3).ext hx)
  have hT4 := hide ((unhide hT3).ext hx)
  have hx4' := hide ((unhide hx3').trans hx)
  clear hL3 hg3 hE3 hB3 hT3
  clear hx hx3'
  have q0 := (unhide hB4).cells 0 (v := .slice A V.length cA) rfl
  have q1 := (unhide hB4).cells 1 (v := .slice B E.length cB) rfl
  have hself := Ext.refl w4
  by_cases hEn : 0 < E.length
  · have hde : decide ((0 : Int) < (E.length : Int)) = true := decide_eq_true (by omega)
    have hjj : a % E.length < E.length := Nat.mod_lt _ hEn
    have hrem2 : (a : Int) % (E.length : Int) = ((a % E.length : Nat) : Int) := (Int.natCast_emod _ _).symm
    have hrem : (a : Int).tmod (E.length : Int) = ((a % E.length : Nat) : Int) := rem_nat hEn
    have hnn : E ≠ [] := fun e => by rw [e] at hEn; simp at hEn
    have hwx : IntKind.i64.wrap (a : Int) = (a : Int) := IntWalk.i64_in _ (by omega)
    generalize hjke : a % E.length = jj at hjj hrem hrem2
    have hwk : IntKind.i64.wrap (jj : Int) = (jj : Int) := IntWalk.i64_in _ (by omega)
    clear hjke
    obtain ⟨be_, oe_, rfl, c0, c1, c2, c3⟩ := atE (unhide hE4) hjj
    have hrng := hide (unhide hi').ids
    have hout := hide (out_edge (unhide hi') (List.getElem_mem hjj))
    have hk1 := hide (show i64ok E[jj].1.1 ∧ i64ok E[jj].1.2 from by
      obtain ⟨⟨t1, h1⟩, t2, h2⟩ := (unhide hi').ends _ (List.getElem_mem hjj)
      have a1 := (unhide hi').ids _ h1
      have a2 := (unhide hi').ids _ h2
      unfold i64ok
      simp [idB] at a1 a2
      omega)
    generalize E[jj] = ed at *
    obtain ⟨⟨eu, ev⟩, ⟨el, ew⟩⟩ := ed
    simp only at c0 c1 c2 c3
    go_wp2_with fail
    refine wp_region_ext (P := Tryz.prog) [0,1,2,3,4,5,6,7,8,9] [] 2 #[true,true,true,true,true,true,true,true,true,true,false,false] (by kernel_rfl) (by kernel_rfl) rfl (by rfl) ?_
    iterate 10
      refine ql_want (v := ?_) rfl (by rfl) (fun W hW => ?_) ?_
      rotate_left
      · go_simp
        first | done | rfl
      go_frame
    refine wpQL_nil (fun wa hxa => ?_)
    clear c0 c1 c2 c3 q0 q1 hself
    refine lx_one (i := 10) (by kernel_rfl) rfl (by rfl) #[true,true,true,true,true,true,true,true,true,true,true,false] (by rfl) ?_
    go_simp
    first | refine ⟨hxa.alloc _, ?_⟩ | refine ⟨fun _ => hxa.alloc _, ?_⟩ | skip
    intro wb hxb
    have hbl := hide ((Blk.new wa 72 #[.int .i64 0, .int .i64 0, .int .u8 0, .int .i64 0]).ext hxb)
    have hxb' := hide ((hxa.alloc (.cells #[.int .i64 0, .int .i64 0, .int .u8 0, .int .i64 0] 72)).trans hxb)
    have hzz := hide (Below.size hxa)
    clear hxa hxb
    generalize wa.heap.size = be2 at *
    have s0 := (unhide hbl).cell 0
    have s1 := (unhide hbl).cell 1
    have s2 := (unhide hbl).cell 2
    have s3 := (unhide hbl).cell 3
    have f0 := (unhide hbl).frozen 0
    have f1 := (unhide hbl).frozen 1
    have f2 := (unhide hbl).frozen 2
    have f3 := (unhide hbl).frozen 3
    simp at s0 s1 s2 s3
    refine lx_one (i := 11) (by kernel_rfl) rfl (by rfl) #[true,true,true,true,true,true,true,true,true,true,true,true] (by rfl) ?_
    go_simp
    clear s0 s1 s2 s3 f0 f1 f2 f3
    have hbl2 := ((((unhide hbl).set 0 (.int .i64 eu)).set 1 (.int .i64 ev)).set 2 (.int .u8 el)).set 3 (.int .i64 ew)
    simp only [List.setIfInBounds_toArray, List.set_cons_zero, List.set_cons_succ] at hbl2
    have hk2 := hide ((((Keep.setCell wb be2 0 (.int .i64 eu)).trans (Keep.setCell _ be2 1 (.int .i64 ev))).trans (Keep.setCell _ be2 2 (.int .u8 el))).trans (Keep.setCell _ be2 3 (.int .i64 ew)))
    generalize (((wb.setCell ⟨be2, 0, none⟩ (.int .i64 eu)).setCell ⟨be2, 1, none⟩ (.int .i64 ev)).setCell ⟨be2, 2, none⟩ (.int .u8 el)).setCell ⟨be2, 3, none⟩ (.int .i64 ew) = wc at *
    have hx12 := (unhide hxb').of_new (unhide hk2) (by have := unhide hzz; simp; omega)
    first | refine ⟨hx12, ?_⟩ | refine ⟨fun _ => hx12, ?_⟩ | skip
    intro wd hxd
    have hbl3 := hide (hbl2.ext hxd)
    have hx := hx12.trans hxd
    clear hbl hbl2 hk2 hxb' hzz hx12 hxd
    refine wpX_done (by kernel_rfl) ?_
    try go_frame
    have hbl5 := hide (unhide hbl3)
    have hL5 := hide ((unhide hL4).ext hx)
    have hg5 := hide ((unhide hg4).ext hx)
    have hE5 := hide ((unhide hE4).ext hx)
    have hB5 := hide ((unhide hB4).ext hx)
    have hT5 := hide ((unhide hT4).ext hx)
    have hx5' := hide ((unhide hx4').trans hx)
    clear hL4 hg4 hE4 hB4 hT4
    clear hx hx4'
    clear hbl3
    generalize wd = w5 at *
    go_wp2_with fail
    refine (clone_any g bv be V E w5 (unhide hg5)).mono ?_
    rintro e wc ⟨o, ov, oe, rfl, hgc, hxc, ho1, ho2, ho3⟩
    have hgc' := hide hgc
    have hxc' := hide hxc
    have hoo := hide (And.intro ho1 (And.intro ho2 ho3))
    have d0 := ((unhide hbl5).ext hxc).cells 0 (v := .int .i64 eu) rfl
    have d1 := ((unhide hbl5).ext hxc).cells 1 (v := .int .i64 ev) rfl
    have hself := Ext.refl wc
    clear hgc hxc ho1 ho2 ho3
    go_wp2_with fail
    refine (apply_any o ov oe V E 3 eu ev 0 0 wc (unhide hgc') (unhide hk1).1 (unhide hk1).2).mono ?_
    rw [(unhide hout).1, (unhide hout).2.1]
    rintro e wd ⟨rfl, hgd, hkd⟩
    have hx := (unhide hxc').of_new hkd (by have := unhide hoo; simp; omega)
    have hmem := hide (unhide hout).2.2
    generalize nxE 3 eu ev 0 0 V E = E' at *
    have hgd' := hide hgd
    have hck2 := hide (ord_check (unhide hord) ((unhide hord).len hgd.inv))
    have hsb := hide (unhide hsub V E' hgd.inv (unhide hord) (unhide hmem))
    clear hgd hkd d0 d1 hself hgc' hxc' hout hoo hk1 hmem
    have hgd6 := hide (unhide hgd')
    have hL6 := hide ((unhide hL5).ext hx)
    have hg6 := hide ((unhide hg5).ext hx)
    have hE6 := hide ((unhide hE5).ext hx)
    have hB6 := hide ((unhide hB5).ext hx)
    have hT6 := hide ((unhide hT5).ext hx)
    have hx6' := hide ((unhide hx5').trans hx)
    clear hL5 hg5 hE5 hB5 hT5 hbl5
    clear hx hx5'
    clear hgd'
    generalize wd = w6 at *
    go_wp2_with fail
    refine (width_ok C L cL o ov oe V E' w6 (unhide hL6) (by omega) (unhide hgd6) (unhide hT6) (unhide hck2)).mono ?_
    rintro e w7 ⟨rfl, hx⟩
    have hL7 := hide ((unhide hL6).ext hx)
    have hg7 := hide ((unhide hg6).ext hx)
    have hE7 := hide ((unhide hE6).ext hx)
    have hB7 := hide ((unhide hB6).ext hx)
    have hT7 := hide ((unhide hT6).ext hx)
    have hgd7 := hide ((unhide hgd6).ext hx)
    have hx7' := hide ((unhide hx6').trans hx)
    clear hL6 hg6 hE6 hB6 hT6 hgd6
    clear hx hx6'
    go_wp2_with fail
    refine (hgt_ok C L cL o ov oe V E' w7 (unhide hL7) (by omega) (unhide hgd7) (unhide hT7) (unhide hord)).mono ?_
    rintro e w8 ⟨rfl, hx⟩
    have hL8 := hide ((unhide hL7).ext hx)
    have hg8 := hide ((unhide hg7).ext hx)
    have hE8 := hide ((unhide hE7).ext hx)
    have hB8 := hide ((unhide hB7).ext hx)
    have hT8 := hide ((unhide hT7).ext hx)
    have hgd8 := hide ((unhide hgd7).ext hx)
    have hx8' := hide ((unhide hx7').trans hx)
    clear hL7 hg7 hE7 hB7 hT7 hgd7
    clear hx hx7'
    have hdw1 : decide (nw < widK E' L L.length) = false := by have := (unhide hsb).1; simp; omega
    have hdw2 : decide (nh < hgtM (treeR E' L L.length)) = false := by have := (unhide hsb).2; simp; omega
    generalize widK E' L L.length = mw at *
    generalize hgtM (treeR E' L L.length) = mh at *
    have q0 := (unhide hB8).cells 0 (v := .slice A V.length cA) rfl
    have q1 := (unhide hB8).cells 1 (v := .slice (some ⟨be_, oe_, none⟩) E.length cB) rfl
    have hself := Ext.refl w8
    clear hsb hck2
    clear hgd8
    by_cases hLn : 0 < L.length
    · have hdl : decide ((0 : Int) < (L.length : Int)) = true := decide_eq_true (by omega)
      have hkk : a % L.length < L.length := Nat.mod_lt _ hLn
      have hrem2 : (a : Int) % (L.length : Int) = ((a % L.length : Nat) : Int) := (Int.natCast_emod _ _).symm
      have hrem : (a : Int).tmod (L.length : Int) = ((a % L.length : Nat) : Int) := rem_nat hLn
      have hnn : L ≠ [] := fun e => by rw [e] at hLn; simp at hLn
      have hwx : IntKind.i64.wrap (a : Int) = (a : Int) := IntWalk.i64_in _ (by omega)
      generalize hkke : a % L.length = kk at hkk hrem hrem2
      have hwk : IntKind.i64.wrap (kk : Int) = (kk : Int) := IntWalk.i64_in _ (by omega)
      have hwk1 : IntKind.i64.wrap ((kk : Int) + 1) = (kk : Int) + 1 := IntWalk.i64_in _ (by omega)
      clear hkke
      go_wp2_with fail
      try clear q0
      try clear q1
      try clear hself
      try clear hdw1
      try clear hdw2
      try clear hde
      refine (clone_any g bv be V E w8 (unhide hg8)).mono ?_
      rintro e wc ⟨o, ov, oe, rfl, hgc, hxc, ho1, ho2, ho3⟩
      obtain ⟨b3, o3, rfl, e0⟩ := atI (unhide hL8) hkk
      have hgc' := hide hgc
      have hxc' := hide hxc
      have hself := hxc
      have hoo := hide (And.intro ho1 (And.intro ho2 ho3))
      have hrngx := hide ((unhide hord).rng (unhide hi') (List.getElem_mem hkk))
      have hout := hide (out_vertex (unhide hi') (((unhide hord).mem _).1 (List.getElem_mem hkk)))
      have hordx := hide (ord_out (unhide hord) hkk)
      generalize hxk : L[kk] = x at *
      clear hgc hxc ho1 ho2 ho3 hxk
      go_wp2_with fail
      refine (apply_any o ov oe V E 1 x 0 0 0 wc (unhide hgc') (okK (unhide hrngx)) (by unfold i64ok; decide)).mono ?_
      rw [(unhide hout).1, (unhide hout).2.1]
      rintro e wd ⟨rfl, hgd, hkd⟩
      have hx := (unhide hxc').of_new hkd (by have := unhide hoo; simp; omega)
      have hmem := hide (unhide hout).2.2
      generalize nxE 1 x 0 0 0 V E = E' at *
      have hgd' := hide hgd
      have hwd := hide (unhide hera kk hkk _ E' hgd.inv (unhide hordx) (unhide hmem))
      have hck2 := hide (ord_check (unhide hordx) ((unhide hordx).len hgd.inv))
      generalize (V.filter fun p => decide (p.1 ≠ x)) = V' at *
      clear hgd hkd e0 hself hgc' hxc' hout
      have hgd9 := hide (unhide hgd')
      have hL9 := hide ((unhide hL8).ext hx)
      have hg9 := hide ((unhide hg8).ext hx)
      have hE9 := hide ((unhide hE8).ext hx)
      have hB9 := hide ((unhide hB8).ext hx)
      have hT9 := hide ((unhide hT8).ext hx)
      have hx9' := hide ((unhide hx8').trans hx)
      clear hL8 hg8 hE8 hB8 hT8
      clear hx hx8'
      clear hgd'
      generalize wd = w9 at *
      have hdrop := L.eraseIdx_eq_take_drop_succ kk
      have hlen0 := len_out L hkk
      rw [← hdrop] at hlen0
      replace hdrop := hide hdrop
      replace hlen0 := hide hlen0
      go_wp2_with fail
      refine wp_region_ext (P := Tryz.prog) [0,2,3,4,6,7,8,9] [] 9 #[true,false,true,true,true,false,true,true,true,true,false,false,false,false,false,false,false] (by kernel_rfl) (by kernel_rfl) rfl (by rfl) ?_
      iterate 3
        refine ql_want (v := ?_) rfl (by rfl) (fun W hW => ?_) ?_
        rotate_left
        · go_simp
          first | done | rfl
        go_frame
      refine ql_want (v := .slice (some ⟨b3, o3, none⟩) kk cL) rfl (by rfl) (fun W hW => by rw [run_sl_to (k := kk) rfl rfl (by rfl) Tryz.underlying30 (Tryz.sizeOf3 W) (by have := unhide hcap; omega)]; exact qUpon_value (Ext.refl _)) ?_
      go_frame
      iterate 3
        refine ql_want (v := ?_) rfl (by rfl) (fun W hW => ?_) ?_
        rotate_left
        · go_simp
          first | done | rfl
        go_frame
      refine ql_want (v := .slice (restA (some ⟨b3, o3, none⟩) (kk + 1) cL 1) (L.length - (kk + 1)) (cL - (kk + 1))) rfl (by rfl) (fun W hW => by rw [run_sl_from (k := kk + 1) rfl rfl (by rfl) Tryz.underlying30 (Tryz.sizeOf3 W) (by omega)]; exact qUpon_value (Ext.refl _)) ?_
      go_frame
      refine wpQL_nil (fun y7 hx7 => ?_)
      have hx7' := hide hx7
      clear hx7
      refine lx_one (i := 1) (by kernel_rfl) rfl (by rfl) #[true,true,true,true,true,false,true,true,true,true,false,false,false,false,false,false,false] (by rfl) ?_
      go_simp
      first | refine ⟨(unhide hx7').alloc _, ?_⟩ | refine ⟨fun _ => (unhide hx7').alloc _, ?_⟩ | skip
      intro y8 hx8
      have hown8 := hide (own_ext (World.ownsRow_made (base := w9.heap.size) (e := 3) (size := 1) y7 #[] 0 (Below.size (unhide hx7')) (by decide) rfl) hx8)
      have hx8' := hide (((unhide hx7').alloc _).trans hx8)
      clear hx8
      try go_frame
      refine lx_apA (i := 5) (enc := encI) (by kernel_rfl) rfl (by rfl) #[true,true,true,true,true,true,true,true,true,true,false,false,false,false,false,false,false] (by rfl) infoI Tryz.underlying30 one_encI (fun _ => rfl) (by decide) (by decide) rfl (v := .slice (some ⟨y7.heap.size, 0, none⟩) 0 0) (xs := []) (L.take kk) (by rfl) (by rfl) (by rw [List.length_take]; omega) (SlAt.upto ((unhide hL9).ext (unhide hx8')) kk) (unhide hown8) (by omega) (Below.size (unhide hx8')) ?_
      intro A9 c9 y9 ho9 hg9 hat9
      have hge : ∀ z ∈ (Value.ownBlock (.slice (some ⟨y7.heap.size, 0, none⟩) 0 0)).toList, w9.heap.size ≤ z := fun z hz => by
        have h1 := Below.size (unhide hx7')
        have hz : z = y7.heap.size := List.mem_singleton.1 hz
        omega
      have hx9 := (unhide hx8').of_new (Keep.of_grown hg9) hge
      first | refine ⟨hx9, ?_⟩ | refine ⟨fun _ => hx9, ?_⟩ | skip
      intro y10 hx10
      rw [List.nil_append] at ho9
      have hown10 := hide (own_ext ho9 hx10)
      have hx10' := hide (hx9.trans hx10)
      have hge9 := hide (show ∀ g, Value.ownBlock (.slice A9 (0 + kk) c9) = some g → w9.heap.size ≤ g from fun g hg => by
        rcases hat9 with h | h
        · rw [h] at hg
          exact hge g (by simpa using hg)
        · rw [h] at hg
          have h1 := Below.size (unhide hx8')
          injection hg with hg
          omega)
      clear ho9 hg9 hge hx9 hx10 hown8 hat9
      clear hx8'
      try go_frame
      refine lx_apA (i := 10) (enc := encI) (by kernel_rfl) rfl (by rfl) #[true,true,true,true,true,true,true,true,true,true,true,false,false,false,false,false,false] (by rfl) infoI Tryz.underlying30 one_encI (fun _ => rfl) (by decide) (by decide) rfl (v := .slice A9 (0 + kk) c9) (xs := L.take kk) (L.drop (kk + 1)) (by rfl) (by rfl) (by rw [List.length_drop]) (SlAt.rest ((unhide hL9).ext (unhide hx10')) (kk + 1) cL (unhide hcap)) (unhide hown10) (by omega) (Below.size (unhide hx10')) ?_
      intro A11 c11 y11 ho11 hg11 hat11
      have hx11 := (unhide hx10').of_new (Keep.of_grown hg11) (fun z hz => unhide hge9 z (by simpa using hz))
      first | refine ⟨hx11, ?_⟩ | refine ⟨fun _ => hx11, ?_⟩ | skip
      intro y12 hx12
      obtain ⟨nl, hnl⟩ : ∃ nl, nl = 0 + kk + (L.length - (kk + 1)) := ⟨_, rfl⟩
      rw [← hnl] at ho11 ⊢
      rw [← unhide hdrop] at ho11
      have hlen11 : (L.eraseIdx kk).length = nl := by rw [unhide hlen0, hnl]; omega
      have hs12 := hide (own_at (enc := encI) (own_ext (own_n ho11 hlen11) hx12) (fun _ => rfl))
      have hx12' := hide (hx11.trans hx12)
      replace hlen11 := hide hlen11
      clear ho11 hg11 hat11 hx11 hx12 hown10 hx10' hge9 hnl
      try go_frame
      refine lx_one (i := 11) (by kernel_rfl) rfl (by rfl) #[true,true,true,true,true,true,true,true,true,true,true,true,false,false,false,false,false] (by rfl) ?_
      go_simp
      have hwc := width_ok A11 (L.eraseIdx kk) c11 o ov oe V' E' y12 (unhide hs12) (by rw [unhide hlen0]; omega) ((unhide hgd9).ext (unhide hx12')) ((unhide hT9).ext (unhide hx12')) (unhide hck2)
      rw [unhide hlen11] at hwc
      rw [unhide hlen11] at hwd
      refine hwc.mono ?_
      rintro e y13 ⟨rfl, hx13⟩
      refine ⟨_, rfl, ?_⟩
      first | refine ⟨(unhide hx12').trans hx13, ?_⟩ | refine ⟨fun _ => (unhide hx12').trans hx13, ?_⟩ | skip
      intro y14 hx14
      have hx14' := ((unhide hx12').trans hx13).trans hx14
      have hx15 := hide hx14'
      refine lx_ext [12,13,14,15,16] [] 0 5 #[true,true,true,true,true,true,true,true,true,true,true,true,false,false,false,false,false] #[true,true,true,true,true,true,true,true,true,true,true,true,true,true,true,true,true] (by kernel_rfl) rfl (by rfl) hx14' ?_
      clear hwc hx13 hx14 hx14'
      try go_frame
      iterate 5
        first
        | (refine ql_skip rfl (by rfl) ?_)
        | (refine ql_want (v := ?_) rfl (by rfl) (fun W hW => ?_) ?_; rotate_left; (go_simp; (first | done | rfl)))
        try go_frame
      refine wpQL_nil (fun wz hxz => ?_)
      refine wpX_done (by kernel_rfl) ?_
      try go_frame
      have hx := (unhide hx15).trans hxz
      have hdw : decide (nw < widK E' (L.eraseIdx kk) nl) = false := by have := unhide hwd; simp; omega
      generalize widK E' (L.eraseIdx kk) nl = mw at *
      clear hxz hx15 hx7' hx12' hs12 hwd
      have hL10 := hide ((unhide hL9).ext hx)
      have hg10 := hide ((unhide hg9).ext hx)
      have hE10 := hide ((unhide hE9).ext hx)
      have hB10 := hide ((unhide hB9).ext hx)
      have hT10 := hide ((unhide hT9).ext hx)
      have hx10' := hide ((unhide hx9').trans hx)
      clear hL9 hg9 hE9 hB9 hT9 hgd9
      clear hx hx9'
      generalize wz = w10 at *
      go_wp2_with fail
      refine (known21_any w10 (unhide hT10)).mono ?_
      rintro e w11 ⟨rfl, hx⟩
      have hL11 := hide ((unhide hL10).ext hx)
      have hg11 := hide ((unhide hg10).ext hx)
      have hE11 := hide ((unhide hE10).ext hx)
      have hB11 := hide ((unhide hB10).ext hx)
      have hT11 := hide ((unhide hT10).ext hx)
      have hx11' := hide ((unhide hx10').trans hx)
      clear hL10 hg10 hE10 hB10 hT10
      clear hx hx10'
      go_wp2_with fail
      go_ret
      exact ⟨rfl, unhide hx11'⟩
    · have hdl : decide ((0 : Int) < (L.length : Int)) = false := decide_eq_false (by omega)
      go_wp2_with fail
      try clear q0
      try clear q1
      try clear hself
      try clear hdw1
      try clear hdw2
      try clear hde
      refine (known21_any w8 (unhide hT8)).mono ?_
      rintro e w9 ⟨rfl, hx⟩
      have hL9 := hide ((unhide hL8).ext hx)
      have hg9 := hide ((unhide hg8).ext hx)
      have hE9 := hide ((unhide hE8).ext hx)
      have hB9 := hide ((unhide hB8).ext hx)
      have hT9 := hide ((unhide hT8).ext hx)
      have hx9' := hide ((unhide hx8').trans hx)
      clear hL8 hg8 hE8 hB8 hT8
      clear hx hx8'
      go_wp2_with fail
      go_ret
      exact ⟨rfl, unhide hx9'⟩
  · have hde : decide ((0 : Int) < (E.length : Int)) = false := decide_eq_false (by omega)
    by_cases hLn : 0 < L.length
    · have hdl : decide ((0 : Int) < (L.length : Int)) = true := decide_eq_true (by omega)
      have hkk : a % L.length < L.length := Nat.mod_lt _ hLn
      have hrem2 : (a : Int) % (L.length : Int) = ((a % L.length : Nat) : Int) := (Int.natCast_emod _ _).symm
      have hrem : (a : Int).tmod (L.length : Int) = ((a % L.length : Nat) : Int) := rem_nat hLn
      have hnn : L ≠ [] := fun e => by rw [e] at hLn; simp at hLn
      have hwx : IntKind.i64.wrap (a : Int) = (a : Int) := IntWalk.i64_in _ (by omega)
      generalize hkke : a % L.length = kk at hkk hrem hrem2
      have hwk : IntKind.i64.wrap (kk : Int) = (kk : Int) := IntWalk.i64_in _ (by omega)
      have hwk1 : IntKind.i64.wrap ((kk : Int) + 1) = (kk : Int) + 1 := IntWalk.i64_in _ (by omega)
      clear hkke
      go_wp2_with fail
      try clear q0
      try clear q1
      try clear hself
      try clear hdw1
      try clear hdw2
      try clear hde
      refine (clone_any g bv be V E w4 (unhide hg4)).mono ?_
      rintro e wc ⟨o, ov, oe, rfl, hgc, hxc, ho1, ho2, ho3⟩
      obtain ⟨b3, o3, rfl, e0⟩ := atI (unhide hL4) hkk
      have hgc' := hide hgc
      have hxc' := hide hxc
      have hself := hxc
      have hoo := hide (And.intro ho1 (And.intro ho2 ho3))
      have hrngx := hide ((unhide hord).rng (unhide hi') (List.getElem_mem hkk))
      have hout := hide (out_vertex (unhide hi') (((unhide hord).mem _).1 (List.getElem_mem hkk)))
      have hordx := hide (ord_out (unhide hord) hkk)
      generalize hxk : L[kk] = x at *
      clear hgc hxc ho1 ho2 ho3 hxk
      go_wp2_with fail
      refine (apply_any o ov oe V E 1 x 0 0 0 wc (unhide hgc') (okK (unhide hrngx)) (by unfold i64ok; decide)).mono ?_
      rw [(unhide hout).1, (unhide hout).2.1]
      rintro e wd ⟨rfl, hgd, hkd⟩
      have hx := (unhide hxc').of_new hkd (by have := unhide hoo; simp; omega)
      have hmem := hide (unhide hout).2.2
      generalize nxE 1 x 0 0 0 V E = E' at *
      have hgd' := hide hgd
      have hwd := hide (unhide hera kk hkk _ E' hgd.inv (unhide hordx) (unhide hmem))
      have hck2 := hide (ord_check (unhide hordx) ((unhide hordx).len hgd.inv))
      generalize (V.filter fun p => decide (p.1 ≠ x)) = V' at *
      clear hgd hkd e0 hself hgc' hxc' hout
      have hgd5 := hide (unhide hgd')
      have hL5 := hide ((unhide hL4).ext hx)
      have hg5 := hide ((unhide hg4).ext hx)
      have hE5 := hide ((unhide hE4).ext hx)
      have hB5 := hide ((unhide hB4).ext hx)
      have hT5 := hide ((unhide hT4).ext hx)
      have hx5' := hide ((unhide hx4').trans hx)
      clear hL4 hg4 hE4 hB4 hT4
      clear hx hx4'
      clear hgd'
      generalize wd = w5 at *
      have hdrop := L.eraseIdx_eq_take_drop_succ kk
      have hlen0 := len_out L hkk
      rw [← hdrop] at hlen0
      replace hdrop := hide hdrop
      replace hlen0 := hide hlen0
      go_wp2_with fail
      refine wp_region_ext (P := Tryz.prog) [0,2,3,4,6,7,8,9] [] 9 #[true,false,true,true,true,false,true,true,true,true,false,false,false,false,false,false,false] (by kernel_rfl) (by kernel_rfl) rfl (by rfl) ?_
      iterate 3
        refine ql_want (v := ?_) rfl (by rfl) (fun W hW => ?_) ?_
        rotate_left
        · go_simp
          first | done | rfl
        go_frame
      refine ql_want (v := .slice (some ⟨b3, o3, none⟩) kk cL) rfl (by rfl) (fun W hW => by rw [run_sl_to (k := kk) rfl rfl (by rfl) Tryz.underlying30 (Tryz.sizeOf3 W) (by have := unhide hcap; omega)]; exact qUpon_value (Ext.refl _)) ?_
      go_frame
      iterate 3
        refine ql_want (v := ?_) rfl (by rfl) (fun W hW => ?_) ?_
        rotate_left
        · go_simp
          first | done | rfl
        go_frame
      refine ql_want (v := .slice (restA (some ⟨b3, o3, none⟩) (kk + 1) cL 1) (L.length - (kk + 1)) (cL - (kk + 1))) rfl (by rfl) (fun W hW => by rw [run_sl_from (k := kk + 1) rfl rfl (by rfl) Tryz.underlying30 (Tryz.sizeOf3 W) (by omega)]; exact qUpon_value (Ext.refl _)) ?_
      go_frame
      refine wpQL_nil (fun y7 hx7 => ?_)
      have hx7' := hide hx7
      clear hx7
      refine lx_one (i := 1) (by kernel_rfl) rfl (by rfl) #[true,true,true,true,true,false,true,true,true,true,false,false,false,false,false,false,false] (by rfl) ?_
      go_simp
      first | refine ⟨(unhide hx7').alloc _, ?_⟩ | refine ⟨fun _ => (unhide hx7').alloc _, ?_⟩ | skip
      intro y8 hx8
      have hown8 := hide (own_ext (World.ownsRow_made (base := w5.heap.size) (e := 3) (size := 1) y7 #[] 0 (Below.size (unhide hx7')) (by decide) rfl) hx8)
      have hx8' := hide (((unhide hx7').alloc _).trans hx8)
      clear hx8
      try go_frame
      refine lx_apA (i := 5) (enc := encI) (by kernel_rfl) rfl (by rfl) #[true,true,true,true,true,true,true,true,true,true,false,false,false,false,false,false,false] (by rfl) infoI Tryz.underlying30 one_encI (fun _ => rfl) (by decide) (by decide) rfl (v := .slice (some ⟨y7.heap.size, 0, none⟩) 0 0) (xs := []) (L.take kk) (by rfl) (by rfl) (by rw [List.length_take]; omega) (SlAt.upto ((unhide hL5).ext (unhide hx8')) kk) (unhide hown8) (by omega) (Below.size (unhide hx8')) ?_
      intro A9 c9 y9 ho9 hg9 hat9
      have hge : ∀ z ∈ (Value.ownBlock (.slice (some ⟨y7.heap.size, 0, none⟩) 0 0)).toList, w5.heap.size ≤ z := fun z hz => by
        have h1 := Below.size (unhide hx7')
        have hz : z = y7.heap.size := List.mem_singleton.1 hz
        omega
      have hx9 := (unhide hx8').of_new (Keep.of_grown hg9) hge
      first | refine ⟨hx9, ?_⟩ | refine ⟨fun _ => hx9, ?_⟩ | skip
      intro y10 hx10
      rw [List.nil_append] at ho9
      have hown10 := hide (own_ext ho9 hx10)
      have hx10' := hide (hx9.trans hx10)
      have hge9 := hide (show ∀ g, Value.ownBlock (.slice A9 (0 + kk) c9) = some g → w5.heap.size ≤ g from fun g hg => by
        rcases hat9 with h | h
        · rw [h] at hg
          exact hge g (by simpa using hg)
        · rw [h] at hg
          have h1 := Below.size (unhide hx8')
          injection hg with hg
          omega)
      clear ho9 hg9 hge hx9 hx10 hown8 hat9
      clear hx8'
      try go_frame
      refine lx_apA (i := 10) (enc := encI) (by kernel_rfl) rfl (by rfl) #[true,true,true,true,true,true,true,true,true,true,true,false,false,false,false,false,false] (by rfl) infoI Tryz.underlying30 one_encI (fun _ => rfl) (by decide) (by decide) rfl (v := .slice A9 (0 + kk) c9) (xs := L.take kk) (L.drop (kk + 1)) (by rfl) (by rfl) (by rw [List.length_drop]) (SlAt.rest ((unhide hL5).ext (unhide hx10')) (kk + 1) cL (unhide hcap)) (unhide hown10) (by omega) (Below.size (unhide hx10')) ?_
      intro A11 c11 y11 ho11 hg11 hat11
      have hx11 := (unhide hx10').of_new (Keep.of_grown hg11) (fun z hz => unhide hge9 z (by simpa using hz))
      first | refine ⟨hx11, ?_⟩ | refine ⟨fun _ => hx11, ?_⟩ | skip
      intro y12 hx12
      obtain ⟨nl, hnl⟩ : ∃ nl, nl = 0 + kk + (L.length - (kk + 1)) := ⟨_, rfl⟩
      rw [← hnl] at ho11 ⊢
      rw [← unhide hdrop] at ho11
      have hlen11 : (L.eraseIdx kk).length = nl := by rw [unhide hlen0, hnl]; omega
      have hs12 := hide (own_at (enc := encI) (own_ext (own_n ho11 hlen11) hx12) (fun _ => rfl))
      have hx12' := hide (hx11.trans hx12)
      replace hlen11 := hide hlen11
      clear ho11 hg11 hat11 hx11 hx12 hown10 hx10' hge9 hnl
      try go_frame
      refine lx_one (i := 11) (by kernel_rfl) rfl (by rfl) #[true,true,true,true,true,true,true,true,true,true,true,true,false,false,false,false,false] (by rfl) ?_
      go_simp
      have hwc := width_ok A11 (L.eraseIdx kk) c11 o ov oe V' E' y12 (unhide hs12) (by rw [unhide hlen0]; omega) ((unhide hgd5).ext (unhide hx12')) ((unhide hT5).ext (unhide hx12')) (unhide hck2)
      rw [unhide hlen11] at hwc
      rw [unhide hlen11] at hwd
      refine hwc.mono ?_
      rintro e y13 ⟨rfl, hx13⟩
      refine ⟨_, rfl, ?_⟩
      first | refine ⟨(unhide hx12').trans hx13, ?_⟩ | refine ⟨fun _ => (unhide hx12').trans hx13, ?_⟩ | skip
      intro y14 hx14
      have hx14' := ((unhide hx12').trans hx13).trans hx14
      have hx15 := hide hx14'
      refine lx_ext [12,13,14,15,16] [] 0 5 #[true,true,true,true,true,true,true,true,true,true,true,true,false,false,false,false,false] #[true,true,true,true,true,true,true,true,true,true,true,true,true,true,true,true,true] (by kernel_rfl) rfl (by rfl) hx14' ?_
      clear hwc hx13 hx14 hx14'
      try go_frame
      iterate 5
        first
        | (refine ql_skip rfl (by rfl) ?_)
        | (refine ql_want (v := ?_) rfl (by rfl) (fun W hW => ?_) ?_; rotate_left; (go_simp; (first | done | rfl)))
        try go_frame
      refine wpQL_nil (fun wz hxz => ?_)
      refine wpX_done (by kernel_rfl) ?_
      try go_frame
      have hx := (unhide hx15).trans hxz
      have hdw : decide (nw < widK E' (L.eraseIdx kk) nl) = false := by have := unhide hwd; simp; omega
      generalize widK E' (L.eraseIdx kk) nl = mw at *
      clear hxz hx15 hx7' hx12' hs12 hwd
      have hL6 := hide ((unhide hL5).ext hx)
      have hg6 := hide ((unhide hg5).ext hx)
      have hE6 := hide ((unhide hE5).ext hx)
      have hB6 := hide ((unhide hB5).ext hx)
      have hT6 := hide ((unhide hT5).ext hx)
      have hx6' := hide ((unhide hx5').trans hx)
      clear hL5 hg5 hE5 hB5 hT5 hgd5
      clear hx hx5'
      generalize wz = w6 at *
      go_wp2_with fail
      refine (known21_any w6 (unhide hT6)).mono ?_
      rintro e w7 ⟨rfl, hx⟩
      have hL7 := hide ((unhide hL6).ext hx)
      have hg7 := hide ((unhide hg6).ext hx)
      have hE7 := hide ((unhide hE6).ext hx)
      have hB7 := hide ((unhide hB6).ext hx)
      have hT7 := hide ((unhide hT6).ext hx)
      have hx7' := hide ((unhide hx6').trans hx)
      clear hL6 hg6 hE6 hB6 hT6
      clear hx hx6'
      go_wp2_with fail
      go_ret
      exact ⟨rfl, unhide hx7'⟩
    · have hdl : decide ((0 : Int) < (L.length : Int)) = false := decide_eq_false (by omega)
      go_wp2_with fail
      try clear q0
      try clear q1
      try clear hself
      try clear hdw1
      try clear hdw2
      try clear hde
      refine (known21_any w4 (unhide hT4)).mono ?_
      rintro e w5 ⟨rfl, hx⟩
      have hL5 := hide ((unhide hL4).ext hx)
      have hg5 := hide ((unhide hg4).ext hx)
      have hE5 := hide ((unhide hE4).ext hx)
      have hB5 := hide ((unhide hB4).ext hx)
      have hT5 := hide ((unhide hT4).ext hx)
      have hx5' := hide ((unhide hx4').trans hx)
      clear hL4 hg4 hE4 hB4 hT4
      clear hx hx4'
      go_wp2_with fail
      go_ret
      exact ⟨rfl, unhide hx5'⟩
end Go.Proofs.YtjehhilijeajnaaGreatDoor
/- Every input makes the law EliminationMonotone answer true, and each argument reads behind the call as it read before: the given card, tied to the program's text. No condition. -/
namespace Go.Proofs.YtjehhilijeajnaaGreatDoor.eliminationMonotoneRow
open Go.ChangeShapes Go.WideShapes Go.ChangeAt Go.RowKit
set_option linter.unusedVariables false

theorem own : ownKnob Tryz.prog.godebug = none := by kernel_rfl
theorem laidOut : laidOutB Tryz.prog = true := by kernel_rfl
theorem door_met (os : Os) (args : Array Value) : laidMetH Tryz.prog laidL ((World.doorLaid Tryz.prog 400 os).forCall (fun _ _ => 0) ⟨#[], args, []⟩).memory :=
  laidMetH_of_parts3 (fuel := 8) (laidMet_of_run' 8 (by kernel_rfl) (by kernel_rfl)) (by kernel_rfl) (by kernel_rfl)

set_option maxRecDepth 100000 in
theorem lifted (os : Os) (started : os.Started) (H : Type) (enc : TypeId × Value → H) :
    ReturnsInHanded {} Tryz.checked os 6 .any (fun w args => (Rows.eliminationMonotoneSpec.pre enc Tryz.prog Tryz.f6 [] false w args ∧ laidMetH Tryz.prog laidL w) ∧ sizedMet enc Tryz.prog Tryz.f6 (OpenSpec.ofChange Rows.eliminationMonotoneSpec) false w args)
      (Rows.eliminationMonotoneSpec.post enc Tryz.prog Tryz.f6 false true false false) := by
  refine returnsInHanded_of_change_and (C := Tryz.checked) (X := fun w _ => laidMetH Tryz.prog laidL w) (fun _ _ _ hh h => h.of_heap hh) own started (by kernel_rfl) Tryz.func6
    (ChangeSpec.witness_shaped (enc := enc) (C := Tryz.checked) (os := os) (X := fun w _ => laidMetH Tryz.prog laidL w) false (World.doorLaid Tryz.prog 400 os) #[.slice none 0 0, .slice none 0 0, .int .u8 0] 8 rfl (World.shaped_of_RefB (by kernel_rfl) (by kernel_rfl)) (by kernel_rfl) (by kernel_rfl) (by kernel_rfl) (door_met os _)) ?_
  intro W base args ds gs before hval0 hW _ _ hL _
  have hval : ∀ (j : Nat) t v, Tryz.f6.params[j]? = some t → args[j]? = some v → Value.okWide Tryz.prog W .any base t v := hval0
  have hW' := hW
  obtain ⟨p, q, hA0, hV, rfl, hfz, hnd⟩ := hW
  have hA : DataW.TrodAll enc Tryz.prog W 0 (fun _ => true) true Tryz.f6.params.toList args.toList ds p := hA0
  rw [Tryz.params6] at hA hval
  obtain ⟨v0, vs0, d0, ds0, p0, q0, hargs, rfl, rfl, h0, r0⟩ := trodAll_cons hA
  obtain ⟨v1, vs1, d1, ds1, p1, q1, rfl, rfl, rfl, h1, r1⟩ := trodAll_cons r0
  obtain ⟨v2, vs2, d2, ds2, p2, q2, rfl, rfl, rfl, h2, r2⟩ := trodAll_cons r1
  obtain ⟨rfl, rfl, rfl⟩ := trodAll_nil r2
  obtain rfl : args = #[v0, v1, v2] := by cases args; simp_all
  obtain ⟨rfl, rfl⟩ := trodVars_none hV
  obtain ⟨a0, len0, cap0, rfl⟩ := okWide_slice Tryz.underlying22 (hval 0 22 v0 rfl rfl)
  have k0 := h0
  have lt0 : ∀ x ∈ p0, x.block < W.heap.size := by obtain ⟨m, hm⟩ := k0; exact DataW.trod_lt m _ _ _ hm
  obtain ⟨fu0, hf0⟩ := h0
  obtain ⟨L0, hn0, hs0, ho0, hm0, hz0⟩ := open_edits (by simpa [Value.cells] using hf0)
  subst hn0
  obtain ⟨a1, len1, cap1, rfl⟩ := okWide_slice Tryz.underlying23 (hval 1 23 v1 rfl rfl)
  have k1 := h1
  have lt1 : ∀ x ∈ p1, x.block < W.heap.size := by obtain ⟨m, hm⟩ := k1; exact DataW.trod_lt m _ _ _ hm
  obtain ⟨fu1, hf1⟩ := h1
  obtain ⟨L1, hn1, hs1, ho1, hm1, hz1⟩ := open_bytes (by simpa [Value.cells] using hf1)
  subst hn1
  obtain ⟨a2, rfl, rfl, rfl, w2⟩ := open_int Tryz.underlying5 (hval 2 5 v2 rfl rfl) h2
  clear hA0 hval0
  refine (eliminationMonotone_walk a0 L0 cap0 a1 L1 cap1 a2 W hs0 hs1 ho1 hm1 (Go.bounds_u8 w2) (tab_of_laid hL)).mono fun e W' ⟨he, bel⟩ => ?_
  subst he
  exact ⟨_, rfl, _, _, _, [], _, [], hW', trodAll_mk1 (shut_bool Tryz.underlying4 _), (trodAll_cons_mk (Below.trod laidOut (by kernel_rfl) (of_decide_eq_true (by kernel_rfl)) k0 bel lt0) (trodAll_cons_mk (Below.trod laidOut (by kernel_rfl) (of_decide_eq_true (by kernel_rfl)) k1 bel lt1) (trodAll_cons_mk (shut_int Tryz.underlying5 w2) trodAll_mk0))), rfl, bel.frame _, fun h => by cases h⟩

theorem over : Rows.eliminationMonotoneRow.holds Tryz.pinned (OpenSpec.ofChange Rows.eliminationMonotoneSpec) :=
  OpenClaim.holds_of_wide 6 Tryz.f6 rfl rfl rfl rfl rfl rfl rfl ⟨rfl, rfl, rfl, rfl, rfl⟩ rfl rfl rfl rfl rfl (by kernel_rfl) Tryz.func6 (by kernel_rfl)
    (of_decide_eq_true (by kernel_rfl)) (by unfold Func.isWrapper; first | (rw [if_pos (by decide +kernel)]; kernel_rfl) | (rw [if_neg (by decide +kernel)]; exact ⟨rfl, rfl⟩))
    (fun os started H enc _ => lifted os started H enc)
end Go.Proofs.YtjehhilijeajnaaGreatDoor.eliminationMonotoneRow
namespace Go.Proofs.YtjehhilijeajnaaGreatDoor
open Go
/-- the given statement -/
theorem eliminationMonotone_holds : Rows.EliminationMonotoneCardSaid :=
  Claim7.holds_tied_plain_at .later [] [.data] true (true, "0ceec30d3f7ff7f423cc43cb0ed385367f6dd2ec832c5276d81adf283899bfa9") true
    eliminationMonotoneRow.over (fun _ h => by cases h) (by kernel_rfl) (fun _ h => by cases h) eliminationMonotone_row_tie rfl ⟨rfl, rfl⟩ (by kernel_rfl) rfl
    (fun f fn hf hfn => by
      obtain rfl : f = 6 := Option.some.inj ((show Tryz.prog.funcNamed "palmette/palmettelaw21.EliminationMonotone" = some 6 by kernel_rfl).symm.trans hf) |>.symm
      obtain rfl : fn = Tryz.f6 := (Option.some.inj (Tryz.func6.symm.trans hfn)).symm
      exact ⟨by kernel_rfl, fun j t ht => by
        rw [Tryz.params6] at ht
        have h3 : t = 22 ∨ t = 23 ∨ t = 5 := by
          rcases j with _ | _ | _ | j
          · simp at ht; simp [ht]
          · simp at ht; simp [ht]
          · simp at ht; simp [ht]
          · simp at ht
        rcases h3 with rfl | rfl | rfl
        · exact (show Tryz.prog.wantsStandIn 22 = false by kernel_rfl)
        · exact (show Tryz.prog.wantsStandIn 23 = false by kernel_rfl)
        · exact (show Tryz.prog.wantsStandIn 5 = false by kernel_rfl)⟩)
    (by kernel_rfl)
#print axioms eliminationMonotone_holds
end Go.Proofs.YtjehhilijeajnaaGreatDoor
