/- law05.Made: the reference graph that edits make. Conditions: see each theorem. -/
import Derived.Test.YtdkhondfahebnaaBd
namespace Go.Proofs.Ytdkhondfahebnaa
open Go Go.RowKit
attribute [local go_sem] qUpon lUpon

def stD (s : GS) (d : Ed) : GS := (nxV d.1 d.2.1 d.2.2.1 d.2.2.2.1 d.2.2.2.2 s.1 s.2, nxE d.1 d.2.1 d.2.2.1 d.2.2.2.1 d.2.2.2.2 s.1 s.2)
def mdS (L : List Ed) : GS := (L.take 60).foldl stD ([], [])
theorem fold_inv : ∀ (L : List Ed) (s : GS), GInv s.1 s.2 → GInv (L.foldl stD s).1 (L.foldl stD s).2
  | [], _, h => h
  | d :: L, s, h => fold_inv L (stD s d) (h.next _ _ _ _ _)
theorem mdS_inv (L : List Ed) : GInv (mdS L).1 (mdS L).2 := fold_inv _ _ GInv.nil

structure MdRel (w wr : World) (gw : Nat) (S : GS) (A B : Option Addr) (cA cB : Nat) : Prop where
  blk : Blk wr gw 28 #[.slice A S.1.length cA, .slice B S.2.length cB]
  sv : SlAt encV 3 wr A S.1
  se : SlAt encE 4 wr B S.2
  ext : Ext w wr
  lo : w.heap.size ≤ gw
theorem MdRel.go {w wr wr' : World} {gw : Nat} {S : GS} {A B : Option Addr} {cA cB : Nat} (h : MdRel w wr gw S A B cA cB) (k : Ext wr wr') : MdRel w wr' gw S A B cA cB :=
  ⟨h.blk.ext k, h.sv.ext k, h.se.ext k, h.ext.trans k, h.lo⟩

set_option maxRecDepth 100000 in
set_option maxHeartbeats 4000000 in
theorem made_any (A : Option Addr) (L : List Ed) (cL : Nat) (w : World) (hL : SlAt encD 5 w A L) :
    Calls Try.prog 19 #[.slice A L.length cL] w fun e w' => ∃ A1 cA B1 cB, e = .returned (.agg #[.slice A1 (mdS L).1.length cA, .slice B1 (mdS L).2.length cB]) ∧ SlAt encV 3 w' A1 (mdS L).1 ∧ SlAt encE 4 w' B1 (mdS L).2 ∧ Ext w w' := by
  have hL' := hide hL
  clear hL
  have hb0 := (Blk.new w 28 #[.slice none 0 0, .slice none 0 0]).ext (ext_self1 _ (.cells #[.slice none 0 0, .slice none 0 0] 28))
  have hb1 := Blk.new (w.alloc (.cells #[.slice none 0 0, .slice none 0 0] 28)) 28 #[.slice none 0 0, .slice none 0 0]
  simp only [World.size_alloc] at hb1
  have hb0' := hide hb0
  have hb1' := hide hb1
  clear hb0 hb1
  go_enter Try.func19, Try.ntmps19
  go_wp2_with fail
  refine wp_abs (fun W => Blk W w.heap.size 28 #[.slice none 0 0, .slice none 0 0] ∧ MdRel w W (w.heap.size + 1) ([], []) none none 0 0) ⟨unhide hb0', unhide hb1', SlAt.nil, SlAt.nil, ext_self2 _ _ _, by omega⟩ ?_
  rintro w2 ⟨hq0, hr0⟩
  have hr0' := hide hr0
  have hq0' := hide hq0
  have hne' := hide (show w.heap.size ≠ w.heap.size + 1 by omega)
  clear hr0 hq0 hb0' hb1'
  generalize hr1 : w.heap.size + 1 = gw at *
  generalize hr2 : w.heap.size = ge at *
  have hge' := hide hr2
  clear hr1 hr2
  go_loopw [4] (fun i wr => ∃ (k : Nat) (A1 B1 : Option Addr) (cA cB : Nat), k ≤ L.length ∧ k ≤ 60 ∧ i = .int .i64 k ∧ Blk wr ge 28 #[.slice none 0 0, .slice none 0 0] ∧ MdRel w wr gw ((L.take k).foldl stD ([], [])) A1 B1 cA cB) (fun i _ => L.length - (intOf i).toNat)
  case atStart => exact ⟨0, none, none, 0, 0, Nat.zero_le _, by omega, rfl, unhide hq0', unhide hr0'⟩
  case round =>
    obtain ⟨k, A1, B1, cA, cB, hk, hk60, rfl, hq, hr⟩ := hrel
    have hr' := hide hr
    have hq' := hide hq
    clear hr hr0' hq hq0'
    by_cases hlt : k < L.length
    · by_cases h60 : k < 60
      · obtain ⟨b, off, rfl, c0, c1, c2, c3, c4⟩ := atD ((unhide hL').ext (unhide hr').ext) hlt
        have hst := hide (fold_step (st := stD) (s := (([], []) : GS)) hlt)
        have hin := hide (fold_inv (L.take k) ([], []) GInv.nil)
        generalize (L.take k).foldl stD ([], []) = S at *
        obtain ⟨V, E⟩ := S
        generalize hy : L[k] = y at c0 c1 c2 c3 c4 hst
        obtain ⟨op, u, v, lab, wt⟩ := y
        have hB0 := (unhide hr').blk
        have q0 := hB0.cells 0 (v := .slice A1 V.length cA) rfl
        have q1 := hB0.cells 1 (v := .slice B1 E.length cB) rfl
        clear hy hB0
        simp only at c0 c1 c2 c3 c4
        go_wp2_with fail
        refine wp_region_ext (P := Try.prog) [0,1,2,3,4] [5,6,7,8,9] 5 #[true,true,true,true,true,false,false,false,false,false] (by kernel_rfl) (by kernel_rfl) rfl (by rfl) ?_
        iterate 5
          refine ql_want (v := ?_) rfl (by rfl) (fun W hW => ?_) ?_
          rotate_left
          · go_simp
            first | done | rfl
          go_frame
        refine wpQL_nil (fun w3 hx3 => ?_)
        clear q0 q1 c0 c1 c2 c3 c4
        refine lx_one (i := 5) (by kernel_rfl) rfl (by rfl) #[true,true,true,true,true,true,false,false,false,false] (by rfl) ?_
        go_simp
        have hr3 := (unhide hr').go hx3
        have hq3 := (unhide hq').ext hx3
        refine (do_any A1 B1 V E cA cB op u v lab wt _ hr3.sv hr3.se (Nat.le_trans (unhide hin).nv (by omega)) (Nat.le_trans (unhide hin).ne (by omega))).mono ?_
        rintro e w4 ⟨A2, cA2, B2, cB2, rfl, hs4, he4, hx4⟩
        refine ⟨_, rfl, fun w5 hx5 => ?_⟩
        have hx35 := hx4.trans hx5
        have hb5 := hr3.blk.ext hx35
        have hc5 := hide (GCls.refl hb5)
        have hG5 : ∃ A n c B m d, Blk w5 gw 28 #[.slice A n c, .slice B m d] := ⟨_, _, _, _, _, _, hb5⟩
        have hG5' := hide hG5
        have hq5 := hide (hq3.ext hx35)
        have hs5 := hide (hs4.ext hx5)
        have he5 := hide (he4.ext hx5)
        have hxw5 := hide (hr3.ext.trans hx35)
        have hlo := hide hr3.lo
        clear hr3 hq3 hs4 he4 hx4 hx5 hx35 hb5 hG5 hx3 hr' hq'
        refine lx_re (GCls gw w5) [6,7,8] 1 4 #[true,true,true,true,true,true,false,false,false,false] #[true,true,true,true,true,true,true,true,true,false] (by kernel_rfl) (by kernel_rfl) rfl (by rfl) Ext.refl (fun _ _ _ => Ext.trans) (fun _ _ h k => h.ext k) (unhide hc5) ?_
        iterate 3
          refine ql_want (v := ?_) rfl (by rfl) (fun W hW => ?_) ?_
          rotate_left
          · go_simp
            first | done | rfl
          go_frame
        refine wpQL_nil (fun w6 hc6 => ?_)
        have hc6' := hide hc6
        obtain ⟨hk6, A0, n0, k0, B0, m0, d0, hb6⟩ := hc6
        have s0 := hb6.cell 0
        have s1 := hb6.cell 1
        have f0 := hb6.frozen 0
        have f1 := hb6.frozen 1
        have hb6' := hide hb6
        simp at s0 s1
        clear hk6 hb6
        refine lx_one (i := 9) (by kernel_rfl) rfl (by rfl) #[true,true,true,true,true,true,true,true,true,true] (by rfl) ?_
        go_simp
        clear s0 s1 f0 f1
        have hc7 := (unhide hc6').set A2 B2 (nxV op u v lab wt V E).length cA2 (nxE op u v lab wt V E).length cB2
        have hb7 := (unhide hb6').set2 (p' := .slice A2 (nxV op u v lab wt V E).length cA2) (q' := .slice B2 (nxE op u v lab wt V E).length cB2)
        generalize ((w6.setCell ⟨gw, 0, none⟩ (.slice A2 (nxV op u v lab wt V E).length cA2)).setCell ⟨gw, 1, none⟩ (.slice B2 (nxE op u v lab wt V E).length cB2)) = w7 at *
        first | refine ⟨hc7, ?_⟩ | skip
        intro w8 hx8
        have hrel := MdRel.go (w := w) (S := stD (V, E) (op, (u, (v, (lab, wt))))) ⟨hb7, (unhide hs5).cls hc7 (unhide hG5') encV_ns encV0, (unhide he5).cls hc7 (unhide hG5') encE_ns encE0, (unhide hxw5).of_new hc7.1 (by have := unhide hlo; simpa using this), unhide hlo⟩ hx8
        have hq8 := hide (((unhide hq5).keep hc7.1 (by simpa using unhide hne')).ext hx8)
        have hrel' := hide hrel
        clear hrel hc7 hb7 hc6' hb6' hx8 hc5 hG5' hq5 hs5 he5 hxw5 hlo
        refine wpX_done (by kernel_rfl) ?_
        try go_frame
        go_wp2_with fail
        go_roundw
        case rel => exact ⟨k + 1, A2, B2, cA2, cB2, by omega, by omega, by go_num, unhide hq8, by rw [unhide hst]; exact unhide hrel'⟩
        case measure => simp [intOf]; omega
      · have hS : L.take k = L.take 60 := by rw [show k = 60 by omega]
        rw [hS] at hr'
        clear hS
        generalize hmd : (L.take 60).foldl stD ([], []) = S at *
        have hmd' : mdS L = S := hmd
        have hmd'' := hide hmd'
        clear hmd hmd'
        have hB0 := (unhide hr').blk
        have q0 := hB0.cell 0
        have q1 := hB0.cell 1
        have s0 := (unhide hq').cell 0
        have s1 := (unhide hq').cell 1
        have f0 := (unhide hq').frozen 0
        have f1 := (unhide hq').frozen 1
        clear hB0
        simp at q0 q1 s0 s1
        go_wp2_with fail
        refine bodyPost_ret (ret_cell1 rfl rfl (load_G2 wr ge _ _ _ _ s0 s1)) rfl ?_
        rw [unhide hmd'']
        have hk := Keep.set2 wr ge (.slice A1 S.1.length cA) (.slice B1 S.2.length cB)
        exact ⟨A1, cA, B1, cB, rfl, (unhide hr').sv.keep_G (unhide hq') ⟨_, _, _, rfl⟩ ⟨_, _, _, rfl⟩ encV_ns encV0 hk, (unhide hr').se.keep_G (unhide hq') ⟨_, _, _, rfl⟩ ⟨_, _, _, rfl⟩ encE_ns encE0 hk, (unhide hr').ext.of_new hk (by have := unhide hge'; simp; omega)⟩
    · have hS : L.take k = L.take 60 := by rw [List.take_of_length_le (by omega), List.take_of_length_le (by omega)]
      rw [hS] at hr'
      clear hS
      generalize hmd : (L.take 60).foldl stD ([], []) = S at *
      have hmd' : mdS L = S := hmd
      have hmd'' := hide hmd'
      clear hmd hmd'
      have hB0 := (unhide hr').blk
      have q0 := hB0.cell 0
      have q1 := hB0.cell 1
      have s0 := (unhide hq').cell 0
      have s1 := (unhide hq').cell 1
      have f0 := (unhide hq').frozen 0
      have f1 := (unhide hq').frozen 1
      clear hB0
      simp at q0 q1 s0 s1
      go_wp2_with fail
      refine bodyPost_ret (ret_cell1 rfl rfl (load_G2 wr ge _ _ _ _ s0 s1)) rfl ?_
      rw [unhide hmd'']
      have hk := Keep.set2 wr ge (.slice A1 S.1.length cA) (.slice B1 S.2.length cB)
      exact ⟨A1, cA, B1, cB, rfl, (unhide hr').sv.keep_G (unhide hq') ⟨_, _, _, rfl⟩ ⟨_, _, _, rfl⟩ encV_ns encV0 hk, (unhide hr').se.keep_G (unhide hq') ⟨_, _, _, rfl⟩ ⟨_, _, _, rfl⟩ encE_ns encE0 hk, (unhide hr').ext.of_new hk (by have := unhide hge'; simp; omega)⟩
end Go.Proofs.Ytdkhondfahebnaa
