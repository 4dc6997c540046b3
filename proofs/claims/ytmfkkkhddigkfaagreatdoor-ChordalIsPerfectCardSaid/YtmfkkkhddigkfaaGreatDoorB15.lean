/- Parts of a proof, laid together: Ob, Nxt, Hm, Hn. Each part says its own conditions. -/
import Derived.Test.YtmfkkkhddigkfaaGreatDoorB5
import Derived.Test.YtmfkkkhddigkfaaGreatDoorB7
import Derived.Test.YtmfkkkhddigkfaaGreatDoorB11
import Derived.Test.YtmfkkkhddigkfaaGreatDoorB12
import Derived.Test.YtmfkkkhddigkfaaGreatDoorB14
/- bitset.Of. Conditions: see each theorem. -/
namespace Go.Proofs.YtmfkkkhddigkfaaGreatDoor
open Go Go.RowKit
attribute [local go_sem] qUpon lUpon

set_option maxRecDepth 100000 in
set_option maxHeartbeats 4000000 in
theorem of_any (A : Option Addr) (L : List Int) (cL : Nat) (w : World) (hL : SlAt encI 1 w A L) (hl : L.length ≤ 4611686018427387904) :
    Calls Tryz.prog 66 #[.slice A L.length cL] w fun e w' => e = .returned (.agg (setC (fromS L))) ∧ Ext w w' := by
  have hL' := hide hL
  have hB2 := hide ((Blk.new w 51 (setC 0)).ext (ext_self1 _ (.cells (setC 0) 51)))
  have hB3 := hide (Blk.new (w.alloc (.cells (setC 0) 51)) 51 (setC 0))
  have hx1 := hide (ext_self2 w (.cells (setC 0) 51) (.cells (setC 0) 51))
  simp only [World.size_alloc] at hB3
  clear hL
  go_enter Tryz.func66, Tryz.ntmps66
  go_wp2_with fail
  have hz : setC 0 = #[.int .u64 0, .int .u64 0, .int .u64 0, .int .u64 0, .int .u64 0, .int .u64 0, .int .u64 0, .int .u64 0, .int .u64 0, .int .u64 0, .int .u64 0, .int .u64 0, .int .u64 0, .int .u64 0, .int .u64 0, .int .u64 0] := rfl
  rw [hz] at hx1 hB2 hB3
  generalize (w.alloc (.cells #[.int .u64 0, .int .u64 0, .int .u64 0, .int .u64 0, .int .u64 0, .int .u64 0, .int .u64 0, .int .u64 0, .int .u64 0, .int .u64 0, .int .u64 0, .int .u64 0, .int .u64 0, .int .u64 0, .int .u64 0, .int .u64 0] 51)).alloc (.cells #[.int .u64 0, .int .u64 0, .int .u64 0, .int .u64 0, .int .u64 0, .int .u64 0, .int .u64 0, .int .u64 0, .int .u64 0, .int .u64 0, .int .u64 0, .int .u64 0, .int .u64 0, .int .u64 0, .int .u64 0, .int .u64 0] 51) = W1 at *
  rw [← hz] at hB2 hB3
  clear hz
  go_loopw [8] (fun i wr => ∃ k : Nat, k ≤ L.length ∧ i = .int .i64 k ∧ Blk wr w.heap.size 51 (setC 0) ∧ Blk wr (w.heap.size + 1) 51 (setC (fromS (L.take k))) ∧ Ext w wr) (fun i _ => L.length - (intOf i).toNat)
  case atStart => exact ⟨0, Nat.zero_le _, rfl, unhide hB2, by rw [List.take_zero]; exact unhide hB3, unhide hx1⟩
  case round =>
    obtain ⟨k, hk, rfl, hB, hC, hx⟩ := hrel
    have hB' := hide hB
    have hC' := hide hC
    have hx' := hide hx
    clear hB2 hB3 hx1
    by_cases hlt : k < L.length
    · have hLr := (unhide hL').ext hx
      obtain ⟨b, off, rfl, c0⟩ := atI hLr hlt
      have hst := hide (fromS_next L k hlt)
      generalize L[k] = x at c0 hst
      have hself := Ext.refl wr
      clear hB hC hx hLr
      try dsimp only
      repeat (first | (with_reducible refine wp_reg (id := 5) ?_) | go_values | go_step | go_guarded | go_upon | go_in | go_back | fail)
      refine wpO_val rfl (load_SetR (N := fromS (L.take k)) rfl rfl (unhide hC').whole) ?_
      refine wpO_want rfl ?_
      go_simp
      refine wpO_want rfl ?_
      go_simp
      refine (with_any (fromS (L.take k)) x wr).mono ?_
      rintro e W7 ⟨rfl, hx7⟩
      refine ⟨_, rfl, ?_⟩
      have hC7 := (unhide hC').ext hx7
      refine wpO_skip rfl (store_SetR (N := withS (fromS (L.take k)) x) rfl rfl rfl hC7) (wpO_done ?_)
      rw [← unhide hst]
      have hC8 := hide (hC7.row (setC (fromS (L.take (k + 1)))))
      have hB8 := hide (((unhide hB').ext hx7).keep (Keep.setRow W7 (w.heap.size + 1) (setC (fromS (L.take (k + 1))))) (by simp))
      have hx8 := hide (((unhide hx').trans hx7).of_new (Keep.setRow W7 (w.heap.size + 1) (setC (fromS (L.take (k + 1))))) (by simp))
      clear hB' hC' hx' hx7 hC7 c0 hself
      generalize W7.setRow (w.heap.size + 1) (setC (fromS (L.take (k + 1)))) = W8 at *
      go_wp2_with fail
      go_roundw
      case rel => exact ⟨k + 1, by omega, by go_num, unhide hB8, unhide hC8, unhide hx8⟩
      case measure => simp [intOf]; omega
    · have hke : k = L.length := by omega
      subst hke
      rw [List.take_length] at hC'
      clear hB hC hx
      try dsimp only
      repeat (first | (with_reducible refine wp_reg (id := 7) ?_) | go_values | go_step | go_guarded | go_upon | go_in | go_back | fail)
      refine wpO_val rfl (load_SetR (N := fromS L) rfl rfl (unhide hC').whole) ?_
      refine wpO_skip rfl (store_SetR (N := fromS L) rfl rfl rfl (unhide hB')) (wpO_done ?_)
      go_wp2_with fail
      refine bodyPost_ret (ret_cell1 rfl rfl (load_Set _ w.heap.size (fromS L) ((unhide hB').row _))) rfl ?_
      exact ⟨rfl, (unhide hx').of_new (Keep.setRow wr w.heap.size _) (by simp)⟩
end Go.Proofs.YtmfkkkhddigkfaaGreatDoor
/- chordal's way.next. Conditions: see each theorem. -/
namespace Go.Proofs.YtmfkkkhddigkfaaGreatDoor
open Go Go.RowKit Go.Shelf
attribute [local go_sem] qUpon lUpon

theorem atK {w : World} {b off : Nat} {L : List Int} {S : List Nat} (h : SlAt encI 1 w (some ⟨b, off, none⟩) L) (hb : b ∉ S) {i : Nat} (hi : i < L.length) : ∀ W, Keep S w W → W.cell? ⟨b, off + i, none⟩ = some (.int .i64 L[i]) := by
  intro W hk
  obtain ⟨b', off', e, hc⟩ := atI (h.keepS hk (fun b2 o2 e hm => by injection e with e; injection e with e1 e2; subst e1; exact hb hm)) hi
  injection e with e
  injection e with e1 e2
  subst e1
  subst e2
  exact hc W (Ext.refl W)
theorem ret_cells2 {P : Program} {fn : Func} {t T u U : Nat} {tmps : Array Value} {p q : Addr} {W : World} {v1 v2 : Value} (h : fn.results = #[.cell t T, .cell u U]) (hp : tmps.getD t undef = .pointer (some p)) (hq : tmps.getD u undef = .pointer (some q)) (h1 : (loadVar T p).run P W = .ok v1 W) (h2 : (loadVar U q).run P W = .ok v2 W) :
    (results fn tmps).run P W = .ok (.tuple #[v1, v2]) W := by
  simp only [Array.getD_eq_getD_getElem?] at hp hq
  simp [results, h, hp, hq, asAddr, h1, h2]
theorem atEI {w : World} {b off : Nat} {L : List Int} (h : SlAt encI 1 w (some ⟨b, off, none⟩) L) {i : Nat} (hi : i < L.length) : ∀ W, Ext w W → W.cell? ⟨b, off + i, none⟩ = some (.int .i64 L[i]) := by
  obtain ⟨b', off', e, hc⟩ := atI h hi
  injection e with e
  injection e with e1 e2
  subst e1
  subst e2
  exact hc
/-- what may lie on, the first k vertices of the middle taken off -/
def mayK (V : List (Int × Thing)) (E : List ((Int × Int) × Thing)) (w : List Int) (k : Nat) : Nat := ((midW w).take k).foldl (fun N v => minusS N (nearS v E)) (minusS (minusS (vS V) (belS (w[0]?.getD 0 + 1))) (fromS w))
theorem mayK_next (V : List (Int × Thing)) (E : List ((Int × Int) × Thing)) (w : List Int) {k : Nat} (h : k < (midW w).length) : mayK V E w (k + 1) = minusS (mayK V E w k) (nearS (midW w)[k] E) := by
  unfold mayK
  rw [List.take_succ_eq_append_getElem h, List.foldl_append]
  rfl
theorem mayK_all (V : List (Int × Thing)) (E : List ((Int × Int) × Thing)) (w : List Int) : mayK V E w (midW w).length = mayW V E w := by
  unfold mayK mayW
  rw [List.take_length]
theorem mid_at {w : World} {b off : Nat} {L : List Int} (h : SlAt encI 1 w (some ⟨b, off, none⟩) L) (h2 : 2 ≤ L.length) : SlAt encI 1 w (some ⟨b, off + 1, none⟩) (midW L) := by
  have h1 := (h.rest 1 (L.length + 1) (by omega)).upto (L.length - 2)
  unfold restA at h1
  rw [if_neg (by omega)] at h1
  exact h1

theorem of_n (A : Option Addr) (L : List Int) (n cL : Nat) (w : World) (hn : n = L.length) (hL : SlAt encI 1 w A L) (hl : L.length ≤ 4611686018427387904) :
    Calls Tryz.prog 66 #[.slice A n cL] w fun e w' => e = .returned (.agg (setC (fromS L))) ∧ Ext w w' := by
  subst hn
  exact of_any A L cL w hL hl
set_option maxRecDepth 100000 in
set_option maxHeartbeats 16000000 in
theorem next_any (A : Option Addr) (L : List Int) (cL : Nat) (og : Option Addr) (V : List (Int × Thing)) (E : List ((Int × Int) × Thing)) (w : World) (hL : SlAt encI 1 w A L) (h2 : 2 ≤ L.length) (hl : L.length ≤ 4000) (hcL : L.length ≤ cL) (hr : ∀ x ∈ L, 0 ≤ x ∧ x < 1024) (hg : GL w og V E) :
    Calls Tryz.prog 81 #[.slice A L.length cL, .pointer og] w fun e w' => e = .returned (.tuple #[.agg (setC (nextW V E L)), .agg (setC (lastW V E L))]) ∧ Ext w w' := by
  obtain ⟨b, off, rfl, hcc⟩ := atI hL (i := 0) (by omega)
  clear hcc
  have hM := hide (mid_at hL h2)
  have hml : (midW L).length + 2 = L.length := by unfold midW; rw [List.length_take, List.length_drop]; omega
  have hr0 := hr L[0] (List.getElem_mem _)
  have hr1 := hr L[1] (List.getElem_mem _)
  have hL' := hide hL
  have hg' := hide hg
  have hb' := hide (show b < w.heap.size from by obtain ⟨b', o', e, h3, _⟩ := hL (by rintro rfl; simp at h2); injection e with e; injection e with e1 e2; subst e1; exact h3)
  have e0 : L[0]?.getD 0 = L[0] := by rw [List.getElem?_eq_getElem (by omega)]; rfl
  have e1 : L[1]?.getD 0 = L[1] := by rw [List.getElem?_eq_getElem (by omega)]; rfl
  have hlen0 : 0 < L.length := by omega
  have hlen1 : 1 < L.length := by omega
  obtain ⟨x0, hx0⟩ : ∃ x0, x0 = L[0]?.getD 0 := ⟨_, rfl⟩
  obtain ⟨x1, hx1⟩ : ∃ x1, x1 = L[1]?.getD 0 := ⟨_, rfl⟩
  have hv0 : ∀ W, SlAt encI 1 W (some ⟨b, off, none⟩) L → ∀ W', Keep [] W W' → W'.cell? ⟨b, off, none⟩ = some (.int .i64 x0) := fun W h W' hk => by rw [hx0, e0]; exact atK h (by simp) hlen0 W' hk
  have hv1 : ∀ W, SlAt encI 1 W (some ⟨b, off, none⟩) L → ∀ W', Keep [] W W' → W'.cell? ⟨b, off + 1, none⟩ = some (.int .i64 x1) := fun W h W' hk => by rw [hx1, e1]; exact atK h (by simp) hlen1 W' hk
  rw [← e0, ← hx0] at hr0
  rw [← e1, ← hx1] at hr1
  have hw0 : IntKind.i64.wrap (x0 + 1) = x0 + 1 := IntWalk.i64_in _ (by omega)
  have hw1 : IntKind.i64.wrap (x1 + 1) = x1 + 1 := IntWalk.i64_in _ (by omega)
  have hx0' := hide hx0
  have hx1' := hide hx1
  have hv0' := hide hv0
  have hv1' := hide hv1
  obtain ⟨m, hm⟩ : ∃ m, m = (midW L).length := ⟨_, rfl⟩
  obtain ⟨n, hn⟩ : ∃ n, n = L.length := ⟨_, rfl⟩
  obtain ⟨n1, hn1⟩ : ∃ n1, n1 = m + 1 := ⟨_, rfl⟩
  have hwn : IntKind.i64.wrap ((n : Int) - 1) = (n1 : Int) := by
    rw [show (n : Int) - 1 = (n1 : Int) by omega]
    exact IntWalk.i64_in _ (by omega)
  rw [← hn]
  have hlt0 : 0 < n := by omega
  have hlt1 : 1 < n := by omega
  have hmb : m ≤ 4000 := by omega
  have hlt2 : (1 : Int) < (n : Int) := by omega
  have hm' := hide hm
  have hn' := hide hn
  have hn1' := hide hn1
  have hcL' := hide hcL
  have hl' := hide hl
  have hml' := hide hml
  have h2' := hide h2
  clear hL hg hr e0 e1 hlen0 hlen1 hx0 hx1 hv0 hv1 hr0 hr1 hm hn hn1 hcL hl hml h2
  have hP := hide (Sp.new w)
  refine callsIn_wide.1 (callsIn_of_wp_marks (n := 0) Tryz.func81 rfl trivial (wpIn_wide.2 ?_))
  simp only [Tryz.ntmps81, List.size_toArray, List.length_cons, List.length_nil, Nat.reduceAdd, Nat.reduceSub, Array.replicate_succ, Array.replicate_zero, List.push_toArray, List.append_toArray, List.nil_append, List.cons_append]
  try dsimp only
  repeat ((fail_if_success (with_reducible refine wp_reg (id := 0) ?_)); (first | go_values | go_skip | go_step | go_guarded | go_upon | go_in | go_back | fail))
  with_reducible refine wp_reg (id := 0) ?_
  refine (unhide hP).allocO 51 (setC 0) rfl (run_alloc_set rfl) ?_
  intro r1 y1 hQ
  replace hP : Hid (Sp w [] w [] [(r1, 51, setC 0)] [] y1) := hide hQ
  clear hQ
  refine (unhide hP).allocO 51 (setC 0) rfl (run_alloc_set rfl) ?_
  intro r2 y2 hQ
  replace hP : Hid (Sp w [] w [] [(r1, 51, setC 0), (r2, 51, setC 0)] [] y2) := hide hQ
  clear hQ
  refine wpO_done ?_
  try go_frame
  go_wp2_with fail
  have q0 := unhide hv0' _ ((unhide hL').ext (unhide hP).extf)
  have hself := Keep.refl [] y2
  refine wp_regionK (P := Tryz.prog) [] [0,1,2,3,4,5,6,7,8,9,10] [12] 2 #[true,true,true,true,true,true,true,true,true,true,true,false,false] (by kernel_rfl) (by kernel_rfl) rfl (by rfl) ?_
  iterate 1
    refine ql_want (v := ?_) rfl (by rfl) (fun W hW => ?_) ?_
    rotate_left
    · go_simp
      first | done | rfl
    go_frame
  refine ql_want (v := .agg (setC (vS V))) rfl (by rfl) (fun W hW => ?_) ?_
  · go_simp
    refine (vsetG og V E W ((unhide hg').ext ((unhide hP).extf.trans ((Ext.refl _).of_new hW (by simp))))).mono ?_
    rintro _ _ ⟨h1, h2⟩
    exact ⟨_, h1, rfl, h2⟩
  go_frame
  iterate 4
    refine ql_want (v := ?_) rfl (by rfl) (fun W hW => ?_) ?_
    rotate_left
    · go_simp
      first | done | rfl
    go_frame
  refine ql_want (v := .agg (setC (belS (x0 + 1)))) rfl (by rfl) (fun W hW => ?_) ?_
  · go_simp
    refine (below_any (x0 + 1) W).mono ?_
    rintro _ _ ⟨h1, h2⟩
    exact ⟨_, h1, rfl, h2⟩
  go_frame
  refine ql_want (v := .agg (setC (minusS (vS V) (belS (x0 + 1))))) rfl (by rfl) (fun W hW => ?_) ?_
  · go_simp
    refine (minus_any _ _ W).mono ?_
    rintro _ _ ⟨h1, h2⟩
    exact ⟨_, h1, rfl, h2⟩
  go_frame
  iterate 1
    refine ql_want (v := ?_) rfl (by rfl) (fun W hW => ?_) ?_
    rotate_left
    · go_simp
      first | done | rfl
    go_frame
  refine ql_want (v := .agg (setC (fromS L))) rfl (by rfl) (fun W hW => ?_) ?_
  · go_simp
    refine (of_n _ L n cL W (unhide hn') ((unhide hL').ext ((unhide hP).extf.trans ((Ext.refl _).of_new hW (by simp)))) (by have := unhide hl'; omega)).mono ?_
    rintro _ _ ⟨h1, h2⟩
    exact ⟨_, h1, rfl, h2⟩
  go_frame
  refine ql_want (v := .agg (setC (minusS (minusS (vS V) (belS (x0 + 1))) (fromS L)))) rfl (by rfl) (fun W hW => ?_) ?_
  · go_simp
    refine (minus_any _ _ W).mono ?_
    rintro _ _ ⟨h1, h2⟩
    exact ⟨_, h1, rfl, h2⟩
  go_frame
  refine wpQL_nil (fun y3 hxq => ?_)
  have hK := hide (hxq.keep [])
  replace hP : Hid (Sp w [] w [] [(r1, 51, setC 0), (r2, 51, setC 0)] [] y3) := hide ((unhide hP).ext hxq)
  clear hxq
  clear q0 hself
  refine (unhide hP).allocX (unhide hK) 51 (setC 0) (j := 11) (by kernel_rfl) rfl (by rfl) #[true,true,true,true,true,true,true,true,true,true,true,true,false] (by rfl) (run_alloc_set rfl) ?_
  intro bm y4 hQ hK2
  replace hP : Hid (Sp w [] w [] [(r1, 51, setC 0), (r2, 51, setC 0), (bm, 51, setC 0)] [] y4) := hide hQ
  replace hK := hide hK2
  clear hQ hK2
  try go_frame
  refine (unhide hP).setX 2 (setC (minusS (minusS (vS V) (belS (x0 + 1))) (fromS L))) rfl (j := 12) (by kernel_rfl) rfl (by rfl) #[true,true,true,true,true,true,true,true,true,true,true,true,true] (by rfl) rfl (fun hb => store_SetR (N := minusS (minusS (vS V) (belS (x0 + 1))) (fromS L)) rfl (by rfl) (by rfl) hb) ?_
  intro y5 hQ
  replace hP : Hid (Sp w [] w [] [(r1, 51, setC 0), (r2, 51, setC 0), (bm, 51, setC (minusS (minusS (vS V) (belS (x0 + 1))) (fromS L)))] [] y5) := hide hQ
  clear hQ
  try go_frame
  refine wpX_done (by kernel_rfl) ?_
  try go_frame
  clear hK
  replace hP : Hid (Sp w [] w [] [(r1, 51, setC 0), (r2, 51, setC 0), (bm, 51, setC (mayK V E L 0))] [] y5) := hide (by have h := unhide hP; rw [show minusS (minusS (vS V) (belS (x0 + 1))) (fromS L) = mayK V E L 0 by unfold mayK; rw [List.take_zero, List.foldl_nil, ← unhide hx0']] at h; exact h)
  try dsimp only
  repeat ((fail_if_success (with_reducible refine wp_reg (id := 2) ?_)); (first | go_values | go_skip | go_step | go_guarded | go_upon | go_in | go_back | fail))
  with_reducible refine wp_reg (id := 2) ?_
  iterate 4
    refine wpO_want rfl ?_
    go_simp
  refine wpO_val rfl (run_sl_lh (k := 1) (k2 := n1) rfl rfl rfl rfl Tryz.underlying92 (Tryz.sizeOf3 _) (by have := unhide hn1'; omega) (by have := unhide hn1'; have := unhide hcL'; have := unhide hml'; have := unhide hm'; omega)) ?_
  rw [show restA (some ⟨b, off, none⟩) 1 cL 1 = some ⟨b, off + 1, none⟩ by unfold restA; rw [if_neg (by have := unhide hcL'; have := unhide h2'; omega)]; rfl, show n1 - 1 = m by have := unhide hn1'; omega]
  iterate 2
    refine wpO_want rfl ?_
    go_simp
  refine wpO_done ?_
  try go_frame
  go_wp2_with fail
  go_loopw [28] (fun i wr => ∃ k : Nat, k ≤ m ∧ i = .int .i64 k ∧ Sp w [] w [] [(r1, 51, setC 0), (r2, 51, setC 0), (bm, 51, setC (mayK V E L k))] [] wr) (fun i _ => m - (intOf i).toNat)
  case atStart => exact ⟨0, Nat.zero_le _, rfl, unhide hP⟩
  case round =>
    obtain ⟨k, hk, rfl, hPr⟩ := hrel
    clear hP
    have hP := hide hPr
    clear hPr
    by_cases hlt : k < m
    · obtain ⟨v, hv⟩ : ∃ v, v = (midW L)[k]'(by have := unhide hm'; omega) := ⟨_, rfl⟩
      have c0 := atEI ((unhide hM).ext (unhide hP).extf) (i := k) (by have := unhide hm'; omega)
      rw [← hv] at c0
      have hv' := hide hv
      clear hv
      have hself := Ext.refl wr
      go_wp2_with fail
      clear c0 hself
      refine wp_regionK (P := Tryz.prog) [] [0,1,2,3,4] [5] 1 #[true,true,true,true,true,false] (by kernel_rfl) (by kernel_rfl) rfl (by rfl) ?_
      refine ql_want (v := .agg (setC (mayK V E L k))) rfl (by rfl) (fun W hW => qUpon_ofX (load_SetR rfl rfl ((unhide hP).wholeK 2 rfl hW (by simp)))) ?_
      go_frame
      iterate 2
        refine ql_want (v := ?_) rfl (by rfl) (fun W hW => ?_) ?_
        rotate_left
        · go_simp
          first | done | rfl
        go_frame
      refine ql_want (v := .agg (setC (nearS v E))) rfl (by rfl) (fun W hW => ?_) ?_
      · go_simp
        refine (nearG og V E v W ((unhide hg').ext ((unhide hP).extf.trans ((Ext.refl _).of_new hW (by simp))))).mono ?_
        rintro _ _ ⟨h1, h2⟩
        exact ⟨_, h1, rfl, h2⟩
      go_frame
      refine ql_want (v := .agg (setC (minusS (mayK V E L k) (nearS v E)))) rfl (by rfl) (fun W hW => ?_) ?_
      · go_simp
        refine (minus_any _ _ W).mono ?_
        rintro _ _ ⟨h1, h2⟩
        exact ⟨_, h1, rfl, h2⟩
      go_frame
      refine wpQL_nil (fun y6 hxq => ?_)
      replace hP : Hid (Sp w [] w [] [(r1, 51, setC 0), (r2, 51, setC 0), (bm, 51, setC (mayK V E L k))] [] y6) := hide ((unhide hP).ext hxq)
      clear hxq
      refine (unhide hP).setX 2 (setC (minusS (mayK V E L k) (nearS v E))) rfl (j := 5) (by kernel_rfl) rfl (by rfl) #[true,true,true,true,true,true] (by rfl) rfl (fun hb => store_SetR (N := minusS (mayK V E L k) (nearS v E)) rfl (by rfl) (by rfl) hb) ?_
      intro y7 hQ
      replace hP : Hid (Sp w [] w [] [(r1, 51, setC 0), (r2, 51, setC 0), (bm, 51, setC (minusS (mayK V E L k) (nearS v E)))] [] y7) := hide hQ
      clear hQ
      try go_frame
      refine wpX_done (by kernel_rfl) ?_
      try go_frame
      go_wp2_with fail
      go_roundw
      case rel => exact ⟨k + 1, by omega, by go_num, by have h := unhide hP; rw [unhide hv', ← mayK_next V E L (by have := unhide hm'; omega)] at h; exact h⟩
      case measure => simp [intOf]; omega
    · have hke : k = m := by omega
      subst hke
      replace hP : Hid (Sp w [] w [] [(r1, 51, setC 0), (r2, 51, setC 0), (bm, 51, setC (mayW V E L))] [] wr) := hide (by have h := unhide hP; rw [unhide hm', mayK_all] at h; exact h)
      clear hlt hk
      have q0 := unhide hv0' _ ((unhide hL').ext (unhide hP).extf)
      have hself := Keep.refl [] wr
      have q0h := q0 wr hself
      try dsimp only
      repeat ((fail_if_success (with_reducible refine wp_reg (id := 7) ?_)); (first | go_values | go_skip | go_step | go_guarded | go_upon | go_in | go_back | fail))
      with_reducible refine wp_reg (id := 7) ?_
      iterate 4
        refine wpO_want rfl ?_
        go_simp
      clear q0 q0h hself
      refine wpO_want rfl ?_
      go_simp
      refine (nearG og V E x0 wr ((unhide hg').ext (unhide hP).extf)).mono ?_
      rintro _ y8 ⟨rfl, hxc⟩
      refine ⟨_, rfl, ?_⟩
      replace hP : Hid (Sp w [] w [] [(r1, 51, setC 0), (r2, 51, setC 0), (bm, 51, setC (mayW V E L))] [] y8) := hide ((unhide hP).ext hxc)
      clear hxc
      refine (unhide hP).allocO 51 (setC 0) rfl (run_alloc_set rfl) ?_
      intro bn y9 hQ
      replace hP : Hid (Sp w [] w [] [(r1, 51, setC 0), (r2, 51, setC 0), (bm, 51, setC (mayW V E L)), (bn, 51, setC 0)] [] y9) := hide hQ
      clear hQ
      refine (unhide hP).setO 3 (setC (nearS x0 E)) rfl rfl (fun hb => store_SetR (N := nearS x0 E) rfl rfl rfl hb) ?_
      intro y10 hQ
      replace hP : Hid (Sp w [] w [] [(r1, 51, setC 0), (r2, 51, setC 0), (bm, 51, setC (mayW V E L)), (bn, 51, setC (nearS x0 E))] [] y10) := hide hQ
      clear hQ
      refine wpO_done ?_
      try go_frame
      have q1 := unhide hv1' _ ((unhide hL').ext (unhide hP).extf)
      have hself := Keep.refl [] y10
      have q1h := q1 y10 hself
      clear q1h
      go_wp2_with fail
      refine wp_regionK (P := Tryz.prog) [] [0,1,2,3,4,5,6,7,8] [10] 2 #[true,true,true,true,true,true,true,true,true,false,false] (by kernel_rfl) (by kernel_rfl) rfl (by rfl) ?_
      refine ql_want (v := .agg (setC (mayW V E L))) rfl (by rfl) (fun W hW => qUpon_ofX (load_SetR rfl rfl ((unhide hP).wholeK 2 rfl hW (by simp)))) ?_
      go_frame
      refine ql_want (v := .agg (setC (nearS x0 E))) rfl (by rfl) (fun W hW => qUpon_ofX (load_SetR rfl rfl ((unhide hP).wholeK 3 rfl hW (by simp)))) ?_
      go_frame
      refine ql_want (v := .agg (setC (mayW V E L &&& nearS x0 E))) rfl (by rfl) (fun W hW => ?_) ?_
      · go_simp
        refine (inter_any _ _ W).mono ?_
        rintro _ _ ⟨h1, h2⟩
        exact ⟨_, h1, rfl, h2⟩
      go_frame
      iterate 4
        refine ql_want (v := ?_) rfl (by rfl) (fun W hW => ?_) ?_
        rotate_left
        · go_simp
          first | done | rfl
        go_frame
      refine ql_want (v := .agg (setC (belS (x1 + 1)))) rfl (by rfl) (fun W hW => ?_) ?_
      · go_simp
        refine (below_any (x1 + 1) W).mono ?_
        rintro _ _ ⟨h1, h2⟩
        exact ⟨_, h1, rfl, h2⟩
      go_frame
      refine ql_want (v := .agg (setC (minusS (mayW V E L &&& nearS x0 E) (belS (x1 + 1))))) rfl (by rfl) (fun W hW => ?_) ?_
      · go_simp
        refine (minus_any _ _ W).mono ?_
        rintro _ _ ⟨h1, h2⟩
        exact ⟨_, h1, rfl, h2⟩
      go_frame
      refine wpQL_nil (fun y11 hxq => ?_)
      have hK := hide (hxq.keep [])
      replace hP : Hid (Sp w [] w [] [(r1, 51, setC 0), (r2, 51, setC 0), (bm, 51, setC (mayW V E L)), (bn, 51, setC (nearS x0 E))] [] y11) := hide ((unhide hP).ext hxq)
      clear hxq
      clear q1 hself
      refine (unhide hP).allocX (unhide hK) 51 (setC 0) (j := 9) (by kernel_rfl) rfl (by rfl) #[true,true,true,true,true,true,true,true,true,true,false] (by rfl) (run_alloc_set rfl) ?_
      intro ba y12 hQ hK2
      replace hP : Hid (Sp w [] w [] [(r1, 51, setC 0), (r2, 51, setC 0), (bm, 51, setC (mayW V E L)), (bn, 51, setC (nearS x0 E)), (ba, 51, setC 0)] [] y12) := hide hQ
      replace hK := hide hK2
      clear hQ hK2
      try go_frame
      refine (unhide hP).setX 4 (setC (minusS (mayW V E L &&& nearS x0 E) (belS (x1 + 1)))) rfl (j := 10) (by kernel_rfl) rfl (by rfl) #[true,true,true,true,true,true,true,true,true,true,true] (by rfl) rfl (fun hb => store_SetR (N := minusS (mayW V E L &&& nearS x0 E) (belS (x1 + 1))) rfl (by rfl) (by rfl) hb) ?_
      intro y13 hQ
      replace hP : Hid (Sp w [] w [] [(r1, 51, setC 0), (r2, 51, setC 0), (bm, 51, setC (mayW V E L)), (bn, 51, setC (nearS x0 E)), (ba, 51, setC (minusS (mayW V E L &&& nearS x0 E) (belS (x1 + 1))))] [] y13) := hide hQ
      clear hQ
      try go_frame
      refine wpX_done (by kernel_rfl) ?_
      try go_frame
      clear hK
      have hfin : ∀ (Z : Nat) (us : Array Value) (W : World), Hid (Sp w [] w [] [(r1, 51, setC 0), (r2, 51, setC 0), (bm, 51, setC (mayW V E L)), (bn, 51, setC (nearS x0 E)), (ba, 51, setC Z)] [] W) → Z = lastW V E L → us.getD 4 undef = .pointer (some ⟨r1, 0, none⟩) → True := fun _ _ _ _ _ _ => trivial
      clear hfin
      by_cases hn2 : n = 2
      · subst hn2
        have q1 := unhide hv1' _ ((unhide hL').ext (unhide hP).extf)
        have hself := Keep.refl [] y13
        go_wp2_with fail
        refine wp_regionK (P := Tryz.prog) [] [0,1,2,3,4,5,6] [7] 1 #[true,true,true,true,true,true,true,false] (by kernel_rfl) (by kernel_rfl) rfl (by rfl) ?_
        refine ql_want (v := .agg (setC (minusS (mayW V E L &&& nearS x0 E) (belS (x1 + 1))))) rfl (by rfl) (fun W hW => qUpon_ofX (load_SetR rfl rfl ((unhide hP).wholeK 4 rfl hW (by simp)))) ?_
        go_frame
        iterate 4
          refine ql_want (v := ?_) rfl (by rfl) (fun W hW => ?_) ?_
          rotate_left
          · go_simp
            first | done | rfl
          go_frame
        refine ql_want (v := .agg (setC (nearS x1 E))) rfl (by rfl) (fun W hW => ?_) ?_
        · go_simp
          refine (nearG og V E x1 W ((unhide hg').ext ((unhide hP).extf.trans ((Ext.refl _).of_new hW (by simp))))).mono ?_
          rintro _ _ ⟨h1, h2⟩
          exact ⟨_, h1, rfl, h2⟩
        go_frame
        refine ql_want (v := .agg (setC (minusS (minusS (mayW V E L &&& nearS x0 E) (belS (x1 + 1))) (nearS x1 E)))) rfl (by rfl) (fun W hW => ?_) ?_
        · go_simp
          refine (minus_any _ _ W).mono ?_
          rintro _ _ ⟨h1, h2⟩
          exact ⟨_, h1, rfl, h2⟩
        go_frame
        refine wpQL_nil (fun y14 hxq => ?_)
        replace hP : Hid (Sp w [] w [] [(r1, 51, setC 0), (r2, 51, setC 0), (bm, 51, setC (mayW V E L)), (bn, 51, setC (nearS x0 E)), (ba, 51, setC (minusS (mayW V E L &&& nearS x0 E) (belS (x1 + 1))))] [] y14) := hide ((unhide hP).ext hxq)
        clear hxq
        clear q1 hself
        refine (unhide hP).setX 4 (setC (minusS (minusS (mayW V E L &&& nearS x0 E) (belS (x1 + 1))) (nearS x1 E))) rfl (j := 7) (by kernel_rfl) rfl (by rfl) #[true,true,true,true,true,true,true,true] (by rfl) rfl (fun hb => store_SetR (N := minusS (minusS (mayW V E L &&& nearS x0 E) (belS (x1 + 1))) (nearS x1 E)) rfl (by rfl) (by rfl) hb) ?_
        intro y15 hQ
        replace hP : Hid (Sp w [] w [] [(r1, 51, setC 0), (r2, 51, setC 0), (bm, 51, setC (mayW V E L)), (bn, 51, setC (nearS x0 E)), (ba, 51, setC (minusS (minusS (mayW V E L &&& nearS x0 E) (belS (x1 + 1))) (nearS x1 E)))] [] y15) := hide hQ
        clear hQ
        try go_frame
        refine wpX_done (by kernel_rfl) ?_
        try go_frame
        go_wp2_with fail
        refine wp_regionK (P := Tryz.prog) [r1] [0,1,2,3] [5] 2 #[true,true,true,true,false,false] (by kernel_rfl) (by kernel_rfl) rfl (by rfl) ?_
        refine ql_want (v := .agg (setC (mayW V E L))) rfl (by rfl) (fun W hW => qUpon_ofX (load_SetR rfl rfl ((unhide hP).wholeK 2 rfl hW (by rw [List.mem_singleton]; exact (unhide hP).ne 2 0 (by decide) rfl rfl)))) ?_
        go_frame
        refine ql_want (v := .agg (setC (nearS x0 E))) rfl (by rfl) (fun W hW => qUpon_ofX (load_SetR rfl rfl ((unhide hP).wholeK 3 rfl hW (by rw [List.mem_singleton]; exact (unhide hP).ne 3 0 (by decide) rfl rfl)))) ?_
        go_frame
        refine ql_want (v := .agg (setC (minusS (mayW V E L) (nearS x0 E)))) rfl (by rfl) (fun W hW => ?_) ?_
        · go_simp
          refine (minus_any _ _ W).mono ?_
          rintro _ _ ⟨h1, h2⟩
          exact ⟨_, h1, rfl, h2⟩
        go_frame
        refine ql_want (v := .agg (setC (minusS (minusS (mayW V E L &&& nearS x0 E) (belS (x1 + 1))) (nearS x1 E)))) rfl (by rfl) (fun W hW => qUpon_ofX (load_SetR rfl rfl ((unhide hP).wholeK 4 rfl hW (by rw [List.mem_singleton]; exact (unhide hP).ne 4 0 (by decide) rfl rfl)))) ?_
        go_frame
        refine wpQL_nil (fun y16 hxq => ?_)
        have hK := hide (hxq.keep [r1])
        replace hP : Hid (Sp w [] w [] [(r1, 51, setC 0), (r2, 51, setC 0), (bm, 51, setC (mayW V E L)), (bn, 51, setC (nearS x0 E)), (ba, 51, setC (minusS (minusS (mayW V E L &&& nearS x0 E) (belS (x1 + 1))) (nearS x1 E)))] [] y16) := hide ((unhide hP).ext hxq)
        clear hxq
        refine (unhide hP).setXK (unhide hK) 0 (setC (minusS (mayW V E L) (nearS x0 E))) rfl (by simp) (j := 4) (by kernel_rfl) rfl (by rfl) #[true,true,true,true,true,false] (by rfl) (fun hb => store_SetR (N := minusS (mayW V E L) (nearS x0 E)) rfl (by rfl) (by rfl) hb) ?_
        intro y17 hQ hK2
        replace hP : Hid (Sp w [] w [] [(r1, 51, setC (minusS (mayW V E L) (nearS x0 E))), (r2, 51, setC 0), (bm, 51, setC (mayW V E L)), (bn, 51, setC (nearS x0 E)), (ba, 51, setC (minusS (minusS (mayW V E L &&& nearS x0 E) (belS (x1 + 1))) (nearS x1 E)))] [] y17) := hide hQ
        replace hK := hide hK2
        clear hQ hK2
        try go_frame
        clear hK
        refine (unhide hP).setX 1 (setC (minusS (minusS (mayW V E L &&& nearS x0 E) (belS (x1 + 1))) (nearS x1 E))) rfl (j := 5) (by kernel_rfl) rfl (by rfl) #[true,true,true,true,true,true] (by rfl) rfl (fun hb => store_SetR (N := minusS (minusS (mayW V E L &&& nearS x0 E) (belS (x1 + 1))) (nearS x1 E)) rfl (by rfl) (by rfl) hb) ?_
        intro y18 hQ
        replace hP : Hid (Sp w [] w [] [(r1, 51, setC (minusS (mayW V E L) (nearS x0 E))), (r2, 51, setC (minusS (minusS (mayW V E L &&& nearS x0 E) (belS (x1 + 1))) (nearS x1 E))), (bm, 51, setC (mayW V E L)), (bn, 51, setC (nearS x0 E)), (ba, 51, setC (minusS (minusS (mayW V E L &&& nearS x0 E) (belS (x1 + 1))) (nearS x1 E)))] [] y18) := hide hQ
        clear hQ
        try go_frame
        refine wpX_done (by kernel_rfl) ?_
        try go_frame
        go_wp2_with fail
        refine (unhide hP).leaves ?_
        intro w' hx hst
        refine ⟨_, ret_cells2 (t := 4) (u := 5) rfl rfl rfl (load_Set _ r1 _ (hst.get 0 rfl)) (load_Set _ r2 _ (hst.get 1 rfl)), ?_, hx⟩
        rw [show nextW V E L = minusS (mayW V E L) (nearS x0 E) by unfold nextW; rw [← unhide hx0']]
        rw [show lastW V E L = minusS (minusS (mayW V E L &&& nearS x0 E) (belS (x1 + 1))) (nearS x1 E) by unfold lastW; rw [if_pos (unhide hn').symm, ← unhide hx0', ← unhide hx1']]
      · skip
        go_wp2_with fail
        refine wp_regionK (P := Tryz.prog) [r1] [0,1,2,3] [5] 2 #[true,true,true,true,false,false] (by kernel_rfl) (by kernel_rfl) rfl (by rfl) ?_
        refine ql_want (v := .agg (setC (mayW V E L))) rfl (by rfl) (fun W hW => qUpon_ofX (load_SetR rfl rfl ((unhide hP).wholeK 2 rfl hW (by rw [List.mem_singleton]; exact (unhide hP).ne 2 0 (by decide) rfl rfl)))) ?_
        go_frame
        refine ql_want (v := .agg (setC (nearS x0 E))) rfl (by rfl) (fun W hW => qUpon_ofX (load_SetR rfl rfl ((unhide hP).wholeK 3 rfl hW (by rw [List.mem_singleton]; exact (unhide hP).ne 3 0 (by decide) rfl rfl)))) ?_
        go_frame
        refine ql_want (v := .agg (setC (minusS (mayW V E L) (nearS x0 E)))) rfl (by rfl) (fun W hW => ?_) ?_
        · go_simp
          refine (minus_any _ _ W).mono ?_
          rintro _ _ ⟨h1, h2⟩
          exact ⟨_, h1, rfl, h2⟩
        go_frame
        refine ql_want (v := .agg (setC (minusS (mayW V E L &&& nearS x0 E) (belS (x1 + 1))))) rfl (by rfl) (fun W hW => qUpon_ofX (load_SetR rfl rfl ((unhide hP).wholeK 4 rfl hW (by rw [List.mem_singleton]; exact (unhide hP).ne 4 0 (by decide) rfl rfl)))) ?_
        go_frame
        refine wpQL_nil (fun y14 hxq => ?_)
        have hK := hide (hxq.keep [r1])
        replace hP : Hid (Sp w [] w [] [(r1, 51, setC 0), (r2, 51, setC 0), (bm, 51, setC (mayW V E L)), (bn, 51, setC (nearS x0 E)), (ba, 51, setC (minusS (mayW V E L &&& nearS x0 E) (belS (x1 + 1))))] [] y14) := hide ((unhide hP).ext hxq)
        clear hxq
        refine (unhide hP).setXK (unhide hK) 0 (setC (minusS (mayW V E L) (nearS x0 E))) rfl (by simp) (j := 4) (by kernel_rfl) rfl (by rfl) #[true,true,true,true,true,false] (by rfl) (fun hb => store_SetR (N := minusS (mayW V E L) (nearS x0 E)) rfl (by rfl) (by rfl) hb) ?_
        intro y15 hQ hK2
        replace hP : Hid (Sp w [] w [] [(r1, 51, setC (minusS (mayW V E L) (nearS x0 E))), (r2, 51, setC 0), (bm, 51, setC (mayW V E L)), (bn, 51, setC (nearS x0 E)), (ba, 51, setC (minusS (mayW V E L &&& nearS x0 E) (belS (x1 + 1))))] [] y15) := hide hQ
        replace hK := hide hK2
        clear hQ hK2
        try go_frame
        clear hK
        refine (unhide hP).setX 1 (setC (minusS (mayW V E L &&& nearS x0 E) (belS (x1 + 1)))) rfl (j := 5) (by kernel_rfl) rfl (by rfl) #[true,true,true,true,true,true] (by rfl) rfl (fun hb => store_SetR (N := minusS (mayW V E L &&& nearS x0 E) (belS (x1 + 1))) rfl (by rfl) (by rfl) hb) ?_
        intro y16 hQ
        replace hP : Hid (Sp w [] w [] [(r1, 51, setC (minusS (mayW V E L) (nearS x0 E))), (r2, 51, setC (minusS (mayW V E L &&& nearS x0 E) (belS (x1 + 1)))), (bm, 51, setC (mayW V E L)), (bn, 51, setC (nearS x0 E)), (ba, 51, setC (minusS (mayW V E L &&& nearS x0 E) (belS (x1 + 1))))] [] y16) := hide hQ
        clear hQ
        try go_frame
        refine wpX_done (by kernel_rfl) ?_
        try go_frame
        go_wp2_with fail
        refine (unhide hP).leaves ?_
        intro w' hx hst
        refine ⟨_, ret_cells2 (t := 4) (u := 5) rfl rfl rfl (load_Set _ r1 _ (hst.get 0 rfl)) (load_Set _ r2 _ (hst.get 1 rfl)), ?_, hx⟩
        rw [show nextW V E L = minusS (mayW V E L) (nearS x0 E) by unfold nextW; rw [← unhide hx0']]
        rw [show lastW V E L = minusS (mayW V E L &&& nearS x0 E) (belS (x1 + 1)) by unfold lastW; rw [if_neg (fun h => hn2 ((unhide hn').trans h)), ← unhide hx0', ← unhide hx1']]
end Go.Proofs.YtmfkkkhddigkfaaGreatDoor
/- HOLES, plain: the length of a shortest hole with a given beginning. No program in sight. Conditions: see each theorem. -/
namespace Go.Proofs.YtmfkkkhddigkfaaGreatDoor
open Go

section
variable {V : List (Int × Thing)} {E : List ((Int × Int) × Thing)}
theorem belS_bit1 (n : Int) (k : Nat) : (belS n).testBit k = decide (k < min n.toNat 1024) := by
  unfold belS
  rw [Nat.testBit_two_pow_sub_one]
theorem mem_bel {n x : Int} : x ∈ toL (belS n) ↔ 0 ≤ x ∧ x < 1024 ∧ x < n := by
  rw [mem_toL', belS_bit1, decide_eq_true_eq]
  constructor
  · rintro ⟨h1, h2, h3⟩
    exact ⟨h1, h2, by omega⟩
  · rintro ⟨h1, h2, h3⟩
    exact ⟨h1, h2, by omega⟩
theorem mem_fold_minus (hi : GInv V E) {x : Int} (l : List Int) : ∀ a : Nat, x ∈ toL (l.foldl (fun N v => minusS N (nearS v E)) a) ↔ x ∈ toL a ∧ ∀ v ∈ l, ¬ hasE v x E = true := by
  induction l with
  | nil => intro a; simp
  | cons v l ih =>
    intro a
    rw [List.foldl_cons, ih, mem_minus, mem_near hi]
    constructor
    · rintro ⟨⟨h1, h2⟩, h3⟩
      refine ⟨h1, fun y hy => ?_⟩
      rcases List.mem_cons.1 hy with rfl | hy
      · exact h2
      · exact h3 y hy
    · rintro ⟨h1, h2⟩
      exact ⟨⟨h1, h2 v (by simp)⟩, fun y hy => h2 y (by simp [hy])⟩
/-- a way, taken apart -/
def wayL (s : Int) (mid : List Int) (u : Int) : List Int := (s :: mid) ++ [u]
theorem way_len (s : Int) (mid : List Int) (u : Int) : (wayL s mid u).length = mid.length + 2 := by simp [wayL]
theorem way_mid (s : Int) (mid : List Int) (u : Int) : midW (wayL s mid u) = mid := by simp [midW, wayL]
theorem way_0 (s : Int) (mid : List Int) (u : Int) : (wayL s mid u)[0]?.getD 0 = s := by simp [wayL]
theorem way_last (s : Int) (mid : List Int) (u : Int) : (wayL s mid u).getLastD 0 = u := by
  unfold wayL
  rw [List.getLastD_eq_getLast?, List.getLast?_concat]
  rfl
theorem way_1 (s : Int) (mid : List Int) (u : Int) : (wayL s mid u)[1]?.getD 0 = (mid ++ [u]).headD 0 := by
  cases mid <;> simp [wayL]
theorem way_mem {s u x : Int} {mid : List Int} : x ∈ wayL s mid u ↔ x = s ∨ x ∈ mid ∨ x = u := by simp [wayL]
theorem mem_mayW (hi : GInv V E) {s u x : Int} {mid : List Int} : x ∈ toL (mayW V E (wayL s mid u)) ↔ x ∈ V.map (·.1) ∧ s < x ∧ x ∉ wayL s mid u ∧ ∀ v ∈ mid, ¬ hasE v x E = true := by
  unfold mayW
  rw [way_mid, way_0, mem_fold_minus hi, mem_minus, mem_minus, mem_vS hi, mem_bel, mem_from]
  constructor
  · rintro ⟨⟨⟨h1, h2⟩, h3⟩, h4⟩
    have hr := ids_rng hi h1
    exact ⟨h1, by omega, fun h => h3 ⟨hr.1, hr.2, h⟩, h4⟩
  · rintro ⟨h1, h2, h3, h4⟩
    exact ⟨⟨⟨h1, by omega⟩, fun h => h3 h.2.2⟩, h4⟩
theorem mem_nextW (hi : GInv V E) {s u x : Int} {mid : List Int} : x ∈ toL (nextW V E (wayL s mid u)) ↔ x ∈ V.map (·.1) ∧ s < x ∧ x ∉ wayL s mid u ∧ (∀ v ∈ mid, ¬ hasE v x E = true) ∧ ¬ hasE s x E = true := by
  unfold nextW
  rw [mem_minus, mem_mayW hi, way_0, mem_near hi]
  constructor
  · rintro ⟨⟨h1, h2, h3, h4⟩, h5⟩; exact ⟨h1, h2, h3, h4, h5⟩
  · rintro ⟨h1, h2, h3, h4, h5⟩; exact ⟨⟨h1, h2, h3, h4⟩, h5⟩
theorem mem_lastW (hi : GInv V E) {s u x : Int} {mid : List Int} : x ∈ toL (lastW V E (wayL s mid u)) ↔ (x ∈ V.map (·.1) ∧ s < x ∧ x ∉ wayL s mid u ∧ ∀ v ∈ mid, ¬ hasE v x E = true) ∧ hasE s x E = true ∧ (mid ++ [u]).headD 0 < x ∧ (mid = [] → ¬ hasE u x E = true) := by
  have h0 : x ∈ toL (minusS (mayW V E (wayL s mid u) &&& nearS s E) (belS ((mid ++ [u]).headD 0 + 1))) ↔ (x ∈ V.map (·.1) ∧ s < x ∧ x ∉ wayL s mid u ∧ ∀ v ∈ mid, ¬ hasE v x E = true) ∧ hasE s x E = true ∧ (mid ++ [u]).headD 0 < x := by
    rw [mem_minus, mem_and, mem_mayW hi, mem_near hi, mem_bel]
    constructor
    · rintro ⟨⟨h1, h2⟩, h3⟩
      have hr := ids_rng hi h1.1
      exact ⟨h1, h2, by omega⟩
    · rintro ⟨h1, h2, h3⟩
      exact ⟨⟨h1, h2⟩, by omega⟩
  unfold lastW
  rw [way_len, way_0, way_1]
  split
  · rename_i hl
    have hm : mid = [] := List.eq_nil_of_length_eq_zero (by omega)
    rw [mem_minus, h0, mem_near hi]
    constructor
    · rintro ⟨⟨h1, h2, h3⟩, h4⟩
      refine ⟨h1, h2, h3, fun _ => ?_⟩
      subst hm
      simpa using h4
    · rintro ⟨h1, h2, h3, h4⟩
      refine ⟨⟨h1, h2, h3⟩, ?_⟩
      have := h4 hm
      subst hm
      simpa using this
  · rename_i hl
    rw [h0]
    constructor
    · rintro ⟨h1, h2, h3⟩
      exact ⟨h1, h2, h3, fun hm => by rw [hm] at hl; simp at hl⟩
    · rintro ⟨h1, h2, h3, _⟩
      exact ⟨h1, h2, h3⟩

theorem ind_glue {u : Int} {r : List Int} : ∀ {p : List Int}, Ind E (p ++ [u]) → Ind E (u :: r) → (∀ a ∈ p, ∀ b ∈ r, ¬ hasE a b E = true ∧ a ≠ b) → Ind E (p ++ u :: r)
  | [], _, h, _ => h
  | [a], h1, h2, h3 => ⟨h1.1, fun z hz => h3 a (by simp) z hz, h2⟩
  | a :: b :: p, h1, h2, h3 => by
    have ih := ind_glue (p := b :: p) h1.2.2 h2 (fun x hx => h3 x (by simp [hx]))
    refine ⟨h1.1, fun z hz => ?_, ih⟩
    rcases List.mem_append.1 hz with hz | hz
    · exact h1.2.1 z (by simp [hz])
    · rcases List.mem_cons.1 hz with rfl | hz
      · exact h1.2.1 z (by simp)
      · exact h3 a (by simp) z hz
theorem cyc_snoc (hi : GInv V E) {m : List Int} {x : Int} (hl : 3 ≤ m.length) (hq : Ind E m) (hv : ∀ k (hk : k < m.length), m[k] ≠ x ∧ (hasE m[k] x E = true ↔ k = 0 ∨ k + 1 = m.length)) : Cyc E (m ++ [x]) := by
  have hlen : (m ++ [x]).length = m.length + 1 := by simp
  refine ⟨by omega, fun i k h1 h2 h3 => ?_⟩
  have him : i < m.length := by omega
  rw [List.getElem_append_left him]
  by_cases hk : k < m.length
  · rw [List.getElem_append_left hk]
    have := ind_get hi hq i k him hk h3
    refine ⟨this.1, this.2.trans ⟨fun h => .inl h, fun h => ?_⟩⟩
    rcases h with h | ⟨_, h⟩
    · exact h
    · omega
  · have hke : k = m.length := by omega
    subst hke
    rw [List.getElem_append_right (Nat.le_refl _)]
    simp only [Nat.sub_self, List.getElem_cons_zero]
    have := hv i him
    refine ⟨this.1, this.2.trans ⟨fun h => ?_, fun h => ?_⟩⟩
    · rcases h with h | h
      · exact .inr ⟨h, by omega⟩
      · exact .inl (by omega)
    · rcases h with h | ⟨h, _⟩
      · exact .inr (by omega)
      · exact .inl h
theorem wlk_get : ∀ {l : List Int}, (∀ i (h : i + 1 < l.length), hasE l[i] l[i + 1] E = true) → Wlk E l
  | [], _ => trivial
  | [_], _ => trivial
  | x :: y :: l, h => ⟨h 0 (by simp), wlk_get fun i hi => by
      have := h (i + 1) (by simpa using hi)
      simpa using this⟩
/-- the hole that the search has found -/
theorem short_hole (hi : GInv V E) {s u : Int} {mid : List Int} (hw : Ind E (wayL s mid u)) (hlo : ∀ z ∈ mid ++ [u], s < z) (h : 0 < shortS V E (wayL s mid u)) :
    ∃ r x, Cyc E (wayL s mid u ++ r ++ [x]) ∧ (∀ z ∈ mid ++ [u] ++ r ++ [x], s < z) ∧ (mid ++ [u]).headD 0 < x ∧ shortS V E (wayL s mid u) = ((wayL s mid u ++ r ++ [x]).length : Int) := by
  unfold shortS at h ⊢
  rw [way_last] at h ⊢
  obtain ⟨u', r, x, h1, h2, h3, h4, h5, h6⟩ := short_way hi 1025 _ 0 _ (by omega) h
  have hu : u' = u := by
    have := (mem_from.1 h1).2.2
    simpa using this
  subst hu
  obtain ⟨⟨g1, g2, g3, g4⟩, g5, g6, g7⟩ := (mem_lastW hi).1 h3
  have hr : ∀ z ∈ r, z ∈ V.map (·.1) ∧ s < z ∧ z ∉ wayL s mid u' ∧ (∀ v ∈ mid, ¬ hasE v z E = true) ∧ ¬ hasE s z E = true := fun z hz => (mem_nextW hi).1 (h2 z hz).1
  have hind : Ind E ((s :: mid) ++ u' :: r) := ind_glue hw h4 fun a ha b hb => by
    obtain ⟨_, q2, q3, q4, q5⟩ := hr b hb
    refine ⟨?_, fun e => q3 (e ▸ way_mem.2 ?_)⟩
    · rcases List.mem_cons.1 ha with rfl | ha
      · exact q5
      · exact q4 a ha
    · rcases List.mem_cons.1 ha with h | h
      · exact .inl h
      · exact .inr (.inl h)
  have hlist : wayL s mid u' ++ r = (s :: mid) ++ u' :: r := by simp [wayL]
  have hne : ¬ (mid = [] ∧ r = []) := fun ⟨e1, e2⟩ => by
    have := (h5 0 (by simp)).2 (by rw [e2]; rfl)
    exact g7 e1 (by simpa using this)
  have hl3 : 3 ≤ ((s :: mid) ++ u' :: r).length := by
    simp only [List.length_append, List.length_cons]
    rcases Nat.eq_zero_or_pos mid.length with hm | hm
    · rcases Nat.eq_zero_or_pos r.length with hr0 | hr0
      · exact absurd ⟨List.eq_nil_of_length_eq_zero hm, List.eq_nil_of_length_eq_zero hr0⟩ hne
      · omega
    · omega
  refine ⟨r, x, ?_, fun z hz => ?_, g6, ?_⟩
  · rw [hlist]
    refine cyc_snoc hi hl3 hind fun k hk => ?_
    rcases Nat.lt_or_ge k (s :: mid).length with hk1 | hk1
    · rw [List.getElem_append_left hk1]
      cases k with
      | zero =>
        simp only [List.getElem_cons_zero]
        exact ⟨fun e => g3 (e ▸ way_mem.2 (.inl rfl)), fun _ => by simp, fun _ => g5⟩
      | succ k =>
        simp only [List.getElem_cons_succ]
        have hkm : k < mid.length := by simpa using hk1
        refine ⟨fun e => g3 (e ▸ way_mem.2 (.inr (.inl (List.getElem_mem hkm)))), fun hc => absurd hc (g4 _ (List.getElem_mem hkm)), fun hc => ?_⟩
        simp only [List.length_append, List.length_cons] at hc
        omega
    · have hk2 : k - (s :: mid).length < (u' :: r).length := by
        rw [List.length_append] at hk
        omega
      rw [List.getElem_append_right hk1]
      have := h5 _ hk2
      refine ⟨fun e => ?_, this.trans ?_⟩
      · obtain ⟨j, hj⟩ : ∃ j, j = k - (s :: mid).length := ⟨_, rfl⟩
        have hmem : x ∈ u' :: r := by rw [← e]; exact List.getElem_mem hk2
        rcases List.mem_cons.1 hmem with h8 | h8
        · exact g3 (way_mem.2 (.inr (.inr h8)))
        · exact (hr x h8).2.2.2.2 g5
      · simp only [List.length_append, List.length_cons] at hk hk1 ⊢
        omega
  · simp only [List.mem_append, List.mem_singleton] at hz
    rcases hz with ((h8 | h8) | h8) | h8
    · exact hlo z (by simp [h8])
    · exact hlo z (by simp [h8])
    · exact (hr z h8).2.1
    · rw [h8]; exact g2
  · rw [h6, way_len]
    simp only [List.length_append, way_len, List.length_singleton]
    push_cast
    omega
/-- what a hole with this beginning goes through -/
theorem hole_mem (hi : GInv V E) {s u x : Int} {mid r : List Int} (hc : Cyc E (wayL s mid u ++ r ++ [x])) (hlo : ∀ z ∈ mid ++ [u] ++ r ++ [x], s < z) (hx : (mid ++ [u]).headD 0 < x) :
    x ∈ toL (lastW V E (wayL s mid u)) ∧ (∀ z ∈ r, z ∈ toL (nextW V E (wayL s mid u))) ∧ Wlk E ((u :: r) ++ [x]) ∧ 0 ≤ u ∧ u < 1024 := by
  obtain ⟨h4, hg⟩ := hc
  have hlen : (wayL s mid u ++ r ++ [x]).length = mid.length + 2 + r.length + 1 := by simp only [List.length_append, way_len, List.length_singleton]
  have hW : ∀ i (h : i < (wayL s mid u).length), (wayL s mid u ++ r ++ [x])[i]'(by rw [hlen]; rw [way_len] at h; omega) = (wayL s mid u)[i] := fun i h => by
    rw [List.getElem_append_left (by rw [List.length_append]; omega), List.getElem_append_left h]
  have hR : ∀ j (h : j < r.length), (wayL s mid u ++ r ++ [x])[mid.length + 2 + j]'(by omega) = r[j] := fun j h => by
    rw [List.getElem_append_left (by rw [List.length_append, way_len]; omega), List.getElem_append_right (by rw [way_len]; omega)]
    congr 1
    rw [way_len]; omega
  have hX : (wayL s mid u ++ r ++ [x])[mid.length + 2 + r.length]'(by omega) = x := by
    rw [List.getElem_append_right (by rw [List.length_append, way_len]; omega)]
    simp [way_len]
  have h0 : (wayL s mid u ++ r ++ [x])[0]'(by omega) = s := by simp [wayL]
  have hM : ∀ i (h : i < mid.length), (wayL s mid u ++ r ++ [x])[i + 1]'(by omega) = mid[i] := fun i h => by
    rw [hW (i + 1) (by rw [way_len]; omega)]
    unfold wayL
    rw [List.getElem_append_left (by simp; omega)]
    simp
  have hU : (wayL s mid u ++ r ++ [x])[mid.length + 1]'(by omega) = u := by
    rw [hW (mid.length + 1) (by rw [way_len]; omega)]
    unfold wayL
    rw [List.getElem_append_right (by simp)]
    simp
  have hwlk : Wlk E (wayL s mid u ++ r ++ [x]) := wlk_get fun i h => ((hg i (i + 1) (by omega) h (by omega)).2).2 (.inl rfl)
  have hnot : ∀ j, mid.length + 2 ≤ j → (h : j < (wayL s mid u ++ r ++ [x]).length) → (wayL s mid u ++ r ++ [x])[j] ∉ wayL s mid u ∧ ∀ v ∈ mid, ¬ hasE v (wayL s mid u ++ r ++ [x])[j] E = true := fun j hj h => by
    refine ⟨fun hm => ?_, fun v hv => ?_⟩
    · obtain ⟨i, hi1, e⟩ := List.getElem_of_mem hm
      have hi2 : i < mid.length + 2 := by rw [way_len] at hi1; exact hi1
      have := (hg i j (by omega) h (by omega)).1
      rw [hW i hi1] at this
      exact this e
    · obtain ⟨i, hi1, rfl⟩ := List.getElem_of_mem hv
      intro hc
      have hadj := (hg (i + 1) j (by omega) h (by omega)).2
      rw [hM i hi1] at hadj
      have := hadj.1 hc
      omega
  have hids : ∀ j, 0 < j → (h : j < (wayL s mid u ++ r ++ [x]).length) → (wayL s mid u ++ r ++ [x])[j] ∈ V.map (·.1) := fun j hj h => by
    have := ((hg (j - 1) j (by omega) h (by omega)).2).2 (.inl (by omega))
    exact (hasE_rng hi this).2
  have hxl : x ∈ toL (lastW V E (wayL s mid u)) := by
    have hn := hnot (mid.length + 2 + r.length) (by omega) (by omega)
    rw [hX] at hn
    have hi2 := hids (mid.length + 2 + r.length) (by omega) (by omega)
    rw [hX] at hi2
    refine (mem_lastW hi).2 ⟨⟨hi2, hlo x (by simp), hn.1, hn.2⟩, ?_, hx, fun hm hc => ?_⟩
    · have := ((hg 0 (mid.length + 2 + r.length) (by omega) (by omega) (by omega)).2).2 (.inr ⟨rfl, by omega⟩)
      rwa [h0, hX] at this
    · have hadj := (hg (mid.length + 1) (mid.length + 2 + r.length) (by omega) (by omega) (by omega)).2
      rw [hU, hX] at hadj
      have := hadj.1 hc
      have hml : mid.length = 0 := by rw [hm]; rfl
      omega
  have hrm : ∀ z ∈ r, z ∈ toL (nextW V E (wayL s mid u)) := fun z hz => by
    obtain ⟨j, hj, rfl⟩ := List.getElem_of_mem hz
    have hn := hnot (mid.length + 2 + j) (by omega) (by omega)
    rw [hR j hj] at hn
    have hi2 := hids (mid.length + 2 + j) (by omega) (by omega)
    rw [hR j hj] at hi2
    refine (mem_nextW hi).2 ⟨hi2, hlo _ (by simp [List.getElem_mem hj]), hn.1, hn.2, fun hc => ?_⟩
    have hadj := (hg 0 (mid.length + 2 + j) (by omega) (by omega) (by omega)).2
    rw [h0, hR j hj] at hadj
    have := hadj.1 hc
    omega
  have hur : 0 ≤ u ∧ u < 1024 := by
    have := hids (mid.length + 1) (by omega) (by omega)
    rw [hU] at this
    exact ids_rng hi this
  refine ⟨hxl, hrm, ?_, hur⟩
  have h7 : (s :: mid) ++ ((u :: r) ++ [x]) = wayL s mid u ++ r ++ [x] := by simp [wayL]
  rw [← h7] at hwlk
  exact Wlk.drop hwlk
/-- no shorter one is missed -/
theorem short_min (hi : GInv V E) {s u x : Int} {mid r : List Int} (hc : Cyc E (wayL s mid u ++ r ++ [x])) (hlo : ∀ z ∈ mid ++ [u] ++ r ++ [x], s < z) (hx : (mid ++ [u]).headD 0 < x) :
    0 < shortS V E (wayL s mid u) ∧ shortS V E (wayL s mid u) ≤ ((wayL s mid u ++ r ++ [x]).length : Int) := by
  have hlen : (wayL s mid u ++ r ++ [x]).length = mid.length + 2 + r.length + 1 := by simp only [List.length_append, way_len, List.length_singleton]
  obtain ⟨hxl, hrm, hwl, hur⟩ := hole_mem hi hc hlo hx
  unfold shortS
  rw [way_last]
  have hz0 : toL 0 = [] := toL_nil fun k _ => Nat.zero_testBit k
  have := short_le hi (may := nextW V E (wayL s mid u)) (last := lastW V E (wayL s mid u)) 1025 (fromS [u]) 0 (((wayL s mid u).length : Int) + 1) u r x (by omega) (by omega)
    ⟨fun y _ h => (by rw [hz0] at h; cases h), fun y h => (by rw [hz0] at h; cases h), fun y h => (by rw [hz0] at h; cases h)⟩ (mem_from.2 ⟨hur.1, hur.2, by simp⟩) hrm hxl hwl
  refine ⟨this.1, Int.le_trans this.2 ?_⟩
  rw [hlen, way_len]
  push_cast
  omega
end
end Go.Proofs.YtmfkkkhddigkfaaGreatDoor
/- HOLES, plain: turned and reversed; the first two vertices; the greedy extension. No program in sight. Conditions: see each theorem. -/
namespace Go.Proofs.YtmfkkkhddigkfaaGreatDoor
open Go

section
variable {V : List (Int × Thing)} {E : List ((Int × Int) × Thing)}
theorem cyc_rot1 {x : Int} {l : List Int} (h : Cyc E (x :: l)) : Cyc E (l ++ [x]) := by
  obtain ⟨h4, hg⟩ := h
  have hlen : (l ++ [x]).length = l.length + 1 := by simp
  have hlen2 : (x :: l).length = l.length + 1 := rfl
  refine ⟨by omega, fun i k h1 h2 h3 => ?_⟩
  have hil : i < l.length := by omega
  rw [List.getElem_append_left hil]
  by_cases hk : k < l.length
  · rw [List.getElem_append_left hk]
    have := hg (i + 1) (k + 1) (by omega) (by omega) (by omega)
    simp only [List.getElem_cons_succ] at this
    refine ⟨this.1, this.2.trans ⟨fun h => ?_, fun h => ?_⟩⟩
    · rcases h with h | ⟨h, _⟩
      · exact .inl (by omega)
      · omega
    · rcases h with h | ⟨_, h⟩
      · exact .inl (by omega)
      · omega
  · have hke : k = l.length := by omega
    subst hke
    rw [List.getElem_append_right (Nat.le_refl _)]
    simp only [Nat.sub_self, List.getElem_cons_zero]
    have := hg 0 (i + 1) (by omega) (by omega) (by omega)
    simp only [List.getElem_cons_zero, List.getElem_cons_succ] at this
    refine ⟨this.1.symm, ⟨fun h => ?_, fun h => hasE_symm (this.2.2 ?_)⟩⟩
    · rcases this.2.1 (hasE_symm h) with h5 | ⟨_, h5⟩
      · exact .inr ⟨by omega, by omega⟩
      · exact .inl (by omega)
    · rcases h with h | ⟨h, _⟩
      · right; simp; omega
      · left; omega
theorem cyc_rot : ∀ {l1 l2 : List Int}, Cyc E (l1 ++ l2) → Cyc E (l2 ++ l1)
  | [], l2, h => by rw [List.append_nil]; exact h
  | x :: l1, l2, h => by
    have h1 : Cyc E ((l1 ++ l2) ++ [x]) := cyc_rot1 h
    rw [List.append_assoc] at h1
    have h2 := cyc_rot h1
    rw [List.append_assoc] at h2
    exact h2
theorem cyc_rev {x : Int} {l : List Int} (h : Cyc E (x :: l)) : Cyc E (x :: l.reverse) := by
  obtain ⟨h4, hg⟩ := h
  have hlen : (x :: l.reverse).length = l.length + 1 := by simp
  have hlen2 : (x :: l).length = l.length + 1 := rfl
  refine ⟨by omega, fun i k h1 h2 h3 => ?_⟩
  cases k with
  | zero => omega
  | succ k =>
    have hk : k < l.length := by omega
    simp only [List.getElem_cons_succ]
    rw [List.getElem_reverse]
    cases i with
    | zero =>
      simp only [List.getElem_cons_zero]
      have := hg 0 (l.length - 1 - k + 1) (by omega) (by omega) (by omega)
      simp only [List.getElem_cons_zero, List.getElem_cons_succ] at this
      refine ⟨this.1, this.2.trans ⟨fun h => ?_, fun h => ?_⟩⟩
      · rcases h with h | ⟨_, h⟩
        · right; simp; omega
        · left; omega
      · rcases h with h | ⟨_, h⟩
        · right; simp; omega
        · left; omega
    | succ i =>
      have hil : i < l.length := by omega
      simp only [List.getElem_cons_succ]
      rw [List.getElem_reverse]
      have := hg (l.length - 1 - k + 1) (l.length - 1 - i + 1) (by omega) (by omega) (by omega)
      simp only [List.getElem_cons_succ] at this
      refine ⟨this.1.symm, ⟨fun h => ?_, fun h => hasE_symm (this.2.2 ?_)⟩⟩
      · rcases this.2.1 (hasE_symm h) with h5 | ⟨h5, _⟩
        · exact .inl (by omega)
        · omega
      · rcases h with h | ⟨h, _⟩
        · left; omega
        · omega
/-- a hole that begins with its least vertex -/
def Good (E : List ((Int × Int) × Thing)) (n : Nat) (c : List Int) : Prop := c.length = n ∧ Cyc E c ∧ ∀ k (hk : k < c.length), 0 < k → c[0]'(Nat.lt_of_le_of_lt (Nat.zero_le _) hk) < c[k]
theorem Good.four {n : Nat} {c : List Int} (h : Good E n c) : 4 ≤ n := h.1 ▸ h.2.1.1
theorem min_split : ∀ {l : List Int}, l ≠ [] → ∃ m ∈ l, ∀ x ∈ l, m ≤ x
  | [], h => absurd rfl h
  | [a], _ => ⟨a, by simp, by simp⟩
  | a :: b :: l, _ => by
    obtain ⟨m, hm, h⟩ := min_split (l := b :: l) (by simp)
    rcases Int.lt_or_le a m with h1 | h1
    · exact ⟨a, by simp, fun x hx => by
        rcases List.mem_cons.1 hx with rfl | hx
        · exact Int.le_refl _
        · have := h x hx; omega⟩
    · exact ⟨m, by simp [hm], fun x hx => by
        rcases List.mem_cons.1 hx with rfl | hx
        · exact h1
        · exact h x hx⟩
theorem good_of {c : List Int} (h : Cyc E c) : ∃ d, Good E c.length d := by
  have hne : c ≠ [] := fun e => by have := h.1; rw [e] at this; simp at this
  obtain ⟨m, hm, hmin⟩ := min_split hne
  obtain ⟨l1, l2, rfl⟩ := List.append_of_mem hm
  have h2 := cyc_rot h
  refine ⟨m :: l2 ++ l1, ?_, h2, fun k hk h0 => ?_⟩
  · simp; omega
  · have h3 := (h2.2 0 k (by omega) hk h0).1
    have h4 := hmin (m :: l2 ++ l1)[k] (by
      have := List.getElem_mem hk
      simp only [List.cons_append, List.mem_cons, List.mem_append] at this ⊢
      rcases this with h | h | h
      · exact .inr (.inl h)
      · exact .inr (.inr h)
      · exact .inl h)
    have h5 : (m :: l2 ++ l1)[0]'(by omega) = m := rfl
    rw [h5] at h3 ⊢
    omega
theorem good_rev {n : Nat} {x : Int} {l : List Int} (h : Good E n (x :: l)) : Good E n (x :: l.reverse) := by
  obtain ⟨h1, h2, h3⟩ := h
  refine ⟨by simpa using h1, cyc_rev h2, fun k hk h0 => ?_⟩
  cases k with
  | zero => omega
  | succ k =>
    simp only [List.getElem_cons_zero, List.getElem_cons_succ]
    have hk' : k < l.reverse.length := by simpa using hk
    have hmem := List.getElem_mem hk'
    rw [List.mem_reverse] at hmem
    obtain ⟨j, hj, e⟩ := List.getElem_of_mem hmem
    have := h3 (j + 1) (by simpa using hj) (by omega)
    simp only [List.getElem_cons_zero, List.getElem_cons_succ] at this
    rw [e] at this
    exact this
/-- a hole of this length begins so -/
def Pre (E : List ((Int × Int) × Thing)) (n : Nat) (w : List Int) : Prop := ∃ c, Good E n c ∧ w <+: c
/-- each vertex is the least that goes -/
def Greedy (E : List ((Int × Int) × Thing)) (n : Nat) (c : List Int) : Prop := ∀ j (hj : j < c.length) (v : Int), v < c[j] → ¬ Pre E n (c.take j ++ [v])
theorem take_snoc {c : List Int} {j : Nat} (hj : j < c.length) : c.take j ++ [c[j]] <+: c := by
  rw [← List.take_succ_eq_append_getElem hj]
  exact List.take_prefix _ _
theorem greedy_uniq {n : Nat} {c d : List Int} (hc : Good E n c) (hd : Good E n d) (gc : Greedy E n c) (gd : Greedy E n d) : c = d := by
  have hl : c.length = d.length := hc.1.trans hd.1.symm
  suffices h : ∀ j, j ≤ c.length → c.take j = d.take j by
    have := h c.length (Nat.le_refl _)
    rwa [List.take_length, hl, List.take_length] at this
  intro j
  induction j with
  | zero => intro _; rfl
  | succ j ih =>
    intro hj
    have h1 := ih (by omega)
    have hjc : j < c.length := by omega
    have hjd : j < d.length := by omega
    rw [List.take_succ_eq_append_getElem hjc, List.take_succ_eq_append_getElem hjd, h1]
    rcases Int.lt_trichotomy c[j] d[j] with h2 | h2 | h2
    · refine absurd ⟨c, hc, ?_⟩ (gd j hjd c[j] h2)
      rw [← h1]
      exact take_snoc hjc
    · rw [h2]
    · refine absurd ⟨d, hd, ?_⟩ (gc j hjc d[j] h2)
      rw [h1]
      exact take_snoc hjd
end
end Go.Proofs.YtmfkkkhddigkfaaGreatDoor
