/- Parts of a proof, laid together: Cw1, Rg, Rh. Each part says its own conditions. -/
import Derived.Test.YtmfkkkhddigkfaaGreatDoorE6
import Derived.Test.YtmfkkkhddigkfaaGreatDoorE7
import Derived.Test.YtmfkkkhddigkfaaGreatDoorE8
import Derived.Test.YtmfkkkhddigkfaaGreatDoorE9
import Derived.Test.YtmfkkkhddigkfaaGreatDoorE5
import Derived.Test.YtmfkkkhddigkfaaGreatDoorMem
/- bitset.Set's IsEmpty and SubsetOf; chordal.clique, simple, IsClique, IsSimplicial. Conditions: see each theorem. -/
namespace Go.Proofs.YtmfkkkhddigkfaaGreatDoor
open Go Go.RowKit Go.Shelf
attribute [local go_sem] qUpon lUpon

theorem load_bool (W : World) (b : Nat) (x : Bool) (h : W.cell? ⟨b, 0, none⟩ = some (.bool x)) : (loadVar 4 ⟨b, 0, none⟩).run Tryz.prog W = .ok (.bool x) W := by
  simp [go_sem, h]
theorem qUpon_of {P : Program} {W : World} {v : Value} {r : Result Next} (h : r = .ok (.value v) W) : qUpon P Ext W v r := by rw [h]; exact ⟨rfl, Ext.refl W⟩
set_option maxRecDepth 100000 in
set_option maxHeartbeats 4000000 in
theorem empty_any (N : Nat) (w : World) : Calls Tryz.prog 40 #[.agg (setC N)] w fun e w' => e = .returned (.bool (eqS N 0)) ∧ Ext w w' := by
  have hB := hide (Blk.new w 51 (setC N))
  have hx := hide (ext_self1 w (.cells (setC N) 51))
  go_enter Tryz.func40, Tryz.ntmps40
  try dsimp only
  repeat ((fail_if_success (with_reducible refine wp_reg (id := 1) ?_)); (first | go_values | go_skip | go_step | go_guarded | go_upon | go_in | go_back | fail))
  with_reducible refine wp_reg (id := 1) ?_
  refine wpO_val rfl (load_SetR rfl rfl (unhide hB).whole) ?_
  refine wpO_want rfl ?_
  go_simp
  refine wpO_val rfl (run_eql_Set (N := N) (M := 0) rfl rfl rfl) ?_
  go_frame
  refine wpO_want rfl ?_
  go_simp
  refine wpO_done ?_
  try go_frame
  go_wp2_with fail
  go_ret
  exact ⟨rfl, unhide hx⟩

set_option maxRecDepth 100000 in
set_option maxHeartbeats 4000000 in
theorem sub_any (N M : Nat) (w : World) : Calls Tryz.prog 64 #[.agg (setC N), .agg (setC M)] w fun e w' => e = .returned (.bool (subS N M)) ∧ Ext w w' := by
  have hB := hide ((Blk.new w 51 (setC N)).ext (ext_self1 _ (.cells (setC M) 51)))
  have hC := hide (Blk.new (w.alloc (.cells (setC N) 51)) 51 (setC M))
  have hx := hide (ext_self2 w (.cells (setC N) 51) (.cells (setC M) 51))
  simp only [World.size_alloc] at hC
  go_enter Tryz.func64, Tryz.ntmps64
  try dsimp only
  repeat ((fail_if_success (with_reducible refine wp_reg (id := 1) ?_)); (first | go_values | go_skip | go_step | go_guarded | go_upon | go_in | go_back | fail))
  with_reducible refine wp_reg (id := 1) ?_
  generalize (w.alloc (.cells (setC N) 51)).alloc (.cells (setC M) 51) = w1 at *
  refine wpO_val rfl (load_SetR (N := N) rfl rfl (unhide hB).whole) ?_
  refine wpO_val rfl (load_SetR (N := M) rfl rfl (unhide hC).whole) ?_
  refine wpO_want rfl ?_
  go_simp
  refine (minus_any N M w1).mono ?_
  rintro e w2 ⟨rfl, hx2⟩
  refine ⟨_, rfl, ?_⟩
  refine wpO_want rfl ?_
  go_simp
  refine (empty_any (minusS N M) w2).mono ?_
  rintro e w3 ⟨rfl, hx3⟩
  refine ⟨_, rfl, ?_⟩
  refine wpO_want rfl ?_
  go_simp
  refine wpO_done ?_
  try go_frame
  have hx3' := hide (((unhide hx).trans hx2).trans hx3)
  clear hx2 hx3
  go_wp2_with fail
  go_ret
  exact ⟨rfl, unhide hx3'⟩

set_option maxRecDepth 100000 in
set_option maxHeartbeats 8000000 in
theorem clique_any (og : Option Addr) (V : List (Int × Thing)) (E : List ((Int × Int) × Thing)) (r : Nat) (w : World) (hg : GL w og V E) (hT : Tab w) :
    Calls Tryz.prog 65 #[.pointer og, .agg (setC r)] w fun e w' => e = .returned (.bool (cliqueS E r)) ∧ Ext w w' := by
  have hg' := hide hg
  have hT' := hide hT
  have hTl := hide hT.lt
  have hBp := hide (((Blk.new w 24 #[.pointer og]).ext (ext_self1 _ (.cells (setC r) 51))).ext (ext_self1 _ (.cells #[.bool false] 4)))
  have hBs := hide ((Blk.new (w.alloc (.cells #[.pointer og] 24)) 51 (setC r)).ext (ext_self1 _ (.cells #[.bool false] 4)))
  have hBr := hide (Blk.new ((w.alloc (.cells #[.pointer og] 24)).alloc (.cells (setC r) 51)) 4 #[.bool false])
  have hx1 := hide (ext_self3 w (.cells #[.pointer og] 24) (.cells (setC r) 51) (.cells #[.bool false] 4))
  simp only [World.size_alloc] at hBs hBr
  clear hg hT
  refine callsIn_wide.1 (callsIn_of_wp_marks (n := 0) Tryz.func65 rfl trivial (wpIn_wide.2 ?_))
  simp only [Tryz.ntmps65, List.size_toArray, List.length_cons, List.length_nil, Nat.reduceAdd, Nat.reduceSub, Array.replicate_succ, Array.replicate_zero, List.push_toArray, List.append_toArray, List.nil_append, List.cons_append]
  try dsimp only
  repeat ((fail_if_success (with_reducible refine wp_reg (id := 1) ?_)); (first | go_values | go_skip | go_step | go_guarded | go_upon | go_in | go_back | fail))
  with_reducible refine wp_reg (id := 1) ?_
  generalize ((w.alloc (.cells #[.pointer og] 24)).alloc (.cells (setC r) 51)).alloc (.cells #[.bool false] 4) = w2 at *
  refine wpO_val rfl (load_SetR (N := r) rfl rfl (unhide hBs).whole) ?_
  refine wpO_want rfl ?_
  go_simp
  refine (all_any r w2).mono ?_
  rintro e w3 ⟨rfl, rfl⟩
  refine ⟨_, rfl, ?_⟩
  refine wpO_done ?_
  try go_frame
  have hBa := hide (Blk.new w2 51 (setC r))
  have hx3 := hide ((unhide hx1).trans (ext_self1 w2 (.cells (setC r) 51)))
  have hBp3 := hide ((unhide hBp).ext (ext_self1 w2 (.cells (setC r) 51)))
  have hBs3 := hide ((unhide hBs).ext (ext_self1 w2 (.cells (setC r) 51)))
  have hBr3 := hide ((unhide hBr).ext (ext_self1 w2 (.cells (setC r) 51)))
  have hg3 := hide ((unhide hg').ext (unhide hx3))
  have hT3 := hide ((unhide hT').ext (unhide hx3))
  have hz3 := hide (Below.size (unhide hx3))
  clear hBp hBs hBr hx1 hg' hT'
  generalize w2.heap.size = bs at *
  generalize w2.alloc (.cells (setC r) 51) = w3 at *
  generalize hbr : w.heap.size + 1 + 1 = br at *
  generalize hbq : w.heap.size + 1 = bq at *
  have hbrw := hide (show w.heap.size ≤ br by omega)
  clear hbr hbq
  go_wp2_with fail
  refine wp_range (gf := 78) (lb := #[.pointer (some ⟨bs, 0, none⟩)]) rfl (enters_of Tryz.func78 (by kernel_rfl) rfl) (ex := [0]) (by have := (unhide hT3).lt; simp; omega)
    (all_iter r bs w3 (unhide hBa) (unhide hT3)) (fun _ => rfl)
    (fun pre W => (∀ v ∈ pre, subS (withoutS r v) (nearS v E) = true) ∧ Ext w3 W) (fun c _ W => c = .ret ∧ cliqueS E r = false ∧ Blk W br 4 #[.bool false] ∧ Keep [br] w3 W)
    (fun tm pre u a1 W => ((∀ v ∈ pre, subS (withoutS r v) (nearS v E) = true) ∧ Ext w3 W) ∧ a1 = ⟨(tm.setIfInBounds 8 (.int .i64 u)).setIfInBounds 5 (.int .i64 u), []⟩)
    (fun pre A1 A2 h hk => ⟨h.1, h.2.of_new hk (fun z hz => by rw [mem_privs] at hz; omega)⟩)
    (fun c pre A1 A2 h hk => ⟨h.1, h.2.1, h.2.2.1.keep hk (by have := (unhide hBr3).lt; rw [mem_privs]; omega), h.2.2.2.of_new hk (fun z hz => by rw [mem_privs] at hz; right; omega)⟩)
    (fun pre u a1 A1 A2 h hk => ⟨⟨h.1.1, h.1.2.of_new hk (fun z hz => by rw [mem_privs] at hz; omega)⟩, h.2⟩)
    ⟨by simp, Ext.refl _⟩ ?_ ?_ ?_ ?_
  · intro pre u W K hI hpre hsz hK
    have hK' := hide hK
    clear hK
    rw [zip1]
    simp only [List.setIfInBounds_toArray, List.set_cons_succ, List.set_cons_zero]
    try dsimp only
    repeat ((fail_if_success (with_reducible refine wpI_reg (id := 2) (by kernel_rfl) ?_)); (first | go_values | gi_step | gi_guarded | gi_upon | gi_in | gi_back | fail))
    with_reducible refine wpI_reg (id := 2) (by kernel_rfl) ?_
    refine wpO_want rfl ?_
    go_simp
    refine wpO_done ?_
    try go_frame
    exact unhide hK' _ _ ⟨hI, rfl⟩ (Same.refl _ _) (Nat.le_refl _)
  · rintro pre u a1 W ⟨⟨hok, hxW⟩, rfl⟩ hpre hsz _
    simp only [List.setIfInBounds_toArray, List.set_cons_succ, List.set_cons_zero]
    have hmem : u ∈ toL r := hpre.subset (by simp)
    have hok' := hide hok
    have hmem' := hide hmem
    have hxW' := hide hxW
    have hsz' := hide hsz
    have hT0 := hide ((unhide hT3).lt)
    have hgW := hide ((unhide hg3).ext hxW)
    have hBsW := hide ((unhide hBs3).ext hxW)
    have hBrW := hide ((unhide hBr3).ext hxW)
    have c0 := ((unhide hBp3).ext hxW).cells 0 (v := .pointer og) rfl
    obtain ⟨q, hq⟩ : ∃ q, subS (withoutS r u) (nearS u E) = q := ⟨_, rfl⟩
    have hq' := hide hq
    have hself := Ext.refl W
    clear hok hmem hxW hsz hpre hq
    gi_wp2_with fail
    refine wpI_region_ext (P := Tryz.prog) [0,1,2,3,4,5,6,7] [] 0 #[true,true,true,true,true,true,true,true] (by kernel_rfl) (by kernel_rfl) (by kernel_rfl) rfl (by rfl) ?_
    refine ql_want (v := .agg (setC (r))) rfl (by rfl) (fun W hW => qUpon_of (load_SetR rfl (by rfl) (((unhide hBsW).ext hW).whole))) ?_
    go_frame
    iterate 1
      refine ql_want (v := ?_) rfl (by rfl) (fun W hW => ?_) ?_
      rotate_left
      · go_simp
        first | done | rfl
      go_frame
    refine ql_want (v := .agg (setC (withoutS r u))) rfl (by rfl) (fun W hW => ?_) ?_
    · go_simp
      refine (without_S r u W).mono ?_
      rintro _ _ ⟨h1, h2⟩
      exact ⟨_, h1, rfl, h2⟩
    go_frame
    iterate 2
      refine ql_want (v := ?_) rfl (by rfl) (fun W hW => ?_) ?_
      rotate_left
      · go_simp
        first | done | rfl
      go_frame
    refine ql_want (v := .agg (setC (nearS u E))) rfl (by rfl) (fun W hW => ?_) ?_
    · go_simp
      refine (nearG og V E u W ((unhide hgW).ext hW)).mono ?_
      rintro _ _ ⟨h1, h2⟩
      exact ⟨_, h1, rfl, h2⟩
    go_frame
    refine ql_want (v := .bool q) rfl (by rfl) (fun W hW => ?_) ?_
    · go_simp
      refine (sub_any (withoutS r u) (nearS u E) W).mono ?_
      rw [unhide hq']
      rintro _ _ ⟨h1, h2⟩
      exact ⟨_, h1, rfl, h2⟩
    go_frame
    iterate 1
      refine ql_want (v := ?_) rfl (by rfl) (fun W hW => ?_) ?_
      rotate_left
      · go_simp
        first | done | rfl
      go_frame
    refine wpQL_nil (fun w5 hx5 => ?_)
    refine wpX_done (by kernel_rfl) ?_
    try go_frame
    have hx5' := hide hx5
    clear c0 hself hx5
    cases q
    · have hBr5 := ((unhide hBrW).ext (unhide hx5'))
      try dsimp only
      repeat ((fail_if_success (with_reducible refine wpI_reg (id := 4) (by kernel_rfl) ?_)); (first | go_values | gi_step | gi_guarded | gi_upon | gi_in | gi_back | fail))
      with_reducible refine wpI_reg (id := 4) (by kernel_rfl) ?_
      refine wpO_skip rfl (run_store_row (v := .bool false) rfl rfl rfl (by simp [go_sem]) hBr5 rfl (by simp [Value.cells, Value.oneCell'])) (wpO_done ?_)
      try go_frame
      simp only [Value.cells]
      have hBn := hBr5.row #[.bool false]
      have hkn := Keep.setRow w5 br #[.bool false]
      gi_wp2_with fail
      have hsz5 := Below.size (unhide hx5')
      refine ⟨by have := hkn.size; omega, ?_, rfl, ?_, hBn, ((((unhide hxW').keep []).trans ((unhide hx5').keep [])).mono (by simp)).trans hkn⟩
      · refine Same.of_keep ((((unhide hx5').keep []).mono (S' := [br]) (by simp)).trans hkn) fun z hz => ?_
        rw [List.mem_singleton]
        have h1 := (unhide hBr3).lt
        have h2 := unhide hT0
        have h3 := unhide hbrw
        have h4 := unhide hsz'
        rcases List.mem_append.1 hz with hz | hz
        · rw [mem_privs] at hz; omega
        · rw [List.mem_singleton] at hz
          subst hz
          exact ⟨by omega, fun e => by have := unhide hTl; omega⟩
      · rw [Bool.eq_false_iff]
        intro h
        have := List.all_eq_true.1 h u (unhide hmem')
        rw [unhide hq'] at this
        cases this
    · gi_wp2_with fail
      refine ⟨Below.size (unhide hx5'), ?_, fun v hv => ?_, (unhide hxW').trans (unhide hx5')⟩
      · refine Same.of_keep ((unhide hx5').keep []) fun z hz => ?_
        have h2 := unhide hT0
        have h4 := unhide hsz'
        rcases List.mem_append.1 hz with hz | hz
        · rw [mem_privs] at hz; exact ⟨by omega, by simp⟩
        · rw [List.mem_singleton] at hz; exact ⟨by omega, by simp⟩
      · rcases List.mem_append.1 hv with hv | hv
        · exact unhide hok' v hv
        · rw [List.mem_singleton] at hv
          rw [hv]
          exact unhide hq'
  · intro W hI hDf
    have hres : cliqueS E r = true := List.all_eq_true.2 hI.1
    have hBrW := (unhide hBr3).ext hI.2
    have hxW' := hide ((unhide hx3).trans hI.2)
    have hD' := hide hDf
    have hBrW' := hide hBrW
    have hres' := hide hres
    clear hI hDf hBrW hres
    try dsimp only
    repeat ((fail_if_success (with_reducible refine wp_reg (id := 5) ?_)); (first | go_values | go_skip | go_step | go_guarded | go_upon | go_in | go_back | fail))
    with_reducible refine wp_reg (id := 5) ?_
    refine wpO_skip rfl (run_store_row (v := .bool true) rfl rfl rfl (by simp [go_sem]) (unhide hBrW') rfl (by simp [Value.cells, Value.oneCell'])) (wpO_done ?_)
    try go_frame
    simp only [Value.cells]
    have hBn := (unhide hBrW').row #[.bool true]
    have hkn := Keep.setRow W br #[.bool true]
    have hD2 := (hkn.block w3.heap.size (Array.getElem?_eq_some_iff.1 (unhide hD')).1 (by have := (unhide hBr3).lt; simp; omega)).trans (unhide hD')
    go_wp2_with fail
    have hL := load_bool (W.setRow br #[.bool true]) br true (hBn.cell 0)
    refine leaves_marks (B := w.heap.size) _ _ (.cons (unhide hz3) hD2 (by simp) (.nil _)) ?_
    rintro w' ⟨S, hS, hkS⟩
    have hS3 : ∀ z ∈ S, z = w3.heap.size := fun z hz => by
      obtain ⟨d, hd, e⟩ := hS z hz
      rw [List.mem_singleton] at hd
      subst hd
      injection e with e
      exact e.symm
    have hlb := (unhide hBr3).lt
    refine ⟨_, ret_cell1 rfl rfl (load_bool w' br true ((hBn.keep hkS (fun hm => by have := hS3 _ hm; omega)).cell 0)), by rw [unhide hres'], ?_⟩
    exact ((unhide hxW').of_new hkn (fun z hz => by rw [List.mem_singleton] at hz; subst hz; exact unhide hbrw)).of_new hkS (fun z hz => by have := hS3 z hz; have := unhide hz3; omega)
  · rintro c pre W ⟨rfl, hres, hB, hk⟩ hDf
    go_wp2_with fail
    have hL := load_bool W br false (hB.cell 0)
    refine leaves_marks (B := w.heap.size) _ _ (.cons (unhide hz3) hDf (by simp) (.nil _)) ?_
    rintro w' ⟨S, hS, hkS⟩
    have hS3 : ∀ z ∈ S, z = w3.heap.size := fun z hz => by
      obtain ⟨d, hd, e⟩ := hS z hz
      rw [List.mem_singleton] at hd
      subst hd
      injection e with e
      exact e.symm
    have hlb := (unhide hBr3).lt
    refine ⟨_, ret_cell1 rfl rfl (load_bool w' br false ((hB.keep hkS (fun hm => by have := hS3 _ hm; omega)).cell 0)), by rw [hres], ?_⟩
    exact ((unhide hx3).of_new hk (fun z hz => by rw [List.mem_singleton] at hz; subst hz; exact unhide hbrw)).of_new hkS (fun z hz => by have := hS3 z hz; have := unhide hz3; omega)

set_option maxRecDepth 100000 in
set_option maxHeartbeats 1000000 in
theorem simple_any (og : Option Addr) (V : List (Int × Thing)) (E : List ((Int × Int) × Thing)) (id : Int) (left : Nat) (w : World) (hg : GL w og V E) (hT : Tab w) :
    Calls Tryz.prog 47 #[.pointer og, .int .i64 id, .agg (setC left)] w fun e w' => e = .returned (.bool (simpleS E id left)) ∧ Ext w w' := by
  have hx1 := hide (ext_self1 w (.cells (setC left) 51))
  have hBl := hide (Blk.new w 51 (setC left))
  have hg' := hide (hg.ext (unhide hx1))
  have hT' := hide (hT.ext (unhide hx1))
  clear hg hT
  go_enter Tryz.func47, Tryz.ntmps47
  have hself := Ext.refl (w.alloc (.cells (setC left) 51))
  go_wp2_with fail
  generalize w.alloc (.cells (setC left) 51) = w1 at *
  refine wp_region_ext (P := Tryz.prog) [0,1,2,3,4,5,6,7] [] 0 #[true,true,true,true,true,true,true,true] (by kernel_rfl) (by kernel_rfl) rfl (by rfl) ?_
  iterate 3
    refine ql_want (v := ?_) rfl (by rfl) (fun W hW => ?_) ?_
    rotate_left
    · go_simp
      first | done | rfl
    go_frame
  refine ql_want (v := .agg (setC (nearS id E))) rfl (by rfl) (fun W hW => ?_) ?_
  · go_simp
    refine (nearG og V E id W ((unhide hg').ext hW)).mono ?_
    rintro _ _ ⟨h1, h2⟩
    exact ⟨_, h1, rfl, h2⟩
  go_frame
  refine ql_want (v := .agg (setC (left))) rfl (by rfl) (fun W hW => qUpon_of (load_SetR rfl (by rfl) (((unhide hBl).ext hW).whole))) ?_
  go_frame
  refine ql_want (v := .agg (setC (nearS id E &&& left))) rfl (by rfl) (fun W hW => ?_) ?_
  · go_simp
    refine (inter_any (nearS id E) left W).mono ?_
    rintro _ _ ⟨h1, h2⟩
    exact ⟨_, h1, rfl, h2⟩
  go_frame
  refine ql_want (v := .bool (simpleS E id left)) rfl (by rfl) (fun W hW => ?_) ?_
  · go_simp
    refine (clique_any og V E (nearS id E &&& left) W ((unhide hg').ext hW) ((unhide hT').ext hW)).mono ?_
    rintro _ _ ⟨h1, h2⟩
    exact ⟨_, h1, rfl, h2⟩
  go_frame
  iterate 1
    refine ql_want (v := ?_) rfl (by rfl) (fun W hW => ?_) ?_
    rotate_left
    · go_simp
      first | done | rfl
    go_frame
  refine wpQL_nil (fun w5 hx5 => ?_)
  refine wpX_done (by kernel_rfl) ?_
  try go_frame
  have hx5' := hide ((unhide hx1).trans hx5)
  clear hself hx5
  go_wp2_with fail
  go_ret
  exact ⟨rfl, unhide hx5'⟩

set_option maxRecDepth 100000 in
set_option maxHeartbeats 1000000 in
theorem isClique_any (og : Option Addr) (V : List (Int × Thing)) (E : List ((Int × Int) × Thing)) (r : Nat) (w : World) (hg : GL w og V E) (hT : Tab w) :
    Calls Tryz.prog 27 #[.pointer og, .agg (setC r)] w fun e w' => e = .returned (.bool (subS r (vS V) && cliqueS E r)) ∧ Ext w w' := by
  have hx1 := hide (ext_self1 w (.cells (setC r) 51))
  have hBl := hide (Blk.new w 51 (setC r))
  have hg' := hide (hg.ext (unhide hx1))
  have hT' := hide (hT.ext (unhide hx1))
  clear hg hT
  go_enter Tryz.func27, Tryz.ntmps27
  have hself := Ext.refl (w.alloc (.cells (setC r) 51))
  obtain ⟨q, hq⟩ : ∃ q, subS r (vS V) = q := ⟨_, rfl⟩
  have hq' := hide hq
  clear hq
  cases q
  · go_wp2_with fail
    generalize w.alloc (.cells (setC r) 51) = w1 at *
    refine wp_region_ext (P := Tryz.prog) [0,1,2,3,4,5,6,7,8,9] [] 0 #[true,true,true,true,true,true,true,true,true,true] (by kernel_rfl) (by kernel_rfl) rfl (by rfl) ?_
    refine ql_want (v := .agg (setC (r))) rfl (by rfl) (fun W hW => qUpon_of (load_SetR rfl (by rfl) (((unhide hBl).ext hW).whole))) ?_
    go_frame
    iterate 1
      refine ql_want (v := ?_) rfl (by rfl) (fun W hW => ?_) ?_
      rotate_left
      · go_simp
        first | done | rfl
      go_frame
    refine ql_want (v := .agg (setC (vS V))) rfl (by rfl) (fun W hW => ?_) ?_
    · go_simp
      refine (vsetG og V E W ((unhide hg').ext hW)).mono ?_
      rintro _ _ ⟨h1, h2⟩
      exact ⟨_, h1, rfl, h2⟩
    go_frame
    refine ql_want (v := .bool false) rfl (by rfl) (fun W hW => ?_) ?_
    · go_simp
      refine (sub_any r (vS V) W).mono ?_
      rw [unhide hq']
      rintro _ _ ⟨h1, h2⟩
      exact ⟨_, h1, rfl, h2⟩
    go_frame
    iterate 6
      first
      | (refine ql_skip rfl (by rfl) ?_)
      | (refine ql_want (v := ?_) rfl (by rfl) (fun W hW => ?_) ?_; rotate_left; (go_simp; (first | done | rfl)))
      try go_frame
    refine wpQL_nil (fun w5 hx5 => ?_)
    refine wpX_done (by kernel_rfl) ?_
    try go_frame
    have hx5' := hide ((unhide hx1).trans hx5)
    clear hself hx5
    go_wp2_with fail
    go_ret
    rw [unhide hq']
    exact ⟨rfl, unhide hx5'⟩
  · go_wp2_with fail
    generalize w.alloc (.cells (setC r) 51) = w1 at *
    refine wp_region_ext (P := Tryz.prog) [0,1,2,3,4,5,6,7,8,9] [] 0 #[true,true,true,true,true,true,true,true,true,true] (by kernel_rfl) (by kernel_rfl) rfl (by rfl) ?_
    refine ql_want (v := .agg (setC (r))) rfl (by rfl) (fun W hW => qUpon_of (load_SetR rfl (by rfl) (((unhide hBl).ext hW).whole))) ?_
    go_frame
    iterate 1
      refine ql_want (v := ?_) rfl (by rfl) (fun W hW => ?_) ?_
      rotate_left
      · go_simp
        first | done | rfl
      go_frame
    refine ql_want (v := .agg (setC (vS V))) rfl (by rfl) (fun W hW => ?_) ?_
    · go_simp
      refine (vsetG og V E W ((unhide hg').ext hW)).mono ?_
      rintro _ _ ⟨h1, h2⟩
      exact ⟨_, h1, rfl, h2⟩
    go_frame
    refine ql_want (v := .bool true) rfl (by rfl) (fun W hW => ?_) ?_
    · go_simp
      refine (sub_any r (vS V) W).mono ?_
      rw [unhide hq']
      rintro _ _ ⟨h1, h2⟩
      exact ⟨_, h1, rfl, h2⟩
    go_frame
    iterate 2
      refine ql_want (v := ?_) rfl (by rfl) (fun W hW => ?_) ?_
      rotate_left
      · go_simp
        first | done | rfl
      go_frame
    refine ql_want (v := .agg (setC (r))) rfl (by rfl) (fun W hW => qUpon_of (load_SetR rfl (by rfl) (((unhide hBl).ext hW).whole))) ?_
    go_frame
    refine ql_want (v := .bool (cliqueS E r)) rfl (by rfl) (fun W hW => ?_) ?_
    · go_simp
      refine (clique_any og V E r W ((unhide hg').ext hW) ((unhide hT').ext hW)).mono ?_
      rintro _ _ ⟨h1, h2⟩
      exact ⟨_, h1, rfl, h2⟩
    go_frame
    iterate 2
      refine ql_want (v := ?_) rfl (by rfl) (fun W hW => ?_) ?_
      rotate_left
      · go_simp
        first | done | rfl
      go_frame
    refine wpQL_nil (fun w5 hx5 => ?_)
    refine wpX_done (by kernel_rfl) ?_
    try go_frame
    have hx5' := hide ((unhide hx1).trans hx5)
    clear hself hx5
    go_wp2_with fail
    go_ret
    rw [unhide hq']
    exact ⟨rfl, unhide hx5'⟩
end Go.Proofs.YtmfkkkhddigkfaaGreatDoor
/- RANGES OVER A FUNCTION, with the blocks that a loop's state owns told apart; a function that runs such loops. Conditions: see each theorem. -/
namespace Go.Proofs.YtmfkkkhddigkfaaGreatDoor
open Go Go.RowKit Go.Shelf

/-- T' : blocks of T, or such as lie from B on -/
def tIn (T : List Nat) (B : Nat) (T' : List Nat) : Prop := ∀ x ∈ T', x ∈ T ∨ B ≤ x
theorem tIn.refl (T : List Nat) (B : Nat) : tIn T B T := fun _ h => .inl h
theorem tIn.trans {T T' T'' : List Nat} {B C : Nat} (h : tIn T B T') (k : tIn T' C T'') (hBC : B ≤ C) : tIn T B T'' := fun x hx => by
  rcases k x hx with h1 | h1
  · exact h x h1
  · exact .inr (by omega)
theorem tIn.sub {T T' T'' : List Nat} {B : Nat} (h : tIn T B T') (k : ∀ x ∈ T'', x ∈ T') : tIn T B T'' := fun x hx => h x (k x hx)

/-- how a round may end: J the state behind it, Jx behind a round that leaves -/
def bPost (J : List Nat → World → Prop) (Jx : Code → List Nat → World → Prop) (T : List Nat) (W : World) : Exit → Act → World → Prop
  | .normal, _, W' => ∃ T', J T' W' ∧ Keep T W W' ∧ tIn T W.heap.size T'
  | .ret, _, W' => ∃ T', Jx .ret T' W' ∧ Keep T W W' ∧ tIn T W.heap.size T'
  | .exit id, _, W' => ∃ T', Jx (.exit id) T' W' ∧ Keep T W W' ∧ tIn T W.heap.size T'
  | .goto t, _, W' => ∃ T', Jx (.goto t) T' W' ∧ Keep T W W' ∧ tIn T W.heap.size T'
  | .panic _, _, _ => False
  | .outgrown, _, _ => False

theorem least_ex {p : Nat → Prop} (h : ∃ n, p n) : ∃ n, p n ∧ ∀ m, p m → n ≤ m := by
  obtain ⟨n, hn⟩ := h
  induction n using Nat.strongRecOn with
  | _ n ih =>
    by_cases hl : ∃ m, m < n ∧ p m
    · obtain ⟨m, hm, hp⟩ := hl
      exact ih m hm hp
    · exact ⟨n, hn, fun m hm => Nat.le_of_not_lt fun h => hl ⟨m, h, hm⟩⟩
open Classical in
noncomputable def ixM (I : Nat → Act → World → Prop) (a : Act) (w : World) : Nat := if h : ∃ n, I n a w then Classical.choose (least_ex h) else 0
theorem ixM_le {I : Nat → Act → World → Prop} {a : Act} {w : World} {n : Nat} (h : I n a w) : ixM I a w ≤ n ∧ I (ixM I a w) a w := by
  have he : ∃ n, I n a w := ⟨n, h⟩
  unfold ixM
  rw [dif_pos he]
  have := Classical.choose_spec (least_ex he)
  exact ⟨this.2 n h, this.1⟩
/-- A LOOP whose rounds are counted in the relation -/
theorem wp_loop_ix {P : Program} {c : Code} {Q : Exit → Act → World → Prop} {a : Act} {w : World} (I : Nat → Act → World → Prop) (n : Nat) (h0 : I n a w)
    (round : ∀ n a w, I n a w → c.wp P (Exit.then (fun a' w' => ∃ m, I m a' w' ∧ m < n) Q) a w) : (Code.loop c).wp P Q a w := by
  refine wp_loop (fun a w => ∃ n, I n a w) (ixM I) ⟨n, h0⟩ ?_
  rintro a w ⟨n, hn⟩
  refine wp_mono (round _ a w (ixM_le hn).2) ?_
  intro e a' w' hq
  cases e with
  | normal => obtain ⟨m, hI, hm⟩ := hq; exact ⟨⟨m, hI⟩, Nat.lt_of_le_of_lt (ixM_le hI).1 hm⟩
  | exit _ => exact hq
  | goto _ => exact hq
  | ret => exact hq
  | panic _ => exact hq
  | outgrown => exact hq
theorem wpI_loop_ix {P : Program} {F : Fence} {k : Nat} {c : Code} {Q : Exit → Act → World → Prop} {a : Act} {w : World} (I : Nat → Act → World → Prop) (n : Nat) (h0 : I n a w)
    (round : ∀ n a w, I n a w → c.wpIn F k P (Exit.then (fun a' w' => ∃ m, I m a' w' ∧ m < n) Q) a w) : (Code.loop c).wpIn F k P Q a w := by
  refine wpIn_loop (fun a w => ∃ n, I n a w) (ixM I) ⟨n, h0⟩ ?_
  rintro a w ⟨n, hn⟩
  refine wpIn_mono (round _ a w (ixM_le hn).2) ?_
  intro e a' w' hq
  cases e with
  | normal => obtain ⟨m, hI, hm⟩ := hq; exact ⟨⟨m, hI⟩, Nat.lt_of_le_of_lt (ixM_le hI).1 hm⟩
  | exit _ => exact hq
  | goto _ => exact hq
  | ret => exact hq
  | panic _ => exact hq
  | outgrown => exact hq

section
variable {P : Program} {α : Type}
theorem rng_same {T T' ex : List Nat} {W W' : World} {B n : Nat} (hk : Keep T' W W') (hT : tIn T (B + n) T') (hTB : ∀ x ∈ T, x < B) (hW : B + n ≤ W.heap.size) (hex : ∀ b ∈ ex, b < B ∧ b ∉ T) : Same (privs B n ++ ex) W W' :=
  Same.of_keep hk fun x hx => by
    rcases List.mem_append.1 hx with hx | hx
    · rw [mem_privs] at hx
      refine ⟨by omega, fun hm => ?_⟩
      rcases hT x hm with h | h
      · have := hTB x h; omega
      · omega
    · have h0 := hex x hx
      refine ⟨by omega, fun hm => ?_⟩
      rcases hT x hm with h | h
      · exact h0.2 h
      · omega
theorem rng_off {T T' : List Nat} {B n : Nat} (hT : tIn T (B + n) T') (hTB : ∀ x ∈ T, x < B) : ∀ x ∈ privs B n, x ∉ T' := fun x hx hm => by
  rw [mem_privs] at hx
  rcases hT x hm with h | h
  · have := hTB x h; omega
  · omega

/-- AN OUTERMOST LOOP -/
theorem wp_rng {g : Operand} {ps : Array Tmp} {assign body : Code} {Q : Exit → Act → World → Prop} {a : Act} {w : World} {gf : Nat} {lb : Array Value}
    (hg : a.eval g = .func (.func gf) #[] lb) (eg : ∀ args w, (callFunc gf args).run P w = .ok (.enter gf args) w)
    {encs : α → Array Value} {xs : List α} {np : Nat} {ex : List Nat} {T : List Nat} (hex : ∀ b ∈ ex, b < w.heap.size ∧ b ∉ T) (hit : Iter1 P gf lb encs xs np ex w) (hps : ∀ x, (encs x).size = ps.size)
    (J : List α → List Nat → World → Prop) (Jx : Code → List Nat → World → Prop) (Pa : Array Value → List Nat → α → Act → World → Prop)
    (hk : ∀ pre T' A B S, J pre T' A → Keep S A B → (∀ x ∈ S, x ∉ T') → J pre T' B) (hkx : ∀ c T' A B S, Jx c T' A → Keep S A B → (∀ x ∈ S, x ∉ T') → Jx c T' B)
    (hJl : ∀ pre T' A, J pre T' A → ∀ y ∈ T', y < A.heap.size) (hPa : ∀ T' x a1 A B, Pa a.tmps T' x a1 A → Keep (privs w.heap.size (2 + np)) A B → Pa a.tmps T' x a1 B) (hlt : ∀ x ∈ T, x < w.heap.size) (h0 : J [] T w)
    (hassign : ∀ (T' : List Nat) (x : α) (W : World) (K : Act → World → Prop), (∀ y ∈ T', y < W.heap.size) → w.heap.size + (2 + np) ≤ W.heap.size → (∀ a1 W1, Pa a.tmps T' x a1 W1 → Ext W W1 → K a1 W1) →
      assign.wpIn (RF (w.heap.size + 1)) 0 P (Exit.then K (fun _ _ _ => False)) { tmps := (ps.zip (encs x)).foldl (fun t (p, v) => t.setIfInBounds p v) a.tmps, defers := [] } W)
    (hbody : ∀ (pre : List α) (x : α) (a1 : Act) (T' : List Nat) (W : World), J pre T' W → Keep T w W → tIn T (w.heap.size + (2 + np)) T' → Pa a.tmps T' x a1 W → (pre ++ [x]) <+: xs → w.heap.size + (2 + np) ≤ W.heap.size → (∃ r, W.heap[w.heap.size + 1]? = some (.loop r)) →
      body.wpIn (RF (w.heap.size + 1)) 0 P (bPost (J (pre ++ [x])) Jx T' W) a1 W)
    (hdone : ∀ (T' : List Nat) (W : World), J xs T' W → Keep T w W → tIn T (w.heap.size + (2 + np)) T' → W.heap[w.heap.size]? = some (.deferred (some [])) → Q .normal { a with defers := { target := .collected w.heap.size, args := #[] } :: a.defers } W)
    (hstop : ∀ (c : Code) (T' : List Nat) (W : World), Jx c T' W → Keep T w W → tIn T (w.heap.size + (2 + np)) T' → W.heap[w.heap.size]? = some (.deferred (some [])) → c.wp P Q { a with defers := { target := .collected w.heap.size, args := #[] } :: a.defers } W) :
    (Code.rangeFunc g ps assign body).wp P Q a w := by
  have hX : ∀ {T' : List Nat} {A B : World}, tIn T (w.heap.size + (2 + np)) T' → Keep (privs w.heap.size (2 + np)) A B → ∀ x ∈ privs w.heap.size (2 + np), x ∉ T' := fun h _ => rng_off h hlt
  have hkw : ∀ {A B : World}, Keep T w A → Keep (privs w.heap.size (2 + np)) A B → Keep T w B := fun h k => h.of_new k fun z hz => by rw [mem_privs] at hz; exact .inr hz.1
  refine wp_range hg eg (fun b hb => (hex b hb).1) hit hps
    (fun pre W => ∃ T', J pre T' W ∧ Keep T w W ∧ tIn T (w.heap.size + (2 + np)) T') (fun c _ W => ∃ T', Jx c T' W ∧ Keep T w W ∧ tIn T (w.heap.size + (2 + np)) T')
    (fun tm pre x a1 W => ∃ T', (J pre T' W ∧ Keep T w W ∧ tIn T (w.heap.size + (2 + np)) T') ∧ Pa tm T' x a1 W)
    (fun pre A B ⟨T', h1, h2, h3⟩ k => ⟨T', hk _ _ _ _ _ h1 k (hX h3 k), hkw h2 k, h3⟩)
    (fun c pre A B ⟨T', h1, h2, h3⟩ k => ⟨T', hkx _ _ _ _ _ h1 k (hX h3 k), hkw h2 k, h3⟩)
    (fun pre x a1 A B ⟨T', ⟨h1, h2, h3⟩, h4⟩ k => ⟨T', ⟨hk _ _ _ _ _ h1 k (hX h3 k), hkw h2 k, h3⟩, hPa _ _ _ _ _ h4 k⟩)
    ⟨T, h0, Keep.refl _ _, .refl _ _⟩ ?_ ?_ (fun W ⟨T', h1, h2, h3⟩ hD => hdone T' W h1 h2 h3 hD) (fun c pre W ⟨T', h1, h2, h3⟩ hD => hstop c T' W h1 h2 h3 hD)
  · rintro pre x W K ⟨T', h1, h2, h3⟩ hpre hsz hK
    refine hassign T' x W K (hJl _ _ _ h1) hsz fun a1 W1 hp hx => hK a1 W1 ⟨T', ⟨hk _ _ _ _ _ h1 (hx.keep []) (by simp), h2.trans (hx.keep _), h3⟩, hp⟩ (rng_same (hx.keep []) (T' := []) (T := T) (by intro x h; simp at h) hlt hsz hex) (Below.size hx)
  · rintro pre x a1 W ⟨T', ⟨h1, h2, h3⟩, hp⟩ hpre hsz hr
    refine wpIn_mono (hbody pre x a1 T' W h1 h2 h3 hp hpre hsz hr) ?_
    have fin : ∀ {T'' : List Nat} {W' : World}, Keep T' W W' → tIn T' W.heap.size T'' → W.heap.size ≤ W'.heap.size ∧ Same (privs w.heap.size (2 + np) ++ ex) W W' ∧ Keep T w W' ∧ tIn T (w.heap.size + (2 + np)) T'' := fun k t =>
      ⟨k.size, rng_same k h3 hlt hsz hex, h2.of_new k (fun z hz => by rcases h3 z hz with h | h; exact .inl h; exact .inr (by omega)), h3.trans t hsz⟩
    rintro e a2 W' hq
    cases e with
    | normal => obtain ⟨T'', q1, q2, q3⟩ := hq; obtain ⟨f1, f2, f3, f4⟩ := fin q2 q3; exact ⟨f1, f2, T'', q1, f3, f4⟩
    | ret => obtain ⟨T'', q1, q2, q3⟩ := hq; obtain ⟨f1, f2, f3, f4⟩ := fin q2 q3; exact ⟨f1, f2, T'', q1, f3, f4⟩
    | exit id => obtain ⟨T'', q1, q2, q3⟩ := hq; obtain ⟨f1, f2, f3, f4⟩ := fin q2 q3; exact ⟨f1, f2, T'', q1, f3, f4⟩
    | goto t => obtain ⟨T'', q1, q2, q3⟩ := hq; obtain ⟨f1, f2, f3, f4⟩ := fin q2 q3; exact ⟨f1, f2, T'', q1, f3, f4⟩
    | panic ch => exact hq.elim
    | outgrown => exact hq.elim

/-- A LOOP WITHIN A ROUND of the loop l₀ -/
theorem wpI_rng {g : Operand} {ps : Array Tmp} {assign body : Code} {Q : Exit → Act → World → Prop} {a : Act} {w : World} {gf : Nat} {lb : Array Value} {l₀ : Nat} (hl₀ : ∃ r₀, w.heap[l₀]? = some (.loop r₀))
    (hg : a.eval g = .func (.func gf) #[] lb) (eg : ∀ args w, (callFunc gf args).run P w = .ok (.enter gf args) w)
    {encs : α → Array Value} {xs : List α} {np : Nat} {ex : List Nat} {T : List Nat} (hex : ∀ b ∈ ex, b < w.heap.size ∧ b ∉ T) (hit : Iter1 P gf lb encs xs np ex w) (hps : ∀ x, (encs x).size = ps.size)
    (J : List α → List Nat → World → Prop) (Jx : Code → List Nat → World → Prop) (Pa : Array Value → List Nat → α → Act → World → Prop)
    (hk : ∀ pre T' A B S, J pre T' A → Keep S A B → (∀ x ∈ S, x ∉ T') → J pre T' B) (hkx : ∀ c T' A B S, Jx c T' A → Keep S A B → (∀ x ∈ S, x ∉ T') → Jx c T' B)
    (hJl : ∀ pre T' A, J pre T' A → ∀ y ∈ T', y < A.heap.size) (hPa : ∀ T' x a1 A B, Pa a.tmps T' x a1 A → Keep (privs w.heap.size (1 + np)) A B → Pa a.tmps T' x a1 B) (hlt : ∀ x ∈ T, x < w.heap.size) (h0 : J [] T w)
    (hassign : ∀ (T' : List Nat) (x : α) (W : World) (K : Act → World → Prop), (∀ y ∈ T', y < W.heap.size) → w.heap.size + (1 + np) ≤ W.heap.size → (∀ a1 W1, Pa a.tmps T' x a1 W1 → Ext W W1 → K a1 W1) →
      assign.wpIn (RF w.heap.size) 0 P (Exit.then K (fun _ _ _ => False)) { tmps := (ps.zip (encs x)).foldl (fun t (p, v) => t.setIfInBounds p v) a.tmps, defers := [] } W)
    (hbody : ∀ (pre : List α) (x : α) (a1 : Act) (T' : List Nat) (W : World), J pre T' W → Keep T w W → tIn T (w.heap.size + (1 + np)) T' → Pa a.tmps T' x a1 W → (pre ++ [x]) <+: xs → w.heap.size + (1 + np) ≤ W.heap.size → (∃ r, W.heap[w.heap.size]? = some (.loop r)) →
      body.wpIn (RF w.heap.size) 0 P (bPost (J (pre ++ [x])) Jx T' W) a1 W)
    (hdone : ∀ (T' : List Nat) (W : World), J xs T' W → Keep T w W → tIn T (w.heap.size + (1 + np)) T' → Q .normal a W)
    (hstop : ∀ (c : Code) (T' : List Nat) (W : World), Jx c T' W → Keep T w W → tIn T (w.heap.size + (1 + np)) T' → c.wpIn (RF l₀) 0 P Q a W) :
    (Code.rangeFunc g ps assign body).wpIn (RF l₀) 0 P Q a w := by
  obtain ⟨r₀, hl₀⟩ := hl₀
  have hX : ∀ {T' : List Nat} {A B : World}, tIn T (w.heap.size + (1 + np)) T' → Keep (privs w.heap.size (1 + np)) A B → ∀ x ∈ privs w.heap.size (1 + np), x ∉ T' := fun h _ => rng_off h hlt
  have hkw : ∀ {A B : World}, Keep T w A → Keep (privs w.heap.size (1 + np)) A B → Keep T w B := fun h k => h.of_new k fun z hz => by rw [mem_privs] at hz; exact .inr hz.1
  refine wpI_range hl₀ hg eg (fun b hb => (hex b hb).1) hit hps
    (fun pre W => ∃ T', J pre T' W ∧ Keep T w W ∧ tIn T (w.heap.size + (1 + np)) T') (fun c _ W => ∃ T', Jx c T' W ∧ Keep T w W ∧ tIn T (w.heap.size + (1 + np)) T')
    (fun tm pre x a1 W => ∃ T', (J pre T' W ∧ Keep T w W ∧ tIn T (w.heap.size + (1 + np)) T') ∧ Pa tm T' x a1 W)
    (fun pre A B ⟨T', h1, h2, h3⟩ k => ⟨T', hk _ _ _ _ _ h1 k (hX h3 k), hkw h2 k, h3⟩)
    (fun c pre A B ⟨T', h1, h2, h3⟩ k => ⟨T', hkx _ _ _ _ _ h1 k (hX h3 k), hkw h2 k, h3⟩)
    (fun pre x a1 A B ⟨T', ⟨h1, h2, h3⟩, h4⟩ k => ⟨T', ⟨hk _ _ _ _ _ h1 k (hX h3 k), hkw h2 k, h3⟩, hPa _ _ _ _ _ h4 k⟩)
    ⟨T, h0, Keep.refl _ _, .refl _ _⟩ ?_ ?_ (fun W ⟨T', h1, h2, h3⟩ => hdone T' W h1 h2 h3) (fun c pre W ⟨T', h1, h2, h3⟩ => hstop c T' W h1 h2 h3)
  · rintro pre x W K ⟨T', h1, h2, h3⟩ hpre hsz hK
    refine hassign T' x W K (hJl _ _ _ h1) hsz fun a1 W1 hp hx => hK a1 W1 ⟨T', ⟨hk _ _ _ _ _ h1 (hx.keep []) (by simp), h2.trans (hx.keep _), h3⟩, hp⟩ (rng_same (hx.keep []) (T' := []) (T := T) (by intro x h; simp at h) hlt hsz hex) (Below.size hx)
  · rintro pre x a1 W ⟨T', ⟨h1, h2, h3⟩, hp⟩ hpre hsz hr
    refine wpIn_mono (hbody pre x a1 T' W h1 h2 h3 hp hpre hsz hr) ?_
    have fin : ∀ {T'' : List Nat} {W' : World}, Keep T' W W' → tIn T' W.heap.size T'' → W.heap.size ≤ W'.heap.size ∧ Same (privs w.heap.size (1 + np) ++ ex) W W' ∧ Keep T w W' ∧ tIn T (w.heap.size + (1 + np)) T'' := fun k t =>
      ⟨k.size, rng_same k h3 hlt hsz hex, h2.of_new k (fun z hz => by rcases h3 z hz with h | h; exact .inl h; exact .inr (by omega)), h3.trans t hsz⟩
    rintro e a2 W' hq
    cases e with
    | normal => obtain ⟨T'', q1, q2, q3⟩ := hq; obtain ⟨f1, f2, f3, f4⟩ := fin q2 q3; exact ⟨f1, f2, T'', q1, f3, f4⟩
    | ret => obtain ⟨T'', q1, q2, q3⟩ := hq; obtain ⟨f1, f2, f3, f4⟩ := fin q2 q3; exact ⟨f1, f2, T'', q1, f3, f4⟩
    | exit id => obtain ⟨T'', q1, q2, q3⟩ := hq; obtain ⟨f1, f2, f3, f4⟩ := fin q2 q3; exact ⟨f1, f2, T'', q1, f3, f4⟩
    | goto t => obtain ⟨T'', q1, q2, q3⟩ := hq; obtain ⟨f1, f2, f3, f4⟩ := fin q2 q3; exact ⟨f1, f2, T'', q1, f3, f4⟩
    | panic ch => exact hq.elim
    | outgrown => exact hq.elim

/-- IN A FUNCTION THAT BEGAN AT w AND RUNS SUCH LOOPS: T the blocks of its state, ds the marks that its loops have left, W the world -/
structure Run (w : World) (T : List Nat) (ds : List Deferred) (W : World) : Prop where
  ext : Ext w W
  marks : Marks w.heap.size ds W
  nd : ∀ D ∈ T, ∀ d ∈ ds, d.target ≠ .collected D
  tin : ∀ x ∈ T, w.heap.size ≤ x
  lt : ∀ x ∈ T, x < W.heap.size
theorem Run.new {w W : World} {T : List Nat} (hx : Ext w W) (ht : ∀ x ∈ T, w.heap.size ≤ x) (hl : ∀ x ∈ T, x < W.heap.size) : Run w T [] W := ⟨hx, .nil _, by simp, ht, hl⟩
theorem Run.step {w W W' : World} {T T' : List Nat} {ds : List Deferred} (h : Run w T ds W) (k : Keep T W W') (ht : tIn T W.heap.size T') (hl : ∀ x ∈ T', x < W'.heap.size) : Run w T' ds W' := by
  refine ⟨h.ext.of_new k h.tin, h.marks.keep k h.nd, fun D hD d hd e => ?_, fun x hx => ?_, hl⟩
  · rcases ht D hD with h1 | h1
    · exact h.nd D h1 d hd e
    · obtain ⟨D', e1, _, h3⟩ := h.marks.lt d hd
      rw [e1] at e
      injection e with e
      have := (Array.getElem?_eq_some_iff.1 h3).1
      omega
  · rcases ht x hx with h1 | h1
    · exact h.tin x h1
    · have := Below.size h.ext
      omega
theorem Run.stepE {w W W' : World} {T : List Nat} {ds : List Deferred} (h : Run w T ds W) (k : Ext W W') : Run w T ds W' := h.step (k.keep _) (.refl _ _) fun x hx => Nat.lt_of_lt_of_le (h.lt x hx) (Below.size k)
/-- behind a loop that began at W -/
theorem Run.mark {w W W' : World} {T T' : List Nat} {ds : List Deferred} {n : Nat} (h : Run w T ds W) (k : Keep T W W') (ht : tIn T (W.heap.size + (2 + n)) T') (hl : ∀ x ∈ T', x < W'.heap.size) (hD : W'.heap[W.heap.size]? = some (.deferred (some []))) : Run w T' ({ target := .collected W.heap.size, args := #[] } :: ds) W' := by
  have h1 := h.step k (fun x hx => (ht x hx).imp id (fun h => by omega)) hl
  refine ⟨h1.ext, .cons (Below.size h.ext) hD (fun d hd e => ?_) h1.marks, fun D hD d hd e => ?_, h1.tin, hl⟩
  · obtain ⟨D', e1, _, h3⟩ := h.marks.lt d hd
    rw [e1] at e
    injection e with e
    have := (Array.getElem?_eq_some_iff.1 h3).1
    omega
  · rcases List.mem_cons.1 hd with rfl | hd
    · injection e with e
      rcases ht D hD with h2 | h2
      · have := h.lt D h2; omega
      · omega
    · exact h1.nd D hD d hd e
/-- the function's end -/
theorem Run.leaves {fn : Func} {tmps : Array Value} {R : Ending → World → Prop} {w W : World} {T : List Nat} {ds : List Deferred} (h : Run w T ds W) (hR : ∀ w' S, Keep S W w' → (∀ x ∈ S, x ∉ T) → Ext w w' → LeavesIn Fence.wide 0 P fn tmps R [] .returning w') : LeavesInM Fence.wide 0 P fn tmps R ds .returning W := by
  refine leaves_marks (B := w.heap.size) ds W h.marks ?_
  rintro w' ⟨S, hS, hkS⟩
  refine hR w' S hkS (fun x hx hm => ?_) (h.ext.of_new hkS fun x hx => ?_)
  · obtain ⟨d, hd, e⟩ := hS x hx
    exact h.nd x hm d hd e
  · obtain ⟨d, hd, e⟩ := hS x hx
    obtain ⟨D, e1, h2, _⟩ := h.marks.lt d hd
    rw [e1] at e
    injection e with e
    omega
end
section
variable {P : Program} {ops : Array Oper} {R : World → World → Prop} {C : World → Prop} {safe : Nat → Bool} {Q : Act → World → Prop}
theorem wpQL_mono {K K' : Act → Prop} (h : ∀ a, K a → K' a) : ∀ (l : List Nat) (a : Act), wpQL P ops R C K l a → wpQL P ops R C K' l a
  | [], a, hk => h a hk
  | i :: r, a, hk => fun o ho => by
    have := hk o ho
    split at this
    · rename_i hw
      rw [if_pos hw]
      obtain ⟨v, h1, h2⟩ := this
      exact ⟨v, h1, wpQL_mono h r _ h2⟩
    · rename_i hw
      rw [if_neg hw]
      exact wpQL_mono h r _ this
/-- quiet operations, the world known behind them -/
theorem wpX_qlx {anc : Nat → List Nat} (ha : ancOk ops anc) (hsz : ∀ j, ops.size ≤ j → safe j = true) (hs : Region.noSelect ops = true) (hR : ∀ w, R w w) (hRt : ∀ a b c, R a b → R b c → R a c) (hCR : ∀ w w', C w → R w w' → C w') (n : Nat) :
    ∀ (l : List Nat) (listed : Array Bool) (a : Act) (w : World), Closed ops listed → qlLook ops safe anc l listed = true → C w →
      wpQL P ops R C (fun a' => ∀ w', R w w' → wpX P ops R C safe Q n (qlListed ops l listed) a' w') l a → wpX P ops R C safe Q (n + l.length) listed a w
  | [], listed, a, w, _, _, hC, h => h w (hR w)
  | k :: ks, listed, a, w, hcl, hl, hC, h => by
    simp only [qlLook, Bool.and_eq_true] at hl
    obtain ⟨⟨⟨hr, hf⟩, hsf⟩, hl'⟩ := hl
    have hr' : k ∈ Region.ready .any ops listed := by simpa using hr
    obtain ⟨_, o, ho, _⟩ := mem_ready.1 hr'
    obtain ⟨v, hy, hK⟩ := yields_of_wpQL ho h
    have hsafe : ∀ j, safe j = true ∨ k ∈ anc j := fun j => by
      rcases Nat.lt_or_ge j ops.size with hj | hj
      · have := List.all_eq_true.1 hsf j (List.mem_range.2 hj)
        simpa using this
      · exact .inl (hsz j hj)
    rw [List.length_cons, ← Nat.add_assoc]
    exact X_first ha hR hRt hCR ho (Region.noSelect_spec hs) hsafe (n + ks.length) listed a w hcl (Region.free_spec ho hf) hr' hC hy
      (fun w' hw' => wpX_qlx ha hsz hs hR hRt hCR n ks _ _ w' (hcl.set hr') hl' (hCR _ _ hC hw') (wpQL_mono (fun a' hk w'' hw'' => hk w'' (hRt _ _ _ hw' hw'')) ks _ hK))
theorem wpX_qle {l : List Oper} {a : Act} {w : World} (C : World → Prop) (qs ts : List Nat) (n : Nat) (hB : qlB l.toArray qs ts (ancTab l.toArray) = true) (hC : C w)
    (h : wpQL P l.toArray (fun a b => b = a) C (fun a' => wpX P l.toArray (fun a b => b = a) C (fun j => !ts.contains j) Q n (qlListed l.toArray qs (Array.replicate l.length false)) a' w) qs a) :
    wpX P l.toArray (fun a b => b = a) C (fun j => !ts.contains j) Q (n + qs.length) (Array.replicate l.length false) a w := by
  simp only [qlB, Bool.and_eq_true] at hB
  obtain ⟨⟨⟨h1, h2⟩, h3⟩, h4⟩ := hB
  have hsz : l.toArray.size = l.length := by simp
  rw [hsz] at h4
  exact wpX_qlx (P := P) (R := fun a b => b = a) (C := C) (ancOk_of h1) (fun j hj => by
    simp only [Bool.not_eq_true', List.contains_eq_mem, decide_eq_false_iff_not]
    intro hin
    have := List.all_eq_true.1 h3 j hin
    simp at this
    omega) h2 (fun _ => rfl) (fun _ _ _ h1 h2 => h2.trans h1) (fun _ _ h e => by rw [e]; exact h) n qs _ a w
    (fun j oj _ hl => by
      exfalso
      rcases Nat.lt_or_ge j l.length with hj | hj
      · simp [hj] at hl
      · simp [hj] at hl) h4 hC (wpQL_mono (fun a' hk w'' e => by rw [e]; exact hk) qs _ h)
/-- A REGION THAT DRAWS ITS ORDER, by a class of worlds C: what the quiet ones read lies alike in all of C; the world behind them is known. -/
theorem wp_region_cls {id : Nat} {Q : Exit → Act → World → Prop} {a : Act} {w : World} {l : List Oper} (C : World → Prop) (hC : C w.drew) (qs ts : List Nat) (n : Nat) (listed : Array Bool)
    (hm : P.follows .mixedOrders = true) (hB : qlB l.toArray qs ts (ancTab l.toArray) = true) (hn : n + qs.length = l.length) (hlst : qlListed l.toArray qs (Array.replicate l.length false) = listed)
    (h : wpQL P l.toArray (fun a b => b = a) C (fun a' => wpX P l.toArray (fun a b => b = a) C (fun j => !ts.contains j) (fun a w => Q .normal a w) n listed a' w.drew) qs a) : (Code.region id l.toArray true).wp P Q a w := by
  subst hlst
  refine wp_region_any hm ?_
  have := wpX_qle (P := P) (Q := fun a w => Q .normal a w) C qs ts n hB hC h
  rw [hn] at this
  have hsz : l.toArray.size = l.length := by simp
  rw [hsz]
  exact wpAny_of_wpX (R := fun a b => b = a) (fun _ => rfl) (fun _ _ h => h) _ _ _ _ this
theorem wpI_region_cls {id l0 m : Nat} {Q : Exit → Act → World → Prop} {a : Act} {w : World} {l : List Oper} (C : World → Prop) (hC : C w.drew) (qs ts : List Nat) (n : Nat) (listed : Array Bool)
    (hm : P.follows .mixedOrders = true) (hnd : noDefer l.toArray = true) (hB : qlB l.toArray qs ts (ancTab l.toArray) = true) (hn : n + qs.length = l.length) (hlst : qlListed l.toArray qs (Array.replicate l.length false) = listed)
    (h : wpQL P l.toArray (fun a b => b = a) C (fun a' => wpX P l.toArray (fun a b => b = a) C (fun j => !ts.contains j) (fun a w => Q .normal a w) n listed a' w.drew) qs a) : (Code.region id l.toArray true).wpIn (RF l0) m P Q a w := by
  subst hlst
  refine wpIn_region_any hm ?_
  have := wpX_qle (P := P) (Q := fun a w => Q .normal a w) C qs ts n hB hC h
  rw [hn] at this
  have hsz : l.toArray.size = l.length := by simp
  rw [hsz]
  exact wpAnyIn_of_wpX (R := fun a b => b = a) hnd (fun _ => rfl) (fun _ _ h => h) _ _ _ _ this
/-- a cell of a known block, wherever other blocks may have turned -/
theorem Blk.cellsK {W : World} {S : List Nat} {b : Nat} {t : TypeId} {cs : Array Value} (h : Blk W b t cs) (hn : b ∉ S) (i : Nat) {v : Value} (hv : cs[i]? = some v) : ∀ W', Keep S W W' → W'.cell? ⟨b, i, none⟩ = some v := fun _ hk => ((h.keep hk hn).cell i).trans hv
end
end Go.Proofs.YtmfkkkhddigkfaaGreatDoor
/- STEPS OF A DRAWN REGION whose loud operations stand in one order, the world known at each. Conditions: see each theorem. -/
namespace Go.Proofs.YtmfkkkhddigkfaaGreatDoor
open Go Go.RowKit Go.Shelf
attribute [local go_sem] qUpon lUpon

theorem qUpon_eq {P : Program} {W : World} {v : Value} {r : Result Next} (h : r = .ok (.value v) W) : qUpon P (fun a b => b = a) W v r := by rw [h]; exact ⟨rfl, rfl⟩
section
variable {P : Program} {C : World → Prop} {safe : Nat → Bool} {Q : Act → World → Prop} {l : List Oper} {n i : Nat} {o : Oper} {listed : Array Bool} {a : Act} {W w' : World} {v : Value}
/-- an operation that leaves a value -/
theorem lx_valE (hr : Region.ready .any l.toArray listed = [i]) (ho : pick l i = some o) (hw : Region.wanted o (yielded l.toArray a.tmps) = true) (listed' : Array Bool) (hl : listed.setIfInBounds i true = listed')
    (h : (execOp a.eval o).run P W = .ok (.value v) w') (hC : safe i = true → C w') (hk : wpX P l.toArray (fun a b => b = a) C safe Q n listed' (a.put o.dst v) w') : wpX P l.toArray (fun a b => b = a) C safe Q (n + 1) listed a W := by
  refine lx_one hr ho hw listed' hl ?_
  rw [h]
  exact ⟨hC, fun w'' e => by rw [e]; exact hk⟩
/-- an operation that leaves none -/
theorem lx_skipE (hr : Region.ready .any l.toArray listed = [i]) (ho : pick l i = some o) (hw : Region.wanted o (yielded l.toArray a.tmps) = true) (listed' : Array Bool) (hl : listed.setIfInBounds i true = listed')
    (h : (execOp a.eval o).run P W = .ok .skip w') (hC : safe i = true → C w') (hk : wpX P l.toArray (fun a b => b = a) C safe Q n listed' (a.put o.dst undef) w') : wpX P l.toArray (fun a b => b = a) C safe Q (n + 1) listed a W := by
  refine lx_one hr ho hw listed' hl ?_
  rw [h]
  exact ⟨hC, fun w'' e => by rw [e]; exact hk⟩
/-- a call -/
theorem lx_callE {f : FuncId} {args : Array Value} (hr : Region.ready .any l.toArray listed = [i]) (ho : pick l i = some o) (hw : Region.wanted o (yielded l.toArray a.tmps) = true) (listed' : Array Bool) (hl : listed.setIfInBounds i true = listed')
    (h : (execOp a.eval o).run P W = .ok (.enter f args) W) (hk : Calls P f args W fun e w' => ∃ v, e = .returned v ∧ (safe i = true → C w') ∧ wpX P l.toArray (fun a b => b = a) C safe Q n listed' (a.put o.dst v) w') : wpX P l.toArray (fun a b => b = a) C safe Q (n + 1) listed a W := by
  refine lx_one hr ho hw listed' hl ?_
  rw [h]
  exact hk.mono fun e w' ⟨v, he, hC, hk⟩ => ⟨v, he, hC, fun w'' e => by rw [e]; exact hk⟩
end
section
variable {α : Type} {enc : α → List Value} {T ST : TypeId} {kk byt : Nat} {C : World → Prop} {safe : Nat → Bool} {Q : Act → World → Prop} {l : List Oper} {n i : Nat} {o : Oper} {s x : Operand} {listed : Array Bool} {a : Act} {W : World}
/-- append of one element -/
theorem lx_ap1E (hr : Region.ready .any l.toArray listed = [i]) (ho0 : pick l i = some o) (hw : Region.wanted o (yielded l.toArray a.tmps) = true) (listed' : Array Bool) (hli : listed.setIfInBounds i true = listed')
    (hi0 : (Tryz.prog.info? T).map (fun i => (i.zero.map (·.cells.size), i.size, i.bytes)) = some (some kk, kk, byt)) (hu : Tryz.prog.underlying ST = some (.slice T)) (hone : ∀ x, ∀ v ∈ enc x, v.oneCell' = true) (hlen : ∀ x, (enc x).length = kk) (hk : 0 < kk) (hby : byt ≤ 1000)
    (ho : o.op = .call { callee := .builtin .append, args := #[s, x], argTypes := #[ST, ST] }) {base : Nat} {v : Value} {m : Nat} {xs : List α} (e : α) {g : Nat} {t : TypeId} (hsv : a.eval s = v) (hx : a.eval x = .slice (some ⟨g, 0, none⟩) 1 1) (hg : Blk W g t (enc e).toArray)
    (hown : W.ownsRow base T kk v m (xs.flatMap enc)) (hl : m ≤ 10000000) (hb : base ≤ W.heap.size)
    (h : ∀ A' c' w', w'.ownsRow base T kk (.slice A' (m + 1) c') (m + 1) ((xs ++ [e]).flatMap enc) → W.grownBy w' v.ownBlock → (Value.ownBlock (.slice A' (m + 1) c') = v.ownBlock ∨ Value.ownBlock (.slice A' (m + 1) c') = some W.heap.size) → (safe i = true → C w') ∧ wpX Tryz.prog l.toArray (fun a b => b = a) C safe Q n listed' (a.put o.dst (.slice A' (m + 1) c')) w') : wpX Tryz.prog l.toArray (fun a b => b = a) C safe Q (n + 1) listed a W := by
  obtain ⟨A', c', w', h1, h2, h3, h4⟩ := run_ap1 hi0 hu hone hlen hk hby ho e hsv hx hg hown hl hb
  obtain ⟨hC, hk⟩ := h A' c' w' h2 h3 h4
  exact lx_valE hr ho0 hw listed' hli h1 hC hk
end
theorem Run.after {w W W' : World} {T : List Nat} {ds : List Deferred} (h : Run w T ds W) (k : Keep T W W') : Ext w W' := h.ext.of_new k h.tin
/-- a slice's one own block, as a list -/
theorem Acc.own_off {α : Type} {enc : α → List Value} {T ST k base bl : Nat} {xs : List α} {v : Value} {W : World} (h : Acc enc T ST k base bl xs v W) : ∀ x ∈ v.ownBlock.toList, base ≤ x ∧ x < W.heap.size := fun x hx => by
  have := own_base h.own (by simpa using hx)
  exact ⟨this.1, this.2.1⟩
/-- one more element, stored a while after it has been appended -/
theorem Acc.push' {α : Type} {enc : α → List Value} {T ST k base bl : Nat} {xs : List α} {v v' : Value} {W W1 w6 w7 : World} {ys : List α} {n : Nat} (h : Acc enc T ST k base bl xs v W) (hx : Ext W W1) (hown : w6.ownsRow base T k v' n (ys.flatMap enc)) (hn : n = ys.length) (hg : W1.grownBy w6 v.ownBlock) (hat : v'.ownBlock = v.ownBlock ∨ v'.ownBlock = some W1.heap.size) (hx7 : Ext w6 w7) :
    Blk w7 bl ST #[v] ∧ Acc enc T ST k base bl ys v' (w7.setRow bl #[v']) ∧ Keep v.ownBlock.toList W w7 ∧ tIn (accT bl v) W.heap.size (accT bl v') := by
  subst hn
  have hk7 := ((hx.keep v.ownBlock.toList).trans (Keep.of_grown hg)).trans (hx7.keep _)
  have hne : bl ∉ v.ownBlock.toList := fun hm => by
    have h1 := (own_base h.own (by simpa using hm)).1
    have := h.lt
    omega
  have hc7 := h.cell.keep hk7 hne
  have hsz := Below.size hx
  refine ⟨hc7, ⟨hc7.row #[v'], own_keep (own_ext hown hx7) (Keep.setRow w7 bl #[v']) (fun g hg e => ?_), h.lt, ?_⟩, hk7, fun x hx' => ?_⟩
  · rw [List.mem_singleton] at hg
    have := (own_base hown e).1
    have := h.lt
    omega
  · have := h.le
    have := hk7.size
    have := (Keep.setRow w7 bl #[v']).size
    omega
  · simp only [accT, List.mem_cons, Option.mem_toList] at hx' ⊢
    rcases hx' with rfl | hx'
    · exact .inl (.inl rfl)
    · rcases hat with e | e
      · rw [e] at hx'; exact .inl (.inr hx')
      · rw [e] at hx'
        simp at hx'
        right; omega
end Go.Proofs.YtmfkkkhddigkfaaGreatDoor
