/- maps.Clone, graph.Clone. Conditions: see each theorem. -/
import Derived.Test.YtdkhondfahebnaaEq
import Derived.Shelf.SlMaps.Clone
namespace Go.Proofs.Ytdkhondfahebnaa
open Go Go.RowKit
attribute [local go_sem] qUpon lUpon

set_option maxRecDepth 100000 in
set_option maxHeartbeats 2000000 in
theorem mcloneV_any (b : Nat) (M : List (Int × Thing)) (w : World) (h : MapIs ekV evT i64ok w b M) :
    Calls Try.prog 49 #[.map (some b)] w fun e w' => ∃ c, e = .returned (.map (some c)) ∧ MapIs ekV evT i64ok w' c M ∧ Ext w w' ∧ w.heap.size ≤ c := by
  obtain ⟨es, clock, hb, hs, hm, hk⟩ := h
  have hq := fun w => run_eql_map_nil_sl (P := Try.prog) w 87 _ _ (some b) Try.underlying87
  have hmm := hide (And.intro hs (And.intro hm hk))
  clear hs hm hk
  go_enter Try.func49, Try.ntmps49
  go_wp2_with fail
  rw [run_callFunc_extern Try.func86 (by kernel_rfl) (by kernel_rfl) (by kernel_rfl) (e := Extern.MapsClone.clone) (by kernel_rfl), run_maps_clone_sl w 87 hb]
  simp only [Result.andThen]
  rw [Oper.upon_value]
  go_wp2_with fail
  rw [run_typeAssert_map_sl _ 87 20 _ _ _ Try.underlying87]
  simp only [Result.andThen]
  rw [Oper.upon_value]
  go_wp2_with fail
  go_ret
  obtain ⟨hs, hm, hk⟩ := unhide hmm
  exact ⟨w.heap.size, rfl, ⟨es, clock, (MapKept.heap_alloc w _).1, hs, hm, hk⟩, ext_self1 _ _, Nat.le_refl _⟩

set_option maxRecDepth 100000 in
set_option maxHeartbeats 2000000 in
theorem mcloneE_any (b : Nat) (M : List ((Int × Int) × Thing)) (w : World) (h : MapIs ekE evT okE w b M) :
    Calls Try.prog 50 #[.map (some b)] w fun e w' => ∃ c, e = .returned (.map (some c)) ∧ MapIs ekE evT okE w' c M ∧ Ext w w' ∧ w.heap.size ≤ c := by
  obtain ⟨es, clock, hb, hs, hm, hk⟩ := h
  have hq := fun w => run_eql_map_nil_sl (P := Try.prog) w 88 _ _ (some b) Try.underlying88
  have hmm := hide (And.intro hs (And.intro hm hk))
  clear hs hm hk
  go_enter Try.func50, Try.ntmps50
  go_wp2_with fail
  rw [run_callFunc_extern Try.func86 (by kernel_rfl) (by kernel_rfl) (by kernel_rfl) (e := Extern.MapsClone.clone) (by kernel_rfl), run_maps_clone_sl w 88 hb]
  simp only [Result.andThen]
  rw [Oper.upon_value]
  go_wp2_with fail
  rw [run_typeAssert_map_sl _ 88 20 _ _ _ Try.underlying88]
  simp only [Result.andThen]
  rw [Oper.upon_value]
  go_wp2_with fail
  go_ret
  obtain ⟨hs, hm, hk⟩ := unhide hmm
  exact ⟨w.heap.size, rfl, ⟨es, clock, (MapKept.heap_alloc w _).1, hs, hm, hk⟩, ext_self1 _ _, Nat.le_refl _⟩

set_option maxRecDepth 100000 in
set_option maxHeartbeats 4000000 in
theorem clone_any (g bv be : Nat) (V : List (Int × Thing)) (E : List ((Int × Int) × Thing)) (w : World) (hg : IsG w g bv be V E) :
    Calls Try.prog 22 #[.pointer (some ⟨g, 0, none⟩)] w fun e w' => ∃ o ov oe, e = .returned (.pointer (some ⟨o, 0, none⟩)) ∧ IsG w' o ov oe V E ∧ Ext w w' ∧ w.heap.size ≤ o ∧ w.heap.size ≤ ov ∧ w.heap.size ≤ oe := by
  obtain ⟨V', E', h1, p1, p2, hi⟩ := hg
  have c0 := h1.ptr0
  have c1 := h1.ptr1
  have m1 := hide h1.vs
  have m2 := hide h1.es
  have hp := hide (And.intro p1 (And.intro p2 hi))
  clear h1 p1 p2 hi
  go_enter Try.func22, Try.ntmps22
  go_wp2_with fail
  refine wp_region_ext (P := Try.prog) [0,1,2,3,5,6,7,8] [] 5 #[true,true,true,true,false,true,true,true,true,false,false,false,false] (by kernel_rfl) (by kernel_rfl) rfl (by rfl) ?_
  iterate 8
    refine ql_want (v := ?_) rfl (by rfl) (fun W hW => ?_) ?_
    rotate_left
    · go_simp
      first | done | rfl
    go_frame
  refine wpQL_nil (fun w1 hx1 => ?_)
  clear c0 c1
  refine lx_one (i := 4) (by kernel_rfl) rfl (by rfl) #[true,true,true,true,true,true,true,true,true,false,false,false,false] (by rfl) ?_
  go_simp
  refine (mcloneV_any bv V' _ ((unhide m1).ext hx1)).mono ?_
  rintro e w2 ⟨ov, rfl, hm2, hx2, n2⟩
  refine ⟨_, rfl, hx1.trans hx2, fun w3 hx3 => ?_⟩
  refine lx_one (i := 9) (by kernel_rfl) rfl (by rfl) #[true,true,true,true,true,true,true,true,true,true,false,false,false] (by rfl) ?_
  go_simp
  refine (mcloneE_any be E' _ ((unhide m2).ext ((hx1.trans hx2).trans hx3))).mono ?_
  rintro e w4 ⟨oe, rfl, hm4, hx4, n4⟩
  have hx14 := ((hx1.trans hx2).trans hx3).trans hx4
  refine ⟨_, rfl, hx14, fun w5 hx5 => ?_⟩
  have hne : ov ≠ oe := by
    have := hm2.lt
    have := Below.size hx3
    omega
  have s1 := Below.size hx1
  have s2 := Below.size ((hx1.trans hx2).trans hx3)
  have hv5 := (hm2.ext (hx3.trans hx4)).ext hx5
  have he5 := hm4.ext hx5
  have hx15 := hx14.trans hx5
  clear hx1 hx2 hx3 hx4 hx5 hx14 hm2 hm4
  refine lx_one (i := 10) (by kernel_rfl) rfl (by rfl) #[true,true,true,true,true,true,true,true,true,true,true,false,false] (by rfl) ?_
  go_simp
  intro w6 hx6
  refine lx_one (i := 11) (by kernel_rfl) rfl (by rfl) #[true,true,true,true,true,true,true,true,true,true,true,true,false] (by rfl) ?_
  go_simp
  have hb7 := Blk.new w6 90 #[.map (some ov), .map (some oe)]
  have hx67 := ext_self1 w6 (.cells #[.map (some ov), .map (some oe)] 90)
  have s3 := Below.size (hx15.trans hx6)
  have hx17 := (hx15.trans hx6).trans hx67
  have hv7 := (hv5.ext hx6).ext hx67
  have he7 := (he5.ext hx6).ext hx67
  generalize w6.heap.size = o at *
  generalize w6.alloc (.cells #[.map (some ov), .map (some oe)] 90) = w7 at *
  first | refine ⟨(by assumption), ?_⟩ | skip
  intro w8 hx8
  refine lx_one (i := 12) (by kernel_rfl) rfl (by rfl) #[true,true,true,true,true,true,true,true,true,true,true,true,true] (by rfl) ?_
  go_simp
  first | refine ⟨hx17.trans hx8, ?_⟩ | skip
  intro w9 hx9
  have hx19 := (hx17.trans hx8).trans hx9
  have hv9 := (hv7.ext hx8).ext hx9
  have he9 := (he7.ext hx8).ext hx9
  have hb9 := (hb7.ext hx8).ext hx9
  have hfin := hide (And.intro hx19 (And.intro hv9 (And.intro he9 hb9)))
  have hsz := hide (And.intro s1 (And.intro s2 s3))
  clear hx19 hv9 he9 hb9 hx17 hx8 hx9 hv7 he7 hb7 hx67 hx6 hv5 he5 hx15 s1 s2 s3
  refine wpX_done (by kernel_rfl) ?_
  try go_frame
  go_wp2_with fail
  go_ret
  obtain ⟨hx19, hv9, he9, hb9⟩ := unhide hfin
  obtain ⟨p1, p2, hi⟩ := unhide hp
  obtain ⟨s1, s2, s3⟩ := unhide hsz
  exact ⟨o, ov, oe, rfl, ⟨V', E', ⟨hb9, hv9, he9, hne⟩, p1, p2, hi⟩, hx19, by omega, by omega, by omega⟩
end Go.Proofs.Ytdkhondfahebnaa
