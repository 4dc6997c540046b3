/- known: the example answers true. Conditions: none but the world's. -/
import Derived.Test.YtdkhondfahebnaaEg
import Derived.Test.YtdkhondfahebnaaNx
namespace Go.Proofs.Ytdkhondfahebnaa
open Go Go.RowKit

def kV1 : List (Int × Thing) := [((3 : Int), ((0 : Int), (0 : Int)))]
def kV2 : List (Int × Thing) := [((1 : Int), ((0 : Int), (0 : Int))), (3, (0, 0))]
def kE : List ((Int × Int) × Thing) := [(((1 : Int), (3 : Int)), ((0 : Int), (0 : Int)))]

theorem known1 (g bv be : Nat) (w : World) (hg : IsG w g bv be [] []) : Calls Try.prog 13 #[.pointer (some ⟨g, 0, none⟩), .agg #[.int .i64 0, .int .i64 3, .int .i64 0, .int .u8 0, .int .i64 0]] w fun e w' => e = .returned (.int .i64 0) ∧ IsG w' g bv be kV1 [] ∧ Keep [bv, be] w w' := by
  have h := apply_any g bv be [] [] 0 3 0 0 0 w hg (by unfold i64ok; decide) (by unfold i64ok; decide)
  rw [show wrongR 0 3 0 0 [] [] = 0 by decide, show nxV 0 3 0 0 0 [] [] = kV1 by decide, show nxE 0 3 0 0 0 [] [] = [] by decide] at h
  exact h
theorem known2 (g bv be : Nat) (w : World) (hg : IsG w g bv be kV1 []) : Calls Try.prog 13 #[.pointer (some ⟨g, 0, none⟩), .agg #[.int .i64 0, .int .i64 1, .int .i64 0, .int .u8 0, .int .i64 0]] w fun e w' => e = .returned (.int .i64 0) ∧ IsG w' g bv be kV2 [] ∧ Keep [bv, be] w w' := by
  have h := apply_any g bv be kV1 [] 0 1 0 0 0 w hg (by unfold i64ok; decide) (by unfold i64ok; decide)
  rw [show wrongR 0 1 0 0 kV1 [] = 0 by decide, show nxV 0 1 0 0 0 kV1 [] = kV2 by decide, show nxE 0 1 0 0 0 kV1 [] = [] by decide] at h
  exact h
theorem known3 (g bv be : Nat) (w : World) (hg : IsG w g bv be kV2 []) : Calls Try.prog 13 #[.pointer (some ⟨g, 0, none⟩), .agg #[.int .i64 2, .int .i64 3, .int .i64 1, .int .u8 0, .int .i64 0]] w fun e w' => e = .returned (.int .i64 0) ∧ IsG w' g bv be kV2 kE ∧ Keep [bv, be] w w' := by
  have h := apply_any g bv be kV2 [] 2 3 1 0 0 w hg (by unfold i64ok; decide) (by unfold i64ok; decide)
  rw [show wrongR 2 3 1 0 kV2 [] = 0 by decide, show nxV 2 3 1 0 0 kV2 [] = kV2 by decide, show nxE 2 3 1 0 0 kV2 [] = kE by decide] at h
  exact h
theorem known4 (g bv be : Nat) (w : World) (hg : IsG w g bv be kV2 kE) : Calls Try.prog 13 #[.pointer (some ⟨g, 0, none⟩), .agg #[.int .i64 2, .int .i64 1, .int .i64 3, .int .u8 0, .int .i64 0]] w fun e w' => e = .returned (.int .i64 7) ∧ IsG w' g bv be kV2 kE ∧ Keep [bv, be] w w' := by
  have h := apply_any g bv be kV2 kE 2 1 3 0 0 w hg (by unfold i64ok; decide) (by unfold i64ok; decide)
  rw [show wrongR 2 1 3 0 kV2 kE = 7 by decide, show nxV 2 1 3 0 0 kV2 kE = kV2 by decide, show nxE 2 1 3 0 0 kV2 kE = kE by decide] at h
  exact h
theorem known5 (g bv be : Nat) (w : World) (hg : IsG w g bv be kV2 kE) : Calls Try.prog 29 #[.pointer (some ⟨g, 0, none⟩), .int .i64 3, .int .i64 1] w fun e w' => e = .returned (.tuple #[.agg #[.int .i64 1, .int .i64 3, .int .u8 0, .int .i64 0], .int .i64 0, .bool true]) ∧ Ext w w' := by
  obtain ⟨V', E', h1, hV, hE, hi⟩ := hg
  exact gedge_hit g bv be V' E' kE 3 1 w h1 hE hi.se (by rw [← hE.length_eq]; decide) 0 (by decide) (by decide)
theorem known6 (g bv be : Nat) (w : World) (hg : IsG w g bv be kV2 kE) : Calls Try.prog 27 #[.pointer (some ⟨g, 0, none⟩)] w fun e w' => e = .returned (.tuple #[.int .i64 2, .int .i64 1]) ∧ Ext w w' := by
  obtain ⟨V', E', h1, hV, hE, hi⟩ := hg
  have h := len_any g bv be V' E' w h1
  rw [← hV.length_eq, ← hE.length_eq] at h
  exact h

set_option maxRecDepth 100000 in
set_option maxHeartbeats 4000000 in
theorem known_any (w : World) : Calls Try.prog 16 #[] w fun e w' => e = .returned (.bool true) ∧ Ext w w' := by
  go_enter Try.func16, Try.ntmps16
  go_wp2_with fail
  refine (new_rel _).mono ?_
  rintro e w1 ⟨g, bv, be, rfl, hg10, hx10, n1, n2, n3⟩
  have hg1 := hide hg10
  have hx1 := hide hx10
  have hn1 := hide (And.intro n1 (And.intro n2 n3))
  clear hg10 hx10 n1 n2 n3
  go_wp2_with fail
  refine (known1 g bv be _ (unhide hg1)).mono ?_
  rintro e w2 ⟨rfl, hg20, hk20⟩
  have hg2 := hide hg20
  have hk2 := hide hk20
  clear hg20 hk20
  go_wp2_with fail
  refine (known2 g bv be _ (unhide hg2)).mono ?_
  rintro e w3 ⟨rfl, hg30, hk30⟩
  have hg3 := hide hg30
  have hk3 := hide hk30
  clear hg30 hk30
  go_wp2_with fail
  refine (known3 g bv be _ (unhide hg3)).mono ?_
  rintro e w4 ⟨rfl, hg40, hk40⟩
  have hg4 := hide hg40
  have hk4 := hide hk40
  clear hg40 hk40
  go_wp2_with fail
  refine (known5 g bv be _ (unhide hg4)).mono ?_
  rintro e w5 ⟨rfl, hx50⟩
  have hx5 := hide hx50
  clear hx50
  go_wp2_with fail
  refine (known6 g bv be _ (((unhide hg4).ext (unhide hx5)).ext (ext_self1 _ _))).mono ?_
  rintro e w6 ⟨rfl, hx60⟩
  have hb := (Blk.new w5 47 #[.int .i64 1, .int .i64 3, .int .u8 0, .int .i64 0]).ext hx60
  have c0 := hb.cell 0
  have c1 := hb.cell 1
  simp at c0 c1
  have hx6 := hide hx60
  clear hx60 hb
  go_wp2_with fail
  refine (known4 g bv be _ ((((unhide hg4).ext (unhide hx5)).ext (ext_self1 _ _)).ext (unhide hx6))).mono ?_
  rintro e w7 ⟨rfl, hg7, hk70⟩
  have hk7 := hide hk70
  clear hg7 hk70
  go_wp2_with fail
  go_ret
  have h1 := unhide hx1
  have h3 := ((unhide hk2).trans (unhide hk3)).trans (unhide hk4)
  have h6 := ((unhide hx5).trans (ext_self1 _ _)).trans (unhide hx6)
  obtain ⟨m1, m2, m3⟩ := unhide hn1
  exact ⟨rfl, h1.of_new ((h3.trans (h6.keep _)).trans (unhide hk7)) (by simp; omega)⟩
end Go.Proofs.Ytdkhondfahebnaa
