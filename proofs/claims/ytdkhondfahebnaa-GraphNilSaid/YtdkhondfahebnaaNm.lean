/- SETS OF A GRAPH: EdgeSet; the sets of a nil graph. Conditions: see each theorem. -/
import Derived.Test.YtdkhondfahebnaaBe
import Derived.Test.YtdkhondfahebnaaPu
import Derived.Test.YtdkhondfahebnaaNb
import Derived.Test.YtdkhondfahebnaaIn
import Derived.Test.YtdkhondfahebnaaNl
namespace Go.Proofs.Ytdkhondfahebnaa
open Go Go.RowKit
attribute [local go_sem] qUpon lUpon

set_option maxRecDepth 100000 in
set_option maxHeartbeats 4000000 in
theorem eset_gen (g : Value) (n m : Int) (w : World) (hL : ∀ W, Ext w W → Calls Try.prog 27 #[g] W fun e w' => e = .returned (.tuple #[.int .i64 n, .int .i64 m]) ∧ Ext W w') :
    Calls Try.prog 37 #[g] w fun e w' => e = .returned (.agg (setC (belS m))) ∧ Ext w w' := by
  have hB0 := hide (Blk.new w 78 (setC 0))
  have hL' := hide hL
  clear hL
  go_enter Try.func37, Try.ntmps37
  go_wp2_with fail
  have hz : setC 0 = #[.int .u64 0, .int .u64 0, .int .u64 0, .int .u64 0, .int .u64 0, .int .u64 0, .int .u64 0, .int .u64 0, .int .u64 0, .int .u64 0, .int .u64 0, .int .u64 0, .int .u64 0, .int .u64 0, .int .u64 0, .int .u64 0] := rfl
  have hx1 := hide (ext_self1 w (.cells (setC 0) 78))
  rw [hz] at hB0 hx1
  generalize w.alloc (.cells #[.int .u64 0, .int .u64 0, .int .u64 0, .int .u64 0, .int .u64 0, .int .u64 0, .int .u64 0, .int .u64 0, .int .u64 0, .int .u64 0, .int .u64 0, .int .u64 0, .int .u64 0, .int .u64 0, .int .u64 0, .int .u64 0] 78) = W1 at *
  rw [← hz] at hB0
  clear hz
  generalize hb2e : w.heap.size = b2 at *
  refine (unhide hL' _ (unhide hx1)).mono ?_
  rintro e w2 ⟨rfl, hx2⟩
  have hB2 := hide ((unhide hB0).ext hx2)
  have hx2' := hide ((unhide hx1).trans hx2)
  clear hx1 hx2 hB0 hL'
  go_wp2_with fail
  refine (below_any _ _).mono ?_
  rintro e w3 ⟨rfl, hx3⟩
  have hB3 := (unhide hB2).ext hx3
  have hx3' := hide ((unhide hx2').trans hx3)
  have hst := store_Set (belS m) hB3
  have hB3' := hide hB3
  clear hx3 hx2' hB2 hB3
  go_wp2_with fail
  refine bodyPost_ret (ret_cell1 rfl rfl (load_Set _ b2 _ (Blk.putS _ (unhide hB3')))) rfl ?_
  exact ⟨rfl, (unhide hx3').of_new (Keep.putS w3 b2 _) (by simp; omega)⟩
theorem zero_Set : setC 0 = #[.int .u64 0, .int .u64 0, .int .u64 0, .int .u64 0, .int .u64 0, .int .u64 0, .int .u64 0, .int .u64 0, .int .u64 0, .int .u64 0, .int .u64 0, .int .u64 0, .int .u64 0, .int .u64 0, .int .u64 0, .int .u64 0] := rfl
theorem vset_nil (w : World) : Calls Try.prog 36 #[.pointer none] w fun e w' => e = .returned (.agg #[.int .u64 0, .int .u64 0, .int .u64 0, .int .u64 0, .int .u64 0, .int .u64 0, .int .u64 0, .int .u64 0, .int .u64 0, .int .u64 0, .int .u64 0, .int .u64 0, .int .u64 0, .int .u64 0, .int .u64 0, .int .u64 0]) ∧ Ext w w' :=
  vset_gen _ [] w (by simp) fun W _ => (vertices_nil W).mono fun _ _ h => ⟨none, 0, h.1, SlAt.nil, h.2⟩
theorem eset_nil (w : World) : Calls Try.prog 37 #[.pointer none] w fun e w' => e = .returned (.agg #[.int .u64 0, .int .u64 0, .int .u64 0, .int .u64 0, .int .u64 0, .int .u64 0, .int .u64 0, .int .u64 0, .int .u64 0, .int .u64 0, .int .u64 0, .int .u64 0, .int .u64 0, .int .u64 0, .int .u64 0, .int .u64 0]) ∧ Ext w w' :=
  eset_gen _ 0 0 w fun W _ => len_nil W
theorem near_nil (id : Int) (w : World) : Calls Try.prog 33 #[.pointer none, .int .i64 id] w fun e w' => e = .returned (.agg #[.int .u64 0, .int .u64 0, .int .u64 0, .int .u64 0, .int .u64 0, .int .u64 0, .int .u64 0, .int .u64 0, .int .u64 0, .int .u64 0, .int .u64 0, .int .u64 0, .int .u64 0, .int .u64 0, .int .u64 0, .int .u64 0]) ∧ Ext w w' := by
  have h := near_gen (.pointer none) id [] w (by simp) fun W _ => (edges_nil W).mono fun _ _ h => ⟨none, 0, h.1, SlAt.nil, h.2⟩
  rwa [show nearS id [] = 0 from rfl, zero_Set] at h
theorem inc_nil (id : Int) (w : World) : Calls Try.prog 35 #[.pointer none, .int .i64 id] w fun e w' => e = .returned (.agg #[.int .u64 0, .int .u64 0, .int .u64 0, .int .u64 0, .int .u64 0, .int .u64 0, .int .u64 0, .int .u64 0, .int .u64 0, .int .u64 0, .int .u64 0, .int .u64 0, .int .u64 0, .int .u64 0, .int .u64 0, .int .u64 0]) ∧ Ext w w' := by
  have h := inc_gen (.pointer none) id [] w (by simp) fun W _ => (edges_nil W).mono fun _ _ h => ⟨none, 0, h.1, SlAt.nil, h.2⟩
  rwa [show incS id [] ([] : List ((Int × Int) × Thing)).length = 0 from rfl, zero_Set] at h
end Go.Proofs.Ytdkhondfahebnaa
