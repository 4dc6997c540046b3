/-
  No cell of these rows narrows 'for every input' (looked for: loops, veiled, ifaces, maps, wideKeys, modest, calm, conditions, laid).
  DERIVED. THE GIVEN ROWS OF THIS SEAT. 8 by the template 'for every input the law returns true; each argument reads behind the call as it read before'; 0 by the template 'total and deterministic' (their statements: YtdkhondfahebnaaTotals.lean).
  GIVEN WITH THE SEED: the statements are not yours to turn. If you find one false, say at which input.
  Laid BY PROGRAM, IN A SANDBOX (cutbox-rows.mjs): the forced cells as the released guide's own fill.sh prints them over the translation 1a5aa5f58e98a1df… (all of the seat's roots in one cut). By AI agents, Wed Nov 11 2026. No macro, syntax, notation, axiom, sorry.
-/
import Derived.Test.YtdkhondfahebnaaChecked
import GoSem.Claim
import GoSem.ClaimJoined
import GoSem.ClaimMapViews
import Derived.JoinedTies
import Derived.KernelRfl
namespace Go.Proofs.Ytdkhondfahebnaa
/- THE CELL 'sum', in the pinned program and in every row, IS THE sha256 OF THE DUMP (.gsa) THAT YtdkhondfahebnaaProg.lean LOADS. Nothing in Lean hashes anything: it is a label: what it is worth is what the hold of that sum in a sandbox is worth. -/
noncomputable def Try.pinned : Pinned := { name := "ytdkhondfahebnaa", sum := "1a5aa5f58e98a1dfec7b774b6f717999d83925c540c98d46ed97a49b0ada44ee", checked := Try.checked }
namespace Rows
def none {H : Type} : Left H := { results := [], args := [] }

/-- 'palmettelaw05.GraphApply': WHATEVER THE INPUT: true; the input reads as it did. -/
def graphApplySpec : ChangeSpec := { name := "graphApply", fn := fun _ => fun
  | [d] => { results := [.lit (.bool true)], args := [d] }
  | _ => none }
def graphApplyRow : OpenClaim := { program := "ytdkhondfahebnaa", sum := "1a5aa5f58e98a1dfec7b774b6f717999d83925c540c98d46ed97a49b0ada44ee", func := "palmette/palmettelaw05.GraphApply", spec := "graphApply", unfollowed := true, recurses := true, plainKeys := false, apart := false }
def GraphApplySaid : Prop := graphApplyRow.holds Try.pinned (OpenSpec.ofChange graphApplySpec)

/-- ITS FALSE NEIGHBOUR: 'it returns false'. Refute it at one input. -/
def graphApplyWrong : ChangeSpec := { name := "graphApply", fn := fun _ => fun
  | [d] => { results := [.lit (.bool false)], args := [d] }
  | _ => none }
def GraphApplyWrongFalsely : Prop := graphApplyRow.holds Try.pinned (OpenSpec.ofChange graphApplyWrong)

/-- 'palmettelaw05.GraphBuild': WHATEVER THE INPUT: true; the input reads as it did. -/
def graphBuildSpec : ChangeSpec := { name := "graphBuild", fn := fun _ => fun
  | [d1, d2] => { results := [.lit (.bool true)], args := [d1, d2] }
  | _ => none }
def graphBuildRow : OpenClaim := { program := "ytdkhondfahebnaa", sum := "1a5aa5f58e98a1dfec7b774b6f717999d83925c540c98d46ed97a49b0ada44ee", func := "palmette/palmettelaw05.GraphBuild", spec := "graphBuild", unfollowed := true, recurses := true, plainKeys := false, apart := false }
def GraphBuildSaid : Prop := graphBuildRow.holds Try.pinned (OpenSpec.ofChange graphBuildSpec)

/-- ITS FALSE NEIGHBOUR: 'it returns false'. Refute it at one input. -/
def graphBuildWrong : ChangeSpec := { name := "graphBuild", fn := fun _ => fun
  | [d1, d2] => { results := [.lit (.bool false)], args := [d1, d2] }
  | _ => none }
def GraphBuildWrongFalsely : Prop := graphBuildRow.holds Try.pinned (OpenSpec.ofChange graphBuildWrong)

/-- 'palmettelaw05.GraphOrderIndependence': WHATEVER THE INPUT: true; the input reads as it did. -/
def graphOrderIndependenceSpec : ChangeSpec := { name := "graphOrderIndependence", fn := fun _ => fun
  | [d1, d2] => { results := [.lit (.bool true)], args := [d1, d2] }
  | _ => none }
def graphOrderIndependenceRow : OpenClaim := { program := "ytdkhondfahebnaa", sum := "1a5aa5f58e98a1dfec7b774b6f717999d83925c540c98d46ed97a49b0ada44ee", func := "palmette/palmettelaw05.GraphOrderIndependence", spec := "graphOrderIndependence", unfollowed := true, recurses := true, plainKeys := false, apart := false }
def GraphOrderIndependenceSaid : Prop := graphOrderIndependenceRow.holds Try.pinned (OpenSpec.ofChange graphOrderIndependenceSpec)

/-- ITS FALSE NEIGHBOUR: 'it returns false'. Refute it at one input. -/
def graphOrderIndependenceWrong : ChangeSpec := { name := "graphOrderIndependence", fn := fun _ => fun
  | [d1, d2] => { results := [.lit (.bool false)], args := [d1, d2] }
  | _ => none }
def GraphOrderIndependenceWrongFalsely : Prop := graphOrderIndependenceRow.holds Try.pinned (OpenSpec.ofChange graphOrderIndependenceWrong)

/-- 'palmettelaw05.GraphCloneIndependence': WHATEVER THE INPUT: true; the input reads as it did. -/
def graphCloneIndependenceSpec : ChangeSpec := { name := "graphCloneIndependence", fn := fun _ => fun
  | [d1, d2] => { results := [.lit (.bool true)], args := [d1, d2] }
  | _ => none }
def graphCloneIndependenceRow : OpenClaim := { program := "ytdkhondfahebnaa", sum := "1a5aa5f58e98a1dfec7b774b6f717999d83925c540c98d46ed97a49b0ada44ee", func := "palmette/palmettelaw05.GraphCloneIndependence", spec := "graphCloneIndependence", inPlace := ["maps.clone"], unfollowed := true, recurses := true, plainKeys := false, apart := false }
def GraphCloneIndependenceSaid : Prop := graphCloneIndependenceRow.holds Try.pinned (OpenSpec.ofChange graphCloneIndependenceSpec)

/-- ITS FALSE NEIGHBOUR: 'it returns false'. Refute it at one input. -/
def graphCloneIndependenceWrong : ChangeSpec := { name := "graphCloneIndependence", fn := fun _ => fun
  | [d1, d2] => { results := [.lit (.bool false)], args := [d1, d2] }
  | _ => none }
def GraphCloneIndependenceWrongFalsely : Prop := graphCloneIndependenceRow.holds Try.pinned (OpenSpec.ofChange graphCloneIndependenceWrong)

/-- 'palmettelaw05.GraphInverse': WHATEVER THE INPUT: true; the input reads as it did. -/
def graphInverseSpec : ChangeSpec := { name := "graphInverse", fn := fun _ => fun
  | [d1, d2] => { results := [.lit (.bool true)], args := [d1, d2] }
  | _ => none }
def graphInverseRow : OpenClaim := { program := "ytdkhondfahebnaa", sum := "1a5aa5f58e98a1dfec7b774b6f717999d83925c540c98d46ed97a49b0ada44ee", func := "palmette/palmettelaw05.GraphInverse", spec := "graphInverse", unfollowed := true, recurses := true, plainKeys := false, apart := false }
def GraphInverseSaid : Prop := graphInverseRow.holds Try.pinned (OpenSpec.ofChange graphInverseSpec)

/-- ITS FALSE NEIGHBOUR: 'it returns false'. Refute it at one input. -/
def graphInverseWrong : ChangeSpec := { name := "graphInverse", fn := fun _ => fun
  | [d1, d2] => { results := [.lit (.bool false)], args := [d1, d2] }
  | _ => none }
def GraphInverseWrongFalsely : Prop := graphInverseRow.holds Try.pinned (OpenSpec.ofChange graphInverseWrong)

/-- 'palmettelaw05.GraphQueries': WHATEVER THE INPUT: true; the input reads as it did. -/
def graphQueriesSpec : ChangeSpec := { name := "graphQueries", fn := fun _ => fun
  | [d1, d2, d3] => { results := [.lit (.bool true)], args := [d1, d2, d3] }
  | _ => none }
def graphQueriesRow : OpenClaim := { program := "ytdkhondfahebnaa", sum := "1a5aa5f58e98a1dfec7b774b6f717999d83925c540c98d46ed97a49b0ada44ee", func := "palmette/palmettelaw05.GraphQueries", spec := "graphQueries", unfollowed := true, recurses := true, plainKeys := false, apart := false }
def GraphQueriesSaid : Prop := graphQueriesRow.holds Try.pinned (OpenSpec.ofChange graphQueriesSpec)

/-- ITS FALSE NEIGHBOUR: 'it returns false'. Refute it at one input. -/
def graphQueriesWrong : ChangeSpec := { name := "graphQueries", fn := fun _ => fun
  | [d1, d2, d3] => { results := [.lit (.bool false)], args := [d1, d2, d3] }
  | _ => none }
def GraphQueriesWrongFalsely : Prop := graphQueriesRow.holds Try.pinned (OpenSpec.ofChange graphQueriesWrong)

/-- 'palmettelaw05.GraphHandshake': WHATEVER THE INPUT: true; the input reads as it did. -/
def graphHandshakeSpec : ChangeSpec := { name := "graphHandshake", fn := fun _ => fun
  | [d] => { results := [.lit (.bool true)], args := [d] }
  | _ => none }
def graphHandshakeRow : OpenClaim := { program := "ytdkhondfahebnaa", sum := "1a5aa5f58e98a1dfec7b774b6f717999d83925c540c98d46ed97a49b0ada44ee", func := "palmette/palmettelaw05.GraphHandshake", spec := "graphHandshake", unfollowed := true, recurses := true, plainKeys := false, apart := false }
def GraphHandshakeSaid : Prop := graphHandshakeRow.holds Try.pinned (OpenSpec.ofChange graphHandshakeSpec)

/-- ITS FALSE NEIGHBOUR: 'it returns false'. Refute it at one input. -/
def graphHandshakeWrong : ChangeSpec := { name := "graphHandshake", fn := fun _ => fun
  | [d] => { results := [.lit (.bool false)], args := [d] }
  | _ => none }
def GraphHandshakeWrongFalsely : Prop := graphHandshakeRow.holds Try.pinned (OpenSpec.ofChange graphHandshakeWrong)

/-- 'palmettelaw05.GraphNil': WHATEVER THE INPUT: true; the input reads as it did. -/
def graphNilSpec : ChangeSpec := { name := "graphNil", fn := fun _ => fun
  | [d1, d2, d3] => { results := [.lit (.bool true)], args := [d1, d2, d3] }
  | _ => none }
def graphNilRow : OpenClaim := { program := "ytdkhondfahebnaa", sum := "1a5aa5f58e98a1dfec7b774b6f717999d83925c540c98d46ed97a49b0ada44ee", func := "palmette/palmettelaw05.GraphNil", spec := "graphNil", inPlace := ["maps.clone"], unfollowed := true, recurses := true, plainKeys := false, apart := false }
def GraphNilSaid : Prop := graphNilRow.holds Try.pinned (OpenSpec.ofChange graphNilSpec)

/-- ITS FALSE NEIGHBOUR: 'it returns false'. Refute it at one input. -/
def graphNilWrong : ChangeSpec := { name := "graphNil", fn := fun _ => fun
  | [d1, d2, d3] => { results := [.lit (.bool false)], args := [d1, d2, d3] }
  | _ => none }
def GraphNilWrongFalsely : Prop := graphNilRow.holds Try.pinned (OpenSpec.ofChange graphNilWrong)

/- THE SECOND FORM. 'bulk': how many values and letters a reading holds, each counted each time it is reached (what is shared counts as often as it is met; a slice's spare places count too). A statement '..UptoSaid' is the law's where the arguments, and the package variables that the reading takes, are together of bulk at most 1048576: NARROWER than '..Said'. Prove '..Said' where nothing that the law and all that it calls make is longer than what came in: it says more and counts as full. Else prove '..UptoSaid'. A law counts once. -/
mutual
def uptoBulk {H : Type} : DataW H → Nat
  | .lit (.string bytes) => bytes.length + 1
  | .lit _ => 1
  | .nil => 1
  | .ptr d => uptoBulk d + 1
  | .slice elems spare => uptoBulkAll elems + uptoBulkAll spare + 1
  | .agg parts => uptoBulkAll parts + 1
  | .iface _ d => uptoBulk d + 1
  | .map entries => uptoBulkEntries entries + 1
  | .held _ => 1
def uptoBulkAll {H : Type} : List (DataW H) → Nat
  | [] => 0
  | d :: r => uptoBulk d + uptoBulkAll r
def uptoBulkEntries {H : Type} : List (Lit × DataW H) → Nat
  | [] => 0
  | x :: r => uptoBulkEntry x + uptoBulkEntries r
def uptoBulkEntry {H : Type} : Lit × DataW H → Nat
  | (.string bytes, d) => bytes.length + uptoBulk d + 1
  | (_, d) => uptoBulk d + 1
 end
def uptoSmall : (H : Type) → List (DataW H) → Bool := fun _ ds => decide (uptoBulkAll ds ≤ 1048576)
def OpenSpec.upto (s : _root_.Go.ChangeSpec) : _root_.Go.OpenSpec := { _root_.Go.OpenSpec.ofChange s with cond := some uptoSmall }

/-- 'palmettelaw05.GraphApply', WHERE WHAT IT READS IS OF BULK AT MOST 1048576: true; the input reads as it did. -/
def graphApplyUptoRow : OpenClaim := { program := "ytdkhondfahebnaa", sum := "1a5aa5f58e98a1dfec7b774b6f717999d83925c540c98d46ed97a49b0ada44ee", func := "palmette/palmettelaw05.GraphApply", spec := "graphApply", unfollowed := true, recurses := true, plainKeys := false, apart := false, narrowed := true }
def GraphApplyUptoSaid : Prop := graphApplyUptoRow.holds Try.pinned (OpenSpec.upto graphApplySpec)

/-- 'palmettelaw05.GraphBuild', WHERE WHAT IT READS IS OF BULK AT MOST 1048576: true; the input reads as it did. -/
def graphBuildUptoRow : OpenClaim := { program := "ytdkhondfahebnaa", sum := "1a5aa5f58e98a1dfec7b774b6f717999d83925c540c98d46ed97a49b0ada44ee", func := "palmette/palmettelaw05.GraphBuild", spec := "graphBuild", unfollowed := true, recurses := true, plainKeys := false, apart := false, narrowed := true }
def GraphBuildUptoSaid : Prop := graphBuildUptoRow.holds Try.pinned (OpenSpec.upto graphBuildSpec)

/-- 'palmettelaw05.GraphOrderIndependence', WHERE WHAT IT READS IS OF BULK AT MOST 1048576: true; the input reads as it did. -/
def graphOrderIndependenceUptoRow : OpenClaim := { program := "ytdkhondfahebnaa", sum := "1a5aa5f58e98a1dfec7b774b6f717999d83925c540c98d46ed97a49b0ada44ee", func := "palmette/palmettelaw05.GraphOrderIndependence", spec := "graphOrderIndependence", unfollowed := true, recurses := true, plainKeys := false, apart := false, narrowed := true }
def GraphOrderIndependenceUptoSaid : Prop := graphOrderIndependenceUptoRow.holds Try.pinned (OpenSpec.upto graphOrderIndependenceSpec)

/-- 'palmettelaw05.GraphCloneIndependence', WHERE WHAT IT READS IS OF BULK AT MOST 1048576: true; the input reads as it did. -/
def graphCloneIndependenceUptoRow : OpenClaim := { program := "ytdkhondfahebnaa", sum := "1a5aa5f58e98a1dfec7b774b6f717999d83925c540c98d46ed97a49b0ada44ee", func := "palmette/palmettelaw05.GraphCloneIndependence", spec := "graphCloneIndependence", inPlace := ["maps.clone"], unfollowed := true, recurses := true, plainKeys := false, apart := false, narrowed := true }
def GraphCloneIndependenceUptoSaid : Prop := graphCloneIndependenceUptoRow.holds Try.pinned (OpenSpec.upto graphCloneIndependenceSpec)

/-- 'palmettelaw05.GraphInverse', WHERE WHAT IT READS IS OF BULK AT MOST 1048576: true; the input reads as it did. -/
def graphInverseUptoRow : OpenClaim := { program := "ytdkhondfahebnaa", sum := "1a5aa5f58e98a1dfec7b774b6f717999d83925c540c98d46ed97a49b0ada44ee", func := "palmette/palmettelaw05.GraphInverse", spec := "graphInverse", unfollowed := true, recurses := true, plainKeys := false, apart := false, narrowed := true }
def GraphInverseUptoSaid : Prop := graphInverseUptoRow.holds Try.pinned (OpenSpec.upto graphInverseSpec)

/-- 'palmettelaw05.GraphQueries', WHERE WHAT IT READS IS OF BULK AT MOST 1048576: true; the input reads as it did. -/
def graphQueriesUptoRow : OpenClaim := { program := "ytdkhondfahebnaa", sum := "1a5aa5f58e98a1dfec7b774b6f717999d83925c540c98d46ed97a49b0ada44ee", func := "palmette/palmettelaw05.GraphQueries", spec := "graphQueries", unfollowed := true, recurses := true, plainKeys := false, apart := false, narrowed := true }
def GraphQueriesUptoSaid : Prop := graphQueriesUptoRow.holds Try.pinned (OpenSpec.upto graphQueriesSpec)

/-- 'palmettelaw05.GraphHandshake', WHERE WHAT IT READS IS OF BULK AT MOST 1048576: true; the input reads as it did. -/
def graphHandshakeUptoRow : OpenClaim := { program := "ytdkhondfahebnaa", sum := "1a5aa5f58e98a1dfec7b774b6f717999d83925c540c98d46ed97a49b0ada44ee", func := "palmette/palmettelaw05.GraphHandshake", spec := "graphHandshake", unfollowed := true, recurses := true, plainKeys := false, apart := false, narrowed := true }
def GraphHandshakeUptoSaid : Prop := graphHandshakeUptoRow.holds Try.pinned (OpenSpec.upto graphHandshakeSpec)

/-- 'palmettelaw05.GraphNil', WHERE WHAT IT READS IS OF BULK AT MOST 1048576: true; the input reads as it did. -/
def graphNilUptoRow : OpenClaim := { program := "ytdkhondfahebnaa", sum := "1a5aa5f58e98a1dfec7b774b6f717999d83925c540c98d46ed97a49b0ada44ee", func := "palmette/palmettelaw05.GraphNil", spec := "graphNil", inPlace := ["maps.clone"], unfollowed := true, recurses := true, plainKeys := false, apart := false, narrowed := true }
def GraphNilUptoSaid : Prop := graphNilUptoRow.holds Try.pinned (OpenSpec.upto graphNilSpec)

end Rows
end Go.Proofs.Ytdkhondfahebnaa
