/-
  NARROWER THAN 'FOR EVERY INPUT', by the rows' own cells (each row's printed sentence says how): BoundsExactFamilies: laid · BoundsContraction: laid · BoundsCliqueAndLower: laid · BoundsOrders: laid · BoundsSoundness: laid · BoundsNilGraph: laid · BoundsDegeneracy: laid · BoundsInducedSubgraph: laid · BoundsCoreMaximal: laid.
  DERIVED. THE GIVEN ROWS OF THIS SEAT. 9 by the template 'for every input the law returns true; each argument reads behind the call as it read before'; 0 by the template 'total and deterministic' (their statements: YtoacpebmhbkmbaaGreatDoorTotals.lean).
  GIVEN WITH THE SEED: the statements are not yours to turn. If you find one false, say at which input.
  Laid BY PROGRAM, IN A SANDBOX (cutbox-rows.mjs): the forced cells as the released guide's own fill.sh prints them over the translation cd5392e9343659c4… (all of the seat's roots in one cut). By AI agents, Wed Nov 11 2026. No macro, syntax, notation, axiom, sorry.
-/
import Derived.Test.YtoacpebmhbkmbaaGreatDoorChecked
import GoSem.Claim
import GoSem.ClaimJoined
import GoSem.ClaimMapViews
import Derived.JoinedTies
import Derived.KernelRfl
namespace Go.Proofs.YtoacpebmhbkmbaaGreatDoor
/- THE CELL 'sum', in the pinned program and in every row, IS THE sha256 OF THE DUMP (.gsa) THAT YtoacpebmhbkmbaaGreatDoorProg.lean LOADS. Nothing in Lean hashes anything: it is a label: what it is worth is what the hold of that sum in a sandbox is worth. -/
noncomputable def Tryz.pinned : Pinned := { name := "ytoacpebmhbkmbaagreatdoor", sum := "cd5392e9343659c44b07230510096e16b3073677216c2c7ef45924952a6665d2", checked := Tryz.checked }
namespace Rows
def none {H : Type} : Left H := { results := [], args := [] }

/- WHAT THE LISTED PACKAGE-LEVEL VARIABLES READ AS WHEN THE CALL BEGINS. Each datum BY PROGRAM (the guide's laid-datum.mjs) off the statement by which the dump's own 'gosem.cut.vars' lays the variable. In a bare row this is a premise. The card (YtoacpebmhbkmbaaGreatDoorCards.lean) ties it to the program's text. -/
def laid_math_bits_deBruijn64tab {H : Type} : DataW H := .agg [.lit (.int .u8 0), .lit (.int .u8 1), .lit (.int .u8 56), .lit (.int .u8 2), .lit (.int .u8 57), .lit (.int .u8 49), .lit (.int .u8 28), .lit (.int .u8 3), .lit (.int .u8 61), .lit (.int .u8 58), .lit (.int .u8 42), .lit (.int .u8 50), .lit (.int .u8 38), .lit (.int .u8 29), .lit (.int .u8 17), .lit (.int .u8 4), .lit (.int .u8 62), .lit (.int .u8 47), .lit (.int .u8 59), .lit (.int .u8 36), .lit (.int .u8 45), .lit (.int .u8 43), .lit (.int .u8 51), .lit (.int .u8 22), .lit (.int .u8 53), .lit (.int .u8 39), .lit (.int .u8 33), .lit (.int .u8 30), .lit (.int .u8 24), .lit (.int .u8 18), .lit (.int .u8 12), .lit (.int .u8 5), .lit (.int .u8 63), .lit (.int .u8 55), .lit (.int .u8 48), .lit (.int .u8 27), .lit (.int .u8 60), .lit (.int .u8 41), .lit (.int .u8 37), .lit (.int .u8 16), .lit (.int .u8 46), .lit (.int .u8 35), .lit (.int .u8 44), .lit (.int .u8 21), .lit (.int .u8 52), .lit (.int .u8 32), .lit (.int .u8 23), .lit (.int .u8 11), .lit (.int .u8 54), .lit (.int .u8 26), .lit (.int .u8 40), .lit (.int .u8 15), .lit (.int .u8 34), .lit (.int .u8 20), .lit (.int .u8 31), .lit (.int .u8 10), .lit (.int .u8 25), .lit (.int .u8 14), .lit (.int .u8 19), .lit (.int .u8 9), .lit (.int .u8 13), .lit (.int .u8 8), .lit (.int .u8 7), .lit (.int .u8 6)]

/-- 'palmettelaw22.BoundsExactFamilies': WHATEVER THE INPUT: true; the input reads as it did. -/
def boundsExactFamiliesSpec : ChangeSpec := { name := "boundsExactFamilies", fn := fun _ => fun
  | [d1, d2] => { results := [.lit (.bool true)], args := [d1, d2] }
  | _ => none }
def boundsExactFamiliesRow : OpenClaim := { program := "ytoacpebmhbkmbaagreatdoor", sum := "cd5392e9343659c44b07230510096e16b3073677216c2c7ef45924952a6665d2", func := "palmette/palmettelaw22.BoundsExactFamilies", spec := "boundsExactFamilies", unfollowed := true, recurses := true, named := ["math/bits.deBruijn64tab"], plainKeys := false, apart := false, laid := [("math/bits.deBruijn64tab", laid_math_bits_deBruijn64tab)] }
def BoundsExactFamiliesSaid : Prop := boundsExactFamiliesRow.holds Tryz.pinned (OpenSpec.ofChange boundsExactFamiliesSpec)

/-- ITS FALSE NEIGHBOUR: 'it returns false'. Refute it at one input. -/
def boundsExactFamiliesWrong : ChangeSpec := { name := "boundsExactFamilies", fn := fun _ => fun
  | [d1, d2] => { results := [.lit (.bool false)], args := [d1, d2] }
  | _ => none }
def BoundsExactFamiliesWrongFalsely : Prop := boundsExactFamiliesRow.holds Tryz.pinned (OpenSpec.ofChange boundsExactFamiliesWrong)

/-- 'palmettelaw22.BoundsContraction': WHATEVER THE INPUT: true; the input reads as it did. -/
def boundsContractionSpec : ChangeSpec := { name := "boundsContraction", fn := fun _ => fun
  | [d] => { results := [.lit (.bool true)], args := [d] }
  | _ => none }
def boundsContractionRow : OpenClaim := { program := "ytoacpebmhbkmbaagreatdoor", sum := "cd5392e9343659c44b07230510096e16b3073677216c2c7ef45924952a6665d2", func := "palmette/palmettelaw22.BoundsContraction", spec := "boundsContraction", unfollowed := true, recurses := true, named := ["math/bits.deBruijn64tab"], plainKeys := false, apart := false, laid := [("math/bits.deBruijn64tab", laid_math_bits_deBruijn64tab)] }
def BoundsContractionSaid : Prop := boundsContractionRow.holds Tryz.pinned (OpenSpec.ofChange boundsContractionSpec)

/-- ITS FALSE NEIGHBOUR: 'it returns false'. Refute it at one input. -/
def boundsContractionWrong : ChangeSpec := { name := "boundsContraction", fn := fun _ => fun
  | [d] => { results := [.lit (.bool false)], args := [d] }
  | _ => none }
def BoundsContractionWrongFalsely : Prop := boundsContractionRow.holds Tryz.pinned (OpenSpec.ofChange boundsContractionWrong)

/-- 'palmettelaw22.BoundsCliqueAndLower': WHATEVER THE INPUT: true; the input reads as it did. -/
def boundsCliqueAndLowerSpec : ChangeSpec := { name := "boundsCliqueAndLower", fn := fun _ => fun
  | [d] => { results := [.lit (.bool true)], args := [d] }
  | _ => none }
def boundsCliqueAndLowerRow : OpenClaim := { program := "ytoacpebmhbkmbaagreatdoor", sum := "cd5392e9343659c44b07230510096e16b3073677216c2c7ef45924952a6665d2", func := "palmette/palmettelaw22.BoundsCliqueAndLower", spec := "boundsCliqueAndLower", unfollowed := true, recurses := true, named := ["math/bits.deBruijn64tab"], plainKeys := false, apart := false, laid := [("math/bits.deBruijn64tab", laid_math_bits_deBruijn64tab)] }
def BoundsCliqueAndLowerSaid : Prop := boundsCliqueAndLowerRow.holds Tryz.pinned (OpenSpec.ofChange boundsCliqueAndLowerSpec)

/-- ITS FALSE NEIGHBOUR: 'it returns false'. Refute it at one input. -/
def boundsCliqueAndLowerWrong : ChangeSpec := { name := "boundsCliqueAndLower", fn := fun _ => fun
  | [d] => { results := [.lit (.bool false)], args := [d] }
  | _ => none }
def BoundsCliqueAndLowerWrongFalsely : Prop := boundsCliqueAndLowerRow.holds Tryz.pinned (OpenSpec.ofChange boundsCliqueAndLowerWrong)

/-- 'palmettelaw22.BoundsOrders': WHATEVER THE INPUT: true; the input reads as it did. -/
def boundsOrdersSpec : ChangeSpec := { name := "boundsOrders", fn := fun _ => fun
  | [d] => { results := [.lit (.bool true)], args := [d] }
  | _ => none }
def boundsOrdersRow : OpenClaim := { program := "ytoacpebmhbkmbaagreatdoor", sum := "cd5392e9343659c44b07230510096e16b3073677216c2c7ef45924952a6665d2", func := "palmette/palmettelaw22.BoundsOrders", spec := "boundsOrders", unfollowed := true, recurses := true, named := ["math/bits.deBruijn64tab"], plainKeys := false, apart := false, laid := [("math/bits.deBruijn64tab", laid_math_bits_deBruijn64tab)] }
def BoundsOrdersSaid : Prop := boundsOrdersRow.holds Tryz.pinned (OpenSpec.ofChange boundsOrdersSpec)

/-- ITS FALSE NEIGHBOUR: 'it returns false'. Refute it at one input. -/
def boundsOrdersWrong : ChangeSpec := { name := "boundsOrders", fn := fun _ => fun
  | [d] => { results := [.lit (.bool false)], args := [d] }
  | _ => none }
def BoundsOrdersWrongFalsely : Prop := boundsOrdersRow.holds Tryz.pinned (OpenSpec.ofChange boundsOrdersWrong)

/-- 'palmettelaw22.BoundsSoundness': WHATEVER THE INPUT: true; the input reads as it did. -/
def boundsSoundnessSpec : ChangeSpec := { name := "boundsSoundness", fn := fun _ => fun
  | [d1, d2] => { results := [.lit (.bool true)], args := [d1, d2] }
  | _ => none }
def boundsSoundnessRow : OpenClaim := { program := "ytoacpebmhbkmbaagreatdoor", sum := "cd5392e9343659c44b07230510096e16b3073677216c2c7ef45924952a6665d2", func := "palmette/palmettelaw22.BoundsSoundness", spec := "boundsSoundness", unfollowed := true, recurses := true, named := ["math/bits.deBruijn64tab"], plainKeys := false, apart := false, laid := [("math/bits.deBruijn64tab", laid_math_bits_deBruijn64tab)] }
def BoundsSoundnessSaid : Prop := boundsSoundnessRow.holds Tryz.pinned (OpenSpec.ofChange boundsSoundnessSpec)

/-- ITS FALSE NEIGHBOUR: 'it returns false'. Refute it at one input. -/
def boundsSoundnessWrong : ChangeSpec := { name := "boundsSoundness", fn := fun _ => fun
  | [d1, d2] => { results := [.lit (.bool false)], args := [d1, d2] }
  | _ => none }
def BoundsSoundnessWrongFalsely : Prop := boundsSoundnessRow.holds Tryz.pinned (OpenSpec.ofChange boundsSoundnessWrong)

/-- 'palmettelaw22.BoundsNilGraph': WHATEVER THE INPUT: true; the input reads as it did. -/
def boundsNilGraphSpec : ChangeSpec := { name := "boundsNilGraph", fn := fun _ => fun
  | [d] => { results := [.lit (.bool true)], args := [d] }
  | _ => none }
def boundsNilGraphRow : OpenClaim := { program := "ytoacpebmhbkmbaagreatdoor", sum := "cd5392e9343659c44b07230510096e16b3073677216c2c7ef45924952a6665d2", func := "palmette/palmettelaw22.BoundsNilGraph", spec := "boundsNilGraph", unfollowed := true, recurses := true, named := ["math/bits.deBruijn64tab"], plainKeys := false, apart := false, laid := [("math/bits.deBruijn64tab", laid_math_bits_deBruijn64tab)] }
def BoundsNilGraphSaid : Prop := boundsNilGraphRow.holds Tryz.pinned (OpenSpec.ofChange boundsNilGraphSpec)

/-- ITS FALSE NEIGHBOUR: 'it returns false'. Refute it at one input. -/
def boundsNilGraphWrong : ChangeSpec := { name := "boundsNilGraph", fn := fun _ => fun
  | [d] => { results := [.lit (.bool false)], args := [d] }
  | _ => none }
def BoundsNilGraphWrongFalsely : Prop := boundsNilGraphRow.holds Tryz.pinned (OpenSpec.ofChange boundsNilGraphWrong)

/-- 'palmettelaw22.BoundsDegeneracy': WHATEVER THE INPUT: true; the input reads as it did. -/
def boundsDegeneracySpec : ChangeSpec := { name := "boundsDegeneracy", fn := fun _ => fun
  | [d1, d2] => { results := [.lit (.bool true)], args := [d1, d2] }
  | _ => none }
def boundsDegeneracyRow : OpenClaim := { program := "ytoacpebmhbkmbaagreatdoor", sum := "cd5392e9343659c44b07230510096e16b3073677216c2c7ef45924952a6665d2", func := "palmette/palmettelaw22.BoundsDegeneracy", spec := "boundsDegeneracy", unfollowed := true, recurses := true, named := ["math/bits.deBruijn64tab"], plainKeys := false, apart := false, laid := [("math/bits.deBruijn64tab", laid_math_bits_deBruijn64tab)] }
def BoundsDegeneracySaid : Prop := boundsDegeneracyRow.holds Tryz.pinned (OpenSpec.ofChange boundsDegeneracySpec)

/-- ITS FALSE NEIGHBOUR: 'it returns false'. Refute it at one input. -/
def boundsDegeneracyWrong : ChangeSpec := { name := "boundsDegeneracy", fn := fun _ => fun
  | [d1, d2] => { results := [.lit (.bool false)], args := [d1, d2] }
  | _ => none }
def BoundsDegeneracyWrongFalsely : Prop := boundsDegeneracyRow.holds Tryz.pinned (OpenSpec.ofChange boundsDegeneracyWrong)

/-- 'palmettelaw22.BoundsInducedSubgraph': WHATEVER THE INPUT: true; the input reads as it did. -/
def boundsInducedSubgraphSpec : ChangeSpec := { name := "boundsInducedSubgraph", fn := fun _ => fun
  | [d1, d2] => { results := [.lit (.bool true)], args := [d1, d2] }
  | _ => none }
def boundsInducedSubgraphRow : OpenClaim := { program := "ytoacpebmhbkmbaagreatdoor", sum := "cd5392e9343659c44b07230510096e16b3073677216c2c7ef45924952a6665d2", func := "palmette/palmettelaw22.BoundsInducedSubgraph", spec := "boundsInducedSubgraph", unfollowed := true, recurses := true, named := ["math/bits.deBruijn64tab"], plainKeys := false, apart := false, laid := [("math/bits.deBruijn64tab", laid_math_bits_deBruijn64tab)] }
def BoundsInducedSubgraphSaid : Prop := boundsInducedSubgraphRow.holds Tryz.pinned (OpenSpec.ofChange boundsInducedSubgraphSpec)

/-- ITS FALSE NEIGHBOUR: 'it returns false'. Refute it at one input. -/
def boundsInducedSubgraphWrong : ChangeSpec := { name := "boundsInducedSubgraph", fn := fun _ => fun
  | [d1, d2] => { results := [.lit (.bool false)], args := [d1, d2] }
  | _ => none }
def BoundsInducedSubgraphWrongFalsely : Prop := boundsInducedSubgraphRow.holds Tryz.pinned (OpenSpec.ofChange boundsInducedSubgraphWrong)

/-- 'palmettelaw22.BoundsCoreMaximal': WHATEVER THE INPUT: true; the input reads as it did. -/
def boundsCoreMaximalSpec : ChangeSpec := { name := "boundsCoreMaximal", fn := fun _ => fun
  | [d1, d2, d3] => { results := [.lit (.bool true)], args := [d1, d2, d3] }
  | _ => none }
def boundsCoreMaximalRow : OpenClaim := { program := "ytoacpebmhbkmbaagreatdoor", sum := "cd5392e9343659c44b07230510096e16b3073677216c2c7ef45924952a6665d2", func := "palmette/palmettelaw22.BoundsCoreMaximal", spec := "boundsCoreMaximal", unfollowed := true, recurses := true, named := ["math/bits.deBruijn64tab"], plainKeys := false, apart := false, laid := [("math/bits.deBruijn64tab", laid_math_bits_deBruijn64tab)] }
def BoundsCoreMaximalSaid : Prop := boundsCoreMaximalRow.holds Tryz.pinned (OpenSpec.ofChange boundsCoreMaximalSpec)

/-- ITS FALSE NEIGHBOUR: 'it returns false'. Refute it at one input. -/
def boundsCoreMaximalWrong : ChangeSpec := { name := "boundsCoreMaximal", fn := fun _ => fun
  | [d1, d2, d3] => { results := [.lit (.bool false)], args := [d1, d2, d3] }
  | _ => none }
def BoundsCoreMaximalWrongFalsely : Prop := boundsCoreMaximalRow.holds Tryz.pinned (OpenSpec.ofChange boundsCoreMaximalWrong)

/- THE SECOND FORM. 'bulk': how many values and letters a reading holds, each counted each time it is reached (what is shared counts as often as it is met; a slice's spare places count too). A statement '..UptoSaid' is the law's where the arguments, and the package variables that the reading takes, are together of bulk at most 1048576: NARROWER than '..Said'. Prove '..Said' where nothing that the law and all that it calls make is longer than what came in: it says more and counts as full. Else prove '..UptoSaid'. A law counts once. -/
mutual
def uptoBulk {H : Type} : DataW H → Nat
  | .lit (.string bytes) => bytes.length + 1
  | .lit _ => 1
  | .nil => 1
  | .ptr d => uptoBulk d + 1
  | .slice elems spare => uptoBulkAll elems + uptoBulkAll spare + 1
  | .agg parts => uptoBulkAll parts + 1
  | .iface _ d => uptoBulk d + 1
  | .map entries => uptoBulkEntries entries + 1
  | .held _ => 1
def uptoBulkAll {H : Type} : List (DataW H) → Nat
  | [] => 0
  | d :: r => uptoBulk d + uptoBulkAll r
def uptoBulkEntries {H : Type} : List (Lit × DataW H) → Nat
  | [] => 0
  | x :: r => uptoBulkEntry x + uptoBulkEntries r
def uptoBulkEntry {H : Type} : Lit × DataW H → Nat
  | (.string bytes, d) => bytes.length + uptoBulk d + 1
  | (_, d) => uptoBulk d + 1
 end
def uptoSmall : (H : Type) → List (DataW H) → Bool := fun _ ds => decide (uptoBulkAll ds ≤ 1048576)
def OpenSpec.upto (s : _root_.Go.ChangeSpec) : _root_.Go.OpenSpec := { _root_.Go.OpenSpec.ofChange s with cond := some uptoSmall }

/-- 'palmettelaw22.BoundsExactFamilies', WHERE WHAT IT READS IS OF BULK AT MOST 1048576: true; the input reads as it did. -/
def boundsExactFamiliesUptoRow : OpenClaim := { program := "ytoacpebmhbkmbaagreatdoor", sum := "cd5392e9343659c44b07230510096e16b3073677216c2c7ef45924952a6665d2", func := "palmette/palmettelaw22.BoundsExactFamilies", spec := "boundsExactFamilies", unfollowed := true, recurses := true, named := ["math/bits.deBruijn64tab"], plainKeys := false, apart := false, laid := [("math/bits.deBruijn64tab", laid_math_bits_deBruijn64tab)], narrowed := true }
def BoundsExactFamiliesUptoSaid : Prop := boundsExactFamiliesUptoRow.holds Tryz.pinned (OpenSpec.upto boundsExactFamiliesSpec)

/-- 'palmettelaw22.BoundsContraction', WHERE WHAT IT READS IS OF BULK AT MOST 1048576: true; the input reads as it did. -/
def boundsContractionUptoRow : OpenClaim := { program := "ytoacpebmhbkmbaagreatdoor", sum := "cd5392e9343659c44b07230510096e16b3073677216c2c7ef45924952a6665d2", func := "palmette/palmettelaw22.BoundsContraction", spec := "boundsContraction", unfollowed := true, recurses := true, named := ["math/bits.deBruijn64tab"], plainKeys := false, apart := false, laid := [("math/bits.deBruijn64tab", laid_math_bits_deBruijn64tab)], narrowed := true }
def BoundsContractionUptoSaid : Prop := boundsContractionUptoRow.holds Tryz.pinned (OpenSpec.upto boundsContractionSpec)

/-- 'palmettelaw22.BoundsCliqueAndLower', WHERE WHAT IT READS IS OF BULK AT MOST 1048576: true; the input reads as it did. -/
def boundsCliqueAndLowerUptoRow : OpenClaim := { program := "ytoacpebmhbkmbaagreatdoor", sum := "cd5392e9343659c44b07230510096e16b3073677216c2c7ef45924952a6665d2", func := "palmette/palmettelaw22.BoundsCliqueAndLower", spec := "boundsCliqueAndLower", unfollowed := true, recurses := true, named := ["math/bits.deBruijn64tab"], plainKeys := false, apart := false, laid := [("math/bits.deBruijn64tab", laid_math_bits_deBruijn64tab)], narrowed := true }
def BoundsCliqueAndLowerUptoSaid : Prop := boundsCliqueAndLowerUptoRow.holds Tryz.pinned (OpenSpec.upto boundsCliqueAndLowerSpec)

/-- 'palmettelaw22.BoundsOrders', WHERE WHAT IT READS IS OF BULK AT MOST 1048576: true; the input reads as it did. -/
def boundsOrdersUptoRow : OpenClaim := { program := "ytoacpebmhbkmbaagreatdoor", sum := "cd5392e9343659c44b07230510096e16b3073677216c2c7ef45924952a6665d2", func := "palmette/palmettelaw22.BoundsOrders", spec := "boundsOrders", unfollowed := true, recurses := true, named := ["math/bits.deBruijn64tab"], plainKeys := false, apart := false, laid := [("math/bits.deBruijn64tab", laid_math_bits_deBruijn64tab)], narrowed := true }
def BoundsOrdersUptoSaid : Prop := boundsOrdersUptoRow.holds Tryz.pinned (OpenSpec.upto boundsOrdersSpec)

/-- 'palmettelaw22.BoundsSoundness', WHERE WHAT IT READS IS OF BULK AT MOST 1048576: true; the input reads as it did. -/
def boundsSoundnessUptoRow : OpenClaim := { program := "ytoacpebmhbkmbaagreatdoor", sum := "cd5392e9343659c44b07230510096e16b3073677216c2c7ef45924952a6665d2", func := "palmette/palmettelaw22.BoundsSoundness", spec := "boundsSoundness", unfollowed := true, recurses := true, named := ["math/bits.deBruijn64tab"], plainKeys := false, apart := false, laid := [("math/bits.deBruijn64tab", laid_math_bits_deBruijn64tab)], narrowed := true }
def BoundsSoundnessUptoSaid : Prop := boundsSoundnessUptoRow.holds Tryz.pinned (OpenSpec.upto boundsSoundnessSpec)

/-- 'palmettelaw22.BoundsNilGraph', WHERE WHAT IT READS IS OF BULK AT MOST 1048576: true; the input reads as it did. -/
def boundsNilGraphUptoRow : OpenClaim := { program := "ytoacpebmhbkmbaagreatdoor", sum := "cd5392e9343659c44b07230510096e16b3073677216c2c7ef45924952a6665d2", func := "palmette/palmettelaw22.BoundsNilGraph", spec := "boundsNilGraph", unfollowed := true, recurses := true, named := ["math/bits.deBruijn64tab"], plainKeys := false, apart := false, laid := [("math/bits.deBruijn64tab", laid_math_bits_deBruijn64tab)], narrowed := true }
def BoundsNilGraphUptoSaid : Prop := boundsNilGraphUptoRow.holds Tryz.pinned (OpenSpec.upto boundsNilGraphSpec)

/-- 'palmettelaw22.BoundsDegeneracy', WHERE WHAT IT READS IS OF BULK AT MOST 1048576: true; the input reads as it did. -/
def boundsDegeneracyUptoRow : OpenClaim := { program := "ytoacpebmhbkmbaagreatdoor", sum := "cd5392e9343659c44b07230510096e16b3073677216c2c7ef45924952a6665d2", func := "palmette/palmettelaw22.BoundsDegeneracy", spec := "boundsDegeneracy", unfollowed := true, recurses := true, named := ["math/bits.deBruijn64tab"], plainKeys := false, apart := false, laid := [("math/bits.deBruijn64tab", laid_math_bits_deBruijn64tab)], narrowed := true }
def BoundsDegeneracyUptoSaid : Prop := boundsDegeneracyUptoRow.holds Tryz.pinned (OpenSpec.upto boundsDegeneracySpec)

/-- 'palmettelaw22.BoundsInducedSubgraph', WHERE WHAT IT READS IS OF BULK AT MOST 1048576: true; the input reads as it did. -/
def boundsInducedSubgraphUptoRow : OpenClaim := { program := "ytoacpebmhbkmbaagreatdoor", sum := "cd5392e9343659c44b07230510096e16b3073677216c2c7ef45924952a6665d2", func := "palmette/palmettelaw22.BoundsInducedSubgraph", spec := "boundsInducedSubgraph", unfollowed := true, recurses := true, named := ["math/bits.deBruijn64tab"], plainKeys := false, apart := false, laid := [("math/bits.deBruijn64tab", laid_math_bits_deBruijn64tab)], narrowed := true }
def BoundsInducedSubgraphUptoSaid : Prop := boundsInducedSubgraphUptoRow.holds Tryz.pinned (OpenSpec.upto boundsInducedSubgraphSpec)

/-- 'palmettelaw22.BoundsCoreMaximal', WHERE WHAT IT READS IS OF BULK AT MOST 1048576: true; the input reads as it did. -/
def boundsCoreMaximalUptoRow : OpenClaim := { program := "ytoacpebmhbkmbaagreatdoor", sum := "cd5392e9343659c44b07230510096e16b3073677216c2c7ef45924952a6665d2", func := "palmette/palmettelaw22.BoundsCoreMaximal", spec := "boundsCoreMaximal", unfollowed := true, recurses := true, named := ["math/bits.deBruijn64tab"], plainKeys := false, apart := false, laid := [("math/bits.deBruijn64tab", laid_math_bits_deBruijn64tab)], narrowed := true }
def BoundsCoreMaximalUptoSaid : Prop := boundsCoreMaximalUptoRow.holds Tryz.pinned (OpenSpec.upto boundsCoreMaximalSpec)

end Rows
end Go.Proofs.YtoacpebmhbkmbaaGreatDoor
