/-
  NARROWER THAN 'FOR EVERY INPUT', by the rows' own cells (each row's printed sentence says how): ChordalPerfectOrder: laid · ChordalHole: laid · ChordalColoring: laid · ChordalCliques: laid · ChordalWitness: laid · ChordalIsPerfect: laid · ChordalCliqueTree: laid · ChordalTreeLaws: laid · ChordalNil: laid.
  DERIVED. THE GIVEN ROWS OF THIS SEAT. 9 by the template 'for every input the law returns true; each argument reads behind the call as it read before'; 0 by the template 'total and deterministic' (their statements: YtmfkkkhddigkfaaGreatDoorTotals.lean).
  GIVEN WITH THE SEED: the statements are not yours to turn. If you find one false, say at which input.
  Laid BY PROGRAM, IN A SANDBOX (cutbox-rows.mjs): the forced cells as the released guide's own fill.sh prints them over the translation 330ecf26c9cd2d35… (all of the seat's roots in one cut). By AI agents, Wed Nov 11 2026. No macro, syntax, notation, axiom, sorry.
-/
import Derived.Test.YtmfkkkhddigkfaaGreatDoorChecked
import GoSem.Claim
import GoSem.ClaimJoined
import GoSem.ClaimMapViews
import Derived.JoinedTies
import Derived.KernelRfl
namespace Go.Proofs.YtmfkkkhddigkfaaGreatDoor
/- THE CELL 'sum', in the pinned program and in every row, IS THE sha256 OF THE DUMP (.gsa) THAT YtmfkkkhddigkfaaGreatDoorProg.lean LOADS. Nothing in Lean hashes anything: it is a label: what it is worth is what the hold of that sum in a sandbox is worth. -/
noncomputable def Tryz.pinned : Pinned := { name := "ytmfkkkhddigkfaagreatdoor", sum := "330ecf26c9cd2d355f84e9e8d6e80cdb10827dc4bb46d9f6b05bcc0579080cb8", checked := Tryz.checked }
namespace Rows
def none {H : Type} : Left H := { results := [], args := [] }

/- WHAT THE LISTED PACKAGE-LEVEL VARIABLES READ AS WHEN THE CALL BEGINS. Each datum BY PROGRAM (the guide's laid-datum.mjs) off the statement by which the dump's own 'gosem.cut.vars' lays the variable. In a bare row this is a premise. The card (YtmfkkkhddigkfaaGreatDoorCards.lean) ties it to the program's text. -/
def laid_math_bits_deBruijn64tab {H : Type} : DataW H := .agg [.lit (.int .u8 0), .lit (.int .u8 1), .lit (.int .u8 56), .lit (.int .u8 2), .lit (.int .u8 57), .lit (.int .u8 49), .lit (.int .u8 28), .lit (.int .u8 3), .lit (.int .u8 61), .lit (.int .u8 58), .lit (.int .u8 42), .lit (.int .u8 50), .lit (.int .u8 38), .lit (.int .u8 29), .lit (.int .u8 17), .lit (.int .u8 4), .lit (.int .u8 62), .lit (.int .u8 47), .lit (.int .u8 59), .lit (.int .u8 36), .lit (.int .u8 45), .lit (.int .u8 43), .lit (.int .u8 51), .lit (.int .u8 22), .lit (.int .u8 53), .lit (.int .u8 39), .lit (.int .u8 33), .lit (.int .u8 30), .lit (.int .u8 24), .lit (.int .u8 18), .lit (.int .u8 12), .lit (.int .u8 5), .lit (.int .u8 63), .lit (.int .u8 55), .lit (.int .u8 48), .lit (.int .u8 27), .lit (.int .u8 60), .lit (.int .u8 41), .lit (.int .u8 37), .lit (.int .u8 16), .lit (.int .u8 46), .lit (.int .u8 35), .lit (.int .u8 44), .lit (.int .u8 21), .lit (.int .u8 52), .lit (.int .u8 32), .lit (.int .u8 23), .lit (.int .u8 11), .lit (.int .u8 54), .lit (.int .u8 26), .lit (.int .u8 40), .lit (.int .u8 15), .lit (.int .u8 34), .lit (.int .u8 20), .lit (.int .u8 31), .lit (.int .u8 10), .lit (.int .u8 25), .lit (.int .u8 14), .lit (.int .u8 19), .lit (.int .u8 9), .lit (.int .u8 13), .lit (.int .u8 8), .lit (.int .u8 7), .lit (.int .u8 6)]

/-- 'palmettelaw24.ChordalPerfectOrder': WHATEVER THE INPUT: true; the input reads as it did. -/
def chordalPerfectOrderSpec : ChangeSpec := { name := "chordalPerfectOrder", fn := fun _ => fun
  | [d] => { results := [.lit (.bool true)], args := [d] }
  | _ => none }
def chordalPerfectOrderRow : OpenClaim := { program := "ytmfkkkhddigkfaagreatdoor", sum := "330ecf26c9cd2d355f84e9e8d6e80cdb10827dc4bb46d9f6b05bcc0579080cb8", func := "palmette/palmettelaw24.ChordalPerfectOrder", spec := "chordalPerfectOrder", unfollowed := true, recurses := true, named := ["math/bits.deBruijn64tab"], plainKeys := false, apart := false, laid := [("math/bits.deBruijn64tab", laid_math_bits_deBruijn64tab)] }
def ChordalPerfectOrderSaid : Prop := chordalPerfectOrderRow.holds Tryz.pinned (OpenSpec.ofChange chordalPerfectOrderSpec)

/-- ITS FALSE NEIGHBOUR: 'it returns false'. Refute it at one input. -/
def chordalPerfectOrderWrong : ChangeSpec := { name := "chordalPerfectOrder", fn := fun _ => fun
  | [d] => { results := [.lit (.bool false)], args := [d] }
  | _ => none }
def ChordalPerfectOrderWrongFalsely : Prop := chordalPerfectOrderRow.holds Tryz.pinned (OpenSpec.ofChange chordalPerfectOrderWrong)

/-- 'palmettelaw24.ChordalHole': WHATEVER THE INPUT: true; the input reads as it did. -/
def chordalHoleSpec : ChangeSpec := { name := "chordalHole", fn := fun _ => fun
  | [d] => { results := [.lit (.bool true)], args := [d] }
  | _ => none }
def chordalHoleRow : OpenClaim := { program := "ytmfkkkhddigkfaagreatdoor", sum := "330ecf26c9cd2d355f84e9e8d6e80cdb10827dc4bb46d9f6b05bcc0579080cb8", func := "palmette/palmettelaw24.ChordalHole", spec := "chordalHole", unfollowed := true, recurses := true, named := ["math/bits.deBruijn64tab"], plainKeys := false, apart := false, laid := [("math/bits.deBruijn64tab", laid_math_bits_deBruijn64tab)] }
def ChordalHoleSaid : Prop := chordalHoleRow.holds Tryz.pinned (OpenSpec.ofChange chordalHoleSpec)

/-- ITS FALSE NEIGHBOUR: 'it returns false'. Refute it at one input. -/
def chordalHoleWrong : ChangeSpec := { name := "chordalHole", fn := fun _ => fun
  | [d] => { results := [.lit (.bool false)], args := [d] }
  | _ => none }
def ChordalHoleWrongFalsely : Prop := chordalHoleRow.holds Tryz.pinned (OpenSpec.ofChange chordalHoleWrong)

/-- 'palmettelaw24.ChordalColoring': WHATEVER THE INPUT: true; the input reads as it did. -/
def chordalColoringSpec : ChangeSpec := { name := "chordalColoring", fn := fun _ => fun
  | [d] => { results := [.lit (.bool true)], args := [d] }
  | _ => none }
def chordalColoringRow : OpenClaim := { program := "ytmfkkkhddigkfaagreatdoor", sum := "330ecf26c9cd2d355f84e9e8d6e80cdb10827dc4bb46d9f6b05bcc0579080cb8", func := "palmette/palmettelaw24.ChordalColoring", spec := "chordalColoring", unfollowed := true, recurses := true, named := ["math/bits.deBruijn64tab"], plainKeys := false, apart := false, laid := [("math/bits.deBruijn64tab", laid_math_bits_deBruijn64tab)] }
def ChordalColoringSaid : Prop := chordalColoringRow.holds Tryz.pinned (OpenSpec.ofChange chordalColoringSpec)

/-- ITS FALSE NEIGHBOUR: 'it returns false'. Refute it at one input. -/
def chordalColoringWrong : ChangeSpec := { name := "chordalColoring", fn := fun _ => fun
  | [d] => { results := [.lit (.bool false)], args := [d] }
  | _ => none }
def ChordalColoringWrongFalsely : Prop := chordalColoringRow.holds Tryz.pinned (OpenSpec.ofChange chordalColoringWrong)

/-- 'palmettelaw24.ChordalCliques': WHATEVER THE INPUT: true; the input reads as it did. -/
def chordalCliquesSpec : ChangeSpec := { name := "chordalCliques", fn := fun _ => fun
  | [d1, d2, d3] => { results := [.lit (.bool true)], args := [d1, d2, d3] }
  | _ => none }
def chordalCliquesRow : OpenClaim := { program := "ytmfkkkhddigkfaagreatdoor", sum := "330ecf26c9cd2d355f84e9e8d6e80cdb10827dc4bb46d9f6b05bcc0579080cb8", func := "palmette/palmettelaw24.ChordalCliques", spec := "chordalCliques", unfollowed := true, recurses := true, named := ["math/bits.deBruijn64tab"], plainKeys := false, apart := false, laid := [("math/bits.deBruijn64tab", laid_math_bits_deBruijn64tab)] }
def ChordalCliquesSaid : Prop := chordalCliquesRow.holds Tryz.pinned (OpenSpec.ofChange chordalCliquesSpec)

/-- ITS FALSE NEIGHBOUR: 'it returns false'. Refute it at one input. -/
def chordalCliquesWrong : ChangeSpec := { name := "chordalCliques", fn := fun _ => fun
  | [d1, d2, d3] => { results := [.lit (.bool false)], args := [d1, d2, d3] }
  | _ => none }
def ChordalCliquesWrongFalsely : Prop := chordalCliquesRow.holds Tryz.pinned (OpenSpec.ofChange chordalCliquesWrong)

/-- 'palmettelaw24.ChordalWitness': WHATEVER THE INPUT: true; the input reads as it did. -/
def chordalWitnessSpec : ChangeSpec := { name := "chordalWitness", fn := fun _ => fun
  | [d] => { results := [.lit (.bool true)], args := [d] }
  | _ => none }
def chordalWitnessRow : OpenClaim := { program := "ytmfkkkhddigkfaagreatdoor", sum := "330ecf26c9cd2d355f84e9e8d6e80cdb10827dc4bb46d9f6b05bcc0579080cb8", func := "palmette/palmettelaw24.ChordalWitness", spec := "chordalWitness", unfollowed := true, recurses := true, named := ["math/bits.deBruijn64tab"], plainKeys := false, apart := false, laid := [("math/bits.deBruijn64tab", laid_math_bits_deBruijn64tab)] }
def ChordalWitnessSaid : Prop := chordalWitnessRow.holds Tryz.pinned (OpenSpec.ofChange chordalWitnessSpec)

/-- ITS FALSE NEIGHBOUR: 'it returns false'. Refute it at one input. -/
def chordalWitnessWrong : ChangeSpec := { name := "chordalWitness", fn := fun _ => fun
  | [d] => { results := [.lit (.bool false)], args := [d] }
  | _ => none }
def ChordalWitnessWrongFalsely : Prop := chordalWitnessRow.holds Tryz.pinned (OpenSpec.ofChange chordalWitnessWrong)

/-- 'palmettelaw24.ChordalIsPerfect': WHATEVER THE INPUT: true; the input reads as it did. -/
def chordalIsPerfectSpec : ChangeSpec := { name := "chordalIsPerfect", fn := fun _ => fun
  | [d1, d2, d3] => { results := [.lit (.bool true)], args := [d1, d2, d3] }
  | _ => none }
def chordalIsPerfectRow : OpenClaim := { program := "ytmfkkkhddigkfaagreatdoor", sum := "330ecf26c9cd2d355f84e9e8d6e80cdb10827dc4bb46d9f6b05bcc0579080cb8", func := "palmette/palmettelaw24.ChordalIsPerfect", spec := "chordalIsPerfect", unfollowed := true, recurses := true, named := ["math/bits.deBruijn64tab"], plainKeys := false, apart := false, laid := [("math/bits.deBruijn64tab", laid_math_bits_deBruijn64tab)] }
def ChordalIsPerfectSaid : Prop := chordalIsPerfectRow.holds Tryz.pinned (OpenSpec.ofChange chordalIsPerfectSpec)

/-- ITS FALSE NEIGHBOUR: 'it returns false'. Refute it at one input. -/
def chordalIsPerfectWrong : ChangeSpec := { name := "chordalIsPerfect", fn := fun _ => fun
  | [d1, d2, d3] => { results := [.lit (.bool false)], args := [d1, d2, d3] }
  | _ => none }
def ChordalIsPerfectWrongFalsely : Prop := chordalIsPerfectRow.holds Tryz.pinned (OpenSpec.ofChange chordalIsPerfectWrong)

/-- 'palmettelaw24.ChordalCliqueTree': WHATEVER THE INPUT: true; the input reads as it did. -/
def chordalCliqueTreeSpec : ChangeSpec := { name := "chordalCliqueTree", fn := fun _ => fun
  | [d] => { results := [.lit (.bool true)], args := [d] }
  | _ => none }
def chordalCliqueTreeRow : OpenClaim := { program := "ytmfkkkhddigkfaagreatdoor", sum := "330ecf26c9cd2d355f84e9e8d6e80cdb10827dc4bb46d9f6b05bcc0579080cb8", func := "palmette/palmettelaw24.ChordalCliqueTree", spec := "chordalCliqueTree", unfollowed := true, recurses := true, named := ["math/bits.deBruijn64tab"], plainKeys := false, apart := false, laid := [("math/bits.deBruijn64tab", laid_math_bits_deBruijn64tab)] }
def ChordalCliqueTreeSaid : Prop := chordalCliqueTreeRow.holds Tryz.pinned (OpenSpec.ofChange chordalCliqueTreeSpec)

/-- ITS FALSE NEIGHBOUR: 'it returns false'. Refute it at one input. -/
def chordalCliqueTreeWrong : ChangeSpec := { name := "chordalCliqueTree", fn := fun _ => fun
  | [d] => { results := [.lit (.bool false)], args := [d] }
  | _ => none }
def ChordalCliqueTreeWrongFalsely : Prop := chordalCliqueTreeRow.holds Tryz.pinned (OpenSpec.ofChange chordalCliqueTreeWrong)

/-- 'palmettelaw24.ChordalTreeLaws': WHATEVER THE INPUT: true; the input reads as it did. -/
def chordalTreeLawsSpec : ChangeSpec := { name := "chordalTreeLaws", fn := fun _ => fun
  | [d] => { results := [.lit (.bool true)], args := [d] }
  | _ => none }
def chordalTreeLawsRow : OpenClaim := { program := "ytmfkkkhddigkfaagreatdoor", sum := "330ecf26c9cd2d355f84e9e8d6e80cdb10827dc4bb46d9f6b05bcc0579080cb8", func := "palmette/palmettelaw24.ChordalTreeLaws", spec := "chordalTreeLaws", unfollowed := true, recurses := true, named := ["math/bits.deBruijn64tab"], plainKeys := false, apart := false, laid := [("math/bits.deBruijn64tab", laid_math_bits_deBruijn64tab)] }
def ChordalTreeLawsSaid : Prop := chordalTreeLawsRow.holds Tryz.pinned (OpenSpec.ofChange chordalTreeLawsSpec)

/-- ITS FALSE NEIGHBOUR: 'it returns false'. Refute it at one input. -/
def chordalTreeLawsWrong : ChangeSpec := { name := "chordalTreeLaws", fn := fun _ => fun
  | [d] => { results := [.lit (.bool false)], args := [d] }
  | _ => none }
def ChordalTreeLawsWrongFalsely : Prop := chordalTreeLawsRow.holds Tryz.pinned (OpenSpec.ofChange chordalTreeLawsWrong)

/-- 'palmettelaw24.ChordalNil': WHATEVER THE INPUT: true; the input reads as it did. -/
def chordalNilSpec : ChangeSpec := { name := "chordalNil", fn := fun _ => fun
  | [d1, d2, d3] => { results := [.lit (.bool true)], args := [d1, d2, d3] }
  | _ => none }
def chordalNilRow : OpenClaim := { program := "ytmfkkkhddigkfaagreatdoor", sum := "330ecf26c9cd2d355f84e9e8d6e80cdb10827dc4bb46d9f6b05bcc0579080cb8", func := "palmette/palmettelaw24.ChordalNil", spec := "chordalNil", unfollowed := true, recurses := true, named := ["math/bits.deBruijn64tab"], plainKeys := false, apart := false, laid := [("math/bits.deBruijn64tab", laid_math_bits_deBruijn64tab)] }
def ChordalNilSaid : Prop := chordalNilRow.holds Tryz.pinned (OpenSpec.ofChange chordalNilSpec)

/-- ITS FALSE NEIGHBOUR: 'it returns false'. Refute it at one input. -/
def chordalNilWrong : ChangeSpec := { name := "chordalNil", fn := fun _ => fun
  | [d1, d2, d3] => { results := [.lit (.bool false)], args := [d1, d2, d3] }
  | _ => none }
def ChordalNilWrongFalsely : Prop := chordalNilRow.holds Tryz.pinned (OpenSpec.ofChange chordalNilWrong)

/- THE SECOND FORM. 'bulk': how many values and letters a reading holds, each counted each time it is reached (what is shared counts as often as it is met; a slice's spare places count too). A statement '..UptoSaid' is the law's where the arguments, and the package variables that the reading takes, are together of bulk at most 1048576: NARROWER than '..Said'. Prove '..Said' where nothing that the law and all that it calls make is longer than what came in: it says more and counts as full. Else prove '..UptoSaid'. A law counts once. -/
mutual
def uptoBulk {H : Type} : DataW H → Nat
  | .lit (.string bytes) => bytes.length + 1
  | .lit _ => 1
  | .nil => 1
  | .ptr d => uptoBulk d + 1
  | .slice elems spare => uptoBulkAll elems + uptoBulkAll spare + 1
  | .agg parts => uptoBulkAll parts + 1
  | .iface _ d => uptoBulk d + 1
  | .map entries => uptoBulkEntries entries + 1
  | .held _ => 1
def uptoBulkAll {H : Type} : List (DataW H) → Nat
  | [] => 0
  | d :: r => uptoBulk d + uptoBulkAll r
def uptoBulkEntries {H : Type} : List (Lit × DataW H) → Nat
  | [] => 0
  | x :: r => uptoBulkEntry x + uptoBulkEntries r
def uptoBulkEntry {H : Type} : Lit × DataW H → Nat
  | (.string bytes, d) => bytes.length + uptoBulk d + 1
  | (_, d) => uptoBulk d + 1
 end
def uptoSmall : (H : Type) → List (DataW H) → Bool := fun _ ds => decide (uptoBulkAll ds ≤ 1048576)
def OpenSpec.upto (s : _root_.Go.ChangeSpec) : _root_.Go.OpenSpec := { _root_.Go.OpenSpec.ofChange s with cond := some uptoSmall }

/-- 'palmettelaw24.ChordalPerfectOrder', WHERE WHAT IT READS IS OF BULK AT MOST 1048576: true; the input reads as it did. -/
def chordalPerfectOrderUptoRow : OpenClaim := { program := "ytmfkkkhddigkfaagreatdoor", sum := "330ecf26c9cd2d355f84e9e8d6e80cdb10827dc4bb46d9f6b05bcc0579080cb8", func := "palmette/palmettelaw24.ChordalPerfectOrder", spec := "chordalPerfectOrder", unfollowed := true, recurses := true, named := ["math/bits.deBruijn64tab"], plainKeys := false, apart := false, laid := [("math/bits.deBruijn64tab", laid_math_bits_deBruijn64tab)], narrowed := true }
def ChordalPerfectOrderUptoSaid : Prop := chordalPerfectOrderUptoRow.holds Tryz.pinned (OpenSpec.upto chordalPerfectOrderSpec)

/-- 'palmettelaw24.ChordalHole', WHERE WHAT IT READS IS OF BULK AT MOST 1048576: true; the input reads as it did. -/
def chordalHoleUptoRow : OpenClaim := { program := "ytmfkkkhddigkfaagreatdoor", sum := "330ecf26c9cd2d355f84e9e8d6e80cdb10827dc4bb46d9f6b05bcc0579080cb8", func := "palmette/palmettelaw24.ChordalHole", spec := "chordalHole", unfollowed := true, recurses := true, named := ["math/bits.deBruijn64tab"], plainKeys := false, apart := false, laid := [("math/bits.deBruijn64tab", laid_math_bits_deBruijn64tab)], narrowed := true }
def ChordalHoleUptoSaid : Prop := chordalHoleUptoRow.holds Tryz.pinned (OpenSpec.upto chordalHoleSpec)

/-- 'palmettelaw24.ChordalColoring', WHERE WHAT IT READS IS OF BULK AT MOST 1048576: true; the input reads as it did. -/
def chordalColoringUptoRow : OpenClaim := { program := "ytmfkkkhddigkfaagreatdoor", sum := "330ecf26c9cd2d355f84e9e8d6e80cdb10827dc4bb46d9f6b05bcc0579080cb8", func := "palmette/palmettelaw24.ChordalColoring", spec := "chordalColoring", unfollowed := true, recurses := true, named := ["math/bits.deBruijn64tab"], plainKeys := false, apart := false, laid := [("math/bits.deBruijn64tab", laid_math_bits_deBruijn64tab)], narrowed := true }
def ChordalColoringUptoSaid : Prop := chordalColoringUptoRow.holds Tryz.pinned (OpenSpec.upto chordalColoringSpec)

/-- 'palmettelaw24.ChordalCliques', WHERE WHAT IT READS IS OF BULK AT MOST 1048576: true; the input reads as it did. -/
def chordalCliquesUptoRow : OpenClaim := { program := "ytmfkkkhddigkfaagreatdoor", sum := "330ecf26c9cd2d355f84e9e8d6e80cdb10827dc4bb46d9f6b05bcc0579080cb8", func := "palmette/palmettelaw24.ChordalCliques", spec := "chordalCliques", unfollowed := true, recurses := true, named := ["math/bits.deBruijn64tab"], plainKeys := false, apart := false, laid := [("math/bits.deBruijn64tab", laid_math_bits_deBruijn64tab)], narrowed := true }
def ChordalCliquesUptoSaid : Prop := chordalCliquesUptoRow.holds Tryz.pinned (OpenSpec.upto chordalCliquesSpec)

/-- 'palmettelaw24.ChordalWitness', WHERE WHAT IT READS IS OF BULK AT MOST 1048576: true; the input reads as it did. -/
def chordalWitnessUptoRow : OpenClaim := { program := "ytmfkkkhddigkfaagreatdoor", sum := "330ecf26c9cd2d355f84e9e8d6e80cdb10827dc4bb46d9f6b05bcc0579080cb8", func := "palmette/palmettelaw24.ChordalWitness", spec := "chordalWitness", unfollowed := true, recurses := true, named := ["math/bits.deBruijn64tab"], plainKeys := false, apart := false, laid := [("math/bits.deBruijn64tab", laid_math_bits_deBruijn64tab)], narrowed := true }
def ChordalWitnessUptoSaid : Prop := chordalWitnessUptoRow.holds Tryz.pinned (OpenSpec.upto chordalWitnessSpec)

/-- 'palmettelaw24.ChordalIsPerfect', WHERE WHAT IT READS IS OF BULK AT MOST 1048576: true; the input reads as it did. -/
def chordalIsPerfectUptoRow : OpenClaim := { program := "ytmfkkkhddigkfaagreatdoor", sum := "330ecf26c9cd2d355f84e9e8d6e80cdb10827dc4bb46d9f6b05bcc0579080cb8", func := "palmette/palmettelaw24.ChordalIsPerfect", spec := "chordalIsPerfect", unfollowed := true, recurses := true, named := ["math/bits.deBruijn64tab"], plainKeys := false, apart := false, laid := [("math/bits.deBruijn64tab", laid_math_bits_deBruijn64tab)], narrowed := true }
def ChordalIsPerfectUptoSaid : Prop := chordalIsPerfectUptoRow.holds Tryz.pinned (OpenSpec.upto chordalIsPerfectSpec)

/-- 'palmettelaw24.ChordalCliqueTree', WHERE WHAT IT READS IS OF BULK AT MOST 1048576: true; the input reads as it did. -/
def chordalCliqueTreeUptoRow : OpenClaim := { program := "ytmfkkkhddigkfaagreatdoor", sum := "330ecf26c9cd2d355f84e9e8d6e80cdb10827dc4bb46d9f6b05bcc0579080cb8", func := "palmette/palmettelaw24.ChordalCliqueTree", spec := "chordalCliqueTree", unfollowed := true, recurses := true, named := ["math/bits.deBruijn64tab"], plainKeys := false, apart := false, laid := [("math/bits.deBruijn64tab", laid_math_bits_deBruijn64tab)], narrowed := true }
def ChordalCliqueTreeUptoSaid : Prop := chordalCliqueTreeUptoRow.holds Tryz.pinned (OpenSpec.upto chordalCliqueTreeSpec)

/-- 'palmettelaw24.ChordalTreeLaws', WHERE WHAT IT READS IS OF BULK AT MOST 1048576: true; the input reads as it did. -/
def chordalTreeLawsUptoRow : OpenClaim := { program := "ytmfkkkhddigkfaagreatdoor", sum := "330ecf26c9cd2d355f84e9e8d6e80cdb10827dc4bb46d9f6b05bcc0579080cb8", func := "palmette/palmettelaw24.ChordalTreeLaws", spec := "chordalTreeLaws", unfollowed := true, recurses := true, named := ["math/bits.deBruijn64tab"], plainKeys := false, apart := false, laid := [("math/bits.deBruijn64tab", laid_math_bits_deBruijn64tab)], narrowed := true }
def ChordalTreeLawsUptoSaid : Prop := chordalTreeLawsUptoRow.holds Tryz.pinned (OpenSpec.upto chordalTreeLawsSpec)

/-- 'palmettelaw24.ChordalNil', WHERE WHAT IT READS IS OF BULK AT MOST 1048576: true; the input reads as it did. -/
def chordalNilUptoRow : OpenClaim := { program := "ytmfkkkhddigkfaagreatdoor", sum := "330ecf26c9cd2d355f84e9e8d6e80cdb10827dc4bb46d9f6b05bcc0579080cb8", func := "palmette/palmettelaw24.ChordalNil", spec := "chordalNil", unfollowed := true, recurses := true, named := ["math/bits.deBruijn64tab"], plainKeys := false, apart := false, laid := [("math/bits.deBruijn64tab", laid_math_bits_deBruijn64tab)], narrowed := true }
def ChordalNilUptoSaid : Prop := chordalNilUptoRow.holds Tryz.pinned (OpenSpec.upto chordalNilSpec)

end Rows
end Go.Proofs.YtmfkkkhddigkfaaGreatDoor
