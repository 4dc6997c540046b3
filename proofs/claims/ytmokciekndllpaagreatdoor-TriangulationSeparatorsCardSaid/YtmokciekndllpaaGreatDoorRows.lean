/-
  NARROWER THAN 'FOR EVERY INPUT', by the rows' own cells (each row's printed sentence says how): TriangulationSeparators: laid · TriangulationCrossingSymmetric: laid · TriangulationComponents: laid · TriangulationNoSubsetRemovable: laid · TriangulationMCSM: laid · TriangulationSeparatorsPreserved: laid · TriangulationIsMinimal: laid · TriangulationMCSMIsMinimal: laid · TriangulationMinimalize: laid · TriangulationNil: laid.
  DERIVED. THE GIVEN ROWS OF THIS SEAT. 10 by the template 'for every input the law returns true; each argument reads behind the call as it read before'; 0 by the template 'total and deterministic' (their statements: YtmokciekndllpaaGreatDoorTotals.lean).
  GIVEN WITH THE SEED: the statements are not yours to turn. If you find one false, say at which input.
  Laid BY PROGRAM, IN A SANDBOX (cutbox-rows.mjs): the forced cells as the released guide's own fill.sh prints them over the translation 7ced6d408a036a6f… (all of the seat's roots in one cut). By AI agents, Wed Nov 11 2026. No macro, syntax, notation, axiom, sorry.
-/
import Derived.Test.YtmokciekndllpaaGreatDoorChecked
import GoSem.Claim
import GoSem.ClaimJoined
import GoSem.ClaimMapViews
import Derived.JoinedTies
import Derived.KernelRfl
namespace Go.Proofs.YtmokciekndllpaaGreatDoor
/- THE CELL 'sum', in the pinned program and in every row, IS THE sha256 OF THE DUMP (.gsa) THAT YtmokciekndllpaaGreatDoorProg.lean LOADS. Nothing in Lean hashes anything: it is a label: what it is worth is what the hold of that sum in a sandbox is worth. -/
noncomputable def Tryz.pinned : Pinned := { name := "ytmokciekndllpaagreatdoor", sum := "7ced6d408a036a6f8494560fd1297b959cca4e2cb6d307750bd9d6d1be83636e", checked := Tryz.checked }
namespace Rows
def none {H : Type} : Left H := { results := [], args := [] }

/- WHAT THE LISTED PACKAGE-LEVEL VARIABLES READ AS WHEN THE CALL BEGINS. Each datum BY PROGRAM (the guide's laid-datum.mjs) off the statement by which the dump's own 'gosem.cut.vars' lays the variable. In a bare row this is a premise. The card (YtmokciekndllpaaGreatDoorCards.lean) ties it to the program's text. -/
def laid_math_bits_deBruijn64tab {H : Type} : DataW H := .agg [.lit (.int .u8 0), .lit (.int .u8 1), .lit (.int .u8 56), .lit (.int .u8 2), .lit (.int .u8 57), .lit (.int .u8 49), .lit (.int .u8 28), .lit (.int .u8 3), .lit (.int .u8 61), .lit (.int .u8 58), .lit (.int .u8 42), .lit (.int .u8 50), .lit (.int .u8 38), .lit (.int .u8 29), .lit (.int .u8 17), .lit (.int .u8 4), .lit (.int .u8 62), .lit (.int .u8 47), .lit (.int .u8 59), .lit (.int .u8 36), .lit (.int .u8 45), .lit (.int .u8 43), .lit (.int .u8 51), .lit (.int .u8 22), .lit (.int .u8 53), .lit (.int .u8 39), .lit (.int .u8 33), .lit (.int .u8 30), .lit (.int .u8 24), .lit (.int .u8 18), .lit (.int .u8 12), .lit (.int .u8 5), .lit (.int .u8 63), .lit (.int .u8 55), .lit (.int .u8 48), .lit (.int .u8 27), .lit (.int .u8 60), .lit (.int .u8 41), .lit (.int .u8 37), .lit (.int .u8 16), .lit (.int .u8 46), .lit (.int .u8 35), .lit (.int .u8 44), .lit (.int .u8 21), .lit (.int .u8 52), .lit (.int .u8 32), .lit (.int .u8 23), .lit (.int .u8 11), .lit (.int .u8 54), .lit (.int .u8 26), .lit (.int .u8 40), .lit (.int .u8 15), .lit (.int .u8 34), .lit (.int .u8 20), .lit (.int .u8 31), .lit (.int .u8 10), .lit (.int .u8 25), .lit (.int .u8 14), .lit (.int .u8 19), .lit (.int .u8 9), .lit (.int .u8 13), .lit (.int .u8 8), .lit (.int .u8 7), .lit (.int .u8 6)]

/-- 'palmettelaw25.TriangulationSeparators': WHATEVER THE INPUT: true; the input reads as it did. -/
def triangulationSeparatorsSpec : ChangeSpec := { name := "triangulationSeparators", fn := fun _ => fun
  | [d1, d2, d3, d4] => { results := [.lit (.bool true)], args := [d1, d2, d3, d4] }
  | _ => none }
def triangulationSeparatorsRow : OpenClaim := { program := "ytmokciekndllpaagreatdoor", sum := "7ced6d408a036a6f8494560fd1297b959cca4e2cb6d307750bd9d6d1be83636e", func := "palmette/palmettelaw25.TriangulationSeparators", spec := "triangulationSeparators", unfollowed := true, recurses := true, named := ["math/bits.deBruijn64tab"], plainKeys := false, apart := false, laid := [("math/bits.deBruijn64tab", laid_math_bits_deBruijn64tab)] }
def TriangulationSeparatorsSaid : Prop := triangulationSeparatorsRow.holds Tryz.pinned (OpenSpec.ofChange triangulationSeparatorsSpec)

/-- ITS FALSE NEIGHBOUR: 'it returns false'. Refute it at one input. -/
def triangulationSeparatorsWrong : ChangeSpec := { name := "triangulationSeparators", fn := fun _ => fun
  | [d1, d2, d3, d4] => { results := [.lit (.bool false)], args := [d1, d2, d3, d4] }
  | _ => none }
def TriangulationSeparatorsWrongFalsely : Prop := triangulationSeparatorsRow.holds Tryz.pinned (OpenSpec.ofChange triangulationSeparatorsWrong)

/-- 'palmettelaw25.TriangulationCrossingSymmetric': WHATEVER THE INPUT: true; the input reads as it did. -/
def triangulationCrossingSymmetricSpec : ChangeSpec := { name := "triangulationCrossingSymmetric", fn := fun _ => fun
  | [d] => { results := [.lit (.bool true)], args := [d] }
  | _ => none }
def triangulationCrossingSymmetricRow : OpenClaim := { program := "ytmokciekndllpaagreatdoor", sum := "7ced6d408a036a6f8494560fd1297b959cca4e2cb6d307750bd9d6d1be83636e", func := "palmette/palmettelaw25.TriangulationCrossingSymmetric", spec := "triangulationCrossingSymmetric", unfollowed := true, recurses := true, named := ["math/bits.deBruijn64tab"], plainKeys := false, apart := false, laid := [("math/bits.deBruijn64tab", laid_math_bits_deBruijn64tab)] }
def TriangulationCrossingSymmetricSaid : Prop := triangulationCrossingSymmetricRow.holds Tryz.pinned (OpenSpec.ofChange triangulationCrossingSymmetricSpec)

/-- ITS FALSE NEIGHBOUR: 'it returns false'. Refute it at one input. -/
def triangulationCrossingSymmetricWrong : ChangeSpec := { name := "triangulationCrossingSymmetric", fn := fun _ => fun
  | [d] => { results := [.lit (.bool false)], args := [d] }
  | _ => none }
def TriangulationCrossingSymmetricWrongFalsely : Prop := triangulationCrossingSymmetricRow.holds Tryz.pinned (OpenSpec.ofChange triangulationCrossingSymmetricWrong)

/-- 'palmettelaw25.TriangulationComponents': WHATEVER THE INPUT: true; the input reads as it did. -/
def triangulationComponentsSpec : ChangeSpec := { name := "triangulationComponents", fn := fun _ => fun
  | [d1, d2] => { results := [.lit (.bool true)], args := [d1, d2] }
  | _ => none }
def triangulationComponentsRow : OpenClaim := { program := "ytmokciekndllpaagreatdoor", sum := "7ced6d408a036a6f8494560fd1297b959cca4e2cb6d307750bd9d6d1be83636e", func := "palmette/palmettelaw25.TriangulationComponents", spec := "triangulationComponents", unfollowed := true, recurses := true, named := ["math/bits.deBruijn64tab"], plainKeys := false, apart := false, laid := [("math/bits.deBruijn64tab", laid_math_bits_deBruijn64tab)] }
def TriangulationComponentsSaid : Prop := triangulationComponentsRow.holds Tryz.pinned (OpenSpec.ofChange triangulationComponentsSpec)

/-- ITS FALSE NEIGHBOUR: 'it returns false'. Refute it at one input. -/
def triangulationComponentsWrong : ChangeSpec := { name := "triangulationComponents", fn := fun _ => fun
  | [d1, d2] => { results := [.lit (.bool false)], args := [d1, d2] }
  | _ => none }
def TriangulationComponentsWrongFalsely : Prop := triangulationComponentsRow.holds Tryz.pinned (OpenSpec.ofChange triangulationComponentsWrong)

/-- 'palmettelaw25.TriangulationNoSubsetRemovable': WHATEVER THE INPUT: true; the input reads as it did. -/
def triangulationNoSubsetRemovableSpec : ChangeSpec := { name := "triangulationNoSubsetRemovable", fn := fun _ => fun
  | [d1, d2] => { results := [.lit (.bool true)], args := [d1, d2] }
  | _ => none }
def triangulationNoSubsetRemovableRow : OpenClaim := { program := "ytmokciekndllpaagreatdoor", sum := "7ced6d408a036a6f8494560fd1297b959cca4e2cb6d307750bd9d6d1be83636e", func := "palmette/palmettelaw25.TriangulationNoSubsetRemovable", spec := "triangulationNoSubsetRemovable", inPlace := ["maps.clone"], unfollowed := true, recurses := true, named := ["math/bits.deBruijn64tab"], plainKeys := false, apart := false, laid := [("math/bits.deBruijn64tab", laid_math_bits_deBruijn64tab)] }
def TriangulationNoSubsetRemovableSaid : Prop := triangulationNoSubsetRemovableRow.holds Tryz.pinned (OpenSpec.ofChange triangulationNoSubsetRemovableSpec)

/-- ITS FALSE NEIGHBOUR: 'it returns false'. Refute it at one input. -/
def triangulationNoSubsetRemovableWrong : ChangeSpec := { name := "triangulationNoSubsetRemovable", fn := fun _ => fun
  | [d1, d2] => { results := [.lit (.bool false)], args := [d1, d2] }
  | _ => none }
def TriangulationNoSubsetRemovableWrongFalsely : Prop := triangulationNoSubsetRemovableRow.holds Tryz.pinned (OpenSpec.ofChange triangulationNoSubsetRemovableWrong)

/-- 'palmettelaw25.TriangulationMCSM': WHATEVER THE INPUT: true; the input reads as it did. -/
def triangulationMCSMSpec : ChangeSpec := { name := "triangulationMCSM", fn := fun _ => fun
  | [d] => { results := [.lit (.bool true)], args := [d] }
  | _ => none }
def triangulationMCSMRow : OpenClaim := { program := "ytmokciekndllpaagreatdoor", sum := "7ced6d408a036a6f8494560fd1297b959cca4e2cb6d307750bd9d6d1be83636e", func := "palmette/palmettelaw25.TriangulationMCSM", spec := "triangulationMCSM", unfollowed := true, recurses := true, named := ["math/bits.deBruijn64tab"], plainKeys := false, apart := false, laid := [("math/bits.deBruijn64tab", laid_math_bits_deBruijn64tab)] }
def TriangulationMCSMSaid : Prop := triangulationMCSMRow.holds Tryz.pinned (OpenSpec.ofChange triangulationMCSMSpec)

/-- ITS FALSE NEIGHBOUR: 'it returns false'. Refute it at one input. -/
def triangulationMCSMWrong : ChangeSpec := { name := "triangulationMCSM", fn := fun _ => fun
  | [d] => { results := [.lit (.bool false)], args := [d] }
  | _ => none }
def TriangulationMCSMWrongFalsely : Prop := triangulationMCSMRow.holds Tryz.pinned (OpenSpec.ofChange triangulationMCSMWrong)

/-- 'palmettelaw25.TriangulationSeparatorsPreserved': WHATEVER THE INPUT: true; the input reads as it did. -/
def triangulationSeparatorsPreservedSpec : ChangeSpec := { name := "triangulationSeparatorsPreserved", fn := fun _ => fun
  | [d] => { results := [.lit (.bool true)], args := [d] }
  | _ => none }
def triangulationSeparatorsPreservedRow : OpenClaim := { program := "ytmokciekndllpaagreatdoor", sum := "7ced6d408a036a6f8494560fd1297b959cca4e2cb6d307750bd9d6d1be83636e", func := "palmette/palmettelaw25.TriangulationSeparatorsPreserved", spec := "triangulationSeparatorsPreserved", inPlace := ["maps.clone"], unfollowed := true, recurses := true, named := ["math/bits.deBruijn64tab"], plainKeys := false, apart := false, laid := [("math/bits.deBruijn64tab", laid_math_bits_deBruijn64tab)] }
def TriangulationSeparatorsPreservedSaid : Prop := triangulationSeparatorsPreservedRow.holds Tryz.pinned (OpenSpec.ofChange triangulationSeparatorsPreservedSpec)

/-- ITS FALSE NEIGHBOUR: 'it returns false'. Refute it at one input. -/
def triangulationSeparatorsPreservedWrong : ChangeSpec := { name := "triangulationSeparatorsPreserved", fn := fun _ => fun
  | [d] => { results := [.lit (.bool false)], args := [d] }
  | _ => none }
def TriangulationSeparatorsPreservedWrongFalsely : Prop := triangulationSeparatorsPreservedRow.holds Tryz.pinned (OpenSpec.ofChange triangulationSeparatorsPreservedWrong)

/-- 'palmettelaw25.TriangulationIsMinimal': WHATEVER THE INPUT: true; the input reads as it did. -/
def triangulationIsMinimalSpec : ChangeSpec := { name := "triangulationIsMinimal", fn := fun _ => fun
  | [d1, d2] => { results := [.lit (.bool true)], args := [d1, d2] }
  | _ => none }
def triangulationIsMinimalRow : OpenClaim := { program := "ytmokciekndllpaagreatdoor", sum := "7ced6d408a036a6f8494560fd1297b959cca4e2cb6d307750bd9d6d1be83636e", func := "palmette/palmettelaw25.TriangulationIsMinimal", spec := "triangulationIsMinimal", inPlace := ["maps.clone"], unfollowed := true, recurses := true, named := ["math/bits.deBruijn64tab"], plainKeys := false, apart := false, laid := [("math/bits.deBruijn64tab", laid_math_bits_deBruijn64tab)] }
def TriangulationIsMinimalSaid : Prop := triangulationIsMinimalRow.holds Tryz.pinned (OpenSpec.ofChange triangulationIsMinimalSpec)

/-- ITS FALSE NEIGHBOUR: 'it returns false'. Refute it at one input. -/
def triangulationIsMinimalWrong : ChangeSpec := { name := "triangulationIsMinimal", fn := fun _ => fun
  | [d1, d2] => { results := [.lit (.bool false)], args := [d1, d2] }
  | _ => none }
def TriangulationIsMinimalWrongFalsely : Prop := triangulationIsMinimalRow.holds Tryz.pinned (OpenSpec.ofChange triangulationIsMinimalWrong)

/-- 'palmettelaw25.TriangulationMCSMIsMinimal': WHATEVER THE INPUT: true; the input reads as it did. -/
def triangulationMCSMIsMinimalSpec : ChangeSpec := { name := "triangulationMCSMIsMinimal", fn := fun _ => fun
  | [d] => { results := [.lit (.bool true)], args := [d] }
  | _ => none }
def triangulationMCSMIsMinimalRow : OpenClaim := { program := "ytmokciekndllpaagreatdoor", sum := "7ced6d408a036a6f8494560fd1297b959cca4e2cb6d307750bd9d6d1be83636e", func := "palmette/palmettelaw25.TriangulationMCSMIsMinimal", spec := "triangulationMCSMIsMinimal", inPlace := ["maps.clone"], unfollowed := true, recurses := true, named := ["math/bits.deBruijn64tab"], plainKeys := false, apart := false, laid := [("math/bits.deBruijn64tab", laid_math_bits_deBruijn64tab)] }
def TriangulationMCSMIsMinimalSaid : Prop := triangulationMCSMIsMinimalRow.holds Tryz.pinned (OpenSpec.ofChange triangulationMCSMIsMinimalSpec)

/-- ITS FALSE NEIGHBOUR: 'it returns false'. Refute it at one input. -/
def triangulationMCSMIsMinimalWrong : ChangeSpec := { name := "triangulationMCSMIsMinimal", fn := fun _ => fun
  | [d] => { results := [.lit (.bool false)], args := [d] }
  | _ => none }
def TriangulationMCSMIsMinimalWrongFalsely : Prop := triangulationMCSMIsMinimalRow.holds Tryz.pinned (OpenSpec.ofChange triangulationMCSMIsMinimalWrong)

/-- 'palmettelaw25.TriangulationMinimalize': WHATEVER THE INPUT: true; the input reads as it did. -/
def triangulationMinimalizeSpec : ChangeSpec := { name := "triangulationMinimalize", fn := fun _ => fun
  | [d1, d2] => { results := [.lit (.bool true)], args := [d1, d2] }
  | _ => none }
def triangulationMinimalizeRow : OpenClaim := { program := "ytmokciekndllpaagreatdoor", sum := "7ced6d408a036a6f8494560fd1297b959cca4e2cb6d307750bd9d6d1be83636e", func := "palmette/palmettelaw25.TriangulationMinimalize", spec := "triangulationMinimalize", inPlace := ["maps.clone"], unfollowed := true, recurses := true, named := ["math/bits.deBruijn64tab"], plainKeys := false, apart := false, laid := [("math/bits.deBruijn64tab", laid_math_bits_deBruijn64tab)] }
def TriangulationMinimalizeSaid : Prop := triangulationMinimalizeRow.holds Tryz.pinned (OpenSpec.ofChange triangulationMinimalizeSpec)

/-- ITS FALSE NEIGHBOUR: 'it returns false'. Refute it at one input. -/
def triangulationMinimalizeWrong : ChangeSpec := { name := "triangulationMinimalize", fn := fun _ => fun
  | [d1, d2] => { results := [.lit (.bool false)], args := [d1, d2] }
  | _ => none }
def TriangulationMinimalizeWrongFalsely : Prop := triangulationMinimalizeRow.holds Tryz.pinned (OpenSpec.ofChange triangulationMinimalizeWrong)

/-- 'palmettelaw25.TriangulationNil': WHATEVER THE INPUT: true; the input reads as it did. -/
def triangulationNilSpec : ChangeSpec := { name := "triangulationNil", fn := fun _ => fun
  | [d1, d2, d3] => { results := [.lit (.bool true)], args := [d1, d2, d3] }
  | _ => none }
def triangulationNilRow : OpenClaim := { program := "ytmokciekndllpaagreatdoor", sum := "7ced6d408a036a6f8494560fd1297b959cca4e2cb6d307750bd9d6d1be83636e", func := "palmette/palmettelaw25.TriangulationNil", spec := "triangulationNil", inPlace := ["maps.clone"], unfollowed := true, recurses := true, named := ["math/bits.deBruijn64tab"], plainKeys := false, apart := false, laid := [("math/bits.deBruijn64tab", laid_math_bits_deBruijn64tab)] }
def TriangulationNilSaid : Prop := triangulationNilRow.holds Tryz.pinned (OpenSpec.ofChange triangulationNilSpec)

/-- ITS FALSE NEIGHBOUR: 'it returns false'. Refute it at one input. -/
def triangulationNilWrong : ChangeSpec := { name := "triangulationNil", fn := fun _ => fun
  | [d1, d2, d3] => { results := [.lit (.bool false)], args := [d1, d2, d3] }
  | _ => none }
def TriangulationNilWrongFalsely : Prop := triangulationNilRow.holds Tryz.pinned (OpenSpec.ofChange triangulationNilWrong)

/- THE SECOND FORM. 'bulk': how many values and letters a reading holds, each counted each time it is reached (what is shared counts as often as it is met; a slice's spare places count too). A statement '..UptoSaid' is the law's where the arguments, and the package variables that the reading takes, are together of bulk at most 1048576: NARROWER than '..Said'. Prove '..Said' where nothing that the law and all that it calls make is longer than what came in: it says more and counts as full. Else prove '..UptoSaid'. A law counts once. -/
mutual
def uptoBulk {H : Type} : DataW H → Nat
  | .lit (.string bytes) => bytes.length + 1
  | .lit _ => 1
  | .nil => 1
  | .ptr d => uptoBulk d + 1
  | .slice elems spare => uptoBulkAll elems + uptoBulkAll spare + 1
  | .agg parts => uptoBulkAll parts + 1
  | .iface _ d => uptoBulk d + 1
  | .map entries => uptoBulkEntries entries + 1
  | .held _ => 1
def uptoBulkAll {H : Type} : List (DataW H) → Nat
  | [] => 0
  | d :: r => uptoBulk d + uptoBulkAll r
def uptoBulkEntries {H : Type} : List (Lit × DataW H) → Nat
  | [] => 0
  | x :: r => uptoBulkEntry x + uptoBulkEntries r
def uptoBulkEntry {H : Type} : Lit × DataW H → Nat
  | (.string bytes, d) => bytes.length + uptoBulk d + 1
  | (_, d) => uptoBulk d + 1
 end
def uptoSmall : (H : Type) → List (DataW H) → Bool := fun _ ds => decide (uptoBulkAll ds ≤ 1048576)
def OpenSpec.upto (s : _root_.Go.ChangeSpec) : _root_.Go.OpenSpec := { _root_.Go.OpenSpec.ofChange s with cond := some uptoSmall }

/-- 'palmettelaw25.TriangulationSeparators', WHERE WHAT IT READS IS OF BULK AT MOST 1048576: true; the input reads as it did. -/
def triangulationSeparatorsUptoRow : OpenClaim := { program := "ytmokciekndllpaagreatdoor", sum := "7ced6d408a036a6f8494560fd1297b959cca4e2cb6d307750bd9d6d1be83636e", func := "palmette/palmettelaw25.TriangulationSeparators", spec := "triangulationSeparators", unfollowed := true, recurses := true, named := ["math/bits.deBruijn64tab"], plainKeys := false, apart := false, laid := [("math/bits.deBruijn64tab", laid_math_bits_deBruijn64tab)], narrowed := true }
def TriangulationSeparatorsUptoSaid : Prop := triangulationSeparatorsUptoRow.holds Tryz.pinned (OpenSpec.upto triangulationSeparatorsSpec)

/-- 'palmettelaw25.TriangulationCrossingSymmetric', WHERE WHAT IT READS IS OF BULK AT MOST 1048576: true; the input reads as it did. -/
def triangulationCrossingSymmetricUptoRow : OpenClaim := { program := "ytmokciekndllpaagreatdoor", sum := "7ced6d408a036a6f8494560fd1297b959cca4e2cb6d307750bd9d6d1be83636e", func := "palmette/palmettelaw25.TriangulationCrossingSymmetric", spec := "triangulationCrossingSymmetric", unfollowed := true, recurses := true, named := ["math/bits.deBruijn64tab"], plainKeys := false, apart := false, laid := [("math/bits.deBruijn64tab", laid_math_bits_deBruijn64tab)], narrowed := true }
def TriangulationCrossingSymmetricUptoSaid : Prop := triangulationCrossingSymmetricUptoRow.holds Tryz.pinned (OpenSpec.upto triangulationCrossingSymmetricSpec)

/-- 'palmettelaw25.TriangulationComponents', WHERE WHAT IT READS IS OF BULK AT MOST 1048576: true; the input reads as it did. -/
def triangulationComponentsUptoRow : OpenClaim := { program := "ytmokciekndllpaagreatdoor", sum := "7ced6d408a036a6f8494560fd1297b959cca4e2cb6d307750bd9d6d1be83636e", func := "palmette/palmettelaw25.TriangulationComponents", spec := "triangulationComponents", unfollowed := true, recurses := true, named := ["math/bits.deBruijn64tab"], plainKeys := false, apart := false, laid := [("math/bits.deBruijn64tab", laid_math_bits_deBruijn64tab)], narrowed := true }
def TriangulationComponentsUptoSaid : Prop := triangulationComponentsUptoRow.holds Tryz.pinned (OpenSpec.upto triangulationComponentsSpec)

/-- 'palmettelaw25.TriangulationNoSubsetRemovable', WHERE WHAT IT READS IS OF BULK AT MOST 1048576: true; the input reads as it did. -/
def triangulationNoSubsetRemovableUptoRow : OpenClaim := { program := "ytmokciekndllpaagreatdoor", sum := "7ced6d408a036a6f8494560fd1297b959cca4e2cb6d307750bd9d6d1be83636e", func := "palmette/palmettelaw25.TriangulationNoSubsetRemovable", spec := "triangulationNoSubsetRemovable", inPlace := ["maps.clone"], unfollowed := true, recurses := true, named := ["math/bits.deBruijn64tab"], plainKeys := false, apart := false, laid := [("math/bits.deBruijn64tab", laid_math_bits_deBruijn64tab)], narrowed := true }
def TriangulationNoSubsetRemovableUptoSaid : Prop := triangulationNoSubsetRemovableUptoRow.holds Tryz.pinned (OpenSpec.upto triangulationNoSubsetRemovableSpec)

/-- 'palmettelaw25.TriangulationMCSM', WHERE WHAT IT READS IS OF BULK AT MOST 1048576: true; the input reads as it did. -/
def triangulationMCSMUptoRow : OpenClaim := { program := "ytmokciekndllpaagreatdoor", sum := "7ced6d408a036a6f8494560fd1297b959cca4e2cb6d307750bd9d6d1be83636e", func := "palmette/palmettelaw25.TriangulationMCSM", spec := "triangulationMCSM", unfollowed := true, recurses := true, named := ["math/bits.deBruijn64tab"], plainKeys := false, apart := false, laid := [("math/bits.deBruijn64tab", laid_math_bits_deBruijn64tab)], narrowed := true }
def TriangulationMCSMUptoSaid : Prop := triangulationMCSMUptoRow.holds Tryz.pinned (OpenSpec.upto triangulationMCSMSpec)

/-- 'palmettelaw25.TriangulationSeparatorsPreserved', WHERE WHAT IT READS IS OF BULK AT MOST 1048576: true; the input reads as it did. -/
def triangulationSeparatorsPreservedUptoRow : OpenClaim := { program := "ytmokciekndllpaagreatdoor", sum := "7ced6d408a036a6f8494560fd1297b959cca4e2cb6d307750bd9d6d1be83636e", func := "palmette/palmettelaw25.TriangulationSeparatorsPreserved", spec := "triangulationSeparatorsPreserved", inPlace := ["maps.clone"], unfollowed := true, recurses := true, named := ["math/bits.deBruijn64tab"], plainKeys := false, apart := false, laid := [("math/bits.deBruijn64tab", laid_math_bits_deBruijn64tab)], narrowed := true }
def TriangulationSeparatorsPreservedUptoSaid : Prop := triangulationSeparatorsPreservedUptoRow.holds Tryz.pinned (OpenSpec.upto triangulationSeparatorsPreservedSpec)

/-- 'palmettelaw25.TriangulationIsMinimal', WHERE WHAT IT READS IS OF BULK AT MOST 1048576: true; the input reads as it did. -/
def triangulationIsMinimalUptoRow : OpenClaim := { program := "ytmokciekndllpaagreatdoor", sum := "7ced6d408a036a6f8494560fd1297b959cca4e2cb6d307750bd9d6d1be83636e", func := "palmette/palmettelaw25.TriangulationIsMinimal", spec := "triangulationIsMinimal", inPlace := ["maps.clone"], unfollowed := true, recurses := true, named := ["math/bits.deBruijn64tab"], plainKeys := false, apart := false, laid := [("math/bits.deBruijn64tab", laid_math_bits_deBruijn64tab)], narrowed := true }
def TriangulationIsMinimalUptoSaid : Prop := triangulationIsMinimalUptoRow.holds Tryz.pinned (OpenSpec.upto triangulationIsMinimalSpec)

/-- 'palmettelaw25.TriangulationMCSMIsMinimal', WHERE WHAT IT READS IS OF BULK AT MOST 1048576: true; the input reads as it did. -/
def triangulationMCSMIsMinimalUptoRow : OpenClaim := { program := "ytmokciekndllpaagreatdoor", sum := "7ced6d408a036a6f8494560fd1297b959cca4e2cb6d307750bd9d6d1be83636e", func := "palmette/palmettelaw25.TriangulationMCSMIsMinimal", spec := "triangulationMCSMIsMinimal", inPlace := ["maps.clone"], unfollowed := true, recurses := true, named := ["math/bits.deBruijn64tab"], plainKeys := false, apart := false, laid := [("math/bits.deBruijn64tab", laid_math_bits_deBruijn64tab)], narrowed := true }
def TriangulationMCSMIsMinimalUptoSaid : Prop := triangulationMCSMIsMinimalUptoRow.holds Tryz.pinned (OpenSpec.upto triangulationMCSMIsMinimalSpec)

/-- 'palmettelaw25.TriangulationMinimalize', WHERE WHAT IT READS IS OF BULK AT MOST 1048576: true; the input reads as it did. -/
def triangulationMinimalizeUptoRow : OpenClaim := { program := "ytmokciekndllpaagreatdoor", sum := "7ced6d408a036a6f8494560fd1297b959cca4e2cb6d307750bd9d6d1be83636e", func := "palmette/palmettelaw25.TriangulationMinimalize", spec := "triangulationMinimalize", inPlace := ["maps.clone"], unfollowed := true, recurses := true, named := ["math/bits.deBruijn64tab"], plainKeys := false, apart := false, laid := [("math/bits.deBruijn64tab", laid_math_bits_deBruijn64tab)], narrowed := true }
def TriangulationMinimalizeUptoSaid : Prop := triangulationMinimalizeUptoRow.holds Tryz.pinned (OpenSpec.upto triangulationMinimalizeSpec)

/-- 'palmettelaw25.TriangulationNil', WHERE WHAT IT READS IS OF BULK AT MOST 1048576: true; the input reads as it did. -/
def triangulationNilUptoRow : OpenClaim := { program := "ytmokciekndllpaagreatdoor", sum := "7ced6d408a036a6f8494560fd1297b959cca4e2cb6d307750bd9d6d1be83636e", func := "palmette/palmettelaw25.TriangulationNil", spec := "triangulationNil", inPlace := ["maps.clone"], unfollowed := true, recurses := true, named := ["math/bits.deBruijn64tab"], plainKeys := false, apart := false, laid := [("math/bits.deBruijn64tab", laid_math_bits_deBruijn64tab)], narrowed := true }
def TriangulationNilUptoSaid : Prop := triangulationNilUptoRow.holds Tryz.pinned (OpenSpec.upto triangulationNilSpec)

end Rows
end Go.Proofs.YtmokciekndllpaaGreatDoor
