/-
  NARROWER THAN 'FOR EVERY INPUT', by the rows' own cells (each row's printed sentence says how): EliminationTree: laid · EliminationSteps: laid · EliminationAncestors: laid · EliminationMonotone: laid · EliminationExtremes: laid · EliminationFilledGraph: laid · EliminationNil: laid · EliminationCheck: laid.
  DERIVED. THE GIVEN ROWS OF THIS SEAT. 8 by the template 'for every input the law returns true; each argument reads behind the call as it read before'; 0 by the template 'total and deterministic' (their statements: YtjehhilijeajnaaGreatDoorTotals.lean).
  GIVEN WITH THE SEED: the statements are not yours to turn. If you find one false, say at which input.
  Laid BY PROGRAM, IN A SANDBOX (cutbox-rows.mjs): the forced cells as the released guide's own fill.sh prints them over the translation 4d0572603b53acfd… (all of the seat's roots in one cut). By AI agents, Wed Nov 11 2026. No macro, syntax, notation, axiom, sorry.
-/
import Derived.Test.YtjehhilijeajnaaGreatDoorChecked
import GoSem.Claim
import GoSem.ClaimJoined
import GoSem.ClaimMapViews
import Derived.JoinedTies
import Derived.KernelRfl
namespace Go.Proofs.YtjehhilijeajnaaGreatDoor
/- THE CELL 'sum', in the pinned program and in every row, IS THE sha256 OF THE DUMP (.gsa) THAT YtjehhilijeajnaaGreatDoorProg.lean LOADS. Nothing in Lean hashes anything: it is a label: what it is worth is what the hold of that sum in a sandbox is worth. -/
noncomputable def Tryz.pinned : Pinned := { name := "ytjehhilijeajnaagreatdoor", sum := "4d0572603b53acfdbe8deb6f932308f9ecbe3f82d661eaebad1e1cf1eebef03c", checked := Tryz.checked }
namespace Rows
def none {H : Type} : Left H := { results := [], args := [] }

/- WHAT THE LISTED PACKAGE-LEVEL VARIABLES READ AS WHEN THE CALL BEGINS. Each datum BY PROGRAM (the guide's laid-datum.mjs) off the statement by which the dump's own 'gosem.cut.vars' lays the variable. In a bare row this is a premise. The card (YtjehhilijeajnaaGreatDoorCards.lean) ties it to the program's text. -/
def laid_math_bits_deBruijn64tab {H : Type} : DataW H := .agg [.lit (.int .u8 0), .lit (.int .u8 1), .lit (.int .u8 56), .lit (.int .u8 2), .lit (.int .u8 57), .lit (.int .u8 49), .lit (.int .u8 28), .lit (.int .u8 3), .lit (.int .u8 61), .lit (.int .u8 58), .lit (.int .u8 42), .lit (.int .u8 50), .lit (.int .u8 38), .lit (.int .u8 29), .lit (.int .u8 17), .lit (.int .u8 4), .lit (.int .u8 62), .lit (.int .u8 47), .lit (.int .u8 59), .lit (.int .u8 36), .lit (.int .u8 45), .lit (.int .u8 43), .lit (.int .u8 51), .lit (.int .u8 22), .lit (.int .u8 53), .lit (.int .u8 39), .lit (.int .u8 33), .lit (.int .u8 30), .lit (.int .u8 24), .lit (.int .u8 18), .lit (.int .u8 12), .lit (.int .u8 5), .lit (.int .u8 63), .lit (.int .u8 55), .lit (.int .u8 48), .lit (.int .u8 27), .lit (.int .u8 60), .lit (.int .u8 41), .lit (.int .u8 37), .lit (.int .u8 16), .lit (.int .u8 46), .lit (.int .u8 35), .lit (.int .u8 44), .lit (.int .u8 21), .lit (.int .u8 52), .lit (.int .u8 32), .lit (.int .u8 23), .lit (.int .u8 11), .lit (.int .u8 54), .lit (.int .u8 26), .lit (.int .u8 40), .lit (.int .u8 15), .lit (.int .u8 34), .lit (.int .u8 20), .lit (.int .u8 31), .lit (.int .u8 10), .lit (.int .u8 25), .lit (.int .u8 14), .lit (.int .u8 19), .lit (.int .u8 9), .lit (.int .u8 13), .lit (.int .u8 8), .lit (.int .u8 7), .lit (.int .u8 6)]

/-- 'palmettelaw21.EliminationTree': WHATEVER THE INPUT: true; the input reads as it did. -/
def eliminationTreeSpec : ChangeSpec := { name := "eliminationTree", fn := fun _ => fun
  | [d1, d2] => { results := [.lit (.bool true)], args := [d1, d2] }
  | _ => none }
def eliminationTreeRow : OpenClaim := { program := "ytjehhilijeajnaagreatdoor", sum := "4d0572603b53acfdbe8deb6f932308f9ecbe3f82d661eaebad1e1cf1eebef03c", func := "palmette/palmettelaw21.EliminationTree", spec := "eliminationTree", unfollowed := true, recurses := true, named := ["math/bits.deBruijn64tab"], plainKeys := false, apart := false, laid := [("math/bits.deBruijn64tab", laid_math_bits_deBruijn64tab)] }
def EliminationTreeSaid : Prop := eliminationTreeRow.holds Tryz.pinned (OpenSpec.ofChange eliminationTreeSpec)

/-- ITS FALSE NEIGHBOUR: 'it returns false'. Refute it at one input. -/
def eliminationTreeWrong : ChangeSpec := { name := "eliminationTree", fn := fun _ => fun
  | [d1, d2] => { results := [.lit (.bool false)], args := [d1, d2] }
  | _ => none }
def EliminationTreeWrongFalsely : Prop := eliminationTreeRow.holds Tryz.pinned (OpenSpec.ofChange eliminationTreeWrong)

/-- 'palmettelaw21.EliminationSteps': WHATEVER THE INPUT: true; the input reads as it did. -/
def eliminationStepsSpec : ChangeSpec := { name := "eliminationSteps", fn := fun _ => fun
  | [d1, d2] => { results := [.lit (.bool true)], args := [d1, d2] }
  | _ => none }
def eliminationStepsRow : OpenClaim := { program := "ytjehhilijeajnaagreatdoor", sum := "4d0572603b53acfdbe8deb6f932308f9ecbe3f82d661eaebad1e1cf1eebef03c", func := "palmette/palmettelaw21.EliminationSteps", spec := "eliminationSteps", unfollowed := true, recurses := true, named := ["math/bits.deBruijn64tab"], plainKeys := false, apart := false, laid := [("math/bits.deBruijn64tab", laid_math_bits_deBruijn64tab)] }
def EliminationStepsSaid : Prop := eliminationStepsRow.holds Tryz.pinned (OpenSpec.ofChange eliminationStepsSpec)

/-- ITS FALSE NEIGHBOUR: 'it returns false'. Refute it at one input. -/
def eliminationStepsWrong : ChangeSpec := { name := "eliminationSteps", fn := fun _ => fun
  | [d1, d2] => { results := [.lit (.bool false)], args := [d1, d2] }
  | _ => none }
def EliminationStepsWrongFalsely : Prop := eliminationStepsRow.holds Tryz.pinned (OpenSpec.ofChange eliminationStepsWrong)

/-- 'palmettelaw21.EliminationAncestors': WHATEVER THE INPUT: true; the input reads as it did. -/
def eliminationAncestorsSpec : ChangeSpec := { name := "eliminationAncestors", fn := fun _ => fun
  | [d1, d2] => { results := [.lit (.bool true)], args := [d1, d2] }
  | _ => none }
def eliminationAncestorsRow : OpenClaim := { program := "ytjehhilijeajnaagreatdoor", sum := "4d0572603b53acfdbe8deb6f932308f9ecbe3f82d661eaebad1e1cf1eebef03c", func := "palmette/palmettelaw21.EliminationAncestors", spec := "eliminationAncestors", unfollowed := true, recurses := true, named := ["math/bits.deBruijn64tab"], plainKeys := false, apart := false, laid := [("math/bits.deBruijn64tab", laid_math_bits_deBruijn64tab)] }
def EliminationAncestorsSaid : Prop := eliminationAncestorsRow.holds Tryz.pinned (OpenSpec.ofChange eliminationAncestorsSpec)

/-- ITS FALSE NEIGHBOUR: 'it returns false'. Refute it at one input. -/
def eliminationAncestorsWrong : ChangeSpec := { name := "eliminationAncestors", fn := fun _ => fun
  | [d1, d2] => { results := [.lit (.bool false)], args := [d1, d2] }
  | _ => none }
def EliminationAncestorsWrongFalsely : Prop := eliminationAncestorsRow.holds Tryz.pinned (OpenSpec.ofChange eliminationAncestorsWrong)

/-- 'palmettelaw21.EliminationMonotone': WHATEVER THE INPUT: true; the input reads as it did. -/
def eliminationMonotoneSpec : ChangeSpec := { name := "eliminationMonotone", fn := fun _ => fun
  | [d1, d2, d3] => { results := [.lit (.bool true)], args := [d1, d2, d3] }
  | _ => none }
def eliminationMonotoneRow : OpenClaim := { program := "ytjehhilijeajnaagreatdoor", sum := "4d0572603b53acfdbe8deb6f932308f9ecbe3f82d661eaebad1e1cf1eebef03c", func := "palmette/palmettelaw21.EliminationMonotone", spec := "eliminationMonotone", inPlace := ["maps.clone"], unfollowed := true, recurses := true, named := ["math/bits.deBruijn64tab"], plainKeys := false, apart := false, laid := [("math/bits.deBruijn64tab", laid_math_bits_deBruijn64tab)] }
def EliminationMonotoneSaid : Prop := eliminationMonotoneRow.holds Tryz.pinned (OpenSpec.ofChange eliminationMonotoneSpec)

/-- ITS FALSE NEIGHBOUR: 'it returns false'. Refute it at one input. -/
def eliminationMonotoneWrong : ChangeSpec := { name := "eliminationMonotone", fn := fun _ => fun
  | [d1, d2, d3] => { results := [.lit (.bool false)], args := [d1, d2, d3] }
  | _ => none }
def EliminationMonotoneWrongFalsely : Prop := eliminationMonotoneRow.holds Tryz.pinned (OpenSpec.ofChange eliminationMonotoneWrong)

/-- 'palmettelaw21.EliminationExtremes': WHATEVER THE INPUT: true; the input reads as it did. -/
def eliminationExtremesSpec : ChangeSpec := { name := "eliminationExtremes", fn := fun _ => fun
  | [d1, d2] => { results := [.lit (.bool true)], args := [d1, d2] }
  | _ => none }
def eliminationExtremesRow : OpenClaim := { program := "ytjehhilijeajnaagreatdoor", sum := "4d0572603b53acfdbe8deb6f932308f9ecbe3f82d661eaebad1e1cf1eebef03c", func := "palmette/palmettelaw21.EliminationExtremes", spec := "eliminationExtremes", inPlace := ["maps.clone"], unfollowed := true, recurses := true, named := ["math/bits.deBruijn64tab"], plainKeys := false, apart := false, laid := [("math/bits.deBruijn64tab", laid_math_bits_deBruijn64tab)] }
def EliminationExtremesSaid : Prop := eliminationExtremesRow.holds Tryz.pinned (OpenSpec.ofChange eliminationExtremesSpec)

/-- ITS FALSE NEIGHBOUR: 'it returns false'. Refute it at one input. -/
def eliminationExtremesWrong : ChangeSpec := { name := "eliminationExtremes", fn := fun _ => fun
  | [d1, d2] => { results := [.lit (.bool false)], args := [d1, d2] }
  | _ => none }
def EliminationExtremesWrongFalsely : Prop := eliminationExtremesRow.holds Tryz.pinned (OpenSpec.ofChange eliminationExtremesWrong)

/-- 'palmettelaw21.EliminationFilledGraph': WHATEVER THE INPUT: true; the input reads as it did. -/
def eliminationFilledGraphSpec : ChangeSpec := { name := "eliminationFilledGraph", fn := fun _ => fun
  | [d1, d2] => { results := [.lit (.bool true)], args := [d1, d2] }
  | _ => none }
def eliminationFilledGraphRow : OpenClaim := { program := "ytjehhilijeajnaagreatdoor", sum := "4d0572603b53acfdbe8deb6f932308f9ecbe3f82d661eaebad1e1cf1eebef03c", func := "palmette/palmettelaw21.EliminationFilledGraph", spec := "eliminationFilledGraph", unfollowed := true, recurses := true, named := ["math/bits.deBruijn64tab"], plainKeys := false, apart := false, laid := [("math/bits.deBruijn64tab", laid_math_bits_deBruijn64tab)] }
def EliminationFilledGraphSaid : Prop := eliminationFilledGraphRow.holds Tryz.pinned (OpenSpec.ofChange eliminationFilledGraphSpec)

/-- ITS FALSE NEIGHBOUR: 'it returns false'. Refute it at one input. -/
def eliminationFilledGraphWrong : ChangeSpec := { name := "eliminationFilledGraph", fn := fun _ => fun
  | [d1, d2] => { results := [.lit (.bool false)], args := [d1, d2] }
  | _ => none }
def EliminationFilledGraphWrongFalsely : Prop := eliminationFilledGraphRow.holds Tryz.pinned (OpenSpec.ofChange eliminationFilledGraphWrong)

/-- 'palmettelaw21.EliminationNil': WHATEVER THE INPUT: true; the input reads as it did. -/
def eliminationNilSpec : ChangeSpec := { name := "eliminationNil", fn := fun _ => fun
  | [d] => { results := [.lit (.bool true)], args := [d] }
  | _ => none }
def eliminationNilRow : OpenClaim := { program := "ytjehhilijeajnaagreatdoor", sum := "4d0572603b53acfdbe8deb6f932308f9ecbe3f82d661eaebad1e1cf1eebef03c", func := "palmette/palmettelaw21.EliminationNil", spec := "eliminationNil", unfollowed := true, recurses := true, named := ["math/bits.deBruijn64tab"], plainKeys := false, apart := false, laid := [("math/bits.deBruijn64tab", laid_math_bits_deBruijn64tab)] }
def EliminationNilSaid : Prop := eliminationNilRow.holds Tryz.pinned (OpenSpec.ofChange eliminationNilSpec)

/-- ITS FALSE NEIGHBOUR: 'it returns false'. Refute it at one input. -/
def eliminationNilWrong : ChangeSpec := { name := "eliminationNil", fn := fun _ => fun
  | [d] => { results := [.lit (.bool false)], args := [d] }
  | _ => none }
def EliminationNilWrongFalsely : Prop := eliminationNilRow.holds Tryz.pinned (OpenSpec.ofChange eliminationNilWrong)

/-- 'palmettelaw21.EliminationCheck': WHATEVER THE INPUT: true; the input reads as it did. -/
def eliminationCheckSpec : ChangeSpec := { name := "eliminationCheck", fn := fun _ => fun
  | [d1, d2] => { results := [.lit (.bool true)], args := [d1, d2] }
  | _ => none }
def eliminationCheckRow : OpenClaim := { program := "ytjehhilijeajnaagreatdoor", sum := "4d0572603b53acfdbe8deb6f932308f9ecbe3f82d661eaebad1e1cf1eebef03c", func := "palmette/palmettelaw21.EliminationCheck", spec := "eliminationCheck", unfollowed := true, recurses := true, named := ["math/bits.deBruijn64tab"], plainKeys := false, apart := false, laid := [("math/bits.deBruijn64tab", laid_math_bits_deBruijn64tab)] }
def EliminationCheckSaid : Prop := eliminationCheckRow.holds Tryz.pinned (OpenSpec.ofChange eliminationCheckSpec)

/-- ITS FALSE NEIGHBOUR: 'it returns false'. Refute it at one input. -/
def eliminationCheckWrong : ChangeSpec := { name := "eliminationCheck", fn := fun _ => fun
  | [d1, d2] => { results := [.lit (.bool false)], args := [d1, d2] }
  | _ => none }
def EliminationCheckWrongFalsely : Prop := eliminationCheckRow.holds Tryz.pinned (OpenSpec.ofChange eliminationCheckWrong)

/- THE SECOND FORM. 'bulk': how many values and letters a reading holds, each counted each time it is reached (what is shared counts as often as it is met; a slice's spare places count too). A statement '..UptoSaid' is the law's where the arguments, and the package variables that the reading takes, are together of bulk at most 1048576: NARROWER than '..Said'. Prove '..Said' where nothing that the law and all that it calls make is longer than what came in: it says more and counts as full. Else prove '..UptoSaid'. A law counts once. -/
mutual
def uptoBulk {H : Type} : DataW H → Nat
  | .lit (.string bytes) => bytes.length + 1
  | .lit _ => 1
  | .nil => 1
  | .ptr d => uptoBulk d + 1
  | .slice elems spare => uptoBulkAll elems + uptoBulkAll spare + 1
  | .agg parts => uptoBulkAll parts + 1
  | .iface _ d => uptoBulk d + 1
  | .map entries => uptoBulkEntries entries + 1
  | .held _ => 1
def uptoBulkAll {H : Type} : List (DataW H) → Nat
  | [] => 0
  | d :: r => uptoBulk d + uptoBulkAll r
def uptoBulkEntries {H : Type} : List (Lit × DataW H) → Nat
  | [] => 0
  | x :: r => uptoBulkEntry x + uptoBulkEntries r
def uptoBulkEntry {H : Type} : Lit × DataW H → Nat
  | (.string bytes, d) => bytes.length + uptoBulk d + 1
  | (_, d) => uptoBulk d + 1
 end
def uptoSmall : (H : Type) → List (DataW H) → Bool := fun _ ds => decide (uptoBulkAll ds ≤ 1048576)
def OpenSpec.upto (s : _root_.Go.ChangeSpec) : _root_.Go.OpenSpec := { _root_.Go.OpenSpec.ofChange s with cond := some uptoSmall }

/-- 'palmettelaw21.EliminationTree', WHERE WHAT IT READS IS OF BULK AT MOST 1048576: true; the input reads as it did. -/
def eliminationTreeUptoRow : OpenClaim := { program := "ytjehhilijeajnaagreatdoor", sum := "4d0572603b53acfdbe8deb6f932308f9ecbe3f82d661eaebad1e1cf1eebef03c", func := "palmette/palmettelaw21.EliminationTree", spec := "eliminationTree", unfollowed := true, recurses := true, named := ["math/bits.deBruijn64tab"], plainKeys := false, apart := false, laid := [("math/bits.deBruijn64tab", laid_math_bits_deBruijn64tab)], narrowed := true }
def EliminationTreeUptoSaid : Prop := eliminationTreeUptoRow.holds Tryz.pinned (OpenSpec.upto eliminationTreeSpec)

/-- 'palmettelaw21.EliminationSteps', WHERE WHAT IT READS IS OF BULK AT MOST 1048576: true; the input reads as it did. -/
def eliminationStepsUptoRow : OpenClaim := { program := "ytjehhilijeajnaagreatdoor", sum := "4d0572603b53acfdbe8deb6f932308f9ecbe3f82d661eaebad1e1cf1eebef03c", func := "palmette/palmettelaw21.EliminationSteps", spec := "eliminationSteps", unfollowed := true, recurses := true, named := ["math/bits.deBruijn64tab"], plainKeys := false, apart := false, laid := [("math/bits.deBruijn64tab", laid_math_bits_deBruijn64tab)], narrowed := true }
def EliminationStepsUptoSaid : Prop := eliminationStepsUptoRow.holds Tryz.pinned (OpenSpec.upto eliminationStepsSpec)

/-- 'palmettelaw21.EliminationAncestors', WHERE WHAT IT READS IS OF BULK AT MOST 1048576: true; the input reads as it did. -/
def eliminationAncestorsUptoRow : OpenClaim := { program := "ytjehhilijeajnaagreatdoor", sum := "4d0572603b53acfdbe8deb6f932308f9ecbe3f82d661eaebad1e1cf1eebef03c", func := "palmette/palmettelaw21.EliminationAncestors", spec := "eliminationAncestors", unfollowed := true, recurses := true, named := ["math/bits.deBruijn64tab"], plainKeys := false, apart := false, laid := [("math/bits.deBruijn64tab", laid_math_bits_deBruijn64tab)], narrowed := true }
def EliminationAncestorsUptoSaid : Prop := eliminationAncestorsUptoRow.holds Tryz.pinned (OpenSpec.upto eliminationAncestorsSpec)

/-- 'palmettelaw21.EliminationMonotone', WHERE WHAT IT READS IS OF BULK AT MOST 1048576: true; the input reads as it did. -/
def eliminationMonotoneUptoRow : OpenClaim := { program := "ytjehhilijeajnaagreatdoor", sum := "4d0572603b53acfdbe8deb6f932308f9ecbe3f82d661eaebad1e1cf1eebef03c", func := "palmette/palmettelaw21.EliminationMonotone", spec := "eliminationMonotone", inPlace := ["maps.clone"], unfollowed := true, recurses := true, named := ["math/bits.deBruijn64tab"], plainKeys := false, apart := false, laid := [("math/bits.deBruijn64tab", laid_math_bits_deBruijn64tab)], narrowed := true }
def EliminationMonotoneUptoSaid : Prop := eliminationMonotoneUptoRow.holds Tryz.pinned (OpenSpec.upto eliminationMonotoneSpec)

/-- 'palmettelaw21.EliminationExtremes', WHERE WHAT IT READS IS OF BULK AT MOST 1048576: true; the input reads as it did. -/
def eliminationExtremesUptoRow : OpenClaim := { program := "ytjehhilijeajnaagreatdoor", sum := "4d0572603b53acfdbe8deb6f932308f9ecbe3f82d661eaebad1e1cf1eebef03c", func := "palmette/palmettelaw21.EliminationExtremes", spec := "eliminationExtremes", inPlace := ["maps.clone"], unfollowed := true, recurses := true, named := ["math/bits.deBruijn64tab"], plainKeys := false, apart := false, laid := [("math/bits.deBruijn64tab", laid_math_bits_deBruijn64tab)], narrowed := true }
def EliminationExtremesUptoSaid : Prop := eliminationExtremesUptoRow.holds Tryz.pinned (OpenSpec.upto eliminationExtremesSpec)

/-- 'palmettelaw21.EliminationFilledGraph', WHERE WHAT IT READS IS OF BULK AT MOST 1048576: true; the input reads as it did. -/
def eliminationFilledGraphUptoRow : OpenClaim := { program := "ytjehhilijeajnaagreatdoor", sum := "4d0572603b53acfdbe8deb6f932308f9ecbe3f82d661eaebad1e1cf1eebef03c", func := "palmette/palmettelaw21.EliminationFilledGraph", spec := "eliminationFilledGraph", unfollowed := true, recurses := true, named := ["math/bits.deBruijn64tab"], plainKeys := false, apart := false, laid := [("math/bits.deBruijn64tab", laid_math_bits_deBruijn64tab)], narrowed := true }
def EliminationFilledGraphUptoSaid : Prop := eliminationFilledGraphUptoRow.holds Tryz.pinned (OpenSpec.upto eliminationFilledGraphSpec)

/-- 'palmettelaw21.EliminationNil', WHERE WHAT IT READS IS OF BULK AT MOST 1048576: true; the input reads as it did. -/
def eliminationNilUptoRow : OpenClaim := { program := "ytjehhilijeajnaagreatdoor", sum := "4d0572603b53acfdbe8deb6f932308f9ecbe3f82d661eaebad1e1cf1eebef03c", func := "palmette/palmettelaw21.EliminationNil", spec := "eliminationNil", unfollowed := true, recurses := true, named := ["math/bits.deBruijn64tab"], plainKeys := false, apart := false, laid := [("math/bits.deBruijn64tab", laid_math_bits_deBruijn64tab)], narrowed := true }
def EliminationNilUptoSaid : Prop := eliminationNilUptoRow.holds Tryz.pinned (OpenSpec.upto eliminationNilSpec)

/-- 'palmettelaw21.EliminationCheck', WHERE WHAT IT READS IS OF BULK AT MOST 1048576: true; the input reads as it did. -/
def eliminationCheckUptoRow : OpenClaim := { program := "ytjehhilijeajnaagreatdoor", sum := "4d0572603b53acfdbe8deb6f932308f9ecbe3f82d661eaebad1e1cf1eebef03c", func := "palmette/palmettelaw21.EliminationCheck", spec := "eliminationCheck", unfollowed := true, recurses := true, named := ["math/bits.deBruijn64tab"], plainKeys := false, apart := false, laid := [("math/bits.deBruijn64tab", laid_math_bits_deBruijn64tab)], narrowed := true }
def EliminationCheckUptoSaid : Prop := eliminationCheckUptoRow.holds Tryz.pinned (OpenSpec.upto eliminationCheckSpec)

end Rows
end Go.Proofs.YtjehhilijeajnaaGreatDoor
