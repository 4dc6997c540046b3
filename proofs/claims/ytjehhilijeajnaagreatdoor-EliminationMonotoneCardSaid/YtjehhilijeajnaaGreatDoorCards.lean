/-
  DERIVED. GIVEN WITH THE SEED: THE CARDS: each row of YtjehhilijeajnaaGreatDoorRows.lean that lists a variable, with what it lists TIED to the program's text (the seventh form; the later family's looks); each row that meets fmt, with fmt's text TOLD by the authors' own Lean function (tested against real Go, not proved from fmt's source: count such statements apart). THE CARD IS WHAT COUNTS. Prove the row's statement (the work); the ties are given (YtjehhilijeajnaaGreatDoorTie.lean); close each card by the builder's one call (the guide's Derived/Test/ToyasCard.lean, 'card_holds'). Laid BY PROGRAM, IN A SANDBOX (cutbox-door.mjs). By AI agents, Wed Nov 11 2026. No macro, syntax, notation, axiom, sorry.
-/
import Derived.Test.YtjehhilijeajnaaGreatDoorRows
import GoSem.ClaimSeven
namespace Go.Proofs.YtjehhilijeajnaaGreatDoor
namespace Rows

/-- THE TIED CARD OF 'palmettelaw21.EliminationTree'. -/
def eliminationTreeCard : Claim7 := { stood := { row := eliminationTreeRow, standIns := [], harness := (true, "0ceec30d3f7ff7f423cc43cb0ed385367f6dd2ec832c5276d81adf283899bfa9"), looks := true }, kinds := [], alts := [], laidByText := true, laidKinds := [.data], laidTests := true, laidLooks := .later }
def EliminationTreeCardSaid : Prop := Claim7.holds Tryz.pinned (.plain (OpenSpec.ofChange eliminationTreeSpec)) eliminationTreeCard

/-- THE TIED CARD OF 'palmettelaw21.EliminationSteps'. -/
def eliminationStepsCard : Claim7 := { stood := { row := eliminationStepsRow, standIns := [], harness := (true, "0ceec30d3f7ff7f423cc43cb0ed385367f6dd2ec832c5276d81adf283899bfa9"), looks := true }, kinds := [], alts := [], laidByText := true, laidKinds := [.data], laidTests := true, laidLooks := .later }
def EliminationStepsCardSaid : Prop := Claim7.holds Tryz.pinned (.plain (OpenSpec.ofChange eliminationStepsSpec)) eliminationStepsCard

/-- THE TIED CARD OF 'palmettelaw21.EliminationAncestors'. -/
def eliminationAncestorsCard : Claim7 := { stood := { row := eliminationAncestorsRow, standIns := [], harness := (true, "0ceec30d3f7ff7f423cc43cb0ed385367f6dd2ec832c5276d81adf283899bfa9"), looks := true }, kinds := [], alts := [], laidByText := true, laidKinds := [.data], laidTests := true, laidLooks := .later }
def EliminationAncestorsCardSaid : Prop := Claim7.holds Tryz.pinned (.plain (OpenSpec.ofChange eliminationAncestorsSpec)) eliminationAncestorsCard

/-- THE TIED CARD OF 'palmettelaw21.EliminationMonotone'. -/
def eliminationMonotoneCard : Claim7 := { stood := { row := eliminationMonotoneRow, standIns := [], harness := (true, "0ceec30d3f7ff7f423cc43cb0ed385367f6dd2ec832c5276d81adf283899bfa9"), looks := true }, kinds := [], alts := [], laidByText := true, laidKinds := [.data], laidTests := true, laidLooks := .later }
def EliminationMonotoneCardSaid : Prop := Claim7.holds Tryz.pinned (.plain (OpenSpec.ofChange eliminationMonotoneSpec)) eliminationMonotoneCard

/-- THE TIED CARD OF 'palmettelaw21.EliminationExtremes'. -/
def eliminationExtremesCard : Claim7 := { stood := { row := eliminationExtremesRow, standIns := [], harness := (true, "0ceec30d3f7ff7f423cc43cb0ed385367f6dd2ec832c5276d81adf283899bfa9"), looks := true }, kinds := [], alts := [], laidByText := true, laidKinds := [.data], laidTests := true, laidLooks := .later }
def EliminationExtremesCardSaid : Prop := Claim7.holds Tryz.pinned (.plain (OpenSpec.ofChange eliminationExtremesSpec)) eliminationExtremesCard

/-- THE TIED CARD OF 'palmettelaw21.EliminationFilledGraph'. -/
def eliminationFilledGraphCard : Claim7 := { stood := { row := eliminationFilledGraphRow, standIns := [], harness := (true, "0ceec30d3f7ff7f423cc43cb0ed385367f6dd2ec832c5276d81adf283899bfa9"), looks := true }, kinds := [], alts := [], laidByText := true, laidKinds := [.data], laidTests := true, laidLooks := .later }
def EliminationFilledGraphCardSaid : Prop := Claim7.holds Tryz.pinned (.plain (OpenSpec.ofChange eliminationFilledGraphSpec)) eliminationFilledGraphCard

/-- THE TIED CARD OF 'palmettelaw21.EliminationNil'. -/
def eliminationNilCard : Claim7 := { stood := { row := eliminationNilRow, standIns := [], harness := (true, "0ceec30d3f7ff7f423cc43cb0ed385367f6dd2ec832c5276d81adf283899bfa9"), looks := true }, kinds := [], alts := [], laidByText := true, laidKinds := [.data], laidTests := true, laidLooks := .later }
def EliminationNilCardSaid : Prop := Claim7.holds Tryz.pinned (.plain (OpenSpec.ofChange eliminationNilSpec)) eliminationNilCard

/-- THE TIED CARD OF 'palmettelaw21.EliminationCheck'. -/
def eliminationCheckCard : Claim7 := { stood := { row := eliminationCheckRow, standIns := [], harness := (true, "0ceec30d3f7ff7f423cc43cb0ed385367f6dd2ec832c5276d81adf283899bfa9"), looks := true }, kinds := [], alts := [], laidByText := true, laidKinds := [.data], laidTests := true, laidLooks := .later }
def EliminationCheckCardSaid : Prop := Claim7.holds Tryz.pinned (.plain (OpenSpec.ofChange eliminationCheckSpec)) eliminationCheckCard

/-- THE SECOND FORM's CARD OF 'palmettelaw21.EliminationTree'. -/
def eliminationTreeUptoCard : Claim7 := { stood := { row := eliminationTreeUptoRow, standIns := [], harness := (true, "0ceec30d3f7ff7f423cc43cb0ed385367f6dd2ec832c5276d81adf283899bfa9"), looks := true }, kinds := [], alts := [], laidByText := true, laidKinds := [.data], laidTests := true, laidLooks := .later }
def EliminationTreeUptoCardSaid : Prop := Claim7.holds Tryz.pinned (.plain (OpenSpec.upto eliminationTreeSpec)) eliminationTreeUptoCard

/-- THE SECOND FORM's CARD OF 'palmettelaw21.EliminationSteps'. -/
def eliminationStepsUptoCard : Claim7 := { stood := { row := eliminationStepsUptoRow, standIns := [], harness := (true, "0ceec30d3f7ff7f423cc43cb0ed385367f6dd2ec832c5276d81adf283899bfa9"), looks := true }, kinds := [], alts := [], laidByText := true, laidKinds := [.data], laidTests := true, laidLooks := .later }
def EliminationStepsUptoCardSaid : Prop := Claim7.holds Tryz.pinned (.plain (OpenSpec.upto eliminationStepsSpec)) eliminationStepsUptoCard

/-- THE SECOND FORM's CARD OF 'palmettelaw21.EliminationAncestors'. -/
def eliminationAncestorsUptoCard : Claim7 := { stood := { row := eliminationAncestorsUptoRow, standIns := [], harness := (true, "0ceec30d3f7ff7f423cc43cb0ed385367f6dd2ec832c5276d81adf283899bfa9"), looks := true }, kinds := [], alts := [], laidByText := true, laidKinds := [.data], laidTests := true, laidLooks := .later }
def EliminationAncestorsUptoCardSaid : Prop := Claim7.holds Tryz.pinned (.plain (OpenSpec.upto eliminationAncestorsSpec)) eliminationAncestorsUptoCard

/-- THE SECOND FORM's CARD OF 'palmettelaw21.EliminationMonotone'. -/
def eliminationMonotoneUptoCard : Claim7 := { stood := { row := eliminationMonotoneUptoRow, standIns := [], harness := (true, "0ceec30d3f7ff7f423cc43cb0ed385367f6dd2ec832c5276d81adf283899bfa9"), looks := true }, kinds := [], alts := [], laidByText := true, laidKinds := [.data], laidTests := true, laidLooks := .later }
def EliminationMonotoneUptoCardSaid : Prop := Claim7.holds Tryz.pinned (.plain (OpenSpec.upto eliminationMonotoneSpec)) eliminationMonotoneUptoCard

/-- THE SECOND FORM's CARD OF 'palmettelaw21.EliminationExtremes'. -/
def eliminationExtremesUptoCard : Claim7 := { stood := { row := eliminationExtremesUptoRow, standIns := [], harness := (true, "0ceec30d3f7ff7f423cc43cb0ed385367f6dd2ec832c5276d81adf283899bfa9"), looks := true }, kinds := [], alts := [], laidByText := true, laidKinds := [.data], laidTests := true, laidLooks := .later }
def EliminationExtremesUptoCardSaid : Prop := Claim7.holds Tryz.pinned (.plain (OpenSpec.upto eliminationExtremesSpec)) eliminationExtremesUptoCard

/-- THE SECOND FORM's CARD OF 'palmettelaw21.EliminationFilledGraph'. -/
def eliminationFilledGraphUptoCard : Claim7 := { stood := { row := eliminationFilledGraphUptoRow, standIns := [], harness := (true, "0ceec30d3f7ff7f423cc43cb0ed385367f6dd2ec832c5276d81adf283899bfa9"), looks := true }, kinds := [], alts := [], laidByText := true, laidKinds := [.data], laidTests := true, laidLooks := .later }
def EliminationFilledGraphUptoCardSaid : Prop := Claim7.holds Tryz.pinned (.plain (OpenSpec.upto eliminationFilledGraphSpec)) eliminationFilledGraphUptoCard

/-- THE SECOND FORM's CARD OF 'palmettelaw21.EliminationNil'. -/
def eliminationNilUptoCard : Claim7 := { stood := { row := eliminationNilUptoRow, standIns := [], harness := (true, "0ceec30d3f7ff7f423cc43cb0ed385367f6dd2ec832c5276d81adf283899bfa9"), looks := true }, kinds := [], alts := [], laidByText := true, laidKinds := [.data], laidTests := true, laidLooks := .later }
def EliminationNilUptoCardSaid : Prop := Claim7.holds Tryz.pinned (.plain (OpenSpec.upto eliminationNilSpec)) eliminationNilUptoCard

/-- THE SECOND FORM's CARD OF 'palmettelaw21.EliminationCheck'. -/
def eliminationCheckUptoCard : Claim7 := { stood := { row := eliminationCheckUptoRow, standIns := [], harness := (true, "0ceec30d3f7ff7f423cc43cb0ed385367f6dd2ec832c5276d81adf283899bfa9"), looks := true }, kinds := [], alts := [], laidByText := true, laidKinds := [.data], laidTests := true, laidLooks := .later }
def EliminationCheckUptoCardSaid : Prop := Claim7.holds Tryz.pinned (.plain (OpenSpec.upto eliminationCheckSpec)) eliminationCheckUptoCard
end Rows
end Go.Proofs.YtjehhilijeajnaaGreatDoor
