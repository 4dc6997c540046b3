/-
  DERIVED. GIVEN WITH THE SEED: THE CARDS: each row of YtmfkkkhddigkfaaGreatDoorRows.lean that lists a variable, with what it lists TIED to the program's text (the seventh form; the later family's looks); each row that meets fmt, with fmt's text TOLD by the authors' own Lean function (tested against real Go, not proved from fmt's source: count such statements apart). THE CARD IS WHAT COUNTS. Prove the row's statement (the work); the ties are given (YtmfkkkhddigkfaaGreatDoorTie.lean); close each card by the builder's one call (the guide's Derived/Test/ToyasCard.lean, 'card_holds'). Laid BY PROGRAM, IN A SANDBOX (cutbox-door.mjs). By AI agents, Wed Nov 11 2026. No macro, syntax, notation, axiom, sorry.
-/
import Derived.Test.YtmfkkkhddigkfaaGreatDoorRows
import GoSem.ClaimSeven
namespace Go.Proofs.YtmfkkkhddigkfaaGreatDoor
namespace Rows

/-- THE TIED CARD OF 'palmettelaw24.ChordalPerfectOrder'. -/
def chordalPerfectOrderCard : Claim7 := { stood := { row := chordalPerfectOrderRow, standIns := [], harness := (true, "1596dd598ae18966c135c2eb214a5a15edddb6ae32de2291f299e988f1ed0cb5"), looks := false }, kinds := [], alts := [], laidByText := true, laidKinds := [.data], laidTests := true, laidLooks := .later }
def ChordalPerfectOrderCardSaid : Prop := Claim7.holds Tryz.pinned (.plain (OpenSpec.ofChange chordalPerfectOrderSpec)) chordalPerfectOrderCard

/-- THE TIED CARD OF 'palmettelaw24.ChordalHole'. -/
def chordalHoleCard : Claim7 := { stood := { row := chordalHoleRow, standIns := [], harness := (true, "1596dd598ae18966c135c2eb214a5a15edddb6ae32de2291f299e988f1ed0cb5"), looks := false }, kinds := [], alts := [], laidByText := true, laidKinds := [.data], laidTests := true, laidLooks := .later }
def ChordalHoleCardSaid : Prop := Claim7.holds Tryz.pinned (.plain (OpenSpec.ofChange chordalHoleSpec)) chordalHoleCard

/-- THE TIED CARD OF 'palmettelaw24.ChordalColoring'. -/
def chordalColoringCard : Claim7 := { stood := { row := chordalColoringRow, standIns := [], harness := (true, "1596dd598ae18966c135c2eb214a5a15edddb6ae32de2291f299e988f1ed0cb5"), looks := false }, kinds := [], alts := [], laidByText := true, laidKinds := [.data], laidTests := true, laidLooks := .later }
def ChordalColoringCardSaid : Prop := Claim7.holds Tryz.pinned (.plain (OpenSpec.ofChange chordalColoringSpec)) chordalColoringCard

/-- THE TIED CARD OF 'palmettelaw24.ChordalCliques'. -/
def chordalCliquesCard : Claim7 := { stood := { row := chordalCliquesRow, standIns := [], harness := (true, "1596dd598ae18966c135c2eb214a5a15edddb6ae32de2291f299e988f1ed0cb5"), looks := false }, kinds := [], alts := [], laidByText := true, laidKinds := [.data], laidTests := true, laidLooks := .later }
def ChordalCliquesCardSaid : Prop := Claim7.holds Tryz.pinned (.plain (OpenSpec.ofChange chordalCliquesSpec)) chordalCliquesCard

/-- THE TIED CARD OF 'palmettelaw24.ChordalWitness'. -/
def chordalWitnessCard : Claim7 := { stood := { row := chordalWitnessRow, standIns := [], harness := (true, "1596dd598ae18966c135c2eb214a5a15edddb6ae32de2291f299e988f1ed0cb5"), looks := false }, kinds := [], alts := [], laidByText := true, laidKinds := [.data], laidTests := true, laidLooks := .later }
def ChordalWitnessCardSaid : Prop := Claim7.holds Tryz.pinned (.plain (OpenSpec.ofChange chordalWitnessSpec)) chordalWitnessCard

/-- THE TIED CARD OF 'palmettelaw24.ChordalIsPerfect'. -/
def chordalIsPerfectCard : Claim7 := { stood := { row := chordalIsPerfectRow, standIns := [], harness := (true, "1596dd598ae18966c135c2eb214a5a15edddb6ae32de2291f299e988f1ed0cb5"), looks := false }, kinds := [], alts := [], laidByText := true, laidKinds := [.data], laidTests := true, laidLooks := .later }
def ChordalIsPerfectCardSaid : Prop := Claim7.holds Tryz.pinned (.plain (OpenSpec.ofChange chordalIsPerfectSpec)) chordalIsPerfectCard

/-- THE TIED CARD OF 'palmettelaw24.ChordalCliqueTree'. -/
def chordalCliqueTreeCard : Claim7 := { stood := { row := chordalCliqueTreeRow, standIns := [], harness := (true, "1596dd598ae18966c135c2eb214a5a15edddb6ae32de2291f299e988f1ed0cb5"), looks := false }, kinds := [], alts := [], laidByText := true, laidKinds := [.data], laidTests := true, laidLooks := .later }
def ChordalCliqueTreeCardSaid : Prop := Claim7.holds Tryz.pinned (.plain (OpenSpec.ofChange chordalCliqueTreeSpec)) chordalCliqueTreeCard

/-- THE TIED CARD OF 'palmettelaw24.ChordalTreeLaws'. -/
def chordalTreeLawsCard : Claim7 := { stood := { row := chordalTreeLawsRow, standIns := [], harness := (true, "1596dd598ae18966c135c2eb214a5a15edddb6ae32de2291f299e988f1ed0cb5"), looks := false }, kinds := [], alts := [], laidByText := true, laidKinds := [.data], laidTests := true, laidLooks := .later }
def ChordalTreeLawsCardSaid : Prop := Claim7.holds Tryz.pinned (.plain (OpenSpec.ofChange chordalTreeLawsSpec)) chordalTreeLawsCard

/-- THE TIED CARD OF 'palmettelaw24.ChordalNil'. -/
def chordalNilCard : Claim7 := { stood := { row := chordalNilRow, standIns := [], harness := (true, "1596dd598ae18966c135c2eb214a5a15edddb6ae32de2291f299e988f1ed0cb5"), looks := false }, kinds := [], alts := [], laidByText := true, laidKinds := [.data], laidTests := true, laidLooks := .later }
def ChordalNilCardSaid : Prop := Claim7.holds Tryz.pinned (.plain (OpenSpec.ofChange chordalNilSpec)) chordalNilCard

/-- THE SECOND FORM's CARD OF 'palmettelaw24.ChordalPerfectOrder'. -/
def chordalPerfectOrderUptoCard : Claim7 := { stood := { row := chordalPerfectOrderUptoRow, standIns := [], harness := (true, "1596dd598ae18966c135c2eb214a5a15edddb6ae32de2291f299e988f1ed0cb5"), looks := false }, kinds := [], alts := [], laidByText := true, laidKinds := [.data], laidTests := true, laidLooks := .later }
def ChordalPerfectOrderUptoCardSaid : Prop := Claim7.holds Tryz.pinned (.plain (OpenSpec.upto chordalPerfectOrderSpec)) chordalPerfectOrderUptoCard

/-- THE SECOND FORM's CARD OF 'palmettelaw24.ChordalHole'. -/
def chordalHoleUptoCard : Claim7 := { stood := { row := chordalHoleUptoRow, standIns := [], harness := (true, "1596dd598ae18966c135c2eb214a5a15edddb6ae32de2291f299e988f1ed0cb5"), looks := false }, kinds := [], alts := [], laidByText := true, laidKinds := [.data], laidTests := true, laidLooks := .later }
def ChordalHoleUptoCardSaid : Prop := Claim7.holds Tryz.pinned (.plain (OpenSpec.upto chordalHoleSpec)) chordalHoleUptoCard

/-- THE SECOND FORM's CARD OF 'palmettelaw24.ChordalColoring'. -/
def chordalColoringUptoCard : Claim7 := { stood := { row := chordalColoringUptoRow, standIns := [], harness := (true, "1596dd598ae18966c135c2eb214a5a15edddb6ae32de2291f299e988f1ed0cb5"), looks := false }, kinds := [], alts := [], laidByText := true, laidKinds := [.data], laidTests := true, laidLooks := .later }
def ChordalColoringUptoCardSaid : Prop := Claim7.holds Tryz.pinned (.plain (OpenSpec.upto chordalColoringSpec)) chordalColoringUptoCard

/-- THE SECOND FORM's CARD OF 'palmettelaw24.ChordalCliques'. -/
def chordalCliquesUptoCard : Claim7 := { stood := { row := chordalCliquesUptoRow, standIns := [], harness := (true, "1596dd598ae18966c135c2eb214a5a15edddb6ae32de2291f299e988f1ed0cb5"), looks := false }, kinds := [], alts := [], laidByText := true, laidKinds := [.data], laidTests := true, laidLooks := .later }
def ChordalCliquesUptoCardSaid : Prop := Claim7.holds Tryz.pinned (.plain (OpenSpec.upto chordalCliquesSpec)) chordalCliquesUptoCard

/-- THE SECOND FORM's CARD OF 'palmettelaw24.ChordalWitness'. -/
def chordalWitnessUptoCard : Claim7 := { stood := { row := chordalWitnessUptoRow, standIns := [], harness := (true, "1596dd598ae18966c135c2eb214a5a15edddb6ae32de2291f299e988f1ed0cb5"), looks := false }, kinds := [], alts := [], laidByText := true, laidKinds := [.data], laidTests := true, laidLooks := .later }
def ChordalWitnessUptoCardSaid : Prop := Claim7.holds Tryz.pinned (.plain (OpenSpec.upto chordalWitnessSpec)) chordalWitnessUptoCard

/-- THE SECOND FORM's CARD OF 'palmettelaw24.ChordalIsPerfect'. -/
def chordalIsPerfectUptoCard : Claim7 := { stood := { row := chordalIsPerfectUptoRow, standIns := [], harness := (true, "1596dd598ae18966c135c2eb214a5a15edddb6ae32de2291f299e988f1ed0cb5"), looks := false }, kinds := [], alts := [], laidByText := true, laidKinds := [.data], laidTests := true, laidLooks := .later }
def ChordalIsPerfectUptoCardSaid : Prop := Claim7.holds Tryz.pinned (.plain (OpenSpec.upto chordalIsPerfectSpec)) chordalIsPerfectUptoCard

/-- THE SECOND FORM's CARD OF 'palmettelaw24.ChordalCliqueTree'. -/
def chordalCliqueTreeUptoCard : Claim7 := { stood := { row := chordalCliqueTreeUptoRow, standIns := [], harness := (true, "1596dd598ae18966c135c2eb214a5a15edddb6ae32de2291f299e988f1ed0cb5"), looks := false }, kinds := [], alts := [], laidByText := true, laidKinds := [.data], laidTests := true, laidLooks := .later }
def ChordalCliqueTreeUptoCardSaid : Prop := Claim7.holds Tryz.pinned (.plain (OpenSpec.upto chordalCliqueTreeSpec)) chordalCliqueTreeUptoCard

/-- THE SECOND FORM's CARD OF 'palmettelaw24.ChordalTreeLaws'. -/
def chordalTreeLawsUptoCard : Claim7 := { stood := { row := chordalTreeLawsUptoRow, standIns := [], harness := (true, "1596dd598ae18966c135c2eb214a5a15edddb6ae32de2291f299e988f1ed0cb5"), looks := false }, kinds := [], alts := [], laidByText := true, laidKinds := [.data], laidTests := true, laidLooks := .later }
def ChordalTreeLawsUptoCardSaid : Prop := Claim7.holds Tryz.pinned (.plain (OpenSpec.upto chordalTreeLawsSpec)) chordalTreeLawsUptoCard

/-- THE SECOND FORM's CARD OF 'palmettelaw24.ChordalNil'. -/
def chordalNilUptoCard : Claim7 := { stood := { row := chordalNilUptoRow, standIns := [], harness := (true, "1596dd598ae18966c135c2eb214a5a15edddb6ae32de2291f299e988f1ed0cb5"), looks := false }, kinds := [], alts := [], laidByText := true, laidKinds := [.data], laidTests := true, laidLooks := .later }
def ChordalNilUptoCardSaid : Prop := Claim7.holds Tryz.pinned (.plain (OpenSpec.upto chordalNilSpec)) chordalNilUptoCard
end Rows
end Go.Proofs.YtmfkkkhddigkfaaGreatDoor
