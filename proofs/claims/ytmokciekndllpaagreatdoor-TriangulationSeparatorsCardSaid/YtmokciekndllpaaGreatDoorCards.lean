/-
  DERIVED. GIVEN WITH THE SEED: THE CARDS: each row of YtmokciekndllpaaGreatDoorRows.lean that lists a variable, with what it lists TIED to the program's text (the seventh form; the later family's looks); each row that meets fmt, with fmt's text TOLD by the authors' own Lean function (tested against real Go, not proved from fmt's source: count such statements apart). THE CARD IS WHAT COUNTS. Prove the row's statement (the work); the ties are given (YtmokciekndllpaaGreatDoorTie.lean); close each card by the builder's one call (the guide's Derived/Test/ToyasCard.lean, 'card_holds'). Laid BY PROGRAM, IN A SANDBOX (cutbox-door.mjs). By AI agents, Wed Nov 11 2026. No macro, syntax, notation, axiom, sorry.
-/
import Derived.Test.YtmokciekndllpaaGreatDoorRows
import GoSem.ClaimSeven
namespace Go.Proofs.YtmokciekndllpaaGreatDoor
namespace Rows

/-- THE TIED CARD OF 'palmettelaw25.TriangulationSeparators'. -/
def triangulationSeparatorsCard : Claim7 := { stood := { row := triangulationSeparatorsRow, standIns := [], harness := (true, "4ea48a0faabaef4b59b1cce9920f05029ff3d82c3f215ac36c3bcd021fa08ae2"), looks := true }, kinds := [], alts := [], laidByText := true, laidKinds := [.data], laidTests := true, laidLooks := .later }
def TriangulationSeparatorsCardSaid : Prop := Claim7.holds Tryz.pinned (.plain (OpenSpec.ofChange triangulationSeparatorsSpec)) triangulationSeparatorsCard

/-- THE TIED CARD OF 'palmettelaw25.TriangulationCrossingSymmetric'. -/
def triangulationCrossingSymmetricCard : Claim7 := { stood := { row := triangulationCrossingSymmetricRow, standIns := [], harness := (true, "4ea48a0faabaef4b59b1cce9920f05029ff3d82c3f215ac36c3bcd021fa08ae2"), looks := true }, kinds := [], alts := [], laidByText := true, laidKinds := [.data], laidTests := true, laidLooks := .later }
def TriangulationCrossingSymmetricCardSaid : Prop := Claim7.holds Tryz.pinned (.plain (OpenSpec.ofChange triangulationCrossingSymmetricSpec)) triangulationCrossingSymmetricCard

/-- THE TIED CARD OF 'palmettelaw25.TriangulationComponents'. -/
def triangulationComponentsCard : Claim7 := { stood := { row := triangulationComponentsRow, standIns := [], harness := (true, "4ea48a0faabaef4b59b1cce9920f05029ff3d82c3f215ac36c3bcd021fa08ae2"), looks := true }, kinds := [], alts := [], laidByText := true, laidKinds := [.data], laidTests := true, laidLooks := .later }
def TriangulationComponentsCardSaid : Prop := Claim7.holds Tryz.pinned (.plain (OpenSpec.ofChange triangulationComponentsSpec)) triangulationComponentsCard

/-- THE TIED CARD OF 'palmettelaw25.TriangulationNoSubsetRemovable'. -/
def triangulationNoSubsetRemovableCard : Claim7 := { stood := { row := triangulationNoSubsetRemovableRow, standIns := [], harness := (true, "4ea48a0faabaef4b59b1cce9920f05029ff3d82c3f215ac36c3bcd021fa08ae2"), looks := true }, kinds := [], alts := [], laidByText := true, laidKinds := [.data], laidTests := true, laidLooks := .later }
def TriangulationNoSubsetRemovableCardSaid : Prop := Claim7.holds Tryz.pinned (.plain (OpenSpec.ofChange triangulationNoSubsetRemovableSpec)) triangulationNoSubsetRemovableCard

/-- THE TIED CARD OF 'palmettelaw25.TriangulationMCSM'. -/
def triangulationMCSMCard : Claim7 := { stood := { row := triangulationMCSMRow, standIns := [], harness := (true, "4ea48a0faabaef4b59b1cce9920f05029ff3d82c3f215ac36c3bcd021fa08ae2"), looks := true }, kinds := [], alts := [], laidByText := true, laidKinds := [.data], laidTests := true, laidLooks := .later }
def TriangulationMCSMCardSaid : Prop := Claim7.holds Tryz.pinned (.plain (OpenSpec.ofChange triangulationMCSMSpec)) triangulationMCSMCard

/-- THE TIED CARD OF 'palmettelaw25.TriangulationSeparatorsPreserved'. -/
def triangulationSeparatorsPreservedCard : Claim7 := { stood := { row := triangulationSeparatorsPreservedRow, standIns := [], harness := (true, "4ea48a0faabaef4b59b1cce9920f05029ff3d82c3f215ac36c3bcd021fa08ae2"), looks := true }, kinds := [], alts := [], laidByText := true, laidKinds := [.data], laidTests := true, laidLooks := .later }
def TriangulationSeparatorsPreservedCardSaid : Prop := Claim7.holds Tryz.pinned (.plain (OpenSpec.ofChange triangulationSeparatorsPreservedSpec)) triangulationSeparatorsPreservedCard

/-- THE TIED CARD OF 'palmettelaw25.TriangulationIsMinimal'. -/
def triangulationIsMinimalCard : Claim7 := { stood := { row := triangulationIsMinimalRow, standIns := [], harness := (true, "4ea48a0faabaef4b59b1cce9920f05029ff3d82c3f215ac36c3bcd021fa08ae2"), looks := true }, kinds := [], alts := [], laidByText := true, laidKinds := [.data], laidTests := true, laidLooks := .later }
def TriangulationIsMinimalCardSaid : Prop := Claim7.holds Tryz.pinned (.plain (OpenSpec.ofChange triangulationIsMinimalSpec)) triangulationIsMinimalCard

/-- THE TIED CARD OF 'palmettelaw25.TriangulationMCSMIsMinimal'. -/
def triangulationMCSMIsMinimalCard : Claim7 := { stood := { row := triangulationMCSMIsMinimalRow, standIns := [], harness := (true, "4ea48a0faabaef4b59b1cce9920f05029ff3d82c3f215ac36c3bcd021fa08ae2"), looks := true }, kinds := [], alts := [], laidByText := true, laidKinds := [.data], laidTests := true, laidLooks := .later }
def TriangulationMCSMIsMinimalCardSaid : Prop := Claim7.holds Tryz.pinned (.plain (OpenSpec.ofChange triangulationMCSMIsMinimalSpec)) triangulationMCSMIsMinimalCard

/-- THE TIED CARD OF 'palmettelaw25.TriangulationMinimalize'. -/
def triangulationMinimalizeCard : Claim7 := { stood := { row := triangulationMinimalizeRow, standIns := [], harness := (true, "4ea48a0faabaef4b59b1cce9920f05029ff3d82c3f215ac36c3bcd021fa08ae2"), looks := true }, kinds := [], alts := [], laidByText := true, laidKinds := [.data], laidTests := true, laidLooks := .later }
def TriangulationMinimalizeCardSaid : Prop := Claim7.holds Tryz.pinned (.plain (OpenSpec.ofChange triangulationMinimalizeSpec)) triangulationMinimalizeCard

/-- THE TIED CARD OF 'palmettelaw25.TriangulationNil'. -/
def triangulationNilCard : Claim7 := { stood := { row := triangulationNilRow, standIns := [], harness := (true, "4ea48a0faabaef4b59b1cce9920f05029ff3d82c3f215ac36c3bcd021fa08ae2"), looks := true }, kinds := [], alts := [], laidByText := true, laidKinds := [.data], laidTests := true, laidLooks := .later }
def TriangulationNilCardSaid : Prop := Claim7.holds Tryz.pinned (.plain (OpenSpec.ofChange triangulationNilSpec)) triangulationNilCard

/-- THE SECOND FORM's CARD OF 'palmettelaw25.TriangulationSeparators'. -/
def triangulationSeparatorsUptoCard : Claim7 := { stood := { row := triangulationSeparatorsUptoRow, standIns := [], harness := (true, "4ea48a0faabaef4b59b1cce9920f05029ff3d82c3f215ac36c3bcd021fa08ae2"), looks := true }, kinds := [], alts := [], laidByText := true, laidKinds := [.data], laidTests := true, laidLooks := .later }
def TriangulationSeparatorsUptoCardSaid : Prop := Claim7.holds Tryz.pinned (.plain (OpenSpec.upto triangulationSeparatorsSpec)) triangulationSeparatorsUptoCard

/-- THE SECOND FORM's CARD OF 'palmettelaw25.TriangulationCrossingSymmetric'. -/
def triangulationCrossingSymmetricUptoCard : Claim7 := { stood := { row := triangulationCrossingSymmetricUptoRow, standIns := [], harness := (true, "4ea48a0faabaef4b59b1cce9920f05029ff3d82c3f215ac36c3bcd021fa08ae2"), looks := true }, kinds := [], alts := [], laidByText := true, laidKinds := [.data], laidTests := true, laidLooks := .later }
def TriangulationCrossingSymmetricUptoCardSaid : Prop := Claim7.holds Tryz.pinned (.plain (OpenSpec.upto triangulationCrossingSymmetricSpec)) triangulationCrossingSymmetricUptoCard

/-- THE SECOND FORM's CARD OF 'palmettelaw25.TriangulationComponents'. -/
def triangulationComponentsUptoCard : Claim7 := { stood := { row := triangulationComponentsUptoRow, standIns := [], harness := (true, "4ea48a0faabaef4b59b1cce9920f05029ff3d82c3f215ac36c3bcd021fa08ae2"), looks := true }, kinds := [], alts := [], laidByText := true, laidKinds := [.data], laidTests := true, laidLooks := .later }
def TriangulationComponentsUptoCardSaid : Prop := Claim7.holds Tryz.pinned (.plain (OpenSpec.upto triangulationComponentsSpec)) triangulationComponentsUptoCard

/-- THE SECOND FORM's CARD OF 'palmettelaw25.TriangulationNoSubsetRemovable'. -/
def triangulationNoSubsetRemovableUptoCard : Claim7 := { stood := { row := triangulationNoSubsetRemovableUptoRow, standIns := [], harness := (true, "4ea48a0faabaef4b59b1cce9920f05029ff3d82c3f215ac36c3bcd021fa08ae2"), looks := true }, kinds := [], alts := [], laidByText := true, laidKinds := [.data], laidTests := true, laidLooks := .later }
def TriangulationNoSubsetRemovableUptoCardSaid : Prop := Claim7.holds Tryz.pinned (.plain (OpenSpec.upto triangulationNoSubsetRemovableSpec)) triangulationNoSubsetRemovableUptoCard

/-- THE SECOND FORM's CARD OF 'palmettelaw25.TriangulationMCSM'. -/
def triangulationMCSMUptoCard : Claim7 := { stood := { row := triangulationMCSMUptoRow, standIns := [], harness := (true, "4ea48a0faabaef4b59b1cce9920f05029ff3d82c3f215ac36c3bcd021fa08ae2"), looks := true }, kinds := [], alts := [], laidByText := true, laidKinds := [.data], laidTests := true, laidLooks := .later }
def TriangulationMCSMUptoCardSaid : Prop := Claim7.holds Tryz.pinned (.plain (OpenSpec.upto triangulationMCSMSpec)) triangulationMCSMUptoCard

/-- THE SECOND FORM's CARD OF 'palmettelaw25.TriangulationSeparatorsPreserved'. -/
def triangulationSeparatorsPreservedUptoCard : Claim7 := { stood := { row := triangulationSeparatorsPreservedUptoRow, standIns := [], harness := (true, "4ea48a0faabaef4b59b1cce9920f05029ff3d82c3f215ac36c3bcd021fa08ae2"), looks := true }, kinds := [], alts := [], laidByText := true, laidKinds := [.data], laidTests := true, laidLooks := .later }
def TriangulationSeparatorsPreservedUptoCardSaid : Prop := Claim7.holds Tryz.pinned (.plain (OpenSpec.upto triangulationSeparatorsPreservedSpec)) triangulationSeparatorsPreservedUptoCard

/-- THE SECOND FORM's CARD OF 'palmettelaw25.TriangulationIsMinimal'. -/
def triangulationIsMinimalUptoCard : Claim7 := { stood := { row := triangulationIsMinimalUptoRow, standIns := [], harness := (true, "4ea48a0faabaef4b59b1cce9920f05029ff3d82c3f215ac36c3bcd021fa08ae2"), looks := true }, kinds := [], alts := [], laidByText := true, laidKinds := [.data], laidTests := true, laidLooks := .later }
def TriangulationIsMinimalUptoCardSaid : Prop := Claim7.holds Tryz.pinned (.plain (OpenSpec.upto triangulationIsMinimalSpec)) triangulationIsMinimalUptoCard

/-- THE SECOND FORM's CARD OF 'palmettelaw25.TriangulationMCSMIsMinimal'. -/
def triangulationMCSMIsMinimalUptoCard : Claim7 := { stood := { row := triangulationMCSMIsMinimalUptoRow, standIns := [], harness := (true, "4ea48a0faabaef4b59b1cce9920f05029ff3d82c3f215ac36c3bcd021fa08ae2"), looks := true }, kinds := [], alts := [], laidByText := true, laidKinds := [.data], laidTests := true, laidLooks := .later }
def TriangulationMCSMIsMinimalUptoCardSaid : Prop := Claim7.holds Tryz.pinned (.plain (OpenSpec.upto triangulationMCSMIsMinimalSpec)) triangulationMCSMIsMinimalUptoCard

/-- THE SECOND FORM's CARD OF 'palmettelaw25.TriangulationMinimalize'. -/
def triangulationMinimalizeUptoCard : Claim7 := { stood := { row := triangulationMinimalizeUptoRow, standIns := [], harness := (true, "4ea48a0faabaef4b59b1cce9920f05029ff3d82c3f215ac36c3bcd021fa08ae2"), looks := true }, kinds := [], alts := [], laidByText := true, laidKinds := [.data], laidTests := true, laidLooks := .later }
def TriangulationMinimalizeUptoCardSaid : Prop := Claim7.holds Tryz.pinned (.plain (OpenSpec.upto triangulationMinimalizeSpec)) triangulationMinimalizeUptoCard

/-- THE SECOND FORM's CARD OF 'palmettelaw25.TriangulationNil'. -/
def triangulationNilUptoCard : Claim7 := { stood := { row := triangulationNilUptoRow, standIns := [], harness := (true, "4ea48a0faabaef4b59b1cce9920f05029ff3d82c3f215ac36c3bcd021fa08ae2"), looks := true }, kinds := [], alts := [], laidByText := true, laidKinds := [.data], laidTests := true, laidLooks := .later }
def TriangulationNilUptoCardSaid : Prop := Claim7.holds Tryz.pinned (.plain (OpenSpec.upto triangulationNilSpec)) triangulationNilUptoCard
end Rows
end Go.Proofs.YtmokciekndllpaaGreatDoor
