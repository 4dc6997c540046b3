/-
  DERIVED. GIVEN WITH THE SEED: THE CARDS: each row of YtoacpebmhbkmbaaGreatDoorRows.lean that lists a variable, with what it lists TIED to the program's text (the seventh form; the later family's looks); each row that meets fmt, with fmt's text TOLD by the authors' own Lean function (tested against real Go, not proved from fmt's source: count such statements apart). THE CARD IS WHAT COUNTS. Prove the row's statement (the work); the ties are given (YtoacpebmhbkmbaaGreatDoorTie.lean); close each card by the builder's one call (the guide's Derived/Test/ToyasCard.lean, 'card_holds'). Laid BY PROGRAM, IN A SANDBOX (cutbox-door.mjs). By AI agents, Wed Nov 11 2026. No macro, syntax, notation, axiom, sorry.
-/
import Derived.Test.YtoacpebmhbkmbaaGreatDoorRows
import GoSem.ClaimSeven
namespace Go.Proofs.YtoacpebmhbkmbaaGreatDoor
namespace Rows

/-- THE TIED CARD OF 'palmettelaw22.BoundsExactFamilies'. -/
def boundsExactFamiliesCard : Claim7 := { stood := { row := boundsExactFamiliesRow, standIns := [], harness := (true, "82c6bed31ad2c7c2e5153cee67ccc1cbee0e26a323fdf1de3a9a6c1e0005317a"), looks := false }, kinds := [], alts := [], laidByText := true, laidKinds := [.data], laidTests := true, laidLooks := .later }
def BoundsExactFamiliesCardSaid : Prop := Claim7.holds Tryz.pinned (.plain (OpenSpec.ofChange boundsExactFamiliesSpec)) boundsExactFamiliesCard

/-- THE TIED CARD OF 'palmettelaw22.BoundsContraction'. -/
def boundsContractionCard : Claim7 := { stood := { row := boundsContractionRow, standIns := [], harness := (true, "82c6bed31ad2c7c2e5153cee67ccc1cbee0e26a323fdf1de3a9a6c1e0005317a"), looks := false }, kinds := [], alts := [], laidByText := true, laidKinds := [.data], laidTests := true, laidLooks := .later }
def BoundsContractionCardSaid : Prop := Claim7.holds Tryz.pinned (.plain (OpenSpec.ofChange boundsContractionSpec)) boundsContractionCard

/-- THE TIED CARD OF 'palmettelaw22.BoundsCliqueAndLower'. -/
def boundsCliqueAndLowerCard : Claim7 := { stood := { row := boundsCliqueAndLowerRow, standIns := [], harness := (true, "82c6bed31ad2c7c2e5153cee67ccc1cbee0e26a323fdf1de3a9a6c1e0005317a"), looks := false }, kinds := [], alts := [], laidByText := true, laidKinds := [.data], laidTests := true, laidLooks := .later }
def BoundsCliqueAndLowerCardSaid : Prop := Claim7.holds Tryz.pinned (.plain (OpenSpec.ofChange boundsCliqueAndLowerSpec)) boundsCliqueAndLowerCard

/-- THE TIED CARD OF 'palmettelaw22.BoundsOrders'. -/
def boundsOrdersCard : Claim7 := { stood := { row := boundsOrdersRow, standIns := [], harness := (true, "82c6bed31ad2c7c2e5153cee67ccc1cbee0e26a323fdf1de3a9a6c1e0005317a"), looks := false }, kinds := [], alts := [], laidByText := true, laidKinds := [.data], laidTests := true, laidLooks := .later }
def BoundsOrdersCardSaid : Prop := Claim7.holds Tryz.pinned (.plain (OpenSpec.ofChange boundsOrdersSpec)) boundsOrdersCard

/-- THE TIED CARD OF 'palmettelaw22.BoundsSoundness'. -/
def boundsSoundnessCard : Claim7 := { stood := { row := boundsSoundnessRow, standIns := [], harness := (true, "82c6bed31ad2c7c2e5153cee67ccc1cbee0e26a323fdf1de3a9a6c1e0005317a"), looks := false }, kinds := [], alts := [], laidByText := true, laidKinds := [.data], laidTests := true, laidLooks := .later }
def BoundsSoundnessCardSaid : Prop := Claim7.holds Tryz.pinned (.plain (OpenSpec.ofChange boundsSoundnessSpec)) boundsSoundnessCard

/-- THE TIED CARD OF 'palmettelaw22.BoundsNilGraph'. -/
def boundsNilGraphCard : Claim7 := { stood := { row := boundsNilGraphRow, standIns := [], harness := (true, "82c6bed31ad2c7c2e5153cee67ccc1cbee0e26a323fdf1de3a9a6c1e0005317a"), looks := false }, kinds := [], alts := [], laidByText := true, laidKinds := [.data], laidTests := true, laidLooks := .later }
def BoundsNilGraphCardSaid : Prop := Claim7.holds Tryz.pinned (.plain (OpenSpec.ofChange boundsNilGraphSpec)) boundsNilGraphCard

/-- THE TIED CARD OF 'palmettelaw22.BoundsDegeneracy'. -/
def boundsDegeneracyCard : Claim7 := { stood := { row := boundsDegeneracyRow, standIns := [], harness := (true, "82c6bed31ad2c7c2e5153cee67ccc1cbee0e26a323fdf1de3a9a6c1e0005317a"), looks := false }, kinds := [], alts := [], laidByText := true, laidKinds := [.data], laidTests := true, laidLooks := .later }
def BoundsDegeneracyCardSaid : Prop := Claim7.holds Tryz.pinned (.plain (OpenSpec.ofChange boundsDegeneracySpec)) boundsDegeneracyCard

/-- THE TIED CARD OF 'palmettelaw22.BoundsInducedSubgraph'. -/
def boundsInducedSubgraphCard : Claim7 := { stood := { row := boundsInducedSubgraphRow, standIns := [], harness := (true, "82c6bed31ad2c7c2e5153cee67ccc1cbee0e26a323fdf1de3a9a6c1e0005317a"), looks := false }, kinds := [], alts := [], laidByText := true, laidKinds := [.data], laidTests := true, laidLooks := .later }
def BoundsInducedSubgraphCardSaid : Prop := Claim7.holds Tryz.pinned (.plain (OpenSpec.ofChange boundsInducedSubgraphSpec)) boundsInducedSubgraphCard

/-- THE TIED CARD OF 'palmettelaw22.BoundsCoreMaximal'. -/
def boundsCoreMaximalCard : Claim7 := { stood := { row := boundsCoreMaximalRow, standIns := [], harness := (true, "82c6bed31ad2c7c2e5153cee67ccc1cbee0e26a323fdf1de3a9a6c1e0005317a"), looks := false }, kinds := [], alts := [], laidByText := true, laidKinds := [.data], laidTests := true, laidLooks := .later }
def BoundsCoreMaximalCardSaid : Prop := Claim7.holds Tryz.pinned (.plain (OpenSpec.ofChange boundsCoreMaximalSpec)) boundsCoreMaximalCard

/-- THE SECOND FORM's CARD OF 'palmettelaw22.BoundsExactFamilies'. -/
def boundsExactFamiliesUptoCard : Claim7 := { stood := { row := boundsExactFamiliesUptoRow, standIns := [], harness := (true, "82c6bed31ad2c7c2e5153cee67ccc1cbee0e26a323fdf1de3a9a6c1e0005317a"), looks := false }, kinds := [], alts := [], laidByText := true, laidKinds := [.data], laidTests := true, laidLooks := .later }
def BoundsExactFamiliesUptoCardSaid : Prop := Claim7.holds Tryz.pinned (.plain (OpenSpec.upto boundsExactFamiliesSpec)) boundsExactFamiliesUptoCard

/-- THE SECOND FORM's CARD OF 'palmettelaw22.BoundsContraction'. -/
def boundsContractionUptoCard : Claim7 := { stood := { row := boundsContractionUptoRow, standIns := [], harness := (true, "82c6bed31ad2c7c2e5153cee67ccc1cbee0e26a323fdf1de3a9a6c1e0005317a"), looks := false }, kinds := [], alts := [], laidByText := true, laidKinds := [.data], laidTests := true, laidLooks := .later }
def BoundsContractionUptoCardSaid : Prop := Claim7.holds Tryz.pinned (.plain (OpenSpec.upto boundsContractionSpec)) boundsContractionUptoCard

/-- THE SECOND FORM's CARD OF 'palmettelaw22.BoundsCliqueAndLower'. -/
def boundsCliqueAndLowerUptoCard : Claim7 := { stood := { row := boundsCliqueAndLowerUptoRow, standIns := [], harness := (true, "82c6bed31ad2c7c2e5153cee67ccc1cbee0e26a323fdf1de3a9a6c1e0005317a"), looks := false }, kinds := [], alts := [], laidByText := true, laidKinds := [.data], laidTests := true, laidLooks := .later }
def BoundsCliqueAndLowerUptoCardSaid : Prop := Claim7.holds Tryz.pinned (.plain (OpenSpec.upto boundsCliqueAndLowerSpec)) boundsCliqueAndLowerUptoCard

/-- THE SECOND FORM's CARD OF 'palmettelaw22.BoundsOrders'. -/
def boundsOrdersUptoCard : Claim7 := { stood := { row := boundsOrdersUptoRow, standIns := [], harness := (true, "82c6bed31ad2c7c2e5153cee67ccc1cbee0e26a323fdf1de3a9a6c1e0005317a"), looks := false }, kinds := [], alts := [], laidByText := true, laidKinds := [.data], laidTests := true, laidLooks := .later }
def BoundsOrdersUptoCardSaid : Prop := Claim7.holds Tryz.pinned (.plain (OpenSpec.upto boundsOrdersSpec)) boundsOrdersUptoCard

/-- THE SECOND FORM's CARD OF 'palmettelaw22.BoundsSoundness'. -/
def boundsSoundnessUptoCard : Claim7 := { stood := { row := boundsSoundnessUptoRow, standIns := [], harness := (true, "82c6bed31ad2c7c2e5153cee67ccc1cbee0e26a323fdf1de3a9a6c1e0005317a"), looks := false }, kinds := [], alts := [], laidByText := true, laidKinds := [.data], laidTests := true, laidLooks := .later }
def BoundsSoundnessUptoCardSaid : Prop := Claim7.holds Tryz.pinned (.plain (OpenSpec.upto boundsSoundnessSpec)) boundsSoundnessUptoCard

/-- THE SECOND FORM's CARD OF 'palmettelaw22.BoundsNilGraph'. -/
def boundsNilGraphUptoCard : Claim7 := { stood := { row := boundsNilGraphUptoRow, standIns := [], harness := (true, "82c6bed31ad2c7c2e5153cee67ccc1cbee0e26a323fdf1de3a9a6c1e0005317a"), looks := false }, kinds := [], alts := [], laidByText := true, laidKinds := [.data], laidTests := true, laidLooks := .later }
def BoundsNilGraphUptoCardSaid : Prop := Claim7.holds Tryz.pinned (.plain (OpenSpec.upto boundsNilGraphSpec)) boundsNilGraphUptoCard

/-- THE SECOND FORM's CARD OF 'palmettelaw22.BoundsDegeneracy'. -/
def boundsDegeneracyUptoCard : Claim7 := { stood := { row := boundsDegeneracyUptoRow, standIns := [], harness := (true, "82c6bed31ad2c7c2e5153cee67ccc1cbee0e26a323fdf1de3a9a6c1e0005317a"), looks := false }, kinds := [], alts := [], laidByText := true, laidKinds := [.data], laidTests := true, laidLooks := .later }
def BoundsDegeneracyUptoCardSaid : Prop := Claim7.holds Tryz.pinned (.plain (OpenSpec.upto boundsDegeneracySpec)) boundsDegeneracyUptoCard

/-- THE SECOND FORM's CARD OF 'palmettelaw22.BoundsInducedSubgraph'. -/
def boundsInducedSubgraphUptoCard : Claim7 := { stood := { row := boundsInducedSubgraphUptoRow, standIns := [], harness := (true, "82c6bed31ad2c7c2e5153cee67ccc1cbee0e26a323fdf1de3a9a6c1e0005317a"), looks := false }, kinds := [], alts := [], laidByText := true, laidKinds := [.data], laidTests := true, laidLooks := .later }
def BoundsInducedSubgraphUptoCardSaid : Prop := Claim7.holds Tryz.pinned (.plain (OpenSpec.upto boundsInducedSubgraphSpec)) boundsInducedSubgraphUptoCard

/-- THE SECOND FORM's CARD OF 'palmettelaw22.BoundsCoreMaximal'. -/
def boundsCoreMaximalUptoCard : Claim7 := { stood := { row := boundsCoreMaximalUptoRow, standIns := [], harness := (true, "82c6bed31ad2c7c2e5153cee67ccc1cbee0e26a323fdf1de3a9a6c1e0005317a"), looks := false }, kinds := [], alts := [], laidByText := true, laidKinds := [.data], laidTests := true, laidLooks := .later }
def BoundsCoreMaximalUptoCardSaid : Prop := Claim7.holds Tryz.pinned (.plain (OpenSpec.upto boundsCoreMaximalSpec)) boundsCoreMaximalUptoCard
end Rows
end Go.Proofs.YtoacpebmhbkmbaaGreatDoor
