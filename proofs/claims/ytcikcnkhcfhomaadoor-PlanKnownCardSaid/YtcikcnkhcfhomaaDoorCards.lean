/-
  DERIVED. GIVEN WITH THE SEED: THE CARDS: each row of YtcikcnkhcfhomaaDoorRows.lean that lists a variable, with what it lists TIED to the program's text (the seventh form; the later family's looks); each row that meets fmt, with fmt's text TOLD by the authors' own Lean function (tested against real Go, not proved from fmt's source: count such statements apart). THE CARD IS WHAT COUNTS. Prove the row's statement (the work); the ties are given (YtcikcnkhcfhomaaDoorTie.lean); close each card by the builder's one call (the guide's Derived/Test/ToyasCard.lean, 'card_holds'). Laid BY PROGRAM, IN A SANDBOX (cutbox-door.mjs). By AI agents, Wed Nov 11 2026. No macro, syntax, notation, axiom, sorry.
-/
import Derived.Test.YtcikcnkhcfhomaaDoorRows
import GoSem.ClaimSeven
namespace Go.Proofs.YtcikcnkhcfhomaaDoor
namespace Rows

/-- THE TIED CARD OF 'dovetaillaw22.PlanMiddle'. -/
def planMiddleCard : Claim7 := { stood := { row := planMiddleRow, standIns := [], harness := (true, "a3bd0f7ee9843d3665d3e4abb954e418fe4e161edd154496287f73db8d8e8a1b"), looks := true }, kinds := [], alts := [], laidByText := true, laidKinds := [.data, .data, .data, .sentinel, .sentinel, .sentinel], laidTests := true, laidLooks := .later }
def PlanMiddleCardSaid : Prop := Claim7.holds Tryd.pinned (.plain (OpenSpec.ofChange planMiddleSpec)) planMiddleCard

/-- THE TIED CARD OF 'dovetaillaw22.PlanOrders'. -/
def planOrdersCard : Claim7 := { stood := { row := planOrdersRow, standIns := [], harness := (true, "a3bd0f7ee9843d3665d3e4abb954e418fe4e161edd154496287f73db8d8e8a1b"), looks := true }, kinds := [], alts := [], laidByText := true, laidKinds := [.data, .data, .data, .sentinel, .sentinel, .sentinel], laidTests := true, laidLooks := .later }
def PlanOrdersCardSaid : Prop := Claim7.holds Tryd.pinned (.plain (OpenSpec.ofChange planOrdersSpec)) planOrdersCard

/-- THE TIED CARD OF 'dovetaillaw22.PlanCuts'. -/
def planCutsCard : Claim7 := { stood := { row := planCutsRow, standIns := [], harness := (true, "a3bd0f7ee9843d3665d3e4abb954e418fe4e161edd154496287f73db8d8e8a1b"), looks := true }, kinds := [], alts := [], laidByText := true, laidKinds := [.data, .data, .data, .sentinel, .sentinel, .sentinel, .sentinel, .sentinel, .sentinel, .sentinel, .sentinel, .sentinel, .sentinel, .sentinel, .sentinel, .sentinel, .sentinel, .sentinel], laidTests := true, laidLooks := .later }
def PlanCutsCardSaid : Prop := Claim7.holds Tryd.pinned (.plain (OpenSpec.ofChange planCutsSpec)) planCutsCard

/-- THE TIED CARD OF 'dovetaillaw22.PlanJoins'. -/
def planJoinsCard : Claim7 := { stood := { row := planJoinsRow, standIns := [], harness := (true, "a3bd0f7ee9843d3665d3e4abb954e418fe4e161edd154496287f73db8d8e8a1b"), looks := true }, kinds := [], alts := [], laidByText := true, laidKinds := [.data, .data, .data, .sentinel, .sentinel, .sentinel, .sentinel, .sentinel, .sentinel, .sentinel, .sentinel, .sentinel, .sentinel, .sentinel, .sentinel, .sentinel, .sentinel, .sentinel], laidTests := true, laidLooks := .later }
def PlanJoinsCardSaid : Prop := Claim7.holds Tryd.pinned (.plain (OpenSpec.ofChange planJoinsSpec)) planJoinsCard

/-- THE TIED CARD OF 'dovetaillaw22.PlanThere'. -/
def planThereCard : Claim7 := { stood := { row := planThereRow, standIns := [], harness := (true, "a3bd0f7ee9843d3665d3e4abb954e418fe4e161edd154496287f73db8d8e8a1b"), looks := true }, kinds := [], alts := [], laidByText := true, laidKinds := [.data, .data, .data, .sentinel, .sentinel, .sentinel, .sentinel], laidTests := true, laidLooks := .later }
def PlanThereCardSaid : Prop := Claim7.holds Tryd.pinned (.plain (OpenSpec.ofChange planThereSpec)) planThereCard

/-- THE TIED CARD OF 'dovetaillaw22.PlanReads'. -/
def planReadsCard : Claim7 := { stood := { row := planReadsRow, standIns := [], harness := (true, "a3bd0f7ee9843d3665d3e4abb954e418fe4e161edd154496287f73db8d8e8a1b"), looks := true }, kinds := [], alts := [], laidByText := true, laidKinds := [.data, .data, .data, .handle, .sentinel, .sentinel, .sentinel, .sentinel, .sentinel, .sentinel, .sentinel, .sentinel, .sentinel, .sentinel, .sentinel, .sentinel, .sentinel, .sentinel, .sentinel], laidTests := true, laidLooks := .later }
def PlanReadsCardSaid : Prop := Claim7.holds Tryd.pinned (.plain (OpenSpec.ofChange planReadsSpec)) planReadsCard

/-- THE TIED CARD OF 'dovetaillaw22.PlanKnown'. -/
def planKnownCard : Claim7 := { stood := { row := planKnownRow, standIns := [], harness := (true, "a3bd0f7ee9843d3665d3e4abb954e418fe4e161edd154496287f73db8d8e8a1b"), looks := true }, kinds := [], alts := [], laidByText := true, laidKinds := [.data, .data, .data, .handle, .sentinel, .sentinel, .sentinel, .sentinel, .sentinel, .sentinel, .sentinel, .sentinel, .sentinel, .sentinel, .sentinel, .sentinel, .sentinel, .sentinel, .sentinel], laidTests := true, laidLooks := .later }
def PlanKnownCardSaid : Prop := Claim7.holds Tryd.pinned (.plain (OpenSpec.ofChange planKnownSpec)) planKnownCard

/-- THE SECOND FORM's CARD OF 'dovetaillaw22.PlanMiddle'. -/
def planMiddleUptoCard : Claim7 := { stood := { row := planMiddleUptoRow, standIns := [], harness := (true, "a3bd0f7ee9843d3665d3e4abb954e418fe4e161edd154496287f73db8d8e8a1b"), looks := true }, kinds := [], alts := [], laidByText := true, laidKinds := [.data, .data, .data, .sentinel, .sentinel, .sentinel], laidTests := true, laidLooks := .later }
def PlanMiddleUptoCardSaid : Prop := Claim7.holds Tryd.pinned (.plain (OpenSpec.upto planMiddleSpec)) planMiddleUptoCard

/-- THE SECOND FORM's CARD OF 'dovetaillaw22.PlanOrders'. -/
def planOrdersUptoCard : Claim7 := { stood := { row := planOrdersUptoRow, standIns := [], harness := (true, "a3bd0f7ee9843d3665d3e4abb954e418fe4e161edd154496287f73db8d8e8a1b"), looks := true }, kinds := [], alts := [], laidByText := true, laidKinds := [.data, .data, .data, .sentinel, .sentinel, .sentinel], laidTests := true, laidLooks := .later }
def PlanOrdersUptoCardSaid : Prop := Claim7.holds Tryd.pinned (.plain (OpenSpec.upto planOrdersSpec)) planOrdersUptoCard

/-- THE SECOND FORM's CARD OF 'dovetaillaw22.PlanCuts'. -/
def planCutsUptoCard : Claim7 := { stood := { row := planCutsUptoRow, standIns := [], harness := (true, "a3bd0f7ee9843d3665d3e4abb954e418fe4e161edd154496287f73db8d8e8a1b"), looks := true }, kinds := [], alts := [], laidByText := true, laidKinds := [.data, .data, .data, .sentinel, .sentinel, .sentinel, .sentinel, .sentinel, .sentinel, .sentinel, .sentinel, .sentinel, .sentinel, .sentinel, .sentinel, .sentinel, .sentinel, .sentinel], laidTests := true, laidLooks := .later }
def PlanCutsUptoCardSaid : Prop := Claim7.holds Tryd.pinned (.plain (OpenSpec.upto planCutsSpec)) planCutsUptoCard

/-- THE SECOND FORM's CARD OF 'dovetaillaw22.PlanJoins'. -/
def planJoinsUptoCard : Claim7 := { stood := { row := planJoinsUptoRow, standIns := [], harness := (true, "a3bd0f7ee9843d3665d3e4abb954e418fe4e161edd154496287f73db8d8e8a1b"), looks := true }, kinds := [], alts := [], laidByText := true, laidKinds := [.data, .data, .data, .sentinel, .sentinel, .sentinel, .sentinel, .sentinel, .sentinel, .sentinel, .sentinel, .sentinel, .sentinel, .sentinel, .sentinel, .sentinel, .sentinel, .sentinel], laidTests := true, laidLooks := .later }
def PlanJoinsUptoCardSaid : Prop := Claim7.holds Tryd.pinned (.plain (OpenSpec.upto planJoinsSpec)) planJoinsUptoCard

/-- THE SECOND FORM's CARD OF 'dovetaillaw22.PlanThere'. -/
def planThereUptoCard : Claim7 := { stood := { row := planThereUptoRow, standIns := [], harness := (true, "a3bd0f7ee9843d3665d3e4abb954e418fe4e161edd154496287f73db8d8e8a1b"), looks := true }, kinds := [], alts := [], laidByText := true, laidKinds := [.data, .data, .data, .sentinel, .sentinel, .sentinel, .sentinel], laidTests := true, laidLooks := .later }
def PlanThereUptoCardSaid : Prop := Claim7.holds Tryd.pinned (.plain (OpenSpec.upto planThereSpec)) planThereUptoCard

/-- THE SECOND FORM's CARD OF 'dovetaillaw22.PlanReads'. -/
def planReadsUptoCard : Claim7 := { stood := { row := planReadsUptoRow, standIns := [], harness := (true, "a3bd0f7ee9843d3665d3e4abb954e418fe4e161edd154496287f73db8d8e8a1b"), looks := true }, kinds := [], alts := [], laidByText := true, laidKinds := [.data, .data, .data, .handle, .sentinel, .sentinel, .sentinel, .sentinel, .sentinel, .sentinel, .sentinel, .sentinel, .sentinel, .sentinel, .sentinel, .sentinel, .sentinel, .sentinel, .sentinel], laidTests := true, laidLooks := .later }
def PlanReadsUptoCardSaid : Prop := Claim7.holds Tryd.pinned (.plain (OpenSpec.upto planReadsSpec)) planReadsUptoCard

/-- THE SECOND FORM's CARD OF 'dovetaillaw22.PlanKnown'. -/
def planKnownUptoCard : Claim7 := { stood := { row := planKnownUptoRow, standIns := [], harness := (true, "a3bd0f7ee9843d3665d3e4abb954e418fe4e161edd154496287f73db8d8e8a1b"), looks := true }, kinds := [], alts := [], laidByText := true, laidKinds := [.data, .data, .data, .handle, .sentinel, .sentinel, .sentinel, .sentinel, .sentinel, .sentinel, .sentinel, .sentinel, .sentinel, .sentinel, .sentinel, .sentinel, .sentinel, .sentinel, .sentinel], laidTests := true, laidLooks := .later }
def PlanKnownUptoCardSaid : Prop := Claim7.holds Tryd.pinned (.plain (OpenSpec.upto planKnownSpec)) planKnownUptoCard
end Rows
end Go.Proofs.YtcikcnkhcfhomaaDoor
