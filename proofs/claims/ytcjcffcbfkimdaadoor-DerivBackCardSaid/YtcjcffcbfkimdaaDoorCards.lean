/-
  DERIVED. GIVEN WITH THE SEED: THE CARDS: each row of YtcjcffcbfkimdaaDoorRows.lean that lists a variable, with what it lists TIED to the program's text (the seventh form; the later family's looks); each row that meets fmt, with fmt's text TOLD by the authors' own Lean function (tested against real Go, not proved from fmt's source: count such statements apart). THE CARD IS WHAT COUNTS. Prove the row's statement (the work); the ties are given (YtcjcffcbfkimdaaDoorTie.lean); close each card by the builder's one call (the guide's Derived/Test/ToyasCard.lean, 'card_holds'). Laid BY PROGRAM, IN A SANDBOX (cutbox-door.mjs). By AI agents, Wed Nov 11 2026. No macro, syntax, notation, axiom, sorry.
-/
import Derived.Test.YtcjcffcbfkimdaaDoorRows
import GoSem.ClaimSeven
namespace Go.Proofs.YtcjcffcbfkimdaaDoor
namespace Rows

/-- THE TIED CARD OF 'dovetaillaw18.DerivGrows'. -/
def derivGrowsCard : Claim7 := { stood := { row := derivGrowsRow, standIns := [], harness := (true, "b33b51252a24b5541412560d1f64aa8b4ac710d26b3fc408c515dd443b4ca3b7"), looks := true }, kinds := [], alts := [], laidByText := true, laidKinds := [.handle, .sentinel, .sentinel, .sentinel, .sentinel, .sentinel, .sentinel, .sentinel, .sentinel, .sentinel, .sentinel, .sentinel, .sentinel, .sentinel, .sentinel, .sentinel], laidTests := true, laidLooks := .later }
def DerivGrowsCardSaid : Prop := Claim7.holds Tryd.pinned (.plain (OpenSpec.ofChange derivGrowsSpec)) derivGrowsCard

/-- THE TIED CARD OF 'dovetaillaw18.DerivChecks'. -/
def derivChecksCard : Claim7 := { stood := { row := derivChecksRow, standIns := [], harness := (true, "b33b51252a24b5541412560d1f64aa8b4ac710d26b3fc408c515dd443b4ca3b7"), looks := true }, kinds := [], alts := [], laidByText := true, laidKinds := [.handle, .sentinel, .sentinel, .sentinel, .sentinel, .sentinel, .sentinel, .sentinel, .sentinel, .sentinel, .sentinel, .sentinel, .sentinel, .sentinel, .sentinel, .sentinel], laidTests := true, laidLooks := .later }
def DerivChecksCardSaid : Prop := Claim7.holds Tryd.pinned (.plain (OpenSpec.ofChange derivChecksSpec)) derivChecksCard

/-- THE TIED CARD OF 'dovetaillaw18.DerivOne'. -/
def derivOneCard : Claim7 := { stood := { row := derivOneRow, standIns := [], harness := (true, "b33b51252a24b5541412560d1f64aa8b4ac710d26b3fc408c515dd443b4ca3b7"), looks := true }, kinds := [], alts := [], laidByText := true, laidKinds := [.data, .data, .data, .sentinel, .sentinel, .sentinel, .sentinel, .sentinel, .sentinel, .sentinel, .sentinel, .sentinel, .sentinel, .sentinel, .sentinel, .sentinel, .sentinel, .sentinel], laidTests := true, laidLooks := .later }
def DerivOneCardSaid : Prop := Claim7.holds Tryd.pinned (.plain (OpenSpec.ofChange derivOneSpec)) derivOneCard

/-- THE TIED CARD OF 'dovetaillaw18.DerivSteps'. -/
def derivStepsCard : Claim7 := { stood := { row := derivStepsRow, standIns := [], harness := (true, "b33b51252a24b5541412560d1f64aa8b4ac710d26b3fc408c515dd443b4ca3b7"), looks := true }, kinds := [], alts := [], laidByText := true, laidKinds := [.data, .data, .data, .sentinel, .sentinel, .sentinel, .sentinel, .sentinel, .sentinel, .sentinel, .sentinel, .sentinel, .sentinel, .sentinel, .sentinel, .sentinel, .sentinel, .sentinel], laidTests := true, laidLooks := .later }
def DerivStepsCardSaid : Prop := Claim7.holds Tryd.pinned (.plain (OpenSpec.ofChange derivStepsSpec)) derivStepsCard

/-- THE TIED CARD OF 'dovetaillaw18.DerivBack'. -/
def derivBackCard : Claim7 := { stood := { row := derivBackRow, standIns := [], harness := (true, "b33b51252a24b5541412560d1f64aa8b4ac710d26b3fc408c515dd443b4ca3b7"), looks := true }, kinds := [], alts := [], laidByText := true, laidKinds := [.data, .data, .data, .sentinel, .sentinel, .sentinel, .sentinel, .sentinel, .sentinel, .sentinel, .sentinel, .sentinel, .sentinel, .sentinel, .sentinel, .sentinel, .sentinel, .sentinel], laidTests := true, laidLooks := .later }
def DerivBackCardSaid : Prop := Claim7.holds Tryd.pinned (.plain (OpenSpec.ofChange derivBackSpec)) derivBackCard

/-- THE TIED CARD OF 'dovetaillaw18.DerivOwn'. -/
def derivOwnCard : Claim7 := { stood := { row := derivOwnRow, standIns := [], harness := (true, "b33b51252a24b5541412560d1f64aa8b4ac710d26b3fc408c515dd443b4ca3b7"), looks := true }, kinds := [], alts := [], laidByText := true, laidKinds := [.data, .data, .data, .sentinel, .sentinel, .sentinel, .sentinel, .sentinel, .sentinel, .sentinel, .sentinel, .sentinel, .sentinel, .sentinel, .sentinel, .sentinel, .sentinel, .sentinel], laidTests := true, laidLooks := .later }
def DerivOwnCardSaid : Prop := Claim7.holds Tryd.pinned (.plain (OpenSpec.ofChange derivOwnSpec)) derivOwnCard

/-- THE SECOND FORM's CARD OF 'dovetaillaw18.DerivGrows'. -/
def derivGrowsUptoCard : Claim7 := { stood := { row := derivGrowsUptoRow, standIns := [], harness := (true, "b33b51252a24b5541412560d1f64aa8b4ac710d26b3fc408c515dd443b4ca3b7"), looks := true }, kinds := [], alts := [], laidByText := true, laidKinds := [.handle, .sentinel, .sentinel, .sentinel, .sentinel, .sentinel, .sentinel, .sentinel, .sentinel, .sentinel, .sentinel, .sentinel, .sentinel, .sentinel, .sentinel, .sentinel], laidTests := true, laidLooks := .later }
def DerivGrowsUptoCardSaid : Prop := Claim7.holds Tryd.pinned (.plain (OpenSpec.upto derivGrowsSpec)) derivGrowsUptoCard

/-- THE SECOND FORM's CARD OF 'dovetaillaw18.DerivChecks'. -/
def derivChecksUptoCard : Claim7 := { stood := { row := derivChecksUptoRow, standIns := [], harness := (true, "b33b51252a24b5541412560d1f64aa8b4ac710d26b3fc408c515dd443b4ca3b7"), looks := true }, kinds := [], alts := [], laidByText := true, laidKinds := [.handle, .sentinel, .sentinel, .sentinel, .sentinel, .sentinel, .sentinel, .sentinel, .sentinel, .sentinel, .sentinel, .sentinel, .sentinel, .sentinel, .sentinel, .sentinel], laidTests := true, laidLooks := .later }
def DerivChecksUptoCardSaid : Prop := Claim7.holds Tryd.pinned (.plain (OpenSpec.upto derivChecksSpec)) derivChecksUptoCard

/-- THE SECOND FORM's CARD OF 'dovetaillaw18.DerivOne'. -/
def derivOneUptoCard : Claim7 := { stood := { row := derivOneUptoRow, standIns := [], harness := (true, "b33b51252a24b5541412560d1f64aa8b4ac710d26b3fc408c515dd443b4ca3b7"), looks := true }, kinds := [], alts := [], laidByText := true, laidKinds := [.data, .data, .data, .sentinel, .sentinel, .sentinel, .sentinel, .sentinel, .sentinel, .sentinel, .sentinel, .sentinel, .sentinel, .sentinel, .sentinel, .sentinel, .sentinel, .sentinel], laidTests := true, laidLooks := .later }
def DerivOneUptoCardSaid : Prop := Claim7.holds Tryd.pinned (.plain (OpenSpec.upto derivOneSpec)) derivOneUptoCard

/-- THE SECOND FORM's CARD OF 'dovetaillaw18.DerivSteps'. -/
def derivStepsUptoCard : Claim7 := { stood := { row := derivStepsUptoRow, standIns := [], harness := (true, "b33b51252a24b5541412560d1f64aa8b4ac710d26b3fc408c515dd443b4ca3b7"), looks := true }, kinds := [], alts := [], laidByText := true, laidKinds := [.data, .data, .data, .sentinel, .sentinel, .sentinel, .sentinel, .sentinel, .sentinel, .sentinel, .sentinel, .sentinel, .sentinel, .sentinel, .sentinel, .sentinel, .sentinel, .sentinel], laidTests := true, laidLooks := .later }
def DerivStepsUptoCardSaid : Prop := Claim7.holds Tryd.pinned (.plain (OpenSpec.upto derivStepsSpec)) derivStepsUptoCard

/-- THE SECOND FORM's CARD OF 'dovetaillaw18.DerivBack'. -/
def derivBackUptoCard : Claim7 := { stood := { row := derivBackUptoRow, standIns := [], harness := (true, "b33b51252a24b5541412560d1f64aa8b4ac710d26b3fc408c515dd443b4ca3b7"), looks := true }, kinds := [], alts := [], laidByText := true, laidKinds := [.data, .data, .data, .sentinel, .sentinel, .sentinel, .sentinel, .sentinel, .sentinel, .sentinel, .sentinel, .sentinel, .sentinel, .sentinel, .sentinel, .sentinel, .sentinel, .sentinel], laidTests := true, laidLooks := .later }
def DerivBackUptoCardSaid : Prop := Claim7.holds Tryd.pinned (.plain (OpenSpec.upto derivBackSpec)) derivBackUptoCard

/-- THE SECOND FORM's CARD OF 'dovetaillaw18.DerivOwn'. -/
def derivOwnUptoCard : Claim7 := { stood := { row := derivOwnUptoRow, standIns := [], harness := (true, "b33b51252a24b5541412560d1f64aa8b4ac710d26b3fc408c515dd443b4ca3b7"), looks := true }, kinds := [], alts := [], laidByText := true, laidKinds := [.data, .data, .data, .sentinel, .sentinel, .sentinel, .sentinel, .sentinel, .sentinel, .sentinel, .sentinel, .sentinel, .sentinel, .sentinel, .sentinel, .sentinel, .sentinel, .sentinel], laidTests := true, laidLooks := .later }
def DerivOwnUptoCardSaid : Prop := Claim7.holds Tryd.pinned (.plain (OpenSpec.upto derivOwnSpec)) derivOwnUptoCard
end Rows
end Go.Proofs.YtcjcffcbfkimdaaDoor
