/-
  DERIVED. GIVEN WITH THE SEED: THE CARDS: each row of YtndimnomkcjeiaaDoorRows.lean that lists a variable, with what it lists TIED to the program's text (the seventh form; the later family's looks); each row that meets fmt, with fmt's text TOLD by the authors' own Lean function (tested against real Go, not proved from fmt's source: count such statements apart). THE CARD IS WHAT COUNTS. Prove the row's statement (the work); the ties are given (YtndimnomkcjeiaaDoorTie.lean); close each card by the builder's one call (the guide's Derived/Test/ToyasCard.lean, 'card_holds'). Laid BY PROGRAM, IN A SANDBOX (cutbox-door.mjs). By AI agents, Wed Nov 11 2026. No macro, syntax, notation, axiom, sorry.
-/
import Derived.Test.YtndimnomkcjeiaaDoorRows
import GoSem.ClaimSeven
namespace Go.Proofs.YtndimnomkcjeiaaDoor
namespace Rows

/-- THE TIED CARD OF 'dovetaillaw24.MemberSets'. -/
def memberSetsCard : Claim7 := { stood := { row := memberSetsRow, standIns := [], harness := (true, "70f41f51bed8036a4a61d5a82932b9da858df2d702e4b0a072fe2ca46af2547f"), looks := true }, kinds := [], alts := [], laidByText := true, laidKinds := [.sentinel, .sentinel, .sentinel, .sentinel, .sentinel, .sentinel, .sentinel, .sentinel, .sentinel, .sentinel, .sentinel, .sentinel, .sentinel, .sentinel, .sentinel], laidTests := true, laidLooks := .later }
def MemberSetsCardSaid : Prop := Claim7.holds Tryd.pinned (.plain (OpenSpec.ofChange memberSetsSpec)) memberSetsCard

/-- THE TIED CARD OF 'dovetaillaw24.MemberDerives'. -/
def memberDerivesCard : Claim7 := { stood := { row := memberDerivesRow, standIns := [], harness := (true, "70f41f51bed8036a4a61d5a82932b9da858df2d702e4b0a072fe2ca46af2547f"), looks := true }, kinds := [], alts := [], laidByText := true, laidKinds := [.sentinel, .sentinel, .sentinel, .sentinel, .sentinel, .sentinel, .sentinel, .sentinel, .sentinel, .sentinel, .sentinel, .sentinel, .sentinel, .sentinel, .sentinel], laidTests := true, laidLooks := .later }
def MemberDerivesCardSaid : Prop := Claim7.holds Tryd.pinned (.plain (OpenSpec.ofChange memberDerivesSpec)) memberDerivesCard

/-- THE TIED CARD OF 'dovetaillaw24.MemberTwice'. -/
def memberTwiceCard : Claim7 := { stood := { row := memberTwiceRow, standIns := [], harness := (true, "70f41f51bed8036a4a61d5a82932b9da858df2d702e4b0a072fe2ca46af2547f"), looks := true }, kinds := [], alts := [], laidByText := true, laidKinds := [.sentinel, .sentinel, .sentinel, .sentinel], laidTests := true, laidLooks := .later }
def MemberTwiceCardSaid : Prop := Claim7.holds Tryd.pinned (.plain (OpenSpec.ofChange memberTwiceSpec)) memberTwiceCard

/-- THE TIED CARD OF 'dovetaillaw24.MemberOwn'. -/
def memberOwnCard : Claim7 := { stood := { row := memberOwnRow, standIns := [], harness := (true, "70f41f51bed8036a4a61d5a82932b9da858df2d702e4b0a072fe2ca46af2547f"), looks := true }, kinds := [], alts := [], laidByText := true, laidKinds := [.sentinel, .sentinel, .sentinel, .sentinel], laidTests := true, laidLooks := .later }
def MemberOwnCardSaid : Prop := Claim7.holds Tryd.pinned (.plain (OpenSpec.ofChange memberOwnSpec)) memberOwnCard

/-- THE TIED CARD OF 'dovetaillaw24.MemberCounts'. -/
def memberCountsCard : Claim7 := { stood := { row := memberCountsRow, standIns := [], harness := (true, "70f41f51bed8036a4a61d5a82932b9da858df2d702e4b0a072fe2ca46af2547f"), looks := true }, kinds := [], alts := [], laidByText := true, laidKinds := [.sentinel, .sentinel, .sentinel, .sentinel, .sentinel, .sentinel, .sentinel, .sentinel, .sentinel, .sentinel, .sentinel, .sentinel, .sentinel, .sentinel, .sentinel], laidTests := true, laidLooks := .later }
def MemberCountsCardSaid : Prop := Claim7.holds Tryd.pinned (.plain (OpenSpec.ofChange memberCountsSpec)) memberCountsCard

/-- THE TIED CARD OF 'dovetaillaw24.MemberRules'. -/
def memberRulesCard : Claim7 := { stood := { row := memberRulesRow, standIns := [], harness := (true, "70f41f51bed8036a4a61d5a82932b9da858df2d702e4b0a072fe2ca46af2547f"), looks := true }, kinds := [], alts := [], laidByText := true, laidKinds := [.sentinel, .sentinel, .sentinel, .sentinel, .sentinel, .sentinel, .sentinel, .sentinel, .sentinel, .sentinel, .sentinel, .sentinel, .sentinel, .sentinel, .sentinel], laidTests := true, laidLooks := .later }
def MemberRulesCardSaid : Prop := Claim7.holds Tryd.pinned (.plain (OpenSpec.ofChange memberRulesSpec)) memberRulesCard

/-- THE TIED CARD OF 'dovetaillaw24.MemberMore'. -/
def memberMoreCard : Claim7 := { stood := { row := memberMoreRow, standIns := [], harness := (true, "70f41f51bed8036a4a61d5a82932b9da858df2d702e4b0a072fe2ca46af2547f"), looks := true }, kinds := [], alts := [], laidByText := true, laidKinds := [.sentinel, .sentinel, .sentinel, .sentinel, .sentinel, .sentinel, .sentinel, .sentinel, .sentinel, .sentinel, .sentinel, .sentinel, .sentinel, .sentinel, .sentinel], laidTests := true, laidLooks := .later }
def MemberMoreCardSaid : Prop := Claim7.holds Tryd.pinned (.plain (OpenSpec.ofChange memberMoreSpec)) memberMoreCard

/-- THE SECOND FORM's CARD OF 'dovetaillaw24.MemberSets'. -/
def memberSetsUptoCard : Claim7 := { stood := { row := memberSetsUptoRow, standIns := [], harness := (true, "70f41f51bed8036a4a61d5a82932b9da858df2d702e4b0a072fe2ca46af2547f"), looks := true }, kinds := [], alts := [], laidByText := true, laidKinds := [.sentinel, .sentinel, .sentinel, .sentinel, .sentinel, .sentinel, .sentinel, .sentinel, .sentinel, .sentinel, .sentinel, .sentinel, .sentinel, .sentinel, .sentinel], laidTests := true, laidLooks := .later }
def MemberSetsUptoCardSaid : Prop := Claim7.holds Tryd.pinned (.plain (OpenSpec.upto memberSetsSpec)) memberSetsUptoCard

/-- THE SECOND FORM's CARD OF 'dovetaillaw24.MemberDerives'. -/
def memberDerivesUptoCard : Claim7 := { stood := { row := memberDerivesUptoRow, standIns := [], harness := (true, "70f41f51bed8036a4a61d5a82932b9da858df2d702e4b0a072fe2ca46af2547f"), looks := true }, kinds := [], alts := [], laidByText := true, laidKinds := [.sentinel, .sentinel, .sentinel, .sentinel, .sentinel, .sentinel, .sentinel, .sentinel, .sentinel, .sentinel, .sentinel, .sentinel, .sentinel, .sentinel, .sentinel], laidTests := true, laidLooks := .later }
def MemberDerivesUptoCardSaid : Prop := Claim7.holds Tryd.pinned (.plain (OpenSpec.upto memberDerivesSpec)) memberDerivesUptoCard

/-- THE SECOND FORM's CARD OF 'dovetaillaw24.MemberTwice'. -/
def memberTwiceUptoCard : Claim7 := { stood := { row := memberTwiceUptoRow, standIns := [], harness := (true, "70f41f51bed8036a4a61d5a82932b9da858df2d702e4b0a072fe2ca46af2547f"), looks := true }, kinds := [], alts := [], laidByText := true, laidKinds := [.sentinel, .sentinel, .sentinel, .sentinel], laidTests := true, laidLooks := .later }
def MemberTwiceUptoCardSaid : Prop := Claim7.holds Tryd.pinned (.plain (OpenSpec.upto memberTwiceSpec)) memberTwiceUptoCard

/-- THE SECOND FORM's CARD OF 'dovetaillaw24.MemberOwn'. -/
def memberOwnUptoCard : Claim7 := { stood := { row := memberOwnUptoRow, standIns := [], harness := (true, "70f41f51bed8036a4a61d5a82932b9da858df2d702e4b0a072fe2ca46af2547f"), looks := true }, kinds := [], alts := [], laidByText := true, laidKinds := [.sentinel, .sentinel, .sentinel, .sentinel], laidTests := true, laidLooks := .later }
def MemberOwnUptoCardSaid : Prop := Claim7.holds Tryd.pinned (.plain (OpenSpec.upto memberOwnSpec)) memberOwnUptoCard

/-- THE SECOND FORM's CARD OF 'dovetaillaw24.MemberCounts'. -/
def memberCountsUptoCard : Claim7 := { stood := { row := memberCountsUptoRow, standIns := [], harness := (true, "70f41f51bed8036a4a61d5a82932b9da858df2d702e4b0a072fe2ca46af2547f"), looks := true }, kinds := [], alts := [], laidByText := true, laidKinds := [.sentinel, .sentinel, .sentinel, .sentinel, .sentinel, .sentinel, .sentinel, .sentinel, .sentinel, .sentinel, .sentinel, .sentinel, .sentinel, .sentinel, .sentinel], laidTests := true, laidLooks := .later }
def MemberCountsUptoCardSaid : Prop := Claim7.holds Tryd.pinned (.plain (OpenSpec.upto memberCountsSpec)) memberCountsUptoCard

/-- THE SECOND FORM's CARD OF 'dovetaillaw24.MemberRules'. -/
def memberRulesUptoCard : Claim7 := { stood := { row := memberRulesUptoRow, standIns := [], harness := (true, "70f41f51bed8036a4a61d5a82932b9da858df2d702e4b0a072fe2ca46af2547f"), looks := true }, kinds := [], alts := [], laidByText := true, laidKinds := [.sentinel, .sentinel, .sentinel, .sentinel, .sentinel, .sentinel, .sentinel, .sentinel, .sentinel, .sentinel, .sentinel, .sentinel, .sentinel, .sentinel, .sentinel], laidTests := true, laidLooks := .later }
def MemberRulesUptoCardSaid : Prop := Claim7.holds Tryd.pinned (.plain (OpenSpec.upto memberRulesSpec)) memberRulesUptoCard

/-- THE SECOND FORM's CARD OF 'dovetaillaw24.MemberMore'. -/
def memberMoreUptoCard : Claim7 := { stood := { row := memberMoreUptoRow, standIns := [], harness := (true, "70f41f51bed8036a4a61d5a82932b9da858df2d702e4b0a072fe2ca46af2547f"), looks := true }, kinds := [], alts := [], laidByText := true, laidKinds := [.sentinel, .sentinel, .sentinel, .sentinel, .sentinel, .sentinel, .sentinel, .sentinel, .sentinel, .sentinel, .sentinel, .sentinel, .sentinel, .sentinel, .sentinel], laidTests := true, laidLooks := .later }
def MemberMoreUptoCardSaid : Prop := Claim7.holds Tryd.pinned (.plain (OpenSpec.upto memberMoreSpec)) memberMoreUptoCard
end Rows
end Go.Proofs.YtndimnomkcjeiaaDoor
