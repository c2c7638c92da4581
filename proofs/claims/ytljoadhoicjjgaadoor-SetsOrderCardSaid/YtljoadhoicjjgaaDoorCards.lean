/-
  DERIVED. GIVEN WITH THE SEED: THE CARDS: each row of YtljoadhoicjjgaaDoorRows.lean that lists a variable, with what it lists TIED to the program's text (the seventh form; the later family's looks); each row that meets fmt, with fmt's text TOLD by the authors' own Lean function (tested against real Go, not proved from fmt's source: count such statements apart). THE CARD IS WHAT COUNTS. Prove the row's statement (the work); the ties are given (YtljoadhoicjjgaaDoorTie.lean); close each card by the builder's one call (the guide's Derived/Test/ToyasCard.lean, 'card_holds'). Laid BY PROGRAM, IN A SANDBOX (cutbox-door.mjs). By AI agents, Wed Nov 11 2026. No macro, syntax, notation, axiom, sorry.
-/
import Derived.Test.YtljoadhoicjjgaaDoorRows
import GoSem.ClaimSeven
namespace Go.Proofs.YtljoadhoicjjgaaDoor
namespace Rows

/-- THE TIED CARD OF 'dovetaillaw01.SetsLists'. -/
def setsListsCard : Claim7 := { stood := { row := setsListsRow, standIns := [], harness := (true, "f6665c563cf9d58248a8ba6be29b322baef2964c0930764f392f60149c40694c"), looks := false }, kinds := [], alts := [], laidByText := true, laidKinds := [.data, .data, .data], laidTests := true, laidLooks := .later }
def SetsListsCardSaid : Prop := Claim7.holds Tryd.pinned (.plain (OpenSpec.ofChange setsListsSpec)) setsListsCard

/-- THE TIED CARD OF 'dovetaillaw01.SetsOwn'. -/
def setsOwnCard : Claim7 := { stood := { row := setsOwnRow, standIns := [], harness := (true, "f6665c563cf9d58248a8ba6be29b322baef2964c0930764f392f60149c40694c"), looks := false }, kinds := [], alts := [], laidByText := true, laidKinds := [.data, .data, .data], laidTests := true, laidLooks := .later }
def SetsOwnCardSaid : Prop := Claim7.holds Tryd.pinned (.plain (OpenSpec.ofChange setsOwnSpec)) setsOwnCard

/-- THE TIED CARD OF 'dovetaillaw01.SetsLaws'. -/
def setsLawsCard : Claim7 := { stood := { row := setsLawsRow, standIns := [], harness := (true, "f6665c563cf9d58248a8ba6be29b322baef2964c0930764f392f60149c40694c"), looks := false }, kinds := [], alts := [], laidByText := true, laidKinds := [.data, .data, .data], laidTests := true, laidLooks := .later }
def SetsLawsCardSaid : Prop := Claim7.holds Tryd.pinned (.plain (OpenSpec.ofChange setsLawsSpec)) setsLawsCard

/-- THE TIED CARD OF 'dovetaillaw01.SetsOrder'. -/
def setsOrderCard : Claim7 := { stood := { row := setsOrderRow, standIns := [], harness := (true, "f6665c563cf9d58248a8ba6be29b322baef2964c0930764f392f60149c40694c"), looks := false }, kinds := [], alts := [], laidByText := true, laidKinds := [.data, .data, .data], laidTests := true, laidLooks := .later }
def SetsOrderCardSaid : Prop := Claim7.holds Tryd.pinned (.plain (OpenSpec.ofChange setsOrderSpec)) setsOrderCard

/-- THE SECOND FORM's CARD OF 'dovetaillaw01.SetsLists'. -/
def setsListsUptoCard : Claim7 := { stood := { row := setsListsUptoRow, standIns := [], harness := (true, "f6665c563cf9d58248a8ba6be29b322baef2964c0930764f392f60149c40694c"), looks := false }, kinds := [], alts := [], laidByText := true, laidKinds := [.data, .data, .data], laidTests := true, laidLooks := .later }
def SetsListsUptoCardSaid : Prop := Claim7.holds Tryd.pinned (.plain (OpenSpec.upto setsListsSpec)) setsListsUptoCard

/-- THE SECOND FORM's CARD OF 'dovetaillaw01.SetsOwn'. -/
def setsOwnUptoCard : Claim7 := { stood := { row := setsOwnUptoRow, standIns := [], harness := (true, "f6665c563cf9d58248a8ba6be29b322baef2964c0930764f392f60149c40694c"), looks := false }, kinds := [], alts := [], laidByText := true, laidKinds := [.data, .data, .data], laidTests := true, laidLooks := .later }
def SetsOwnUptoCardSaid : Prop := Claim7.holds Tryd.pinned (.plain (OpenSpec.upto setsOwnSpec)) setsOwnUptoCard

/-- THE SECOND FORM's CARD OF 'dovetaillaw01.SetsLaws'. -/
def setsLawsUptoCard : Claim7 := { stood := { row := setsLawsUptoRow, standIns := [], harness := (true, "f6665c563cf9d58248a8ba6be29b322baef2964c0930764f392f60149c40694c"), looks := false }, kinds := [], alts := [], laidByText := true, laidKinds := [.data, .data, .data], laidTests := true, laidLooks := .later }
def SetsLawsUptoCardSaid : Prop := Claim7.holds Tryd.pinned (.plain (OpenSpec.upto setsLawsSpec)) setsLawsUptoCard

/-- THE SECOND FORM's CARD OF 'dovetaillaw01.SetsOrder'. -/
def setsOrderUptoCard : Claim7 := { stood := { row := setsOrderUptoRow, standIns := [], harness := (true, "f6665c563cf9d58248a8ba6be29b322baef2964c0930764f392f60149c40694c"), looks := false }, kinds := [], alts := [], laidByText := true, laidKinds := [.data, .data, .data], laidTests := true, laidLooks := .later }
def SetsOrderUptoCardSaid : Prop := Claim7.holds Tryd.pinned (.plain (OpenSpec.upto setsOrderSpec)) setsOrderUptoCard
end Rows
end Go.Proofs.YtljoadhoicjjgaaDoor
