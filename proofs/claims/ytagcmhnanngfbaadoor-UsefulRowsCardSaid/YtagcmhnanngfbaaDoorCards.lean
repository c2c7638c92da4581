/-
  DERIVED. GIVEN WITH THE SEED: THE CARDS: each row of YtagcmhnanngfbaaDoorRows.lean that lists a variable, with what it lists TIED to the program's text (the seventh form; the later family's looks); each row that meets fmt, with fmt's text TOLD by the authors' own Lean function (tested against real Go, not proved from fmt's source: count such statements apart). THE CARD IS WHAT COUNTS. Prove the row's statement (the work); the ties are given (YtagcmhnanngfbaaDoorTie.lean); close each card by the builder's one call (the guide's Derived/Test/ToyasCard.lean, 'card_holds'). Laid BY PROGRAM, IN A SANDBOX (cutbox-door.mjs). By AI agents, Wed Nov 11 2026. No macro, syntax, notation, axiom, sorry.
-/
import Derived.Test.YtagcmhnanngfbaaDoorRows
import GoSem.ClaimSeven
namespace Go.Proofs.YtagcmhnanngfbaaDoor
namespace Rows

/-- THE TIED CARD OF 'dovetaillaw07.UsefulSets'. -/
def usefulSetsCard : Claim7 := { stood := { row := usefulSetsRow, standIns := [], harness := (true, "adc55f86fc26e83a5df7a541cef5e25b36eae8ac4b7fd773ab4a15f2ae62bbf1"), looks := true }, kinds := [], alts := [], laidByText := true, laidKinds := [.sentinel, .sentinel, .sentinel, .sentinel, .sentinel, .sentinel, .sentinel, .sentinel, .sentinel, .sentinel, .sentinel, .sentinel, .sentinel, .sentinel, .sentinel], laidTests := true, laidLooks := .later }
def UsefulSetsCardSaid : Prop := Claim7.holds Tryd.pinned (.plain (OpenSpec.ofChange usefulSetsSpec)) usefulSetsCard

/-- THE TIED CARD OF 'dovetaillaw07.UsefulWords'. -/
def usefulWordsCard : Claim7 := { stood := { row := usefulWordsRow, standIns := [], harness := (true, "adc55f86fc26e83a5df7a541cef5e25b36eae8ac4b7fd773ab4a15f2ae62bbf1"), looks := true }, kinds := [], alts := [], laidByText := true, laidKinds := [.sentinel, .sentinel, .sentinel, .sentinel, .sentinel, .sentinel, .sentinel, .sentinel, .sentinel, .sentinel, .sentinel, .sentinel, .sentinel, .sentinel, .sentinel], laidTests := true, laidLooks := .later }
def UsefulWordsCardSaid : Prop := Claim7.holds Tryd.pinned (.plain (OpenSpec.ofChange usefulWordsSpec)) usefulWordsCard

/-- THE TIED CARD OF 'dovetaillaw07.UsefulTrims'. -/
def usefulTrimsCard : Claim7 := { stood := { row := usefulTrimsRow, standIns := [], harness := (true, "adc55f86fc26e83a5df7a541cef5e25b36eae8ac4b7fd773ab4a15f2ae62bbf1"), looks := true }, kinds := [], alts := [], laidByText := true, laidKinds := [.data, .sentinel, .sentinel, .sentinel, .sentinel, .sentinel, .sentinel, .sentinel, .sentinel, .sentinel, .sentinel, .sentinel, .sentinel, .sentinel, .sentinel, .sentinel], laidTests := true, laidLooks := .later }
def UsefulTrimsCardSaid : Prop := Claim7.holds Tryd.pinned (.plain (OpenSpec.ofChange usefulTrimsSpec)) usefulTrimsCard

/-- THE TIED CARD OF 'dovetaillaw07.UsefulRows'. -/
def usefulRowsCard : Claim7 := { stood := { row := usefulRowsRow, standIns := [], harness := (true, "adc55f86fc26e83a5df7a541cef5e25b36eae8ac4b7fd773ab4a15f2ae62bbf1"), looks := true }, kinds := [], alts := [], laidByText := true, laidKinds := [.sentinel, .sentinel, .sentinel, .sentinel, .sentinel, .sentinel, .sentinel, .sentinel, .sentinel, .sentinel, .sentinel, .sentinel, .sentinel, .sentinel, .sentinel], laidTests := true, laidLooks := .later }
def UsefulRowsCardSaid : Prop := Claim7.holds Tryd.pinned (.plain (OpenSpec.ofChange usefulRowsSpec)) usefulRowsCard

/-- THE TIED CARD OF 'dovetaillaw07.UsefulLess'. -/
def usefulLessCard : Claim7 := { stood := { row := usefulLessRow, standIns := [], harness := (true, "adc55f86fc26e83a5df7a541cef5e25b36eae8ac4b7fd773ab4a15f2ae62bbf1"), looks := true }, kinds := [], alts := [], laidByText := true, laidKinds := [.sentinel, .sentinel, .sentinel, .sentinel, .sentinel, .sentinel, .sentinel, .sentinel, .sentinel, .sentinel, .sentinel, .sentinel, .sentinel, .sentinel, .sentinel], laidTests := true, laidLooks := .later }
def UsefulLessCardSaid : Prop := Claim7.holds Tryd.pinned (.plain (OpenSpec.ofChange usefulLessSpec)) usefulLessCard

/-- THE TIED CARD OF 'dovetaillaw07.UsefulTrimmed'. -/
def usefulTrimmedCard : Claim7 := { stood := { row := usefulTrimmedRow, standIns := [], harness := (true, "adc55f86fc26e83a5df7a541cef5e25b36eae8ac4b7fd773ab4a15f2ae62bbf1"), looks := true }, kinds := [], alts := [], laidByText := true, laidKinds := [.data, .sentinel, .sentinel, .sentinel, .sentinel, .sentinel, .sentinel, .sentinel, .sentinel, .sentinel, .sentinel, .sentinel, .sentinel, .sentinel, .sentinel, .sentinel], laidTests := true, laidLooks := .later }
def UsefulTrimmedCardSaid : Prop := Claim7.holds Tryd.pinned (.plain (OpenSpec.ofChange usefulTrimmedSpec)) usefulTrimmedCard

/-- THE TIED CARD OF 'dovetaillaw07.UsefulOwn'. -/
def usefulOwnCard : Claim7 := { stood := { row := usefulOwnRow, standIns := [], harness := (true, "adc55f86fc26e83a5df7a541cef5e25b36eae8ac4b7fd773ab4a15f2ae62bbf1"), looks := true }, kinds := [], alts := [], laidByText := true, laidKinds := [.data, .sentinel, .sentinel, .sentinel, .sentinel, .sentinel, .sentinel, .sentinel, .sentinel, .sentinel, .sentinel, .sentinel, .sentinel, .sentinel, .sentinel, .sentinel], laidTests := true, laidLooks := .later }
def UsefulOwnCardSaid : Prop := Claim7.holds Tryd.pinned (.plain (OpenSpec.ofChange usefulOwnSpec)) usefulOwnCard

/-- THE SECOND FORM's CARD OF 'dovetaillaw07.UsefulSets'. -/
def usefulSetsUptoCard : Claim7 := { stood := { row := usefulSetsUptoRow, standIns := [], harness := (true, "adc55f86fc26e83a5df7a541cef5e25b36eae8ac4b7fd773ab4a15f2ae62bbf1"), looks := true }, kinds := [], alts := [], laidByText := true, laidKinds := [.sentinel, .sentinel, .sentinel, .sentinel, .sentinel, .sentinel, .sentinel, .sentinel, .sentinel, .sentinel, .sentinel, .sentinel, .sentinel, .sentinel, .sentinel], laidTests := true, laidLooks := .later }
def UsefulSetsUptoCardSaid : Prop := Claim7.holds Tryd.pinned (.plain (OpenSpec.upto usefulSetsSpec)) usefulSetsUptoCard

/-- THE SECOND FORM's CARD OF 'dovetaillaw07.UsefulWords'. -/
def usefulWordsUptoCard : Claim7 := { stood := { row := usefulWordsUptoRow, standIns := [], harness := (true, "adc55f86fc26e83a5df7a541cef5e25b36eae8ac4b7fd773ab4a15f2ae62bbf1"), looks := true }, kinds := [], alts := [], laidByText := true, laidKinds := [.sentinel, .sentinel, .sentinel, .sentinel, .sentinel, .sentinel, .sentinel, .sentinel, .sentinel, .sentinel, .sentinel, .sentinel, .sentinel, .sentinel, .sentinel], laidTests := true, laidLooks := .later }
def UsefulWordsUptoCardSaid : Prop := Claim7.holds Tryd.pinned (.plain (OpenSpec.upto usefulWordsSpec)) usefulWordsUptoCard

/-- THE SECOND FORM's CARD OF 'dovetaillaw07.UsefulTrims'. -/
def usefulTrimsUptoCard : Claim7 := { stood := { row := usefulTrimsUptoRow, standIns := [], harness := (true, "adc55f86fc26e83a5df7a541cef5e25b36eae8ac4b7fd773ab4a15f2ae62bbf1"), looks := true }, kinds := [], alts := [], laidByText := true, laidKinds := [.data, .sentinel, .sentinel, .sentinel, .sentinel, .sentinel, .sentinel, .sentinel, .sentinel, .sentinel, .sentinel, .sentinel, .sentinel, .sentinel, .sentinel, .sentinel], laidTests := true, laidLooks := .later }
def UsefulTrimsUptoCardSaid : Prop := Claim7.holds Tryd.pinned (.plain (OpenSpec.upto usefulTrimsSpec)) usefulTrimsUptoCard

/-- THE SECOND FORM's CARD OF 'dovetaillaw07.UsefulRows'. -/
def usefulRowsUptoCard : Claim7 := { stood := { row := usefulRowsUptoRow, standIns := [], harness := (true, "adc55f86fc26e83a5df7a541cef5e25b36eae8ac4b7fd773ab4a15f2ae62bbf1"), looks := true }, kinds := [], alts := [], laidByText := true, laidKinds := [.sentinel, .sentinel, .sentinel, .sentinel, .sentinel, .sentinel, .sentinel, .sentinel, .sentinel, .sentinel, .sentinel, .sentinel, .sentinel, .sentinel, .sentinel], laidTests := true, laidLooks := .later }
def UsefulRowsUptoCardSaid : Prop := Claim7.holds Tryd.pinned (.plain (OpenSpec.upto usefulRowsSpec)) usefulRowsUptoCard

/-- THE SECOND FORM's CARD OF 'dovetaillaw07.UsefulLess'. -/
def usefulLessUptoCard : Claim7 := { stood := { row := usefulLessUptoRow, standIns := [], harness := (true, "adc55f86fc26e83a5df7a541cef5e25b36eae8ac4b7fd773ab4a15f2ae62bbf1"), looks := true }, kinds := [], alts := [], laidByText := true, laidKinds := [.sentinel, .sentinel, .sentinel, .sentinel, .sentinel, .sentinel, .sentinel, .sentinel, .sentinel, .sentinel, .sentinel, .sentinel, .sentinel, .sentinel, .sentinel], laidTests := true, laidLooks := .later }
def UsefulLessUptoCardSaid : Prop := Claim7.holds Tryd.pinned (.plain (OpenSpec.upto usefulLessSpec)) usefulLessUptoCard

/-- THE SECOND FORM's CARD OF 'dovetaillaw07.UsefulTrimmed'. -/
def usefulTrimmedUptoCard : Claim7 := { stood := { row := usefulTrimmedUptoRow, standIns := [], harness := (true, "adc55f86fc26e83a5df7a541cef5e25b36eae8ac4b7fd773ab4a15f2ae62bbf1"), looks := true }, kinds := [], alts := [], laidByText := true, laidKinds := [.data, .sentinel, .sentinel, .sentinel, .sentinel, .sentinel, .sentinel, .sentinel, .sentinel, .sentinel, .sentinel, .sentinel, .sentinel, .sentinel, .sentinel, .sentinel], laidTests := true, laidLooks := .later }
def UsefulTrimmedUptoCardSaid : Prop := Claim7.holds Tryd.pinned (.plain (OpenSpec.upto usefulTrimmedSpec)) usefulTrimmedUptoCard

/-- THE SECOND FORM's CARD OF 'dovetaillaw07.UsefulOwn'. -/
def usefulOwnUptoCard : Claim7 := { stood := { row := usefulOwnUptoRow, standIns := [], harness := (true, "adc55f86fc26e83a5df7a541cef5e25b36eae8ac4b7fd773ab4a15f2ae62bbf1"), looks := true }, kinds := [], alts := [], laidByText := true, laidKinds := [.data, .sentinel, .sentinel, .sentinel, .sentinel, .sentinel, .sentinel, .sentinel, .sentinel, .sentinel, .sentinel, .sentinel, .sentinel, .sentinel, .sentinel, .sentinel], laidTests := true, laidLooks := .later }
def UsefulOwnUptoCardSaid : Prop := Claim7.holds Tryd.pinned (.plain (OpenSpec.upto usefulOwnSpec)) usefulOwnUptoCard
end Rows
end Go.Proofs.YtagcmhnanngfbaaDoor
