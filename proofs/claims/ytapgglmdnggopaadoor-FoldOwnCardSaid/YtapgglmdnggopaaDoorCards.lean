/-
  DERIVED. GIVEN WITH THE SEED: THE CARDS: each row of YtapgglmdnggopaaDoorRows.lean that lists a variable, with what it lists TIED to the program's text (the seventh form; the later family's looks); each row that meets fmt, with fmt's text TOLD by the authors' own Lean function (tested against real Go, not proved from fmt's source: count such statements apart). THE CARD IS WHAT COUNTS. Prove the row's statement (the work); the ties are given (YtapgglmdnggopaaDoorTie.lean); close each card by the builder's one call (the guide's Derived/Test/ToyasCard.lean, 'card_holds'). Laid BY PROGRAM, IN A SANDBOX (cutbox-door.mjs). By AI agents, Wed Nov 11 2026. No macro, syntax, notation, axiom, sorry.
-/
import Derived.Test.YtapgglmdnggopaaDoorRows
import GoSem.ClaimSeven
namespace Go.Proofs.YtapgglmdnggopaaDoor
namespace Rows

/-- THE TIED CARD OF 'dovetaillaw28.FoldOwn'. -/
def foldOwnCard : Claim7 := { stood := { row := foldOwnRow, standIns := [], harness := (true, "4a37096bf0869030ed94a7dcd8d9e64a3983cba4e46f9784f79fd7891326398a"), looks := true }, kinds := [], alts := [], laidByText := true, laidKinds := [.sentinel, .sentinel, .sentinel, .sentinel, .sentinel, .sentinel, .sentinel, .sentinel, .sentinel, .sentinel, .sentinel, .sentinel, .sentinel, .sentinel, .sentinel], laidTests := true, laidLooks := .later }
def FoldOwnCardSaid : Prop := Claim7.holds Tryd.pinned (.plain (OpenSpec.ofChange foldOwnSpec)) foldOwnCard

/-- THE TIED CARD OF 'dovetaillaw28.FoldEach'. -/
def foldEachCard : Claim7 := { stood := { row := foldEachRow, standIns := [], harness := (true, "4a37096bf0869030ed94a7dcd8d9e64a3983cba4e46f9784f79fd7891326398a"), looks := true }, kinds := [], alts := [], laidByText := true, laidKinds := [.sentinel, .sentinel, .sentinel, .sentinel, .sentinel, .sentinel, .sentinel, .sentinel, .sentinel, .sentinel, .sentinel, .sentinel, .sentinel, .sentinel, .sentinel], laidTests := true, laidLooks := .later }
def FoldEachCardSaid : Prop := Claim7.holds Tryd.pinned (.plain (OpenSpec.ofChange foldEachSpec)) foldEachCard

/-- THE TIED CARD OF 'dovetaillaw28.FoldAsks'. -/
def foldAsksCard : Claim7 := { stood := { row := foldAsksRow, standIns := [], harness := (true, "4a37096bf0869030ed94a7dcd8d9e64a3983cba4e46f9784f79fd7891326398a"), looks := true }, kinds := [], alts := [], laidByText := true, laidKinds := [.handle, .sentinel, .sentinel, .sentinel, .sentinel, .sentinel, .sentinel, .sentinel, .sentinel, .sentinel, .sentinel, .sentinel, .sentinel, .sentinel, .sentinel, .sentinel], laidTests := true, laidLooks := .later }
def FoldAsksCardSaid : Prop := Claim7.holds Tryd.pinned (.plain (OpenSpec.ofChange foldAsksSpec)) foldAsksCard

/-- THE TIED CARD OF 'dovetaillaw28.FoldDown'. -/
def foldDownCard : Claim7 := { stood := { row := foldDownRow, standIns := [], harness := (true, "4a37096bf0869030ed94a7dcd8d9e64a3983cba4e46f9784f79fd7891326398a"), looks := true }, kinds := [], alts := [], laidByText := true, laidKinds := [.handle, .sentinel, .sentinel, .sentinel, .sentinel, .sentinel, .sentinel, .sentinel, .sentinel, .sentinel, .sentinel, .sentinel, .sentinel, .sentinel, .sentinel, .sentinel], laidTests := true, laidLooks := .later }
def FoldDownCardSaid : Prop := Claim7.holds Tryd.pinned (.plain (OpenSpec.ofChange foldDownSpec)) foldDownCard

/-- THE TIED CARD OF 'dovetaillaw28.FoldBy'. -/
def foldByCard : Claim7 := { stood := { row := foldByRow, standIns := [], harness := (true, "4a37096bf0869030ed94a7dcd8d9e64a3983cba4e46f9784f79fd7891326398a"), looks := true }, kinds := [], alts := [], laidByText := true, laidKinds := [.handle, .sentinel, .sentinel, .sentinel, .sentinel, .sentinel, .sentinel, .sentinel, .sentinel, .sentinel, .sentinel, .sentinel, .sentinel, .sentinel, .sentinel, .sentinel], laidTests := true, laidLooks := .later }
def FoldByCardSaid : Prop := Claim7.holds Tryd.pinned (.plain (OpenSpec.ofChange foldBySpec)) foldByCard

/-- THE TIED CARD OF 'dovetaillaw28.FoldTexts'. -/
def foldTextsCard : Claim7 := { stood := { row := foldTextsRow, standIns := [], harness := (true, "4a37096bf0869030ed94a7dcd8d9e64a3983cba4e46f9784f79fd7891326398a"), looks := true }, kinds := [], alts := [], laidByText := true, laidKinds := [.data, .data, .data, .sentinel, .sentinel, .sentinel, .sentinel, .sentinel, .sentinel, .sentinel, .sentinel, .sentinel, .sentinel, .sentinel, .sentinel, .sentinel, .sentinel, .sentinel], laidTests := true, laidLooks := .later }
def FoldTextsCardSaid : Prop := Claim7.holds Tryd.pinned (.plain (OpenSpec.ofChange foldTextsSpec)) foldTextsCard

/-- THE SECOND FORM's CARD OF 'dovetaillaw28.FoldOwn'. -/
def foldOwnUptoCard : Claim7 := { stood := { row := foldOwnUptoRow, standIns := [], harness := (true, "4a37096bf0869030ed94a7dcd8d9e64a3983cba4e46f9784f79fd7891326398a"), looks := true }, kinds := [], alts := [], laidByText := true, laidKinds := [.sentinel, .sentinel, .sentinel, .sentinel, .sentinel, .sentinel, .sentinel, .sentinel, .sentinel, .sentinel, .sentinel, .sentinel, .sentinel, .sentinel, .sentinel], laidTests := true, laidLooks := .later }
def FoldOwnUptoCardSaid : Prop := Claim7.holds Tryd.pinned (.plain (OpenSpec.upto foldOwnSpec)) foldOwnUptoCard

/-- THE SECOND FORM's CARD OF 'dovetaillaw28.FoldEach'. -/
def foldEachUptoCard : Claim7 := { stood := { row := foldEachUptoRow, standIns := [], harness := (true, "4a37096bf0869030ed94a7dcd8d9e64a3983cba4e46f9784f79fd7891326398a"), looks := true }, kinds := [], alts := [], laidByText := true, laidKinds := [.sentinel, .sentinel, .sentinel, .sentinel, .sentinel, .sentinel, .sentinel, .sentinel, .sentinel, .sentinel, .sentinel, .sentinel, .sentinel, .sentinel, .sentinel], laidTests := true, laidLooks := .later }
def FoldEachUptoCardSaid : Prop := Claim7.holds Tryd.pinned (.plain (OpenSpec.upto foldEachSpec)) foldEachUptoCard

/-- THE SECOND FORM's CARD OF 'dovetaillaw28.FoldAsks'. -/
def foldAsksUptoCard : Claim7 := { stood := { row := foldAsksUptoRow, standIns := [], harness := (true, "4a37096bf0869030ed94a7dcd8d9e64a3983cba4e46f9784f79fd7891326398a"), looks := true }, kinds := [], alts := [], laidByText := true, laidKinds := [.handle, .sentinel, .sentinel, .sentinel, .sentinel, .sentinel, .sentinel, .sentinel, .sentinel, .sentinel, .sentinel, .sentinel, .sentinel, .sentinel, .sentinel, .sentinel], laidTests := true, laidLooks := .later }
def FoldAsksUptoCardSaid : Prop := Claim7.holds Tryd.pinned (.plain (OpenSpec.upto foldAsksSpec)) foldAsksUptoCard

/-- THE SECOND FORM's CARD OF 'dovetaillaw28.FoldDown'. -/
def foldDownUptoCard : Claim7 := { stood := { row := foldDownUptoRow, standIns := [], harness := (true, "4a37096bf0869030ed94a7dcd8d9e64a3983cba4e46f9784f79fd7891326398a"), looks := true }, kinds := [], alts := [], laidByText := true, laidKinds := [.handle, .sentinel, .sentinel, .sentinel, .sentinel, .sentinel, .sentinel, .sentinel, .sentinel, .sentinel, .sentinel, .sentinel, .sentinel, .sentinel, .sentinel, .sentinel], laidTests := true, laidLooks := .later }
def FoldDownUptoCardSaid : Prop := Claim7.holds Tryd.pinned (.plain (OpenSpec.upto foldDownSpec)) foldDownUptoCard

/-- THE SECOND FORM's CARD OF 'dovetaillaw28.FoldBy'. -/
def foldByUptoCard : Claim7 := { stood := { row := foldByUptoRow, standIns := [], harness := (true, "4a37096bf0869030ed94a7dcd8d9e64a3983cba4e46f9784f79fd7891326398a"), looks := true }, kinds := [], alts := [], laidByText := true, laidKinds := [.handle, .sentinel, .sentinel, .sentinel, .sentinel, .sentinel, .sentinel, .sentinel, .sentinel, .sentinel, .sentinel, .sentinel, .sentinel, .sentinel, .sentinel, .sentinel], laidTests := true, laidLooks := .later }
def FoldByUptoCardSaid : Prop := Claim7.holds Tryd.pinned (.plain (OpenSpec.upto foldBySpec)) foldByUptoCard

/-- THE SECOND FORM's CARD OF 'dovetaillaw28.FoldTexts'. -/
def foldTextsUptoCard : Claim7 := { stood := { row := foldTextsUptoRow, standIns := [], harness := (true, "4a37096bf0869030ed94a7dcd8d9e64a3983cba4e46f9784f79fd7891326398a"), looks := true }, kinds := [], alts := [], laidByText := true, laidKinds := [.data, .data, .data, .sentinel, .sentinel, .sentinel, .sentinel, .sentinel, .sentinel, .sentinel, .sentinel, .sentinel, .sentinel, .sentinel, .sentinel, .sentinel, .sentinel, .sentinel], laidTests := true, laidLooks := .later }
def FoldTextsUptoCardSaid : Prop := Claim7.holds Tryd.pinned (.plain (OpenSpec.upto foldTextsSpec)) foldTextsUptoCard
end Rows
end Go.Proofs.YtapgglmdnggopaaDoor
