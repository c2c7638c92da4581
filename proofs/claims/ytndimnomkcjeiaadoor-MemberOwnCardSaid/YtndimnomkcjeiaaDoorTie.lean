/-
  DERIVED. GIVEN WITH THE SEED: THE PROGRAM's TIES (one call each: nine closed facts by the kernel) AND EACH ROW's TIE, after the 31st guide's Derived/Test/Toyas{Tie, Card}.lean. No idea stands in it: it is a product of the set-up. Laid BY PROGRAM, IN A SANDBOX (cutbox-door.mjs). By AI agents, Wed Nov 11 2026. No macro, syntax, notation, axiom, sorry.
-/
import Derived.Test.YtndimnomkcjeiaaDoorRows
import Derived.LaidByTextLater
import Derived.SevenTiedAt
import Derived.LaidSub
import Derived.LaidOnce
namespace Go.Proofs.YtndimnomkcjeiaaDoor
open Go
set_option maxRecDepth 100000
theorem seatTie1 : Tryd.prog.laidByTextLater [("dovetail/api.ErrArg", Rows.laid_dovetail_api_ErrArg), ("dovetail/api.ErrSyntax", Rows.laid_dovetail_api_ErrSyntax), ("dovetail/api.ErrBounds", Rows.laid_dovetail_api_ErrBounds), ("dovetail/api.ErrNotOperator", Rows.laid_dovetail_api_ErrNotOperator), ("dovetail/api.ErrMatrix", Rows.laid_dovetail_api_ErrMatrix), ("dovetail/api.ErrTooBig", Rows.laid_dovetail_api_ErrTooBig), ("dovetail/api.ErrRefused", Rows.laid_dovetail_api_ErrRefused), ("dovetail/api.ErrCut", Rows.laid_dovetail_api_ErrCut), ("dovetail/api.ErrPlan", Rows.laid_dovetail_api_ErrPlan), ("dovetail/api.ErrName", Rows.laid_dovetail_api_ErrName), ("dovetail/api.ErrTree", Rows.laid_dovetail_api_ErrTree), ("dovetail/api.ErrLong", Rows.laid_dovetail_api_ErrLong), ("dovetail/api.ErrForm", Rows.laid_dovetail_api_ErrForm), ("dovetail/api.ErrSum", Rows.laid_dovetail_api_ErrSum), ("dovetail/api.ErrNone", Rows.laid_dovetail_api_ErrNone)] [.sentinel, .sentinel, .sentinel, .sentinel, .sentinel, .sentinel, .sentinel, .sentinel, .sentinel, .sentinel, .sentinel, .sentinel, .sentinel, .sentinel, .sentinel] true :=
  Program.laidByTextLater_by_one 294 8 2 (by kernel_rfl) (by kernel_rfl) (by kernel_rfl) (by kernel_rfl) (by kernel_rfl) (by kernel_rfl) (fun _ _ => by kernel_rfl)
theorem noOwnUnsafe : Tryd.pinned.checked.prog.headLifts.contains "ownunsafe" = false := by kernel_rfl
theorem tie : Tryd.prog.laidByTextLater [("dovetail/api.ErrArg", Rows.laid_dovetail_api_ErrArg), ("dovetail/api.ErrSyntax", Rows.laid_dovetail_api_ErrSyntax), ("dovetail/api.ErrBounds", Rows.laid_dovetail_api_ErrBounds), ("dovetail/api.ErrNotOperator", Rows.laid_dovetail_api_ErrNotOperator), ("dovetail/api.ErrMatrix", Rows.laid_dovetail_api_ErrMatrix), ("dovetail/api.ErrTooBig", Rows.laid_dovetail_api_ErrTooBig), ("dovetail/api.ErrRefused", Rows.laid_dovetail_api_ErrRefused), ("dovetail/api.ErrCut", Rows.laid_dovetail_api_ErrCut), ("dovetail/api.ErrPlan", Rows.laid_dovetail_api_ErrPlan), ("dovetail/api.ErrName", Rows.laid_dovetail_api_ErrName), ("dovetail/api.ErrTree", Rows.laid_dovetail_api_ErrTree), ("dovetail/api.ErrLong", Rows.laid_dovetail_api_ErrLong), ("dovetail/api.ErrForm", Rows.laid_dovetail_api_ErrForm), ("dovetail/api.ErrSum", Rows.laid_dovetail_api_ErrSum), ("dovetail/api.ErrNone", Rows.laid_dovetail_api_ErrNone)] [.sentinel, .sentinel, .sentinel, .sentinel, .sentinel, .sentinel, .sentinel, .sentinel, .sentinel, .sentinel, .sentinel, .sentinel, .sentinel, .sentinel, .sentinel] true :=
  Program.laidByTextLater.sub seatTie1 ["dovetail/api.ErrArg", "dovetail/api.ErrSyntax", "dovetail/api.ErrBounds", "dovetail/api.ErrNotOperator", "dovetail/api.ErrMatrix", "dovetail/api.ErrTooBig", "dovetail/api.ErrRefused", "dovetail/api.ErrCut", "dovetail/api.ErrPlan", "dovetail/api.ErrName", "dovetail/api.ErrTree", "dovetail/api.ErrLong", "dovetail/api.ErrForm", "dovetail/api.ErrSum", "dovetail/api.ErrNone"] (by kernel_rfl) (by kernel_rfl)
theorem memberSets_row_tie : Rows.memberSetsRow.laidByTextAt .later Tryd.pinned [.sentinel, .sentinel, .sentinel, .sentinel, .sentinel, .sentinel, .sentinel, .sentinel, .sentinel, .sentinel, .sentinel, .sentinel, .sentinel, .sentinel, .sentinel] true :=
  OpenClaim.laidByTextAt_later rfl rfl tie noOwnUnsafe
theorem memberDerives_row_tie : Rows.memberDerivesRow.laidByTextAt .later Tryd.pinned [.sentinel, .sentinel, .sentinel, .sentinel, .sentinel, .sentinel, .sentinel, .sentinel, .sentinel, .sentinel, .sentinel, .sentinel, .sentinel, .sentinel, .sentinel] true :=
  OpenClaim.laidByTextAt_later rfl rfl tie noOwnUnsafe
theorem memberCounts_row_tie : Rows.memberCountsRow.laidByTextAt .later Tryd.pinned [.sentinel, .sentinel, .sentinel, .sentinel, .sentinel, .sentinel, .sentinel, .sentinel, .sentinel, .sentinel, .sentinel, .sentinel, .sentinel, .sentinel, .sentinel] true :=
  OpenClaim.laidByTextAt_later rfl rfl tie noOwnUnsafe
theorem memberRules_row_tie : Rows.memberRulesRow.laidByTextAt .later Tryd.pinned [.sentinel, .sentinel, .sentinel, .sentinel, .sentinel, .sentinel, .sentinel, .sentinel, .sentinel, .sentinel, .sentinel, .sentinel, .sentinel, .sentinel, .sentinel] true :=
  OpenClaim.laidByTextAt_later rfl rfl tie noOwnUnsafe
theorem memberMore_row_tie : Rows.memberMoreRow.laidByTextAt .later Tryd.pinned [.sentinel, .sentinel, .sentinel, .sentinel, .sentinel, .sentinel, .sentinel, .sentinel, .sentinel, .sentinel, .sentinel, .sentinel, .sentinel, .sentinel, .sentinel] true :=
  OpenClaim.laidByTextAt_later rfl rfl tie noOwnUnsafe
theorem tie2 : Tryd.prog.laidByTextLater [("dovetail/api.ErrArg", Rows.laid_dovetail_api_ErrArg), ("dovetail/api.ErrBounds", Rows.laid_dovetail_api_ErrBounds), ("dovetail/api.ErrName", Rows.laid_dovetail_api_ErrName), ("dovetail/api.ErrLong", Rows.laid_dovetail_api_ErrLong)] [.sentinel, .sentinel, .sentinel, .sentinel] true :=
  Program.laidByTextLater.sub seatTie1 ["dovetail/api.ErrArg", "dovetail/api.ErrBounds", "dovetail/api.ErrName", "dovetail/api.ErrLong"] (by kernel_rfl) (by kernel_rfl)
theorem memberTwice_row_tie : Rows.memberTwiceRow.laidByTextAt .later Tryd.pinned [.sentinel, .sentinel, .sentinel, .sentinel] true :=
  OpenClaim.laidByTextAt_later rfl rfl tie2 noOwnUnsafe
theorem memberOwn_row_tie : Rows.memberOwnRow.laidByTextAt .later Tryd.pinned [.sentinel, .sentinel, .sentinel, .sentinel] true :=
  OpenClaim.laidByTextAt_later rfl rfl tie2 noOwnUnsafe
theorem memberSetsUpto_row_tie : Rows.memberSetsUptoRow.laidByTextAt .later Tryd.pinned [.sentinel, .sentinel, .sentinel, .sentinel, .sentinel, .sentinel, .sentinel, .sentinel, .sentinel, .sentinel, .sentinel, .sentinel, .sentinel, .sentinel, .sentinel] true :=
  OpenClaim.laidByTextAt_later rfl rfl tie noOwnUnsafe
theorem memberDerivesUpto_row_tie : Rows.memberDerivesUptoRow.laidByTextAt .later Tryd.pinned [.sentinel, .sentinel, .sentinel, .sentinel, .sentinel, .sentinel, .sentinel, .sentinel, .sentinel, .sentinel, .sentinel, .sentinel, .sentinel, .sentinel, .sentinel] true :=
  OpenClaim.laidByTextAt_later rfl rfl tie noOwnUnsafe
theorem memberTwiceUpto_row_tie : Rows.memberTwiceUptoRow.laidByTextAt .later Tryd.pinned [.sentinel, .sentinel, .sentinel, .sentinel] true :=
  OpenClaim.laidByTextAt_later rfl rfl tie2 noOwnUnsafe
theorem memberOwnUpto_row_tie : Rows.memberOwnUptoRow.laidByTextAt .later Tryd.pinned [.sentinel, .sentinel, .sentinel, .sentinel] true :=
  OpenClaim.laidByTextAt_later rfl rfl tie2 noOwnUnsafe
theorem memberCountsUpto_row_tie : Rows.memberCountsUptoRow.laidByTextAt .later Tryd.pinned [.sentinel, .sentinel, .sentinel, .sentinel, .sentinel, .sentinel, .sentinel, .sentinel, .sentinel, .sentinel, .sentinel, .sentinel, .sentinel, .sentinel, .sentinel] true :=
  OpenClaim.laidByTextAt_later rfl rfl tie noOwnUnsafe
theorem memberRulesUpto_row_tie : Rows.memberRulesUptoRow.laidByTextAt .later Tryd.pinned [.sentinel, .sentinel, .sentinel, .sentinel, .sentinel, .sentinel, .sentinel, .sentinel, .sentinel, .sentinel, .sentinel, .sentinel, .sentinel, .sentinel, .sentinel] true :=
  OpenClaim.laidByTextAt_later rfl rfl tie noOwnUnsafe
theorem memberMoreUpto_row_tie : Rows.memberMoreUptoRow.laidByTextAt .later Tryd.pinned [.sentinel, .sentinel, .sentinel, .sentinel, .sentinel, .sentinel, .sentinel, .sentinel, .sentinel, .sentinel, .sentinel, .sentinel, .sentinel, .sentinel, .sentinel] true :=
  OpenClaim.laidByTextAt_later rfl rfl tie noOwnUnsafe
end Go.Proofs.YtndimnomkcjeiaaDoor
