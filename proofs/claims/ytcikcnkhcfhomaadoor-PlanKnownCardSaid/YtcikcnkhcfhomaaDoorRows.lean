/-
  NARROWER THAN 'FOR EVERY INPUT', by the rows' own cells (each row's printed sentence says how): PlanMiddle: laid · PlanOrders: laid · PlanCuts: laid · PlanJoins: laid · PlanThere: laid · PlanReads: laid · PlanKnown: laid.
  DERIVED. THE GIVEN ROWS OF THIS SEAT. 7 by the template 'for every input the law returns true; each argument reads behind the call as it read before'; 0 by the template 'total and deterministic' (their statements: YtcikcnkhcfhomaaDoorTotals.lean).
  GIVEN WITH THE SEED: the statements are not yours to turn. If you find one false, say at which input.
  Laid BY PROGRAM, IN A SANDBOX (cutbox-rows.mjs): the forced cells as the released guide's own fill.sh prints them over the translation df9ee5a888689d46… (all of the seat's roots in one cut). By AI agents, Wed Nov 11 2026. No macro, syntax, notation, axiom, sorry.
-/
import Derived.Test.YtcikcnkhcfhomaaDoorChecked
import GoSem.Claim
import GoSem.ClaimJoined
import GoSem.ClaimMapViews
import Derived.JoinedTies
import Derived.KernelRfl
namespace Go.Proofs.YtcikcnkhcfhomaaDoor
/- THE CELL 'sum', in the pinned program and in every row, IS THE sha256 OF THE DUMP (.gsa) THAT YtcikcnkhcfhomaaDoorProg.lean LOADS. Nothing in Lean hashes anything: it is a label: what it is worth is what the hold of that sum in a sandbox is worth. -/
noncomputable def Tryd.pinned : Pinned := { name := "ytcikcnkhcfhomaadoor", sum := "df9ee5a888689d46b1782d0258e8d3dee85df77586f113c4b1be1a57627f240c", checked := Tryd.checked }
namespace Rows
def none {H : Type} : Left H := { results := [], args := [] }

/- WHAT THE LISTED PACKAGE-LEVEL VARIABLES READ AS WHEN THE CALL BEGINS. Each datum BY PROGRAM (the guide's laid-datum.mjs) off the statement by which the dump's own 'gosem.cut.vars' lays the variable. In a bare row this is a premise. The card (YtcikcnkhcfhomaaDoorCards.lean) ties it to the program's text. -/
def laid_math_bits_deBruijn32tab {H : Type} : DataW H := .agg [.lit (.int .u8 0), .lit (.int .u8 1), .lit (.int .u8 28), .lit (.int .u8 2), .lit (.int .u8 29), .lit (.int .u8 14), .lit (.int .u8 24), .lit (.int .u8 3), .lit (.int .u8 30), .lit (.int .u8 22), .lit (.int .u8 20), .lit (.int .u8 15), .lit (.int .u8 25), .lit (.int .u8 17), .lit (.int .u8 4), .lit (.int .u8 8), .lit (.int .u8 31), .lit (.int .u8 27), .lit (.int .u8 13), .lit (.int .u8 23), .lit (.int .u8 21), .lit (.int .u8 19), .lit (.int .u8 16), .lit (.int .u8 7), .lit (.int .u8 26), .lit (.int .u8 12), .lit (.int .u8 18), .lit (.int .u8 6), .lit (.int .u8 11), .lit (.int .u8 5), .lit (.int .u8 10), .lit (.int .u8 9)]
def laid_math_bits_deBruijn64tab {H : Type} : DataW H := .agg [.lit (.int .u8 0), .lit (.int .u8 1), .lit (.int .u8 56), .lit (.int .u8 2), .lit (.int .u8 57), .lit (.int .u8 49), .lit (.int .u8 28), .lit (.int .u8 3), .lit (.int .u8 61), .lit (.int .u8 58), .lit (.int .u8 42), .lit (.int .u8 50), .lit (.int .u8 38), .lit (.int .u8 29), .lit (.int .u8 17), .lit (.int .u8 4), .lit (.int .u8 62), .lit (.int .u8 47), .lit (.int .u8 59), .lit (.int .u8 36), .lit (.int .u8 45), .lit (.int .u8 43), .lit (.int .u8 51), .lit (.int .u8 22), .lit (.int .u8 53), .lit (.int .u8 39), .lit (.int .u8 33), .lit (.int .u8 30), .lit (.int .u8 24), .lit (.int .u8 18), .lit (.int .u8 12), .lit (.int .u8 5), .lit (.int .u8 63), .lit (.int .u8 55), .lit (.int .u8 48), .lit (.int .u8 27), .lit (.int .u8 60), .lit (.int .u8 41), .lit (.int .u8 37), .lit (.int .u8 16), .lit (.int .u8 46), .lit (.int .u8 35), .lit (.int .u8 44), .lit (.int .u8 21), .lit (.int .u8 52), .lit (.int .u8 32), .lit (.int .u8 23), .lit (.int .u8 11), .lit (.int .u8 54), .lit (.int .u8 26), .lit (.int .u8 40), .lit (.int .u8 15), .lit (.int .u8 34), .lit (.int .u8 20), .lit (.int .u8 31), .lit (.int .u8 10), .lit (.int .u8 25), .lit (.int .u8 14), .lit (.int .u8 19), .lit (.int .u8 9), .lit (.int .u8 13), .lit (.int .u8 8), .lit (.int .u8 7), .lit (.int .u8 6)]
def laid_internal_strconv_uint64pow10 {H : Type} : DataW H := .agg [.lit (.int .u64 1), .lit (.int .u64 10), .lit (.int .u64 100), .lit (.int .u64 1000), .lit (.int .u64 10000), .lit (.int .u64 100000), .lit (.int .u64 1000000), .lit (.int .u64 10000000), .lit (.int .u64 100000000), .lit (.int .u64 1000000000), .lit (.int .u64 10000000000), .lit (.int .u64 100000000000), .lit (.int .u64 1000000000000), .lit (.int .u64 10000000000000), .lit (.int .u64 100000000000000), .lit (.int .u64 1000000000000000), .lit (.int .u64 10000000000000000), .lit (.int .u64 100000000000000000), .lit (.int .u64 1000000000000000000), .lit (.int .u64 10000000000000000000)]
def laid_dovetail_api_ErrArg {H : Type} : DataW H := .iface "*errors.errorString" (.ptr (.agg [.lit (.string [100, 111, 118, 101, 116, 97, 105, 108, 58, 32, 97, 114, 103, 117, 109, 101, 110, 116])]))
def laid_dovetail_api_ErrCut {H : Type} : DataW H := .iface "*errors.errorString" (.ptr (.agg [.lit (.string [100, 111, 118, 101, 116, 97, 105, 108, 58, 32, 99, 117, 116])]))
def laid_dovetail_api_ErrPlan {H : Type} : DataW H := .iface "*errors.errorString" (.ptr (.agg [.lit (.string [100, 111, 118, 101, 116, 97, 105, 108, 58, 32, 112, 108, 97, 110])]))
def laid_dovetail_api_ErrSyntax {H : Type} : DataW H := .iface "*errors.errorString" (.ptr (.agg [.lit (.string [100, 111, 118, 101, 116, 97, 105, 108, 58, 32, 115, 121, 110, 116, 97, 120])]))
def laid_dovetail_api_ErrBounds {H : Type} : DataW H := .iface "*errors.errorString" (.ptr (.agg [.lit (.string [100, 111, 118, 101, 116, 97, 105, 108, 58, 32, 98, 111, 117, 110, 100, 115])]))
def laid_dovetail_api_ErrNotOperator {H : Type} : DataW H := .iface "*errors.errorString" (.ptr (.agg [.lit (.string [100, 111, 118, 101, 116, 97, 105, 108, 58, 32, 110, 111, 116, 32, 97, 110, 32, 111, 112, 101, 114, 97, 116, 111, 114, 32, 103, 114, 97, 109, 109, 97, 114])]))
def laid_dovetail_api_ErrMatrix {H : Type} : DataW H := .iface "*errors.errorString" (.ptr (.agg [.lit (.string [100, 111, 118, 101, 116, 97, 105, 108, 58, 32, 116, 119, 111, 32, 114, 101, 108, 97, 116, 105, 111, 110, 115])]))
def laid_dovetail_api_ErrTooBig {H : Type} : DataW H := .iface "*errors.errorString" (.ptr (.agg [.lit (.string [100, 111, 118, 101, 116, 97, 105, 108, 58, 32, 116, 111, 111, 32, 98, 105, 103])]))
def laid_dovetail_api_ErrRefused {H : Type} : DataW H := .iface "*errors.errorString" (.ptr (.agg [.lit (.string [100, 111, 118, 101, 116, 97, 105, 108, 58, 32, 114, 101, 102, 117, 115, 101, 100])]))
def laid_dovetail_api_ErrName {H : Type} : DataW H := .iface "*errors.errorString" (.ptr (.agg [.lit (.string [100, 111, 118, 101, 116, 97, 105, 108, 58, 32, 110, 97, 109, 101])]))
def laid_dovetail_api_ErrTree {H : Type} : DataW H := .iface "*errors.errorString" (.ptr (.agg [.lit (.string [100, 111, 118, 101, 116, 97, 105, 108, 58, 32, 116, 114, 101, 101])]))
def laid_dovetail_api_ErrLong {H : Type} : DataW H := .iface "*errors.errorString" (.ptr (.agg [.lit (.string [100, 111, 118, 101, 116, 97, 105, 108, 58, 32, 108, 111, 110, 103])]))
def laid_dovetail_api_ErrForm {H : Type} : DataW H := .iface "*errors.errorString" (.ptr (.agg [.lit (.string [100, 111, 118, 101, 116, 97, 105, 108, 58, 32, 102, 111, 114, 109])]))
def laid_dovetail_api_ErrSum {H : Type} : DataW H := .iface "*errors.errorString" (.ptr (.agg [.lit (.string [100, 111, 118, 101, 116, 97, 105, 108, 58, 32, 115, 117, 109])]))
def laid_dovetail_api_ErrNone {H : Type} : DataW H := .iface "*errors.errorString" (.ptr (.agg [.lit (.string [100, 111, 118, 101, 116, 97, 105, 108, 58, 32, 110, 111, 110, 101])]))
def laid_errors_errorType {H : Type} : DataW H := .iface "internal/reflectlite.rtype" (.agg [.ptr (.lit (.string [101, 114, 114, 111, 114]))])

/-- 'dovetaillaw22.PlanMiddle': WHATEVER THE INPUT: true; the input reads as it did. -/
def planMiddleSpec : ChangeSpec := { name := "planMiddle", fn := fun _ => fun
  | [d1, d2] => { results := [.lit (.bool true)], args := [d1, d2] }
  | _ => none }
def planMiddleRow : OpenClaim := { program := "ytcikcnkhcfhomaadoor", sum := "df9ee5a888689d46b1782d0258e8d3dee85df77586f113c4b1be1a57627f240c", func := "dovetail/dovetaillaw22.PlanMiddle", spec := "planMiddle", named := ["dovetail/api.ErrArg", "dovetail/api.ErrPlan", "dovetail/api.ErrCut", "internal/strconv.uint64pow10", "math/bits.deBruijn32tab", "math/bits.deBruijn64tab"], apart := false, laid := [("math/bits.deBruijn32tab", laid_math_bits_deBruijn32tab), ("math/bits.deBruijn64tab", laid_math_bits_deBruijn64tab), ("internal/strconv.uint64pow10", laid_internal_strconv_uint64pow10), ("dovetail/api.ErrArg", laid_dovetail_api_ErrArg), ("dovetail/api.ErrCut", laid_dovetail_api_ErrCut), ("dovetail/api.ErrPlan", laid_dovetail_api_ErrPlan)] }
def PlanMiddleSaid : Prop := planMiddleRow.holds Tryd.pinned (OpenSpec.ofChange planMiddleSpec)

/-- ITS FALSE NEIGHBOUR: 'it returns false'. Refute it at one input. -/
def planMiddleWrong : ChangeSpec := { name := "planMiddle", fn := fun _ => fun
  | [d1, d2] => { results := [.lit (.bool false)], args := [d1, d2] }
  | _ => none }
def PlanMiddleWrongFalsely : Prop := planMiddleRow.holds Tryd.pinned (OpenSpec.ofChange planMiddleWrong)

/-- 'dovetaillaw22.PlanOrders': WHATEVER THE INPUT: true; the input reads as it did. -/
def planOrdersSpec : ChangeSpec := { name := "planOrders", fn := fun _ => fun
  | [d] => { results := [.lit (.bool true)], args := [d] }
  | _ => none }
def planOrdersRow : OpenClaim := { program := "ytcikcnkhcfhomaadoor", sum := "df9ee5a888689d46b1782d0258e8d3dee85df77586f113c4b1be1a57627f240c", func := "dovetail/dovetaillaw22.PlanOrders", spec := "planOrders", unfollowed := true, recurses := true, named := ["dovetail/api.ErrArg", "dovetail/api.ErrCut", "dovetail/api.ErrPlan", "internal/strconv.uint64pow10", "math/bits.deBruijn32tab", "math/bits.deBruijn64tab"], apart := false, laid := [("math/bits.deBruijn32tab", laid_math_bits_deBruijn32tab), ("math/bits.deBruijn64tab", laid_math_bits_deBruijn64tab), ("internal/strconv.uint64pow10", laid_internal_strconv_uint64pow10), ("dovetail/api.ErrArg", laid_dovetail_api_ErrArg), ("dovetail/api.ErrCut", laid_dovetail_api_ErrCut), ("dovetail/api.ErrPlan", laid_dovetail_api_ErrPlan)] }
def PlanOrdersSaid : Prop := planOrdersRow.holds Tryd.pinned (OpenSpec.ofChange planOrdersSpec)

/-- ITS FALSE NEIGHBOUR: 'it returns false'. Refute it at one input. -/
def planOrdersWrong : ChangeSpec := { name := "planOrders", fn := fun _ => fun
  | [d] => { results := [.lit (.bool false)], args := [d] }
  | _ => none }
def PlanOrdersWrongFalsely : Prop := planOrdersRow.holds Tryd.pinned (OpenSpec.ofChange planOrdersWrong)

/-- 'dovetaillaw22.PlanCuts': WHATEVER THE INPUT: true; the input reads as it did. -/
def planCutsSpec : ChangeSpec := { name := "planCuts", fn := fun _ => fun
  | [d1, d2] => { results := [.lit (.bool true)], args := [d1, d2] }
  | _ => none }
def planCutsRow : OpenClaim := { program := "ytcikcnkhcfhomaadoor", sum := "df9ee5a888689d46b1782d0258e8d3dee85df77586f113c4b1be1a57627f240c", func := "dovetail/dovetaillaw22.PlanCuts", spec := "planCuts", inPlace := ["internal/reflectlite.TypeOf"], unfollowed := true, recurses := true, named := ["dovetail/api.ErrArg", "dovetail/api.ErrCut", "dovetail/api.ErrSyntax", "dovetail/api.ErrBounds", "dovetail/api.ErrNotOperator", "dovetail/api.ErrMatrix", "dovetail/api.ErrTooBig", "dovetail/api.ErrRefused", "dovetail/api.ErrPlan", "dovetail/api.ErrName", "dovetail/api.ErrTree", "dovetail/api.ErrLong", "dovetail/api.ErrForm", "dovetail/api.ErrSum", "dovetail/api.ErrNone", "internal/strconv.uint64pow10", "math/bits.deBruijn32tab", "math/bits.deBruijn64tab"], apart := false, laid := [("math/bits.deBruijn32tab", laid_math_bits_deBruijn32tab), ("math/bits.deBruijn64tab", laid_math_bits_deBruijn64tab), ("internal/strconv.uint64pow10", laid_internal_strconv_uint64pow10), ("dovetail/api.ErrArg", laid_dovetail_api_ErrArg), ("dovetail/api.ErrSyntax", laid_dovetail_api_ErrSyntax), ("dovetail/api.ErrBounds", laid_dovetail_api_ErrBounds), ("dovetail/api.ErrNotOperator", laid_dovetail_api_ErrNotOperator), ("dovetail/api.ErrMatrix", laid_dovetail_api_ErrMatrix), ("dovetail/api.ErrTooBig", laid_dovetail_api_ErrTooBig), ("dovetail/api.ErrRefused", laid_dovetail_api_ErrRefused), ("dovetail/api.ErrCut", laid_dovetail_api_ErrCut), ("dovetail/api.ErrPlan", laid_dovetail_api_ErrPlan), ("dovetail/api.ErrName", laid_dovetail_api_ErrName), ("dovetail/api.ErrTree", laid_dovetail_api_ErrTree), ("dovetail/api.ErrLong", laid_dovetail_api_ErrLong), ("dovetail/api.ErrForm", laid_dovetail_api_ErrForm), ("dovetail/api.ErrSum", laid_dovetail_api_ErrSum), ("dovetail/api.ErrNone", laid_dovetail_api_ErrNone)] }
def PlanCutsSaid : Prop := planCutsRow.holds Tryd.pinned (OpenSpec.ofChange planCutsSpec)

/-- ITS FALSE NEIGHBOUR: 'it returns false'. Refute it at one input. -/
def planCutsWrong : ChangeSpec := { name := "planCuts", fn := fun _ => fun
  | [d1, d2] => { results := [.lit (.bool false)], args := [d1, d2] }
  | _ => none }
def PlanCutsWrongFalsely : Prop := planCutsRow.holds Tryd.pinned (OpenSpec.ofChange planCutsWrong)

/-- 'dovetaillaw22.PlanJoins': WHATEVER THE INPUT: true; the input reads as it did. -/
def planJoinsSpec : ChangeSpec := { name := "planJoins", fn := fun _ => fun
  | [d1, d2] => { results := [.lit (.bool true)], args := [d1, d2] }
  | _ => none }
def planJoinsRow : OpenClaim := { program := "ytcikcnkhcfhomaadoor", sum := "df9ee5a888689d46b1782d0258e8d3dee85df77586f113c4b1be1a57627f240c", func := "dovetail/dovetaillaw22.PlanJoins", spec := "planJoins", inPlace := ["internal/reflectlite.TypeOf"], unfollowed := true, recurses := true, named := ["dovetail/api.ErrArg", "dovetail/api.ErrCut", "dovetail/api.ErrPlan", "internal/strconv.uint64pow10", "math/bits.deBruijn32tab", "math/bits.deBruijn64tab", "dovetail/api.ErrSyntax", "dovetail/api.ErrBounds", "dovetail/api.ErrNotOperator", "dovetail/api.ErrMatrix", "dovetail/api.ErrTooBig", "dovetail/api.ErrRefused", "dovetail/api.ErrName", "dovetail/api.ErrTree", "dovetail/api.ErrLong", "dovetail/api.ErrForm", "dovetail/api.ErrSum", "dovetail/api.ErrNone"], apart := false, laid := [("math/bits.deBruijn32tab", laid_math_bits_deBruijn32tab), ("math/bits.deBruijn64tab", laid_math_bits_deBruijn64tab), ("internal/strconv.uint64pow10", laid_internal_strconv_uint64pow10), ("dovetail/api.ErrArg", laid_dovetail_api_ErrArg), ("dovetail/api.ErrSyntax", laid_dovetail_api_ErrSyntax), ("dovetail/api.ErrBounds", laid_dovetail_api_ErrBounds), ("dovetail/api.ErrNotOperator", laid_dovetail_api_ErrNotOperator), ("dovetail/api.ErrMatrix", laid_dovetail_api_ErrMatrix), ("dovetail/api.ErrTooBig", laid_dovetail_api_ErrTooBig), ("dovetail/api.ErrRefused", laid_dovetail_api_ErrRefused), ("dovetail/api.ErrCut", laid_dovetail_api_ErrCut), ("dovetail/api.ErrPlan", laid_dovetail_api_ErrPlan), ("dovetail/api.ErrName", laid_dovetail_api_ErrName), ("dovetail/api.ErrTree", laid_dovetail_api_ErrTree), ("dovetail/api.ErrLong", laid_dovetail_api_ErrLong), ("dovetail/api.ErrForm", laid_dovetail_api_ErrForm), ("dovetail/api.ErrSum", laid_dovetail_api_ErrSum), ("dovetail/api.ErrNone", laid_dovetail_api_ErrNone)] }
def PlanJoinsSaid : Prop := planJoinsRow.holds Tryd.pinned (OpenSpec.ofChange planJoinsSpec)

/-- ITS FALSE NEIGHBOUR: 'it returns false'. Refute it at one input. -/
def planJoinsWrong : ChangeSpec := { name := "planJoins", fn := fun _ => fun
  | [d1, d2] => { results := [.lit (.bool false)], args := [d1, d2] }
  | _ => none }
def PlanJoinsWrongFalsely : Prop := planJoinsRow.holds Tryd.pinned (OpenSpec.ofChange planJoinsWrong)

/-- 'dovetaillaw22.PlanThere': WHATEVER THE INPUT: true; the input reads as it did. -/
def planThereSpec : ChangeSpec := { name := "planThere", fn := fun _ => fun
  | [d1, d2, d3, d4] => { results := [.lit (.bool true)], args := [d1, d2, d3, d4] }
  | _ => none }
def planThereRow : OpenClaim := { program := "ytcikcnkhcfhomaadoor", sum := "df9ee5a888689d46b1782d0258e8d3dee85df77586f113c4b1be1a57627f240c", func := "dovetail/dovetaillaw22.PlanThere", spec := "planThere", unfollowed := true, recurses := true, named := ["dovetail/api.ErrArg", "dovetail/api.ErrCut", "dovetail/api.ErrPlan", "internal/strconv.uint64pow10", "math/bits.deBruijn32tab", "math/bits.deBruijn64tab", "dovetail/api.ErrSyntax"], apart := false, laid := [("math/bits.deBruijn32tab", laid_math_bits_deBruijn32tab), ("math/bits.deBruijn64tab", laid_math_bits_deBruijn64tab), ("internal/strconv.uint64pow10", laid_internal_strconv_uint64pow10), ("dovetail/api.ErrArg", laid_dovetail_api_ErrArg), ("dovetail/api.ErrSyntax", laid_dovetail_api_ErrSyntax), ("dovetail/api.ErrCut", laid_dovetail_api_ErrCut), ("dovetail/api.ErrPlan", laid_dovetail_api_ErrPlan)] }
def PlanThereSaid : Prop := planThereRow.holds Tryd.pinned (OpenSpec.ofChange planThereSpec)

/-- ITS FALSE NEIGHBOUR: 'it returns false'. Refute it at one input. -/
def planThereWrong : ChangeSpec := { name := "planThere", fn := fun _ => fun
  | [d1, d2, d3, d4] => { results := [.lit (.bool false)], args := [d1, d2, d3, d4] }
  | _ => none }
def PlanThereWrongFalsely : Prop := planThereRow.holds Tryd.pinned (OpenSpec.ofChange planThereWrong)

/-- 'dovetaillaw22.PlanReads': WHATEVER THE INPUT: true; the input reads as it did. -/
def planReadsSpec : ChangeSpec := { name := "planReads", fn := fun _ => fun
  | [d] => { results := [.lit (.bool true)], args := [d] }
  | _ => none }
def planReadsRow : OpenClaim := { program := "ytcikcnkhcfhomaadoor", sum := "df9ee5a888689d46b1782d0258e8d3dee85df77586f113c4b1be1a57627f240c", func := "dovetail/dovetaillaw22.PlanReads", spec := "planReads", inPlace := ["internal/reflectlite.TypeOf", "internal/reflectlite.ValueOf", "(internal/reflectlite.Value).Type", "(internal/reflectlite.Value).IsNil", "(internal/reflectlite.Value).Elem", "(internal/reflectlite.Value).Set"], unfollowed := true, recurses := true, named := ["dovetail/api.ErrArg", "dovetail/api.ErrCut", "dovetail/api.ErrPlan", "internal/strconv.uint64pow10", "math/bits.deBruijn32tab", "math/bits.deBruijn64tab", "dovetail/api.ErrSyntax", "dovetail/api.ErrBounds", "dovetail/api.ErrNotOperator", "dovetail/api.ErrMatrix", "dovetail/api.ErrTooBig", "dovetail/api.ErrRefused", "dovetail/api.ErrName", "dovetail/api.ErrTree", "dovetail/api.ErrLong", "dovetail/api.ErrForm", "dovetail/api.ErrSum", "dovetail/api.ErrNone", "errors.errorType"], apart := false, laid := [("math/bits.deBruijn32tab", laid_math_bits_deBruijn32tab), ("math/bits.deBruijn64tab", laid_math_bits_deBruijn64tab), ("internal/strconv.uint64pow10", laid_internal_strconv_uint64pow10), ("errors.errorType", laid_errors_errorType), ("dovetail/api.ErrArg", laid_dovetail_api_ErrArg), ("dovetail/api.ErrSyntax", laid_dovetail_api_ErrSyntax), ("dovetail/api.ErrBounds", laid_dovetail_api_ErrBounds), ("dovetail/api.ErrNotOperator", laid_dovetail_api_ErrNotOperator), ("dovetail/api.ErrMatrix", laid_dovetail_api_ErrMatrix), ("dovetail/api.ErrTooBig", laid_dovetail_api_ErrTooBig), ("dovetail/api.ErrRefused", laid_dovetail_api_ErrRefused), ("dovetail/api.ErrCut", laid_dovetail_api_ErrCut), ("dovetail/api.ErrPlan", laid_dovetail_api_ErrPlan), ("dovetail/api.ErrName", laid_dovetail_api_ErrName), ("dovetail/api.ErrTree", laid_dovetail_api_ErrTree), ("dovetail/api.ErrLong", laid_dovetail_api_ErrLong), ("dovetail/api.ErrForm", laid_dovetail_api_ErrForm), ("dovetail/api.ErrSum", laid_dovetail_api_ErrSum), ("dovetail/api.ErrNone", laid_dovetail_api_ErrNone)] }
def PlanReadsSaid : Prop := planReadsRow.holds Tryd.pinned (OpenSpec.ofChange planReadsSpec)

/-- ITS FALSE NEIGHBOUR: 'it returns false'. Refute it at one input. -/
def planReadsWrong : ChangeSpec := { name := "planReads", fn := fun _ => fun
  | [d] => { results := [.lit (.bool false)], args := [d] }
  | _ => none }
def PlanReadsWrongFalsely : Prop := planReadsRow.holds Tryd.pinned (OpenSpec.ofChange planReadsWrong)

/-- 'dovetaillaw22.PlanKnown': WHATEVER THE INPUT: true; the input reads as it did. -/
def planKnownSpec : ChangeSpec := { name := "planKnown", fn := fun _ => fun
  | [] => { results := [.lit (.bool true)], args := [] }
  | _ => none }
def planKnownRow : OpenClaim := { program := "ytcikcnkhcfhomaadoor", sum := "df9ee5a888689d46b1782d0258e8d3dee85df77586f113c4b1be1a57627f240c", func := "dovetail/dovetaillaw22.PlanKnown", spec := "planKnown", inPlace := ["internal/reflectlite.TypeOf", "internal/reflectlite.ValueOf", "(internal/reflectlite.Value).Type", "(internal/reflectlite.Value).IsNil", "(internal/reflectlite.Value).Elem", "(internal/reflectlite.Value).Set"], unfollowed := true, recurses := true, named := ["dovetail/api.ErrArg", "dovetail/api.ErrCut", "dovetail/api.ErrPlan", "internal/strconv.uint64pow10", "math/bits.deBruijn32tab", "math/bits.deBruijn64tab", "dovetail/api.ErrSyntax", "dovetail/api.ErrBounds", "dovetail/api.ErrNotOperator", "dovetail/api.ErrMatrix", "dovetail/api.ErrTooBig", "dovetail/api.ErrRefused", "dovetail/api.ErrName", "dovetail/api.ErrTree", "dovetail/api.ErrLong", "dovetail/api.ErrForm", "dovetail/api.ErrSum", "dovetail/api.ErrNone", "errors.errorType"], apart := false, laid := [("math/bits.deBruijn32tab", laid_math_bits_deBruijn32tab), ("math/bits.deBruijn64tab", laid_math_bits_deBruijn64tab), ("internal/strconv.uint64pow10", laid_internal_strconv_uint64pow10), ("errors.errorType", laid_errors_errorType), ("dovetail/api.ErrArg", laid_dovetail_api_ErrArg), ("dovetail/api.ErrSyntax", laid_dovetail_api_ErrSyntax), ("dovetail/api.ErrBounds", laid_dovetail_api_ErrBounds), ("dovetail/api.ErrNotOperator", laid_dovetail_api_ErrNotOperator), ("dovetail/api.ErrMatrix", laid_dovetail_api_ErrMatrix), ("dovetail/api.ErrTooBig", laid_dovetail_api_ErrTooBig), ("dovetail/api.ErrRefused", laid_dovetail_api_ErrRefused), ("dovetail/api.ErrCut", laid_dovetail_api_ErrCut), ("dovetail/api.ErrPlan", laid_dovetail_api_ErrPlan), ("dovetail/api.ErrName", laid_dovetail_api_ErrName), ("dovetail/api.ErrTree", laid_dovetail_api_ErrTree), ("dovetail/api.ErrLong", laid_dovetail_api_ErrLong), ("dovetail/api.ErrForm", laid_dovetail_api_ErrForm), ("dovetail/api.ErrSum", laid_dovetail_api_ErrSum), ("dovetail/api.ErrNone", laid_dovetail_api_ErrNone)] }
def PlanKnownSaid : Prop := planKnownRow.holds Tryd.pinned (OpenSpec.ofChange planKnownSpec)

/-- ITS FALSE NEIGHBOUR: 'it returns false'. Refute it at one input. -/
def planKnownWrong : ChangeSpec := { name := "planKnown", fn := fun _ => fun
  | [] => { results := [.lit (.bool false)], args := [] }
  | _ => none }
def PlanKnownWrongFalsely : Prop := planKnownRow.holds Tryd.pinned (OpenSpec.ofChange planKnownWrong)

/- THE SECOND FORM. 'bulk': how many values and letters a reading holds, each counted each time it is reached (what is shared counts as often as it is met; a slice's spare places count too). A statement '..UptoSaid' is the law's where the arguments, and the package variables that the reading takes, are together of bulk at most 1048576: NARROWER than '..Said'. Prove '..Said' where nothing that the law and all that it calls make is longer than what came in: it says more and counts as full. Else prove '..UptoSaid'. A law counts once. -/
mutual
def uptoBulk {H : Type} : DataW H → Nat
  | .lit (.string bytes) => bytes.length + 1
  | .lit _ => 1
  | .nil => 1
  | .ptr d => uptoBulk d + 1
  | .slice elems spare => uptoBulkAll elems + uptoBulkAll spare + 1
  | .agg parts => uptoBulkAll parts + 1
  | .iface _ d => uptoBulk d + 1
  | .map entries => uptoBulkEntries entries + 1
  | .held _ => 1
def uptoBulkAll {H : Type} : List (DataW H) → Nat
  | [] => 0
  | d :: r => uptoBulk d + uptoBulkAll r
def uptoBulkEntries {H : Type} : List (Lit × DataW H) → Nat
  | [] => 0
  | x :: r => uptoBulkEntry x + uptoBulkEntries r
def uptoBulkEntry {H : Type} : Lit × DataW H → Nat
  | (.string bytes, d) => bytes.length + uptoBulk d + 1
  | (_, d) => uptoBulk d + 1
 end
def uptoSmall : (H : Type) → List (DataW H) → Bool := fun _ ds => decide (uptoBulkAll ds ≤ 1048576)
def OpenSpec.upto (s : _root_.Go.ChangeSpec) : _root_.Go.OpenSpec := { _root_.Go.OpenSpec.ofChange s with cond := some uptoSmall }

/-- 'dovetaillaw22.PlanMiddle', WHERE WHAT IT READS IS OF BULK AT MOST 1048576: true; the input reads as it did. -/
def planMiddleUptoRow : OpenClaim := { program := "ytcikcnkhcfhomaadoor", sum := "df9ee5a888689d46b1782d0258e8d3dee85df77586f113c4b1be1a57627f240c", func := "dovetail/dovetaillaw22.PlanMiddle", spec := "planMiddle", named := ["dovetail/api.ErrArg", "dovetail/api.ErrPlan", "dovetail/api.ErrCut", "internal/strconv.uint64pow10", "math/bits.deBruijn32tab", "math/bits.deBruijn64tab"], apart := false, laid := [("math/bits.deBruijn32tab", laid_math_bits_deBruijn32tab), ("math/bits.deBruijn64tab", laid_math_bits_deBruijn64tab), ("internal/strconv.uint64pow10", laid_internal_strconv_uint64pow10), ("dovetail/api.ErrArg", laid_dovetail_api_ErrArg), ("dovetail/api.ErrCut", laid_dovetail_api_ErrCut), ("dovetail/api.ErrPlan", laid_dovetail_api_ErrPlan)], narrowed := true }
def PlanMiddleUptoSaid : Prop := planMiddleUptoRow.holds Tryd.pinned (OpenSpec.upto planMiddleSpec)

/-- 'dovetaillaw22.PlanOrders', WHERE WHAT IT READS IS OF BULK AT MOST 1048576: true; the input reads as it did. -/
def planOrdersUptoRow : OpenClaim := { program := "ytcikcnkhcfhomaadoor", sum := "df9ee5a888689d46b1782d0258e8d3dee85df77586f113c4b1be1a57627f240c", func := "dovetail/dovetaillaw22.PlanOrders", spec := "planOrders", unfollowed := true, recurses := true, named := ["dovetail/api.ErrArg", "dovetail/api.ErrCut", "dovetail/api.ErrPlan", "internal/strconv.uint64pow10", "math/bits.deBruijn32tab", "math/bits.deBruijn64tab"], apart := false, laid := [("math/bits.deBruijn32tab", laid_math_bits_deBruijn32tab), ("math/bits.deBruijn64tab", laid_math_bits_deBruijn64tab), ("internal/strconv.uint64pow10", laid_internal_strconv_uint64pow10), ("dovetail/api.ErrArg", laid_dovetail_api_ErrArg), ("dovetail/api.ErrCut", laid_dovetail_api_ErrCut), ("dovetail/api.ErrPlan", laid_dovetail_api_ErrPlan)], narrowed := true }
def PlanOrdersUptoSaid : Prop := planOrdersUptoRow.holds Tryd.pinned (OpenSpec.upto planOrdersSpec)

/-- 'dovetaillaw22.PlanCuts', WHERE WHAT IT READS IS OF BULK AT MOST 1048576: true; the input reads as it did. -/
def planCutsUptoRow : OpenClaim := { program := "ytcikcnkhcfhomaadoor", sum := "df9ee5a888689d46b1782d0258e8d3dee85df77586f113c4b1be1a57627f240c", func := "dovetail/dovetaillaw22.PlanCuts", spec := "planCuts", inPlace := ["internal/reflectlite.TypeOf"], unfollowed := true, recurses := true, named := ["dovetail/api.ErrArg", "dovetail/api.ErrCut", "dovetail/api.ErrSyntax", "dovetail/api.ErrBounds", "dovetail/api.ErrNotOperator", "dovetail/api.ErrMatrix", "dovetail/api.ErrTooBig", "dovetail/api.ErrRefused", "dovetail/api.ErrPlan", "dovetail/api.ErrName", "dovetail/api.ErrTree", "dovetail/api.ErrLong", "dovetail/api.ErrForm", "dovetail/api.ErrSum", "dovetail/api.ErrNone", "internal/strconv.uint64pow10", "math/bits.deBruijn32tab", "math/bits.deBruijn64tab"], apart := false, laid := [("math/bits.deBruijn32tab", laid_math_bits_deBruijn32tab), ("math/bits.deBruijn64tab", laid_math_bits_deBruijn64tab), ("internal/strconv.uint64pow10", laid_internal_strconv_uint64pow10), ("dovetail/api.ErrArg", laid_dovetail_api_ErrArg), ("dovetail/api.ErrSyntax", laid_dovetail_api_ErrSyntax), ("dovetail/api.ErrBounds", laid_dovetail_api_ErrBounds), ("dovetail/api.ErrNotOperator", laid_dovetail_api_ErrNotOperator), ("dovetail/api.ErrMatrix", laid_dovetail_api_ErrMatrix), ("dovetail/api.ErrTooBig", laid_dovetail_api_ErrTooBig), ("dovetail/api.ErrRefused", laid_dovetail_api_ErrRefused), ("dovetail/api.ErrCut", laid_dovetail_api_ErrCut), ("dovetail/api.ErrPlan", laid_dovetail_api_ErrPlan), ("dovetail/api.ErrName", laid_dovetail_api_ErrName), ("dovetail/api.ErrTree", laid_dovetail_api_ErrTree), ("dovetail/api.ErrLong", laid_dovetail_api_ErrLong), ("dovetail/api.ErrForm", laid_dovetail_api_ErrForm), ("dovetail/api.ErrSum", laid_dovetail_api_ErrSum), ("dovetail/api.ErrNone", laid_dovetail_api_ErrNone)], narrowed := true }
def PlanCutsUptoSaid : Prop := planCutsUptoRow.holds Tryd.pinned (OpenSpec.upto planCutsSpec)

/-- 'dovetaillaw22.PlanJoins', WHERE WHAT IT READS IS OF BULK AT MOST 1048576: true; the input reads as it did. -/
def planJoinsUptoRow : OpenClaim := { program := "ytcikcnkhcfhomaadoor", sum := "df9ee5a888689d46b1782d0258e8d3dee85df77586f113c4b1be1a57627f240c", func := "dovetail/dovetaillaw22.PlanJoins", spec := "planJoins", inPlace := ["internal/reflectlite.TypeOf"], unfollowed := true, recurses := true, named := ["dovetail/api.ErrArg", "dovetail/api.ErrCut", "dovetail/api.ErrPlan", "internal/strconv.uint64pow10", "math/bits.deBruijn32tab", "math/bits.deBruijn64tab", "dovetail/api.ErrSyntax", "dovetail/api.ErrBounds", "dovetail/api.ErrNotOperator", "dovetail/api.ErrMatrix", "dovetail/api.ErrTooBig", "dovetail/api.ErrRefused", "dovetail/api.ErrName", "dovetail/api.ErrTree", "dovetail/api.ErrLong", "dovetail/api.ErrForm", "dovetail/api.ErrSum", "dovetail/api.ErrNone"], apart := false, laid := [("math/bits.deBruijn32tab", laid_math_bits_deBruijn32tab), ("math/bits.deBruijn64tab", laid_math_bits_deBruijn64tab), ("internal/strconv.uint64pow10", laid_internal_strconv_uint64pow10), ("dovetail/api.ErrArg", laid_dovetail_api_ErrArg), ("dovetail/api.ErrSyntax", laid_dovetail_api_ErrSyntax), ("dovetail/api.ErrBounds", laid_dovetail_api_ErrBounds), ("dovetail/api.ErrNotOperator", laid_dovetail_api_ErrNotOperator), ("dovetail/api.ErrMatrix", laid_dovetail_api_ErrMatrix), ("dovetail/api.ErrTooBig", laid_dovetail_api_ErrTooBig), ("dovetail/api.ErrRefused", laid_dovetail_api_ErrRefused), ("dovetail/api.ErrCut", laid_dovetail_api_ErrCut), ("dovetail/api.ErrPlan", laid_dovetail_api_ErrPlan), ("dovetail/api.ErrName", laid_dovetail_api_ErrName), ("dovetail/api.ErrTree", laid_dovetail_api_ErrTree), ("dovetail/api.ErrLong", laid_dovetail_api_ErrLong), ("dovetail/api.ErrForm", laid_dovetail_api_ErrForm), ("dovetail/api.ErrSum", laid_dovetail_api_ErrSum), ("dovetail/api.ErrNone", laid_dovetail_api_ErrNone)], narrowed := true }
def PlanJoinsUptoSaid : Prop := planJoinsUptoRow.holds Tryd.pinned (OpenSpec.upto planJoinsSpec)

/-- 'dovetaillaw22.PlanThere', WHERE WHAT IT READS IS OF BULK AT MOST 1048576: true; the input reads as it did. -/
def planThereUptoRow : OpenClaim := { program := "ytcikcnkhcfhomaadoor", sum := "df9ee5a888689d46b1782d0258e8d3dee85df77586f113c4b1be1a57627f240c", func := "dovetail/dovetaillaw22.PlanThere", spec := "planThere", unfollowed := true, recurses := true, named := ["dovetail/api.ErrArg", "dovetail/api.ErrCut", "dovetail/api.ErrPlan", "internal/strconv.uint64pow10", "math/bits.deBruijn32tab", "math/bits.deBruijn64tab", "dovetail/api.ErrSyntax"], apart := false, laid := [("math/bits.deBruijn32tab", laid_math_bits_deBruijn32tab), ("math/bits.deBruijn64tab", laid_math_bits_deBruijn64tab), ("internal/strconv.uint64pow10", laid_internal_strconv_uint64pow10), ("dovetail/api.ErrArg", laid_dovetail_api_ErrArg), ("dovetail/api.ErrSyntax", laid_dovetail_api_ErrSyntax), ("dovetail/api.ErrCut", laid_dovetail_api_ErrCut), ("dovetail/api.ErrPlan", laid_dovetail_api_ErrPlan)], narrowed := true }
def PlanThereUptoSaid : Prop := planThereUptoRow.holds Tryd.pinned (OpenSpec.upto planThereSpec)

/-- 'dovetaillaw22.PlanReads', WHERE WHAT IT READS IS OF BULK AT MOST 1048576: true; the input reads as it did. -/
def planReadsUptoRow : OpenClaim := { program := "ytcikcnkhcfhomaadoor", sum := "df9ee5a888689d46b1782d0258e8d3dee85df77586f113c4b1be1a57627f240c", func := "dovetail/dovetaillaw22.PlanReads", spec := "planReads", inPlace := ["internal/reflectlite.TypeOf", "internal/reflectlite.ValueOf", "(internal/reflectlite.Value).Type", "(internal/reflectlite.Value).IsNil", "(internal/reflectlite.Value).Elem", "(internal/reflectlite.Value).Set"], unfollowed := true, recurses := true, named := ["dovetail/api.ErrArg", "dovetail/api.ErrCut", "dovetail/api.ErrPlan", "internal/strconv.uint64pow10", "math/bits.deBruijn32tab", "math/bits.deBruijn64tab", "dovetail/api.ErrSyntax", "dovetail/api.ErrBounds", "dovetail/api.ErrNotOperator", "dovetail/api.ErrMatrix", "dovetail/api.ErrTooBig", "dovetail/api.ErrRefused", "dovetail/api.ErrName", "dovetail/api.ErrTree", "dovetail/api.ErrLong", "dovetail/api.ErrForm", "dovetail/api.ErrSum", "dovetail/api.ErrNone", "errors.errorType"], apart := false, laid := [("math/bits.deBruijn32tab", laid_math_bits_deBruijn32tab), ("math/bits.deBruijn64tab", laid_math_bits_deBruijn64tab), ("internal/strconv.uint64pow10", laid_internal_strconv_uint64pow10), ("errors.errorType", laid_errors_errorType), ("dovetail/api.ErrArg", laid_dovetail_api_ErrArg), ("dovetail/api.ErrSyntax", laid_dovetail_api_ErrSyntax), ("dovetail/api.ErrBounds", laid_dovetail_api_ErrBounds), ("dovetail/api.ErrNotOperator", laid_dovetail_api_ErrNotOperator), ("dovetail/api.ErrMatrix", laid_dovetail_api_ErrMatrix), ("dovetail/api.ErrTooBig", laid_dovetail_api_ErrTooBig), ("dovetail/api.ErrRefused", laid_dovetail_api_ErrRefused), ("dovetail/api.ErrCut", laid_dovetail_api_ErrCut), ("dovetail/api.ErrPlan", laid_dovetail_api_ErrPlan), ("dovetail/api.ErrName", laid_dovetail_api_ErrName), ("dovetail/api.ErrTree", laid_dovetail_api_ErrTree), ("dovetail/api.ErrLong", laid_dovetail_api_ErrLong), ("dovetail/api.ErrForm", laid_dovetail_api_ErrForm), ("dovetail/api.ErrSum", laid_dovetail_api_ErrSum), ("dovetail/api.ErrNone", laid_dovetail_api_ErrNone)], narrowed := true }
def PlanReadsUptoSaid : Prop := planReadsUptoRow.holds Tryd.pinned (OpenSpec.upto planReadsSpec)

/-- 'dovetaillaw22.PlanKnown', WHERE WHAT IT READS IS OF BULK AT MOST 1048576: true; the input reads as it did. -/
def planKnownUptoRow : OpenClaim := { program := "ytcikcnkhcfhomaadoor", sum := "df9ee5a888689d46b1782d0258e8d3dee85df77586f113c4b1be1a57627f240c", func := "dovetail/dovetaillaw22.PlanKnown", spec := "planKnown", inPlace := ["internal/reflectlite.TypeOf", "internal/reflectlite.ValueOf", "(internal/reflectlite.Value).Type", "(internal/reflectlite.Value).IsNil", "(internal/reflectlite.Value).Elem", "(internal/reflectlite.Value).Set"], unfollowed := true, recurses := true, named := ["dovetail/api.ErrArg", "dovetail/api.ErrCut", "dovetail/api.ErrPlan", "internal/strconv.uint64pow10", "math/bits.deBruijn32tab", "math/bits.deBruijn64tab", "dovetail/api.ErrSyntax", "dovetail/api.ErrBounds", "dovetail/api.ErrNotOperator", "dovetail/api.ErrMatrix", "dovetail/api.ErrTooBig", "dovetail/api.ErrRefused", "dovetail/api.ErrName", "dovetail/api.ErrTree", "dovetail/api.ErrLong", "dovetail/api.ErrForm", "dovetail/api.ErrSum", "dovetail/api.ErrNone", "errors.errorType"], apart := false, laid := [("math/bits.deBruijn32tab", laid_math_bits_deBruijn32tab), ("math/bits.deBruijn64tab", laid_math_bits_deBruijn64tab), ("internal/strconv.uint64pow10", laid_internal_strconv_uint64pow10), ("errors.errorType", laid_errors_errorType), ("dovetail/api.ErrArg", laid_dovetail_api_ErrArg), ("dovetail/api.ErrSyntax", laid_dovetail_api_ErrSyntax), ("dovetail/api.ErrBounds", laid_dovetail_api_ErrBounds), ("dovetail/api.ErrNotOperator", laid_dovetail_api_ErrNotOperator), ("dovetail/api.ErrMatrix", laid_dovetail_api_ErrMatrix), ("dovetail/api.ErrTooBig", laid_dovetail_api_ErrTooBig), ("dovetail/api.ErrRefused", laid_dovetail_api_ErrRefused), ("dovetail/api.ErrCut", laid_dovetail_api_ErrCut), ("dovetail/api.ErrPlan", laid_dovetail_api_ErrPlan), ("dovetail/api.ErrName", laid_dovetail_api_ErrName), ("dovetail/api.ErrTree", laid_dovetail_api_ErrTree), ("dovetail/api.ErrLong", laid_dovetail_api_ErrLong), ("dovetail/api.ErrForm", laid_dovetail_api_ErrForm), ("dovetail/api.ErrSum", laid_dovetail_api_ErrSum), ("dovetail/api.ErrNone", laid_dovetail_api_ErrNone)], narrowed := true }
def PlanKnownUptoSaid : Prop := planKnownUptoRow.holds Tryd.pinned (OpenSpec.upto planKnownSpec)

end Rows
end Go.Proofs.YtcikcnkhcfhomaaDoor
