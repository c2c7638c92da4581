/-
  NARROWER THAN 'FOR EVERY INPUT', by the rows' own cells (each row's printed sentence says how): MemberSets: laid · MemberDerives: laid · MemberTwice: laid · MemberOwn: laid · MemberCounts: laid · MemberRules: laid · MemberMore: laid.
  DERIVED. THE GIVEN ROWS OF THIS SEAT. 7 by the template 'for every input the law returns true; each argument reads behind the call as it read before'; 0 by the template 'total and deterministic' (their statements: YtndimnomkcjeiaaDoorTotals.lean).
  GIVEN WITH THE SEED: the statements are not yours to turn. If you find one false, say at which input.
  Laid BY PROGRAM, IN A SANDBOX (cutbox-rows.mjs): the forced cells as the released guide's own fill.sh prints them over the translation c225769e422c74d0… (all of the seat's roots in one cut). By AI agents, Wed Nov 11 2026. No macro, syntax, notation, axiom, sorry.
-/
import Derived.Test.YtndimnomkcjeiaaDoorChecked
import GoSem.Claim
import GoSem.ClaimJoined
import GoSem.ClaimMapViews
import Derived.JoinedTies
import Derived.KernelRfl
namespace Go.Proofs.YtndimnomkcjeiaaDoor
/- THE CELL 'sum', in the pinned program and in every row, IS THE sha256 OF THE DUMP (.gsa) THAT YtndimnomkcjeiaaDoorProg.lean LOADS. Nothing in Lean hashes anything: it is a label: what it is worth is what the hold of that sum in a sandbox is worth. -/
noncomputable def Tryd.pinned : Pinned := { name := "ytndimnomkcjeiaadoor", sum := "c225769e422c74d0e29997a9751b4b1fec1de351ff785ea05005469d1b16296a", checked := Tryd.checked }
namespace Rows
def none {H : Type} : Left H := { results := [], args := [] }

/- WHAT THE LISTED PACKAGE-LEVEL VARIABLES READ AS WHEN THE CALL BEGINS. Each datum BY PROGRAM (the guide's laid-datum.mjs) off the statement by which the dump's own 'gosem.cut.vars' lays the variable. In a bare row this is a premise. The card (YtndimnomkcjeiaaDoorCards.lean) ties it to the program's text. -/
def laid_dovetail_api_ErrArg {H : Type} : DataW H := .iface "*errors.errorString" (.ptr (.agg [.lit (.string [100, 111, 118, 101, 116, 97, 105, 108, 58, 32, 97, 114, 103, 117, 109, 101, 110, 116])]))
def laid_dovetail_api_ErrSyntax {H : Type} : DataW H := .iface "*errors.errorString" (.ptr (.agg [.lit (.string [100, 111, 118, 101, 116, 97, 105, 108, 58, 32, 115, 121, 110, 116, 97, 120])]))
def laid_dovetail_api_ErrBounds {H : Type} : DataW H := .iface "*errors.errorString" (.ptr (.agg [.lit (.string [100, 111, 118, 101, 116, 97, 105, 108, 58, 32, 98, 111, 117, 110, 100, 115])]))
def laid_dovetail_api_ErrNotOperator {H : Type} : DataW H := .iface "*errors.errorString" (.ptr (.agg [.lit (.string [100, 111, 118, 101, 116, 97, 105, 108, 58, 32, 110, 111, 116, 32, 97, 110, 32, 111, 112, 101, 114, 97, 116, 111, 114, 32, 103, 114, 97, 109, 109, 97, 114])]))
def laid_dovetail_api_ErrMatrix {H : Type} : DataW H := .iface "*errors.errorString" (.ptr (.agg [.lit (.string [100, 111, 118, 101, 116, 97, 105, 108, 58, 32, 116, 119, 111, 32, 114, 101, 108, 97, 116, 105, 111, 110, 115])]))
def laid_dovetail_api_ErrTooBig {H : Type} : DataW H := .iface "*errors.errorString" (.ptr (.agg [.lit (.string [100, 111, 118, 101, 116, 97, 105, 108, 58, 32, 116, 111, 111, 32, 98, 105, 103])]))
def laid_dovetail_api_ErrRefused {H : Type} : DataW H := .iface "*errors.errorString" (.ptr (.agg [.lit (.string [100, 111, 118, 101, 116, 97, 105, 108, 58, 32, 114, 101, 102, 117, 115, 101, 100])]))
def laid_dovetail_api_ErrCut {H : Type} : DataW H := .iface "*errors.errorString" (.ptr (.agg [.lit (.string [100, 111, 118, 101, 116, 97, 105, 108, 58, 32, 99, 117, 116])]))
def laid_dovetail_api_ErrPlan {H : Type} : DataW H := .iface "*errors.errorString" (.ptr (.agg [.lit (.string [100, 111, 118, 101, 116, 97, 105, 108, 58, 32, 112, 108, 97, 110])]))
def laid_dovetail_api_ErrName {H : Type} : DataW H := .iface "*errors.errorString" (.ptr (.agg [.lit (.string [100, 111, 118, 101, 116, 97, 105, 108, 58, 32, 110, 97, 109, 101])]))
def laid_dovetail_api_ErrTree {H : Type} : DataW H := .iface "*errors.errorString" (.ptr (.agg [.lit (.string [100, 111, 118, 101, 116, 97, 105, 108, 58, 32, 116, 114, 101, 101])]))
def laid_dovetail_api_ErrLong {H : Type} : DataW H := .iface "*errors.errorString" (.ptr (.agg [.lit (.string [100, 111, 118, 101, 116, 97, 105, 108, 58, 32, 108, 111, 110, 103])]))
def laid_dovetail_api_ErrForm {H : Type} : DataW H := .iface "*errors.errorString" (.ptr (.agg [.lit (.string [100, 111, 118, 101, 116, 97, 105, 108, 58, 32, 102, 111, 114, 109])]))
def laid_dovetail_api_ErrSum {H : Type} : DataW H := .iface "*errors.errorString" (.ptr (.agg [.lit (.string [100, 111, 118, 101, 116, 97, 105, 108, 58, 32, 115, 117, 109])]))
def laid_dovetail_api_ErrNone {H : Type} : DataW H := .iface "*errors.errorString" (.ptr (.agg [.lit (.string [100, 111, 118, 101, 116, 97, 105, 108, 58, 32, 110, 111, 110, 101])]))

/-- 'dovetaillaw24.MemberSets': WHATEVER THE INPUT: true; the input reads as it did. -/
def memberSetsSpec : ChangeSpec := { name := "memberSets", fn := fun _ => fun
  | [d1, d2] => { results := [.lit (.bool true)], args := [d1, d2] }
  | _ => none }
def memberSetsRow : OpenClaim := { program := "ytndimnomkcjeiaadoor", sum := "c225769e422c74d0e29997a9751b4b1fec1de351ff785ea05005469d1b16296a", func := "dovetail/dovetaillaw24.MemberSets", spec := "memberSets", inPlace := ["internal/reflectlite.TypeOf"], unfollowed := true, recurses := true, named := ["dovetail/api.ErrLong", "dovetail/api.ErrArg", "dovetail/api.ErrBounds", "dovetail/api.ErrName", "dovetail/api.ErrSyntax", "dovetail/api.ErrNotOperator", "dovetail/api.ErrMatrix", "dovetail/api.ErrTooBig", "dovetail/api.ErrRefused", "dovetail/api.ErrCut", "dovetail/api.ErrPlan", "dovetail/api.ErrTree", "dovetail/api.ErrForm", "dovetail/api.ErrSum", "dovetail/api.ErrNone"], plainKeys := false, apart := false, laid := [("dovetail/api.ErrArg", laid_dovetail_api_ErrArg), ("dovetail/api.ErrSyntax", laid_dovetail_api_ErrSyntax), ("dovetail/api.ErrBounds", laid_dovetail_api_ErrBounds), ("dovetail/api.ErrNotOperator", laid_dovetail_api_ErrNotOperator), ("dovetail/api.ErrMatrix", laid_dovetail_api_ErrMatrix), ("dovetail/api.ErrTooBig", laid_dovetail_api_ErrTooBig), ("dovetail/api.ErrRefused", laid_dovetail_api_ErrRefused), ("dovetail/api.ErrCut", laid_dovetail_api_ErrCut), ("dovetail/api.ErrPlan", laid_dovetail_api_ErrPlan), ("dovetail/api.ErrName", laid_dovetail_api_ErrName), ("dovetail/api.ErrTree", laid_dovetail_api_ErrTree), ("dovetail/api.ErrLong", laid_dovetail_api_ErrLong), ("dovetail/api.ErrForm", laid_dovetail_api_ErrForm), ("dovetail/api.ErrSum", laid_dovetail_api_ErrSum), ("dovetail/api.ErrNone", laid_dovetail_api_ErrNone)] }
def MemberSetsSaid : Prop := memberSetsRow.holds Tryd.pinned (OpenSpec.ofChange memberSetsSpec)

/-- ITS FALSE NEIGHBOUR: 'it returns false'. Refute it at one input. -/
def memberSetsWrong : ChangeSpec := { name := "memberSets", fn := fun _ => fun
  | [d1, d2] => { results := [.lit (.bool false)], args := [d1, d2] }
  | _ => none }
def MemberSetsWrongFalsely : Prop := memberSetsRow.holds Tryd.pinned (OpenSpec.ofChange memberSetsWrong)

/-- 'dovetaillaw24.MemberDerives': WHATEVER THE INPUT: true; the input reads as it did. -/
def memberDerivesSpec : ChangeSpec := { name := "memberDerives", fn := fun _ => fun
  | [d1, d2, d3] => { results := [.lit (.bool true)], args := [d1, d2, d3] }
  | _ => none }
def memberDerivesRow : OpenClaim := { program := "ytndimnomkcjeiaadoor", sum := "c225769e422c74d0e29997a9751b4b1fec1de351ff785ea05005469d1b16296a", func := "dovetail/dovetaillaw24.MemberDerives", spec := "memberDerives", inPlace := ["internal/reflectlite.TypeOf"], unfollowed := true, recurses := true, named := ["dovetail/api.ErrArg", "dovetail/api.ErrLong", "dovetail/api.ErrBounds", "dovetail/api.ErrName", "dovetail/api.ErrSyntax", "dovetail/api.ErrNotOperator", "dovetail/api.ErrMatrix", "dovetail/api.ErrTooBig", "dovetail/api.ErrRefused", "dovetail/api.ErrCut", "dovetail/api.ErrPlan", "dovetail/api.ErrTree", "dovetail/api.ErrForm", "dovetail/api.ErrSum", "dovetail/api.ErrNone"], plainKeys := false, apart := false, laid := [("dovetail/api.ErrArg", laid_dovetail_api_ErrArg), ("dovetail/api.ErrSyntax", laid_dovetail_api_ErrSyntax), ("dovetail/api.ErrBounds", laid_dovetail_api_ErrBounds), ("dovetail/api.ErrNotOperator", laid_dovetail_api_ErrNotOperator), ("dovetail/api.ErrMatrix", laid_dovetail_api_ErrMatrix), ("dovetail/api.ErrTooBig", laid_dovetail_api_ErrTooBig), ("dovetail/api.ErrRefused", laid_dovetail_api_ErrRefused), ("dovetail/api.ErrCut", laid_dovetail_api_ErrCut), ("dovetail/api.ErrPlan", laid_dovetail_api_ErrPlan), ("dovetail/api.ErrName", laid_dovetail_api_ErrName), ("dovetail/api.ErrTree", laid_dovetail_api_ErrTree), ("dovetail/api.ErrLong", laid_dovetail_api_ErrLong), ("dovetail/api.ErrForm", laid_dovetail_api_ErrForm), ("dovetail/api.ErrSum", laid_dovetail_api_ErrSum), ("dovetail/api.ErrNone", laid_dovetail_api_ErrNone)] }
def MemberDerivesSaid : Prop := memberDerivesRow.holds Tryd.pinned (OpenSpec.ofChange memberDerivesSpec)

/-- ITS FALSE NEIGHBOUR: 'it returns false'. Refute it at one input. -/
def memberDerivesWrong : ChangeSpec := { name := "memberDerives", fn := fun _ => fun
  | [d1, d2, d3] => { results := [.lit (.bool false)], args := [d1, d2, d3] }
  | _ => none }
def MemberDerivesWrongFalsely : Prop := memberDerivesRow.holds Tryd.pinned (OpenSpec.ofChange memberDerivesWrong)

/-- 'dovetaillaw24.MemberTwice': WHATEVER THE INPUT: true; the input reads as it did. -/
def memberTwiceSpec : ChangeSpec := { name := "memberTwice", fn := fun _ => fun
  | [d1, d2] => { results := [.lit (.bool true)], args := [d1, d2] }
  | _ => none }
def memberTwiceRow : OpenClaim := { program := "ytndimnomkcjeiaadoor", sum := "c225769e422c74d0e29997a9751b4b1fec1de351ff785ea05005469d1b16296a", func := "dovetail/dovetaillaw24.MemberTwice", spec := "memberTwice", inPlace := ["math/bits.Add64"], unfollowed := true, recurses := true, named := ["dovetail/api.ErrLong", "dovetail/api.ErrArg", "dovetail/api.ErrBounds", "dovetail/api.ErrName"], plainKeys := false, apart := false, laid := [("dovetail/api.ErrArg", laid_dovetail_api_ErrArg), ("dovetail/api.ErrBounds", laid_dovetail_api_ErrBounds), ("dovetail/api.ErrName", laid_dovetail_api_ErrName), ("dovetail/api.ErrLong", laid_dovetail_api_ErrLong)] }
def MemberTwiceSaid : Prop := memberTwiceRow.holds Tryd.pinned (OpenSpec.ofChange memberTwiceSpec)

/-- ITS FALSE NEIGHBOUR: 'it returns false'. Refute it at one input. -/
def memberTwiceWrong : ChangeSpec := { name := "memberTwice", fn := fun _ => fun
  | [d1, d2] => { results := [.lit (.bool false)], args := [d1, d2] }
  | _ => none }
def MemberTwiceWrongFalsely : Prop := memberTwiceRow.holds Tryd.pinned (OpenSpec.ofChange memberTwiceWrong)

/-- 'dovetaillaw24.MemberOwn': WHATEVER THE INPUT: true; the input reads as it did. -/
def memberOwnSpec : ChangeSpec := { name := "memberOwn", fn := fun _ => fun
  | [d1, d2] => { results := [.lit (.bool true)], args := [d1, d2] }
  | _ => none }
def memberOwnRow : OpenClaim := { program := "ytndimnomkcjeiaadoor", sum := "c225769e422c74d0e29997a9751b4b1fec1de351ff785ea05005469d1b16296a", func := "dovetail/dovetaillaw24.MemberOwn", spec := "memberOwn", inPlace := ["math/bits.Add64"], unfollowed := true, recurses := true, named := ["dovetail/api.ErrLong", "dovetail/api.ErrArg", "dovetail/api.ErrBounds", "dovetail/api.ErrName"], plainKeys := false, apart := false, laid := [("dovetail/api.ErrArg", laid_dovetail_api_ErrArg), ("dovetail/api.ErrBounds", laid_dovetail_api_ErrBounds), ("dovetail/api.ErrName", laid_dovetail_api_ErrName), ("dovetail/api.ErrLong", laid_dovetail_api_ErrLong)] }
def MemberOwnSaid : Prop := memberOwnRow.holds Tryd.pinned (OpenSpec.ofChange memberOwnSpec)

/-- ITS FALSE NEIGHBOUR: 'it returns false'. Refute it at one input. -/
def memberOwnWrong : ChangeSpec := { name := "memberOwn", fn := fun _ => fun
  | [d1, d2] => { results := [.lit (.bool false)], args := [d1, d2] }
  | _ => none }
def MemberOwnWrongFalsely : Prop := memberOwnRow.holds Tryd.pinned (OpenSpec.ofChange memberOwnWrong)

/-- 'dovetaillaw24.MemberCounts': WHATEVER THE INPUT: true; the input reads as it did. -/
def memberCountsSpec : ChangeSpec := { name := "memberCounts", fn := fun _ => fun
  | [d1, d2] => { results := [.lit (.bool true)], args := [d1, d2] }
  | _ => none }
def memberCountsRow : OpenClaim := { program := "ytndimnomkcjeiaadoor", sum := "c225769e422c74d0e29997a9751b4b1fec1de351ff785ea05005469d1b16296a", func := "dovetail/dovetaillaw24.MemberCounts", spec := "memberCounts", inPlace := ["math/bits.Add64", "internal/reflectlite.TypeOf"], unfollowed := true, recurses := true, named := ["dovetail/api.ErrLong", "dovetail/api.ErrArg", "dovetail/api.ErrBounds", "dovetail/api.ErrName", "dovetail/api.ErrSyntax", "dovetail/api.ErrNotOperator", "dovetail/api.ErrMatrix", "dovetail/api.ErrTooBig", "dovetail/api.ErrRefused", "dovetail/api.ErrCut", "dovetail/api.ErrPlan", "dovetail/api.ErrTree", "dovetail/api.ErrForm", "dovetail/api.ErrSum", "dovetail/api.ErrNone"], plainKeys := false, apart := false, laid := [("dovetail/api.ErrArg", laid_dovetail_api_ErrArg), ("dovetail/api.ErrSyntax", laid_dovetail_api_ErrSyntax), ("dovetail/api.ErrBounds", laid_dovetail_api_ErrBounds), ("dovetail/api.ErrNotOperator", laid_dovetail_api_ErrNotOperator), ("dovetail/api.ErrMatrix", laid_dovetail_api_ErrMatrix), ("dovetail/api.ErrTooBig", laid_dovetail_api_ErrTooBig), ("dovetail/api.ErrRefused", laid_dovetail_api_ErrRefused), ("dovetail/api.ErrCut", laid_dovetail_api_ErrCut), ("dovetail/api.ErrPlan", laid_dovetail_api_ErrPlan), ("dovetail/api.ErrName", laid_dovetail_api_ErrName), ("dovetail/api.ErrTree", laid_dovetail_api_ErrTree), ("dovetail/api.ErrLong", laid_dovetail_api_ErrLong), ("dovetail/api.ErrForm", laid_dovetail_api_ErrForm), ("dovetail/api.ErrSum", laid_dovetail_api_ErrSum), ("dovetail/api.ErrNone", laid_dovetail_api_ErrNone)] }
def MemberCountsSaid : Prop := memberCountsRow.holds Tryd.pinned (OpenSpec.ofChange memberCountsSpec)

/-- ITS FALSE NEIGHBOUR: 'it returns false'. Refute it at one input. -/
def memberCountsWrong : ChangeSpec := { name := "memberCounts", fn := fun _ => fun
  | [d1, d2] => { results := [.lit (.bool false)], args := [d1, d2] }
  | _ => none }
def MemberCountsWrongFalsely : Prop := memberCountsRow.holds Tryd.pinned (OpenSpec.ofChange memberCountsWrong)

/-- 'dovetaillaw24.MemberRules': WHATEVER THE INPUT: true; the input reads as it did. -/
def memberRulesSpec : ChangeSpec := { name := "memberRules", fn := fun _ => fun
  | [d1, d2] => { results := [.lit (.bool true)], args := [d1, d2] }
  | _ => none }
def memberRulesRow : OpenClaim := { program := "ytndimnomkcjeiaadoor", sum := "c225769e422c74d0e29997a9751b4b1fec1de351ff785ea05005469d1b16296a", func := "dovetail/dovetaillaw24.MemberRules", spec := "memberRules", inPlace := ["math/bits.Add64", "internal/reflectlite.TypeOf"], unfollowed := true, recurses := true, named := ["dovetail/api.ErrLong", "dovetail/api.ErrArg", "dovetail/api.ErrBounds", "dovetail/api.ErrName", "dovetail/api.ErrSyntax", "dovetail/api.ErrNotOperator", "dovetail/api.ErrMatrix", "dovetail/api.ErrTooBig", "dovetail/api.ErrRefused", "dovetail/api.ErrCut", "dovetail/api.ErrPlan", "dovetail/api.ErrTree", "dovetail/api.ErrForm", "dovetail/api.ErrSum", "dovetail/api.ErrNone"], plainKeys := false, apart := false, laid := [("dovetail/api.ErrArg", laid_dovetail_api_ErrArg), ("dovetail/api.ErrSyntax", laid_dovetail_api_ErrSyntax), ("dovetail/api.ErrBounds", laid_dovetail_api_ErrBounds), ("dovetail/api.ErrNotOperator", laid_dovetail_api_ErrNotOperator), ("dovetail/api.ErrMatrix", laid_dovetail_api_ErrMatrix), ("dovetail/api.ErrTooBig", laid_dovetail_api_ErrTooBig), ("dovetail/api.ErrRefused", laid_dovetail_api_ErrRefused), ("dovetail/api.ErrCut", laid_dovetail_api_ErrCut), ("dovetail/api.ErrPlan", laid_dovetail_api_ErrPlan), ("dovetail/api.ErrName", laid_dovetail_api_ErrName), ("dovetail/api.ErrTree", laid_dovetail_api_ErrTree), ("dovetail/api.ErrLong", laid_dovetail_api_ErrLong), ("dovetail/api.ErrForm", laid_dovetail_api_ErrForm), ("dovetail/api.ErrSum", laid_dovetail_api_ErrSum), ("dovetail/api.ErrNone", laid_dovetail_api_ErrNone)] }
def MemberRulesSaid : Prop := memberRulesRow.holds Tryd.pinned (OpenSpec.ofChange memberRulesSpec)

/-- ITS FALSE NEIGHBOUR: 'it returns false'. Refute it at one input. -/
def memberRulesWrong : ChangeSpec := { name := "memberRules", fn := fun _ => fun
  | [d1, d2] => { results := [.lit (.bool false)], args := [d1, d2] }
  | _ => none }
def MemberRulesWrongFalsely : Prop := memberRulesRow.holds Tryd.pinned (OpenSpec.ofChange memberRulesWrong)

/-- 'dovetaillaw24.MemberMore': WHATEVER THE INPUT: true; the input reads as it did. -/
def memberMoreSpec : ChangeSpec := { name := "memberMore", fn := fun _ => fun
  | [d1, d2, d3] => { results := [.lit (.bool true)], args := [d1, d2, d3] }
  | _ => none }
def memberMoreRow : OpenClaim := { program := "ytndimnomkcjeiaadoor", sum := "c225769e422c74d0e29997a9751b4b1fec1de351ff785ea05005469d1b16296a", func := "dovetail/dovetaillaw24.MemberMore", spec := "memberMore", inPlace := ["math/bits.Add64", "internal/reflectlite.TypeOf"], unfollowed := true, recurses := true, named := ["dovetail/api.ErrLong", "dovetail/api.ErrArg", "dovetail/api.ErrBounds", "dovetail/api.ErrName", "dovetail/api.ErrSyntax", "dovetail/api.ErrNotOperator", "dovetail/api.ErrMatrix", "dovetail/api.ErrTooBig", "dovetail/api.ErrRefused", "dovetail/api.ErrCut", "dovetail/api.ErrPlan", "dovetail/api.ErrTree", "dovetail/api.ErrForm", "dovetail/api.ErrSum", "dovetail/api.ErrNone"], plainKeys := false, apart := false, laid := [("dovetail/api.ErrArg", laid_dovetail_api_ErrArg), ("dovetail/api.ErrSyntax", laid_dovetail_api_ErrSyntax), ("dovetail/api.ErrBounds", laid_dovetail_api_ErrBounds), ("dovetail/api.ErrNotOperator", laid_dovetail_api_ErrNotOperator), ("dovetail/api.ErrMatrix", laid_dovetail_api_ErrMatrix), ("dovetail/api.ErrTooBig", laid_dovetail_api_ErrTooBig), ("dovetail/api.ErrRefused", laid_dovetail_api_ErrRefused), ("dovetail/api.ErrCut", laid_dovetail_api_ErrCut), ("dovetail/api.ErrPlan", laid_dovetail_api_ErrPlan), ("dovetail/api.ErrName", laid_dovetail_api_ErrName), ("dovetail/api.ErrTree", laid_dovetail_api_ErrTree), ("dovetail/api.ErrLong", laid_dovetail_api_ErrLong), ("dovetail/api.ErrForm", laid_dovetail_api_ErrForm), ("dovetail/api.ErrSum", laid_dovetail_api_ErrSum), ("dovetail/api.ErrNone", laid_dovetail_api_ErrNone)] }
def MemberMoreSaid : Prop := memberMoreRow.holds Tryd.pinned (OpenSpec.ofChange memberMoreSpec)

/-- ITS FALSE NEIGHBOUR: 'it returns false'. Refute it at one input. -/
def memberMoreWrong : ChangeSpec := { name := "memberMore", fn := fun _ => fun
  | [d1, d2, d3] => { results := [.lit (.bool false)], args := [d1, d2, d3] }
  | _ => none }
def MemberMoreWrongFalsely : Prop := memberMoreRow.holds Tryd.pinned (OpenSpec.ofChange memberMoreWrong)

/- THE SECOND FORM. 'bulk': how many values and letters a reading holds, each counted each time it is reached (what is shared counts as often as it is met; a slice's spare places count too). A statement '..UptoSaid' is the law's where the arguments, and the package variables that the reading takes, are together of bulk at most 1048576: NARROWER than '..Said'. Prove '..Said' where nothing that the law and all that it calls make is longer than what came in: it says more and counts as full. Else prove '..UptoSaid'. A law counts once. -/
mutual
def uptoBulk {H : Type} : DataW H → Nat
  | .lit (.string bytes) => bytes.length + 1
  | .lit _ => 1
  | .nil => 1
  | .ptr d => uptoBulk d + 1
  | .slice elems spare => uptoBulkAll elems + uptoBulkAll spare + 1
  | .agg parts => uptoBulkAll parts + 1
  | .iface _ d => uptoBulk d + 1
  | .map entries => uptoBulkEntries entries + 1
  | .held _ => 1
def uptoBulkAll {H : Type} : List (DataW H) → Nat
  | [] => 0
  | d :: r => uptoBulk d + uptoBulkAll r
def uptoBulkEntries {H : Type} : List (Lit × DataW H) → Nat
  | [] => 0
  | x :: r => uptoBulkEntry x + uptoBulkEntries r
def uptoBulkEntry {H : Type} : Lit × DataW H → Nat
  | (.string bytes, d) => bytes.length + uptoBulk d + 1
  | (_, d) => uptoBulk d + 1
 end
def uptoSmall : (H : Type) → List (DataW H) → Bool := fun _ ds => decide (uptoBulkAll ds ≤ 1048576)
def OpenSpec.upto (s : _root_.Go.ChangeSpec) : _root_.Go.OpenSpec := { _root_.Go.OpenSpec.ofChange s with cond := some uptoSmall }

/-- 'dovetaillaw24.MemberSets', WHERE WHAT IT READS IS OF BULK AT MOST 1048576: true; the input reads as it did. -/
def memberSetsUptoRow : OpenClaim := { program := "ytndimnomkcjeiaadoor", sum := "c225769e422c74d0e29997a9751b4b1fec1de351ff785ea05005469d1b16296a", func := "dovetail/dovetaillaw24.MemberSets", spec := "memberSets", inPlace := ["internal/reflectlite.TypeOf"], unfollowed := true, recurses := true, named := ["dovetail/api.ErrLong", "dovetail/api.ErrArg", "dovetail/api.ErrBounds", "dovetail/api.ErrName", "dovetail/api.ErrSyntax", "dovetail/api.ErrNotOperator", "dovetail/api.ErrMatrix", "dovetail/api.ErrTooBig", "dovetail/api.ErrRefused", "dovetail/api.ErrCut", "dovetail/api.ErrPlan", "dovetail/api.ErrTree", "dovetail/api.ErrForm", "dovetail/api.ErrSum", "dovetail/api.ErrNone"], plainKeys := false, apart := false, laid := [("dovetail/api.ErrArg", laid_dovetail_api_ErrArg), ("dovetail/api.ErrSyntax", laid_dovetail_api_ErrSyntax), ("dovetail/api.ErrBounds", laid_dovetail_api_ErrBounds), ("dovetail/api.ErrNotOperator", laid_dovetail_api_ErrNotOperator), ("dovetail/api.ErrMatrix", laid_dovetail_api_ErrMatrix), ("dovetail/api.ErrTooBig", laid_dovetail_api_ErrTooBig), ("dovetail/api.ErrRefused", laid_dovetail_api_ErrRefused), ("dovetail/api.ErrCut", laid_dovetail_api_ErrCut), ("dovetail/api.ErrPlan", laid_dovetail_api_ErrPlan), ("dovetail/api.ErrName", laid_dovetail_api_ErrName), ("dovetail/api.ErrTree", laid_dovetail_api_ErrTree), ("dovetail/api.ErrLong", laid_dovetail_api_ErrLong), ("dovetail/api.ErrForm", laid_dovetail_api_ErrForm), ("dovetail/api.ErrSum", laid_dovetail_api_ErrSum), ("dovetail/api.ErrNone", laid_dovetail_api_ErrNone)], narrowed := true }
def MemberSetsUptoSaid : Prop := memberSetsUptoRow.holds Tryd.pinned (OpenSpec.upto memberSetsSpec)

/-- 'dovetaillaw24.MemberDerives', WHERE WHAT IT READS IS OF BULK AT MOST 1048576: true; the input reads as it did. -/
def memberDerivesUptoRow : OpenClaim := { program := "ytndimnomkcjeiaadoor", sum := "c225769e422c74d0e29997a9751b4b1fec1de351ff785ea05005469d1b16296a", func := "dovetail/dovetaillaw24.MemberDerives", spec := "memberDerives", inPlace := ["internal/reflectlite.TypeOf"], unfollowed := true, recurses := true, named := ["dovetail/api.ErrArg", "dovetail/api.ErrLong", "dovetail/api.ErrBounds", "dovetail/api.ErrName", "dovetail/api.ErrSyntax", "dovetail/api.ErrNotOperator", "dovetail/api.ErrMatrix", "dovetail/api.ErrTooBig", "dovetail/api.ErrRefused", "dovetail/api.ErrCut", "dovetail/api.ErrPlan", "dovetail/api.ErrTree", "dovetail/api.ErrForm", "dovetail/api.ErrSum", "dovetail/api.ErrNone"], plainKeys := false, apart := false, laid := [("dovetail/api.ErrArg", laid_dovetail_api_ErrArg), ("dovetail/api.ErrSyntax", laid_dovetail_api_ErrSyntax), ("dovetail/api.ErrBounds", laid_dovetail_api_ErrBounds), ("dovetail/api.ErrNotOperator", laid_dovetail_api_ErrNotOperator), ("dovetail/api.ErrMatrix", laid_dovetail_api_ErrMatrix), ("dovetail/api.ErrTooBig", laid_dovetail_api_ErrTooBig), ("dovetail/api.ErrRefused", laid_dovetail_api_ErrRefused), ("dovetail/api.ErrCut", laid_dovetail_api_ErrCut), ("dovetail/api.ErrPlan", laid_dovetail_api_ErrPlan), ("dovetail/api.ErrName", laid_dovetail_api_ErrName), ("dovetail/api.ErrTree", laid_dovetail_api_ErrTree), ("dovetail/api.ErrLong", laid_dovetail_api_ErrLong), ("dovetail/api.ErrForm", laid_dovetail_api_ErrForm), ("dovetail/api.ErrSum", laid_dovetail_api_ErrSum), ("dovetail/api.ErrNone", laid_dovetail_api_ErrNone)], narrowed := true }
def MemberDerivesUptoSaid : Prop := memberDerivesUptoRow.holds Tryd.pinned (OpenSpec.upto memberDerivesSpec)

/-- 'dovetaillaw24.MemberTwice', WHERE WHAT IT READS IS OF BULK AT MOST 1048576: true; the input reads as it did. -/
def memberTwiceUptoRow : OpenClaim := { program := "ytndimnomkcjeiaadoor", sum := "c225769e422c74d0e29997a9751b4b1fec1de351ff785ea05005469d1b16296a", func := "dovetail/dovetaillaw24.MemberTwice", spec := "memberTwice", inPlace := ["math/bits.Add64"], unfollowed := true, recurses := true, named := ["dovetail/api.ErrLong", "dovetail/api.ErrArg", "dovetail/api.ErrBounds", "dovetail/api.ErrName"], plainKeys := false, apart := false, laid := [("dovetail/api.ErrArg", laid_dovetail_api_ErrArg), ("dovetail/api.ErrBounds", laid_dovetail_api_ErrBounds), ("dovetail/api.ErrName", laid_dovetail_api_ErrName), ("dovetail/api.ErrLong", laid_dovetail_api_ErrLong)], narrowed := true }
def MemberTwiceUptoSaid : Prop := memberTwiceUptoRow.holds Tryd.pinned (OpenSpec.upto memberTwiceSpec)

/-- 'dovetaillaw24.MemberOwn', WHERE WHAT IT READS IS OF BULK AT MOST 1048576: true; the input reads as it did. -/
def memberOwnUptoRow : OpenClaim := { program := "ytndimnomkcjeiaadoor", sum := "c225769e422c74d0e29997a9751b4b1fec1de351ff785ea05005469d1b16296a", func := "dovetail/dovetaillaw24.MemberOwn", spec := "memberOwn", inPlace := ["math/bits.Add64"], unfollowed := true, recurses := true, named := ["dovetail/api.ErrLong", "dovetail/api.ErrArg", "dovetail/api.ErrBounds", "dovetail/api.ErrName"], plainKeys := false, apart := false, laid := [("dovetail/api.ErrArg", laid_dovetail_api_ErrArg), ("dovetail/api.ErrBounds", laid_dovetail_api_ErrBounds), ("dovetail/api.ErrName", laid_dovetail_api_ErrName), ("dovetail/api.ErrLong", laid_dovetail_api_ErrLong)], narrowed := true }
def MemberOwnUptoSaid : Prop := memberOwnUptoRow.holds Tryd.pinned (OpenSpec.upto memberOwnSpec)

/-- 'dovetaillaw24.MemberCounts', WHERE WHAT IT READS IS OF BULK AT MOST 1048576: true; the input reads as it did. -/
def memberCountsUptoRow : OpenClaim := { program := "ytndimnomkcjeiaadoor", sum := "c225769e422c74d0e29997a9751b4b1fec1de351ff785ea05005469d1b16296a", func := "dovetail/dovetaillaw24.MemberCounts", spec := "memberCounts", inPlace := ["math/bits.Add64", "internal/reflectlite.TypeOf"], unfollowed := true, recurses := true, named := ["dovetail/api.ErrLong", "dovetail/api.ErrArg", "dovetail/api.ErrBounds", "dovetail/api.ErrName", "dovetail/api.ErrSyntax", "dovetail/api.ErrNotOperator", "dovetail/api.ErrMatrix", "dovetail/api.ErrTooBig", "dovetail/api.ErrRefused", "dovetail/api.ErrCut", "dovetail/api.ErrPlan", "dovetail/api.ErrTree", "dovetail/api.ErrForm", "dovetail/api.ErrSum", "dovetail/api.ErrNone"], plainKeys := false, apart := false, laid := [("dovetail/api.ErrArg", laid_dovetail_api_ErrArg), ("dovetail/api.ErrSyntax", laid_dovetail_api_ErrSyntax), ("dovetail/api.ErrBounds", laid_dovetail_api_ErrBounds), ("dovetail/api.ErrNotOperator", laid_dovetail_api_ErrNotOperator), ("dovetail/api.ErrMatrix", laid_dovetail_api_ErrMatrix), ("dovetail/api.ErrTooBig", laid_dovetail_api_ErrTooBig), ("dovetail/api.ErrRefused", laid_dovetail_api_ErrRefused), ("dovetail/api.ErrCut", laid_dovetail_api_ErrCut), ("dovetail/api.ErrPlan", laid_dovetail_api_ErrPlan), ("dovetail/api.ErrName", laid_dovetail_api_ErrName), ("dovetail/api.ErrTree", laid_dovetail_api_ErrTree), ("dovetail/api.ErrLong", laid_dovetail_api_ErrLong), ("dovetail/api.ErrForm", laid_dovetail_api_ErrForm), ("dovetail/api.ErrSum", laid_dovetail_api_ErrSum), ("dovetail/api.ErrNone", laid_dovetail_api_ErrNone)], narrowed := true }
def MemberCountsUptoSaid : Prop := memberCountsUptoRow.holds Tryd.pinned (OpenSpec.upto memberCountsSpec)

/-- 'dovetaillaw24.MemberRules', WHERE WHAT IT READS IS OF BULK AT MOST 1048576: true; the input reads as it did. -/
def memberRulesUptoRow : OpenClaim := { program := "ytndimnomkcjeiaadoor", sum := "c225769e422c74d0e29997a9751b4b1fec1de351ff785ea05005469d1b16296a", func := "dovetail/dovetaillaw24.MemberRules", spec := "memberRules", inPlace := ["math/bits.Add64", "internal/reflectlite.TypeOf"], unfollowed := true, recurses := true, named := ["dovetail/api.ErrLong", "dovetail/api.ErrArg", "dovetail/api.ErrBounds", "dovetail/api.ErrName", "dovetail/api.ErrSyntax", "dovetail/api.ErrNotOperator", "dovetail/api.ErrMatrix", "dovetail/api.ErrTooBig", "dovetail/api.ErrRefused", "dovetail/api.ErrCut", "dovetail/api.ErrPlan", "dovetail/api.ErrTree", "dovetail/api.ErrForm", "dovetail/api.ErrSum", "dovetail/api.ErrNone"], plainKeys := false, apart := false, laid := [("dovetail/api.ErrArg", laid_dovetail_api_ErrArg), ("dovetail/api.ErrSyntax", laid_dovetail_api_ErrSyntax), ("dovetail/api.ErrBounds", laid_dovetail_api_ErrBounds), ("dovetail/api.ErrNotOperator", laid_dovetail_api_ErrNotOperator), ("dovetail/api.ErrMatrix", laid_dovetail_api_ErrMatrix), ("dovetail/api.ErrTooBig", laid_dovetail_api_ErrTooBig), ("dovetail/api.ErrRefused", laid_dovetail_api_ErrRefused), ("dovetail/api.ErrCut", laid_dovetail_api_ErrCut), ("dovetail/api.ErrPlan", laid_dovetail_api_ErrPlan), ("dovetail/api.ErrName", laid_dovetail_api_ErrName), ("dovetail/api.ErrTree", laid_dovetail_api_ErrTree), ("dovetail/api.ErrLong", laid_dovetail_api_ErrLong), ("dovetail/api.ErrForm", laid_dovetail_api_ErrForm), ("dovetail/api.ErrSum", laid_dovetail_api_ErrSum), ("dovetail/api.ErrNone", laid_dovetail_api_ErrNone)], narrowed := true }
def MemberRulesUptoSaid : Prop := memberRulesUptoRow.holds Tryd.pinned (OpenSpec.upto memberRulesSpec)

/-- 'dovetaillaw24.MemberMore', WHERE WHAT IT READS IS OF BULK AT MOST 1048576: true; the input reads as it did. -/
def memberMoreUptoRow : OpenClaim := { program := "ytndimnomkcjeiaadoor", sum := "c225769e422c74d0e29997a9751b4b1fec1de351ff785ea05005469d1b16296a", func := "dovetail/dovetaillaw24.MemberMore", spec := "memberMore", inPlace := ["math/bits.Add64", "internal/reflectlite.TypeOf"], unfollowed := true, recurses := true, named := ["dovetail/api.ErrLong", "dovetail/api.ErrArg", "dovetail/api.ErrBounds", "dovetail/api.ErrName", "dovetail/api.ErrSyntax", "dovetail/api.ErrNotOperator", "dovetail/api.ErrMatrix", "dovetail/api.ErrTooBig", "dovetail/api.ErrRefused", "dovetail/api.ErrCut", "dovetail/api.ErrPlan", "dovetail/api.ErrTree", "dovetail/api.ErrForm", "dovetail/api.ErrSum", "dovetail/api.ErrNone"], plainKeys := false, apart := false, laid := [("dovetail/api.ErrArg", laid_dovetail_api_ErrArg), ("dovetail/api.ErrSyntax", laid_dovetail_api_ErrSyntax), ("dovetail/api.ErrBounds", laid_dovetail_api_ErrBounds), ("dovetail/api.ErrNotOperator", laid_dovetail_api_ErrNotOperator), ("dovetail/api.ErrMatrix", laid_dovetail_api_ErrMatrix), ("dovetail/api.ErrTooBig", laid_dovetail_api_ErrTooBig), ("dovetail/api.ErrRefused", laid_dovetail_api_ErrRefused), ("dovetail/api.ErrCut", laid_dovetail_api_ErrCut), ("dovetail/api.ErrPlan", laid_dovetail_api_ErrPlan), ("dovetail/api.ErrName", laid_dovetail_api_ErrName), ("dovetail/api.ErrTree", laid_dovetail_api_ErrTree), ("dovetail/api.ErrLong", laid_dovetail_api_ErrLong), ("dovetail/api.ErrForm", laid_dovetail_api_ErrForm), ("dovetail/api.ErrSum", laid_dovetail_api_ErrSum), ("dovetail/api.ErrNone", laid_dovetail_api_ErrNone)], narrowed := true }
def MemberMoreUptoSaid : Prop := memberMoreUptoRow.holds Tryd.pinned (OpenSpec.upto memberMoreSpec)

end Rows
end Go.Proofs.YtndimnomkcjeiaaDoor
