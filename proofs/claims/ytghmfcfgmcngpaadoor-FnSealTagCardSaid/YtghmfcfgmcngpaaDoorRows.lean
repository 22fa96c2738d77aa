/-
  NARROWER THAN 'FOR EVERY INPUT', by the rows' own cells (each row's printed sentence says how): FnSealBack: laid · FnSealTag: laid · FnExactBytTake: laid · FnBytNumber: laid · FnExactSealOpen: laid.
  DERIVED. THE GIVEN ROWS OF THIS SEAT. 5 by the template 'for every input the law returns true; each argument reads behind the call as it read before'; 0 by the template 'total and deterministic' (their statements: YtghmfcfgmcngpaaDoorTotals.lean).
  GIVEN WITH THE SEED: the statements are not yours to turn. If you find one false, say at which input.
  Laid BY PROGRAM, IN A SANDBOX (cutbox-rows.mjs): the forced cells as the released guide's own fill.sh prints them over the translation 5305d86bc00ba850… (all of the seat's roots in one cut). By AI agents, Wed Nov 11 2026. No macro, syntax, notation, axiom, sorry.
-/
import Derived.Test.YtghmfcfgmcngpaaDoorChecked
import GoSem.Claim
import GoSem.ClaimJoined
import GoSem.ClaimMapViews
import Derived.JoinedTies
import Derived.KernelRfl
namespace Go.Proofs.YtghmfcfgmcngpaaDoor
/- THE CELL 'sum', in the pinned program and in every row, IS THE sha256 OF THE DUMP (.gsa) THAT YtghmfcfgmcngpaaDoorProg.lean LOADS. Nothing in Lean hashes anything: it is a label: what it is worth is what the hold of that sum in a sandbox is worth. -/
noncomputable def Tryd.pinned : Pinned := { name := "ytghmfcfgmcngpaadoor", sum := "5305d86bc00ba8506a723e101282f7e1ad7d288bf1a1c2f3b2d247eb1ac6a382", checked := Tryd.checked }
namespace Rows
def none {H : Type} : Left H := { results := [], args := [] }

/- WHAT THE LISTED PACKAGE-LEVEL VARIABLES READ AS WHEN THE CALL BEGINS. Each datum BY PROGRAM (the guide's laid-datum.mjs) off the statement by which the dump's own 'gosem.cut.vars' lays the variable. In a bare row this is a premise. The card (YtghmfcfgmcngpaaDoorCards.lean) ties it to the program's text. -/
def laid_errors_errorType {H : Type} : DataW H := .iface "internal/reflectlite.rtype" (.agg [.ptr (.lit (.string [101, 114, 114, 111, 114]))])

/-- 'laws.FnSealBack': WHATEVER THE INPUT: true; the input reads as it did. -/
def fnSealBackSpec : ChangeSpec := { name := "fnSealBack", fn := fun _ => fun
  | [d] => { results := [.lit (.bool true)], args := [d] }
  | _ => none }
def fnSealBackRow : OpenClaim := { program := "ytghmfcfgmcngpaadoor", sum := "5305d86bc00ba8506a723e101282f7e1ad7d288bf1a1c2f3b2d247eb1ac6a382", func := "loop.example/casemate/laws.FnSealBack", spec := "fnSealBack", inPlace := ["internal/reflectlite.ValueOf", "(internal/reflectlite.Value).Type", "(internal/reflectlite.Value).IsNil", "internal/reflectlite.TypeOf", "(internal/reflectlite.Value).Elem", "(internal/reflectlite.Value).Set"], unfollowed := true, recurses := true, named := ["errors.errorType"], apart := false, laid := [("errors.errorType", laid_errors_errorType)] }
def FnSealBackSaid : Prop := fnSealBackRow.holds Tryd.pinned (OpenSpec.ofChange fnSealBackSpec)

/-- ITS FALSE NEIGHBOUR: 'it returns false'. Refute it at one input. -/
def fnSealBackWrong : ChangeSpec := { name := "fnSealBack", fn := fun _ => fun
  | [d] => { results := [.lit (.bool false)], args := [d] }
  | _ => none }
def FnSealBackWrongFalsely : Prop := fnSealBackRow.holds Tryd.pinned (OpenSpec.ofChange fnSealBackWrong)

/-- 'laws.FnSealTag': WHATEVER THE INPUT: true; the input reads as it did. -/
def fnSealTagSpec : ChangeSpec := { name := "fnSealTag", fn := fun _ => fun
  | [d] => { results := [.lit (.bool true)], args := [d] }
  | _ => none }
def fnSealTagRow : OpenClaim := { program := "ytghmfcfgmcngpaadoor", sum := "5305d86bc00ba8506a723e101282f7e1ad7d288bf1a1c2f3b2d247eb1ac6a382", func := "loop.example/casemate/laws.FnSealTag", spec := "fnSealTag", inPlace := ["internal/reflectlite.ValueOf", "(internal/reflectlite.Value).Type", "(internal/reflectlite.Value).IsNil", "internal/reflectlite.TypeOf", "(internal/reflectlite.Value).Elem", "(internal/reflectlite.Value).Set"], unfollowed := true, recurses := true, named := ["errors.errorType"], apart := false, laid := [("errors.errorType", laid_errors_errorType)] }
def FnSealTagSaid : Prop := fnSealTagRow.holds Tryd.pinned (OpenSpec.ofChange fnSealTagSpec)

/-- ITS FALSE NEIGHBOUR: 'it returns false'. Refute it at one input. -/
def fnSealTagWrong : ChangeSpec := { name := "fnSealTag", fn := fun _ => fun
  | [d] => { results := [.lit (.bool false)], args := [d] }
  | _ => none }
def FnSealTagWrongFalsely : Prop := fnSealTagRow.holds Tryd.pinned (OpenSpec.ofChange fnSealTagWrong)

/-- 'laws.FnExactBytTake': WHATEVER THE INPUT: true; the input reads as it did. -/
def fnExactBytTakeSpec : ChangeSpec := { name := "fnExactBytTake", fn := fun _ => fun
  | [d1, d2, d3] => { results := [.lit (.bool true)], args := [d1, d2, d3] }
  | _ => none }
def fnExactBytTakeRow : OpenClaim := { program := "ytghmfcfgmcngpaadoor", sum := "5305d86bc00ba8506a723e101282f7e1ad7d288bf1a1c2f3b2d247eb1ac6a382", func := "loop.example/casemate/laws.FnExactBytTake", spec := "fnExactBytTake", inPlace := ["internal/reflectlite.ValueOf", "(internal/reflectlite.Value).Type", "(internal/reflectlite.Value).IsNil", "internal/reflectlite.TypeOf", "(internal/reflectlite.Value).Elem", "(internal/reflectlite.Value).Set"], unfollowed := true, recurses := true, named := ["errors.errorType"], apart := false, laid := [("errors.errorType", laid_errors_errorType)] }
def FnExactBytTakeSaid : Prop := fnExactBytTakeRow.holds Tryd.pinned (OpenSpec.ofChange fnExactBytTakeSpec)

/-- ITS FALSE NEIGHBOUR: 'it returns false'. Refute it at one input. -/
def fnExactBytTakeWrong : ChangeSpec := { name := "fnExactBytTake", fn := fun _ => fun
  | [d1, d2, d3] => { results := [.lit (.bool false)], args := [d1, d2, d3] }
  | _ => none }
def FnExactBytTakeWrongFalsely : Prop := fnExactBytTakeRow.holds Tryd.pinned (OpenSpec.ofChange fnExactBytTakeWrong)

/-- 'laws.FnBytNumber': WHATEVER THE INPUT: true; the input reads as it did. -/
def fnBytNumberSpec : ChangeSpec := { name := "fnBytNumber", fn := fun _ => fun
  | [d1, d2] => { results := [.lit (.bool true)], args := [d1, d2] }
  | _ => none }
def fnBytNumberRow : OpenClaim := { program := "ytghmfcfgmcngpaadoor", sum := "5305d86bc00ba8506a723e101282f7e1ad7d288bf1a1c2f3b2d247eb1ac6a382", func := "loop.example/casemate/laws.FnBytNumber", spec := "fnBytNumber", inPlace := ["internal/reflectlite.ValueOf", "(internal/reflectlite.Value).Type", "(internal/reflectlite.Value).IsNil", "internal/reflectlite.TypeOf", "(internal/reflectlite.Value).Elem", "(internal/reflectlite.Value).Set"], unfollowed := true, recurses := true, named := ["errors.errorType"], apart := false, laid := [("errors.errorType", laid_errors_errorType)] }
def FnBytNumberSaid : Prop := fnBytNumberRow.holds Tryd.pinned (OpenSpec.ofChange fnBytNumberSpec)

/-- ITS FALSE NEIGHBOUR: 'it returns false'. Refute it at one input. -/
def fnBytNumberWrong : ChangeSpec := { name := "fnBytNumber", fn := fun _ => fun
  | [d1, d2] => { results := [.lit (.bool false)], args := [d1, d2] }
  | _ => none }
def FnBytNumberWrongFalsely : Prop := fnBytNumberRow.holds Tryd.pinned (OpenSpec.ofChange fnBytNumberWrong)

/-- 'laws.FnExactSealOpen': WHATEVER THE INPUT: true; the input reads as it did. -/
def fnExactSealOpenSpec : ChangeSpec := { name := "fnExactSealOpen", fn := fun _ => fun
  | [d1, d2, d3, d4] => { results := [.lit (.bool true)], args := [d1, d2, d3, d4] }
  | _ => none }
def fnExactSealOpenRow : OpenClaim := { program := "ytghmfcfgmcngpaadoor", sum := "5305d86bc00ba8506a723e101282f7e1ad7d288bf1a1c2f3b2d247eb1ac6a382", func := "loop.example/casemate/laws.FnExactSealOpen", spec := "fnExactSealOpen", inPlace := ["internal/reflectlite.ValueOf", "(internal/reflectlite.Value).Type", "(internal/reflectlite.Value).IsNil", "internal/reflectlite.TypeOf", "(internal/reflectlite.Value).Elem", "(internal/reflectlite.Value).Set"], unfollowed := true, recurses := true, named := ["errors.errorType"], apart := false, laid := [("errors.errorType", laid_errors_errorType)] }
def FnExactSealOpenSaid : Prop := fnExactSealOpenRow.holds Tryd.pinned (OpenSpec.ofChange fnExactSealOpenSpec)

/-- ITS FALSE NEIGHBOUR: 'it returns false'. Refute it at one input. -/
def fnExactSealOpenWrong : ChangeSpec := { name := "fnExactSealOpen", fn := fun _ => fun
  | [d1, d2, d3, d4] => { results := [.lit (.bool false)], args := [d1, d2, d3, d4] }
  | _ => none }
def FnExactSealOpenWrongFalsely : Prop := fnExactSealOpenRow.holds Tryd.pinned (OpenSpec.ofChange fnExactSealOpenWrong)

/- THE SECOND FORM. 'bulk': how many values and letters a reading holds, each counted each time it is reached (what is shared counts as often as it is met; a slice's spare places count too). A statement '..UptoSaid' is the law's where the arguments, and the package variables that the reading takes, are together of bulk at most 1048576: NARROWER than '..Said'. Prove '..Said' where nothing that the law and all that it calls make is longer than what came in: it says more and counts as full. Else prove '..UptoSaid'. A law counts once. -/
mutual
def uptoBulk {H : Type} : DataW H → Nat
  | .lit (.string bytes) => bytes.length + 1
  | .lit _ => 1
  | .nil => 1
  | .ptr d => uptoBulk d + 1
  | .slice elems spare => uptoBulkAll elems + uptoBulkAll spare + 1
  | .agg parts => uptoBulkAll parts + 1
  | .iface _ d => uptoBulk d + 1
  | .map entries => uptoBulkEntries entries + 1
  | .held _ => 1
def uptoBulkAll {H : Type} : List (DataW H) → Nat
  | [] => 0
  | d :: r => uptoBulk d + uptoBulkAll r
def uptoBulkEntries {H : Type} : List (Lit × DataW H) → Nat
  | [] => 0
  | x :: r => uptoBulkEntry x + uptoBulkEntries r
def uptoBulkEntry {H : Type} : Lit × DataW H → Nat
  | (.string bytes, d) => bytes.length + uptoBulk d + 1
  | (_, d) => uptoBulk d + 1
 end
def uptoSmall : (H : Type) → List (DataW H) → Bool := fun _ ds => decide (uptoBulkAll ds ≤ 1048576)
def OpenSpec.upto (s : _root_.Go.ChangeSpec) : _root_.Go.OpenSpec := { _root_.Go.OpenSpec.ofChange s with cond := some uptoSmall }

/-- 'laws.FnSealBack', WHERE WHAT IT READS IS OF BULK AT MOST 1048576: true; the input reads as it did. -/
def fnSealBackUptoRow : OpenClaim := { program := "ytghmfcfgmcngpaadoor", sum := "5305d86bc00ba8506a723e101282f7e1ad7d288bf1a1c2f3b2d247eb1ac6a382", func := "loop.example/casemate/laws.FnSealBack", spec := "fnSealBack", inPlace := ["internal/reflectlite.ValueOf", "(internal/reflectlite.Value).Type", "(internal/reflectlite.Value).IsNil", "internal/reflectlite.TypeOf", "(internal/reflectlite.Value).Elem", "(internal/reflectlite.Value).Set"], unfollowed := true, recurses := true, named := ["errors.errorType"], apart := false, laid := [("errors.errorType", laid_errors_errorType)], narrowed := true }
def FnSealBackUptoSaid : Prop := fnSealBackUptoRow.holds Tryd.pinned (OpenSpec.upto fnSealBackSpec)

/-- 'laws.FnSealTag', WHERE WHAT IT READS IS OF BULK AT MOST 1048576: true; the input reads as it did. -/
def fnSealTagUptoRow : OpenClaim := { program := "ytghmfcfgmcngpaadoor", sum := "5305d86bc00ba8506a723e101282f7e1ad7d288bf1a1c2f3b2d247eb1ac6a382", func := "loop.example/casemate/laws.FnSealTag", spec := "fnSealTag", inPlace := ["internal/reflectlite.ValueOf", "(internal/reflectlite.Value).Type", "(internal/reflectlite.Value).IsNil", "internal/reflectlite.TypeOf", "(internal/reflectlite.Value).Elem", "(internal/reflectlite.Value).Set"], unfollowed := true, recurses := true, named := ["errors.errorType"], apart := false, laid := [("errors.errorType", laid_errors_errorType)], narrowed := true }
def FnSealTagUptoSaid : Prop := fnSealTagUptoRow.holds Tryd.pinned (OpenSpec.upto fnSealTagSpec)

/-- 'laws.FnExactBytTake', WHERE WHAT IT READS IS OF BULK AT MOST 1048576: true; the input reads as it did. -/
def fnExactBytTakeUptoRow : OpenClaim := { program := "ytghmfcfgmcngpaadoor", sum := "5305d86bc00ba8506a723e101282f7e1ad7d288bf1a1c2f3b2d247eb1ac6a382", func := "loop.example/casemate/laws.FnExactBytTake", spec := "fnExactBytTake", inPlace := ["internal/reflectlite.ValueOf", "(internal/reflectlite.Value).Type", "(internal/reflectlite.Value).IsNil", "internal/reflectlite.TypeOf", "(internal/reflectlite.Value).Elem", "(internal/reflectlite.Value).Set"], unfollowed := true, recurses := true, named := ["errors.errorType"], apart := false, laid := [("errors.errorType", laid_errors_errorType)], narrowed := true }
def FnExactBytTakeUptoSaid : Prop := fnExactBytTakeUptoRow.holds Tryd.pinned (OpenSpec.upto fnExactBytTakeSpec)

/-- 'laws.FnBytNumber', WHERE WHAT IT READS IS OF BULK AT MOST 1048576: true; the input reads as it did. -/
def fnBytNumberUptoRow : OpenClaim := { program := "ytghmfcfgmcngpaadoor", sum := "5305d86bc00ba8506a723e101282f7e1ad7d288bf1a1c2f3b2d247eb1ac6a382", func := "loop.example/casemate/laws.FnBytNumber", spec := "fnBytNumber", inPlace := ["internal/reflectlite.ValueOf", "(internal/reflectlite.Value).Type", "(internal/reflectlite.Value).IsNil", "internal/reflectlite.TypeOf", "(internal/reflectlite.Value).Elem", "(internal/reflectlite.Value).Set"], unfollowed := true, recurses := true, named := ["errors.errorType"], apart := false, laid := [("errors.errorType", laid_errors_errorType)], narrowed := true }
def FnBytNumberUptoSaid : Prop := fnBytNumberUptoRow.holds Tryd.pinned (OpenSpec.upto fnBytNumberSpec)

/-- 'laws.FnExactSealOpen', WHERE WHAT IT READS IS OF BULK AT MOST 1048576: true; the input reads as it did. -/
def fnExactSealOpenUptoRow : OpenClaim := { program := "ytghmfcfgmcngpaadoor", sum := "5305d86bc00ba8506a723e101282f7e1ad7d288bf1a1c2f3b2d247eb1ac6a382", func := "loop.example/casemate/laws.FnExactSealOpen", spec := "fnExactSealOpen", inPlace := ["internal/reflectlite.ValueOf", "(internal/reflectlite.Value).Type", "(internal/reflectlite.Value).IsNil", "internal/reflectlite.TypeOf", "(internal/reflectlite.Value).Elem", "(internal/reflectlite.Value).Set"], unfollowed := true, recurses := true, named := ["errors.errorType"], apart := false, laid := [("errors.errorType", laid_errors_errorType)], narrowed := true }
def FnExactSealOpenUptoSaid : Prop := fnExactSealOpenUptoRow.holds Tryd.pinned (OpenSpec.upto fnExactSealOpenSpec)

end Rows
end Go.Proofs.YtghmfcfgmcngpaaDoor
