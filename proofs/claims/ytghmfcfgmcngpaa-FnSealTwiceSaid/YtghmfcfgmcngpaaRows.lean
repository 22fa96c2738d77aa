/-
  No cell of these rows narrows 'for every input' (looked for: loops, veiled, ifaces, maps, wideKeys, modest, calm, conditions, laid).
  DERIVED. THE GIVEN ROWS OF THIS SEAT. 5 by the template 'for every input the law returns true; each argument reads behind the call as it read before'; 0 by the template 'total and deterministic' (their statements: YtghmfcfgmcngpaaTotals.lean).
  GIVEN WITH THE SEED: the statements are not yours to turn. If you find one false, say at which input.
  Laid BY PROGRAM, IN A SANDBOX (cutbox-rows.mjs): the forced cells as the released guide's own fill.sh prints them over the translation ce46e787c972b200… (all of the seat's roots in one cut). By AI agents, Wed Nov 11 2026. No macro, syntax, notation, axiom, sorry.
-/
import Derived.Test.YtghmfcfgmcngpaaChecked
import GoSem.Claim
import GoSem.ClaimJoined
import GoSem.ClaimMapViews
import Derived.JoinedTies
import Derived.KernelRfl
namespace Go.Proofs.Ytghmfcfgmcngpaa
/- THE CELL 'sum', in the pinned program and in every row, IS THE sha256 OF THE DUMP (.gsa) THAT YtghmfcfgmcngpaaProg.lean LOADS. Nothing in Lean hashes anything: it is a label: what it is worth is what the hold of that sum in a sandbox is worth. -/
noncomputable def Try.pinned : Pinned := { name := "ytghmfcfgmcngpaa", sum := "ce46e787c972b200f3cd550d1af85406aa5a86bbd2cd0dbd3855b69b04b6dec8", checked := Try.checked }
namespace Rows
def none {H : Type} : Left H := { results := [], args := [] }

/-- 'laws.FnExactSealKey': WHATEVER THE INPUT: true; the input reads as it did. -/
def fnExactSealKeySpec : ChangeSpec := { name := "fnExactSealKey", fn := fun _ => fun
  | [d1, d2, d3, d4, d5, d6] => { results := [.lit (.bool true)], args := [d1, d2, d3, d4, d5, d6] }
  | _ => none }
def fnExactSealKeyRow : OpenClaim := { program := "ytghmfcfgmcngpaa", sum := "ce46e787c972b200f3cd550d1af85406aa5a86bbd2cd0dbd3855b69b04b6dec8", func := "loop.example/casemate/laws.FnExactSealKey", spec := "fnExactSealKey", unfollowed := true, recurses := true, apart := false }
def FnExactSealKeySaid : Prop := fnExactSealKeyRow.holds Try.pinned (OpenSpec.ofChange fnExactSealKeySpec)

/-- ITS FALSE NEIGHBOUR: 'it returns false'. Refute it at one input. -/
def fnExactSealKeyWrong : ChangeSpec := { name := "fnExactSealKey", fn := fun _ => fun
  | [d1, d2, d3, d4, d5, d6] => { results := [.lit (.bool false)], args := [d1, d2, d3, d4, d5, d6] }
  | _ => none }
def FnExactSealKeyWrongFalsely : Prop := fnExactSealKeyRow.holds Try.pinned (OpenSpec.ofChange fnExactSealKeyWrong)

/-- 'laws.FnExactBytPut': WHATEVER THE INPUT: true; the input reads as it did. -/
def fnExactBytPutSpec : ChangeSpec := { name := "fnExactBytPut", fn := fun _ => fun
  | [d1, d2] => { results := [.lit (.bool true)], args := [d1, d2] }
  | _ => none }
def fnExactBytPutRow : OpenClaim := { program := "ytghmfcfgmcngpaa", sum := "ce46e787c972b200f3cd550d1af85406aa5a86bbd2cd0dbd3855b69b04b6dec8", func := "loop.example/casemate/laws.FnExactBytPut", spec := "fnExactBytPut", apart := false }
def FnExactBytPutSaid : Prop := fnExactBytPutRow.holds Try.pinned (OpenSpec.ofChange fnExactBytPutSpec)

/-- ITS FALSE NEIGHBOUR: 'it returns false'. Refute it at one input. -/
def fnExactBytPutWrong : ChangeSpec := { name := "fnExactBytPut", fn := fun _ => fun
  | [d1, d2] => { results := [.lit (.bool false)], args := [d1, d2] }
  | _ => none }
def FnExactBytPutWrongFalsely : Prop := fnExactBytPutRow.holds Try.pinned (OpenSpec.ofChange fnExactBytPutWrong)

/-- 'laws.FnExactSealTag': WHATEVER THE INPUT: true; the input reads as it did. -/
def fnExactSealTagSpec : ChangeSpec := { name := "fnExactSealTag", fn := fun _ => fun
  | [d1, d2, d3, d4] => { results := [.lit (.bool true)], args := [d1, d2, d3, d4] }
  | _ => none }
def fnExactSealTagRow : OpenClaim := { program := "ytghmfcfgmcngpaa", sum := "ce46e787c972b200f3cd550d1af85406aa5a86bbd2cd0dbd3855b69b04b6dec8", func := "loop.example/casemate/laws.FnExactSealTag", spec := "fnExactSealTag", unfollowed := true, recurses := true, apart := false }
def FnExactSealTagSaid : Prop := fnExactSealTagRow.holds Try.pinned (OpenSpec.ofChange fnExactSealTagSpec)

/-- ITS FALSE NEIGHBOUR: 'it returns false'. Refute it at one input. -/
def fnExactSealTagWrong : ChangeSpec := { name := "fnExactSealTag", fn := fun _ => fun
  | [d1, d2, d3, d4] => { results := [.lit (.bool false)], args := [d1, d2, d3, d4] }
  | _ => none }
def FnExactSealTagWrongFalsely : Prop := fnExactSealTagRow.holds Try.pinned (OpenSpec.ofChange fnExactSealTagWrong)

/-- 'laws.FnExactSealShut': WHATEVER THE INPUT: true; the input reads as it did. -/
def fnExactSealShutSpec : ChangeSpec := { name := "fnExactSealShut", fn := fun _ => fun
  | [d1, d2, d3, d4] => { results := [.lit (.bool true)], args := [d1, d2, d3, d4] }
  | _ => none }
def fnExactSealShutRow : OpenClaim := { program := "ytghmfcfgmcngpaa", sum := "ce46e787c972b200f3cd550d1af85406aa5a86bbd2cd0dbd3855b69b04b6dec8", func := "loop.example/casemate/laws.FnExactSealShut", spec := "fnExactSealShut", unfollowed := true, recurses := true, apart := false }
def FnExactSealShutSaid : Prop := fnExactSealShutRow.holds Try.pinned (OpenSpec.ofChange fnExactSealShutSpec)

/-- ITS FALSE NEIGHBOUR: 'it returns false'. Refute it at one input. -/
def fnExactSealShutWrong : ChangeSpec := { name := "fnExactSealShut", fn := fun _ => fun
  | [d1, d2, d3, d4] => { results := [.lit (.bool false)], args := [d1, d2, d3, d4] }
  | _ => none }
def FnExactSealShutWrongFalsely : Prop := fnExactSealShutRow.holds Try.pinned (OpenSpec.ofChange fnExactSealShutWrong)

/-- 'laws.FnSealTwice': WHATEVER THE INPUT: true; the input reads as it did. -/
def fnSealTwiceSpec : ChangeSpec := { name := "fnSealTwice", fn := fun _ => fun
  | [d] => { results := [.lit (.bool true)], args := [d] }
  | _ => none }
def fnSealTwiceRow : OpenClaim := { program := "ytghmfcfgmcngpaa", sum := "ce46e787c972b200f3cd550d1af85406aa5a86bbd2cd0dbd3855b69b04b6dec8", func := "loop.example/casemate/laws.FnSealTwice", spec := "fnSealTwice", unfollowed := true, recurses := true, apart := false }
def FnSealTwiceSaid : Prop := fnSealTwiceRow.holds Try.pinned (OpenSpec.ofChange fnSealTwiceSpec)

/-- ITS FALSE NEIGHBOUR: 'it returns false'. Refute it at one input. -/
def fnSealTwiceWrong : ChangeSpec := { name := "fnSealTwice", fn := fun _ => fun
  | [d] => { results := [.lit (.bool false)], args := [d] }
  | _ => none }
def FnSealTwiceWrongFalsely : Prop := fnSealTwiceRow.holds Try.pinned (OpenSpec.ofChange fnSealTwiceWrong)

/- THE SECOND FORM. 'bulk': how many values and letters a reading holds, each counted each time it is reached (what is shared counts as often as it is met; a slice's spare places count too). A statement '..UptoSaid' is the law's where the arguments, and the package variables that the reading takes, are together of bulk at most 1048576: NARROWER than '..Said'. Prove '..Said' where nothing that the law and all that it calls make is longer than what came in: it says more and counts as full. Else prove '..UptoSaid'. A law counts once. -/
mutual
def uptoBulk {H : Type} : DataW H → Nat
  | .lit (.string bytes) => bytes.length + 1
  | .lit _ => 1
  | .nil => 1
  | .ptr d => uptoBulk d + 1
  | .slice elems spare => uptoBulkAll elems + uptoBulkAll spare + 1
  | .agg parts => uptoBulkAll parts + 1
  | .iface _ d => uptoBulk d + 1
  | .map entries => uptoBulkEntries entries + 1
  | .held _ => 1
def uptoBulkAll {H : Type} : List (DataW H) → Nat
  | [] => 0
  | d :: r => uptoBulk d + uptoBulkAll r
def uptoBulkEntries {H : Type} : List (Lit × DataW H) → Nat
  | [] => 0
  | x :: r => uptoBulkEntry x + uptoBulkEntries r
def uptoBulkEntry {H : Type} : Lit × DataW H → Nat
  | (.string bytes, d) => bytes.length + uptoBulk d + 1
  | (_, d) => uptoBulk d + 1
 end
def uptoSmall : (H : Type) → List (DataW H) → Bool := fun _ ds => decide (uptoBulkAll ds ≤ 1048576)
def OpenSpec.upto (s : _root_.Go.ChangeSpec) : _root_.Go.OpenSpec := { _root_.Go.OpenSpec.ofChange s with cond := some uptoSmall }

/-- 'laws.FnExactSealKey', WHERE WHAT IT READS IS OF BULK AT MOST 1048576: true; the input reads as it did. -/
def fnExactSealKeyUptoRow : OpenClaim := { program := "ytghmfcfgmcngpaa", sum := "ce46e787c972b200f3cd550d1af85406aa5a86bbd2cd0dbd3855b69b04b6dec8", func := "loop.example/casemate/laws.FnExactSealKey", spec := "fnExactSealKey", unfollowed := true, recurses := true, apart := false, narrowed := true }
def FnExactSealKeyUptoSaid : Prop := fnExactSealKeyUptoRow.holds Try.pinned (OpenSpec.upto fnExactSealKeySpec)

/-- 'laws.FnExactBytPut', WHERE WHAT IT READS IS OF BULK AT MOST 1048576: true; the input reads as it did. -/
def fnExactBytPutUptoRow : OpenClaim := { program := "ytghmfcfgmcngpaa", sum := "ce46e787c972b200f3cd550d1af85406aa5a86bbd2cd0dbd3855b69b04b6dec8", func := "loop.example/casemate/laws.FnExactBytPut", spec := "fnExactBytPut", apart := false, narrowed := true }
def FnExactBytPutUptoSaid : Prop := fnExactBytPutUptoRow.holds Try.pinned (OpenSpec.upto fnExactBytPutSpec)

/-- 'laws.FnExactSealTag', WHERE WHAT IT READS IS OF BULK AT MOST 1048576: true; the input reads as it did. -/
def fnExactSealTagUptoRow : OpenClaim := { program := "ytghmfcfgmcngpaa", sum := "ce46e787c972b200f3cd550d1af85406aa5a86bbd2cd0dbd3855b69b04b6dec8", func := "loop.example/casemate/laws.FnExactSealTag", spec := "fnExactSealTag", unfollowed := true, recurses := true, apart := false, narrowed := true }
def FnExactSealTagUptoSaid : Prop := fnExactSealTagUptoRow.holds Try.pinned (OpenSpec.upto fnExactSealTagSpec)

/-- 'laws.FnExactSealShut', WHERE WHAT IT READS IS OF BULK AT MOST 1048576: true; the input reads as it did. -/
def fnExactSealShutUptoRow : OpenClaim := { program := "ytghmfcfgmcngpaa", sum := "ce46e787c972b200f3cd550d1af85406aa5a86bbd2cd0dbd3855b69b04b6dec8", func := "loop.example/casemate/laws.FnExactSealShut", spec := "fnExactSealShut", unfollowed := true, recurses := true, apart := false, narrowed := true }
def FnExactSealShutUptoSaid : Prop := fnExactSealShutUptoRow.holds Try.pinned (OpenSpec.upto fnExactSealShutSpec)

/-- 'laws.FnSealTwice', WHERE WHAT IT READS IS OF BULK AT MOST 1048576: true; the input reads as it did. -/
def fnSealTwiceUptoRow : OpenClaim := { program := "ytghmfcfgmcngpaa", sum := "ce46e787c972b200f3cd550d1af85406aa5a86bbd2cd0dbd3855b69b04b6dec8", func := "loop.example/casemate/laws.FnSealTwice", spec := "fnSealTwice", unfollowed := true, recurses := true, apart := false, narrowed := true }
def FnSealTwiceUptoSaid : Prop := fnSealTwiceUptoRow.holds Try.pinned (OpenSpec.upto fnSealTwiceSpec)

end Rows
end Go.Proofs.Ytghmfcfgmcngpaa
