/-
  No cell of these rows narrows 'for every input' (looked for: loops, veiled, ifaces, maps, wideKeys, modest, calm, conditions, laid).
  DERIVED. THE GIVEN ROWS OF THIS SEAT. 8 by the template 'for every input the law returns true; each argument reads behind the call as it read before'; 0 by the template 'total and deterministic' (their statements: YtcnipdbommmkmaaTotals.lean).
  GIVEN WITH THE SEED: the statements are not yours to turn. If you find one false, say at which input.
  Laid BY PROGRAM, IN A SANDBOX (cutbox-rows.mjs): the forced cells as the released guide's own fill.sh prints them over the translation 86f59686b1c9f13d… (all of the seat's roots in one cut). By AI agents, Wed Nov 11 2026. No macro, syntax, notation, axiom, sorry.
-/
import Derived.Test.YtcnipdbommmkmaaChecked
import GoSem.Claim
import GoSem.ClaimJoined
import GoSem.ClaimMapViews
import Derived.JoinedTies
import Derived.KernelRfl
namespace Go.Proofs.Ytcnipdbommmkmaa
/- THE CELL 'sum', in the pinned program and in every row, IS THE sha256 OF THE DUMP (.gsa) THAT YtcnipdbommmkmaaProg.lean LOADS. Nothing in Lean hashes anything: it is a label: what it is worth is what the hold of that sum in a sandbox is worth. -/
noncomputable def Try.pinned : Pinned := { name := "ytcnipdbommmkmaa", sum := "86f59686b1c9f13dded6b4fdcdaa82fce7efd7f3099991cd2ed6b765d9d266bd", checked := Try.checked }
namespace Rows
def none {H : Type} : Left H := { results := [], args := [] }

/-- 'laws.FnExactVmGive': WHATEVER THE INPUT: true; the input reads as it did. -/
def fnExactVmGiveSpec : ChangeSpec := { name := "fnExactVmGive", fn := fun _ => fun
  | [d1, d2, d3, d4] => { results := [.lit (.bool true)], args := [d1, d2, d3, d4] }
  | _ => none }
def fnExactVmGiveRow : OpenClaim := { program := "ytcnipdbommmkmaa", sum := "86f59686b1c9f13dded6b4fdcdaa82fce7efd7f3099991cd2ed6b765d9d266bd", func := "loop.example/casemate/laws.FnExactVmGive", spec := "fnExactVmGive", apart := false }
def FnExactVmGiveSaid : Prop := fnExactVmGiveRow.holds Try.pinned (OpenSpec.ofChange fnExactVmGiveSpec)

/-- ITS FALSE NEIGHBOUR: 'it returns false'. Refute it at one input. -/
def fnExactVmGiveWrong : ChangeSpec := { name := "fnExactVmGive", fn := fun _ => fun
  | [d1, d2, d3, d4] => { results := [.lit (.bool false)], args := [d1, d2, d3, d4] }
  | _ => none }
def FnExactVmGiveWrongFalsely : Prop := fnExactVmGiveRow.holds Try.pinned (OpenSpec.ofChange fnExactVmGiveWrong)

/-- 'laws.FnExactVmNew': WHATEVER THE INPUT: true; the input reads as it did. -/
def fnExactVmNewSpec : ChangeSpec := { name := "fnExactVmNew", fn := fun _ => fun
  | [] => { results := [.lit (.bool true)], args := [] }
  | _ => none }
def fnExactVmNewRow : OpenClaim := { program := "ytcnipdbommmkmaa", sum := "86f59686b1c9f13dded6b4fdcdaa82fce7efd7f3099991cd2ed6b765d9d266bd", func := "loop.example/casemate/laws.FnExactVmNew", spec := "fnExactVmNew", apart := false }
def FnExactVmNewSaid : Prop := fnExactVmNewRow.holds Try.pinned (OpenSpec.ofChange fnExactVmNewSpec)

/-- ITS FALSE NEIGHBOUR: 'it returns false'. Refute it at one input. -/
def fnExactVmNewWrong : ChangeSpec := { name := "fnExactVmNew", fn := fun _ => fun
  | [] => { results := [.lit (.bool false)], args := [] }
  | _ => none }
def FnExactVmNewWrongFalsely : Prop := fnExactVmNewRow.holds Try.pinned (OpenSpec.ofChange fnExactVmNewWrong)

/-- 'laws.FnExactVmOk': WHATEVER THE INPUT: true; the input reads as it did. -/
def fnExactVmOkSpec : ChangeSpec := { name := "fnExactVmOk", fn := fun _ => fun
  | [d] => { results := [.lit (.bool true)], args := [d] }
  | _ => none }
def fnExactVmOkRow : OpenClaim := { program := "ytcnipdbommmkmaa", sum := "86f59686b1c9f13dded6b4fdcdaa82fce7efd7f3099991cd2ed6b765d9d266bd", func := "loop.example/casemate/laws.FnExactVmOk", spec := "fnExactVmOk", apart := false }
def FnExactVmOkSaid : Prop := fnExactVmOkRow.holds Try.pinned (OpenSpec.ofChange fnExactVmOkSpec)

/-- ITS FALSE NEIGHBOUR: 'it returns false'. Refute it at one input. -/
def fnExactVmOkWrong : ChangeSpec := { name := "fnExactVmOk", fn := fun _ => fun
  | [d] => { results := [.lit (.bool false)], args := [d] }
  | _ => none }
def FnExactVmOkWrongFalsely : Prop := fnExactVmOkRow.holds Try.pinned (OpenSpec.ofChange fnExactVmOkWrong)

/-- 'laws.FnExactCelNew': WHATEVER THE INPUT: true; the input reads as it did. -/
def fnExactCelNewSpec : ChangeSpec := { name := "fnExactCelNew", fn := fun _ => fun
  | [] => { results := [.lit (.bool true)], args := [] }
  | _ => none }
def fnExactCelNewRow : OpenClaim := { program := "ytcnipdbommmkmaa", sum := "86f59686b1c9f13dded6b4fdcdaa82fce7efd7f3099991cd2ed6b765d9d266bd", func := "loop.example/casemate/laws.FnExactCelNew", spec := "fnExactCelNew", apart := false }
def FnExactCelNewSaid : Prop := fnExactCelNewRow.holds Try.pinned (OpenSpec.ofChange fnExactCelNewSpec)

/-- ITS FALSE NEIGHBOUR: 'it returns false'. Refute it at one input. -/
def fnExactCelNewWrong : ChangeSpec := { name := "fnExactCelNew", fn := fun _ => fun
  | [] => { results := [.lit (.bool false)], args := [] }
  | _ => none }
def FnExactCelNewWrongFalsely : Prop := fnExactCelNewRow.holds Try.pinned (OpenSpec.ofChange fnExactCelNewWrong)

/-- 'laws.FnExactCelOk': WHATEVER THE INPUT: true; the input reads as it did. -/
def fnExactCelOkSpec : ChangeSpec := { name := "fnExactCelOk", fn := fun _ => fun
  | [d] => { results := [.lit (.bool true)], args := [d] }
  | _ => none }
def fnExactCelOkRow : OpenClaim := { program := "ytcnipdbommmkmaa", sum := "86f59686b1c9f13dded6b4fdcdaa82fce7efd7f3099991cd2ed6b765d9d266bd", func := "loop.example/casemate/laws.FnExactCelOk", spec := "fnExactCelOk", apart := false }
def FnExactCelOkSaid : Prop := fnExactCelOkRow.holds Try.pinned (OpenSpec.ofChange fnExactCelOkSpec)

/-- ITS FALSE NEIGHBOUR: 'it returns false'. Refute it at one input. -/
def fnExactCelOkWrong : ChangeSpec := { name := "fnExactCelOk", fn := fun _ => fun
  | [d] => { results := [.lit (.bool false)], args := [d] }
  | _ => none }
def FnExactCelOkWrongFalsely : Prop := fnExactCelOkRow.holds Try.pinned (OpenSpec.ofChange fnExactCelOkWrong)

/-- 'laws.FnCelInput': WHATEVER THE INPUT: true; the input reads as it did. -/
def fnCelInputSpec : ChangeSpec := { name := "fnCelInput", fn := fun _ => fun
  | [d] => { results := [.lit (.bool true)], args := [d] }
  | _ => none }
def fnCelInputRow : OpenClaim := { program := "ytcnipdbommmkmaa", sum := "86f59686b1c9f13dded6b4fdcdaa82fce7efd7f3099991cd2ed6b765d9d266bd", func := "loop.example/casemate/laws.FnCelInput", spec := "fnCelInput", apart := false }
def FnCelInputSaid : Prop := fnCelInputRow.holds Try.pinned (OpenSpec.ofChange fnCelInputSpec)

/-- ITS FALSE NEIGHBOUR: 'it returns false'. Refute it at one input. -/
def fnCelInputWrong : ChangeSpec := { name := "fnCelInput", fn := fun _ => fun
  | [d] => { results := [.lit (.bool false)], args := [d] }
  | _ => none }
def FnCelInputWrongFalsely : Prop := fnCelInputRow.holds Try.pinned (OpenSpec.ofChange fnCelInputWrong)

/-- 'laws.FnVmGive': WHATEVER THE INPUT: true; the input reads as it did. -/
def fnVmGiveSpec : ChangeSpec := { name := "fnVmGive", fn := fun _ => fun
  | [d] => { results := [.lit (.bool true)], args := [d] }
  | _ => none }
def fnVmGiveRow : OpenClaim := { program := "ytcnipdbommmkmaa", sum := "86f59686b1c9f13dded6b4fdcdaa82fce7efd7f3099991cd2ed6b765d9d266bd", func := "loop.example/casemate/laws.FnVmGive", spec := "fnVmGive", apart := false }
def FnVmGiveSaid : Prop := fnVmGiveRow.holds Try.pinned (OpenSpec.ofChange fnVmGiveSpec)

/-- ITS FALSE NEIGHBOUR: 'it returns false'. Refute it at one input. -/
def fnVmGiveWrong : ChangeSpec := { name := "fnVmGive", fn := fun _ => fun
  | [d] => { results := [.lit (.bool false)], args := [d] }
  | _ => none }
def FnVmGiveWrongFalsely : Prop := fnVmGiveRow.holds Try.pinned (OpenSpec.ofChange fnVmGiveWrong)

/-- 'laws.FnExactCelSightOk': WHATEVER THE INPUT: true; the input reads as it did. -/
def fnExactCelSightOkSpec : ChangeSpec := { name := "fnExactCelSightOk", fn := fun _ => fun
  | [d] => { results := [.lit (.bool true)], args := [d] }
  | _ => none }
def fnExactCelSightOkRow : OpenClaim := { program := "ytcnipdbommmkmaa", sum := "86f59686b1c9f13dded6b4fdcdaa82fce7efd7f3099991cd2ed6b765d9d266bd", func := "loop.example/casemate/laws.FnExactCelSightOk", spec := "fnExactCelSightOk", unfollowed := true, recurses := true, apart := false }
def FnExactCelSightOkSaid : Prop := fnExactCelSightOkRow.holds Try.pinned (OpenSpec.ofChange fnExactCelSightOkSpec)

/-- ITS FALSE NEIGHBOUR: 'it returns false'. Refute it at one input. -/
def fnExactCelSightOkWrong : ChangeSpec := { name := "fnExactCelSightOk", fn := fun _ => fun
  | [d] => { results := [.lit (.bool false)], args := [d] }
  | _ => none }
def FnExactCelSightOkWrongFalsely : Prop := fnExactCelSightOkRow.holds Try.pinned (OpenSpec.ofChange fnExactCelSightOkWrong)

/- THE SECOND FORM. 'bulk': how many values and letters a reading holds, each counted each time it is reached (what is shared counts as often as it is met; a slice's spare places count too). A statement '..UptoSaid' is the law's where the arguments, and the package variables that the reading takes, are together of bulk at most 1048576: NARROWER than '..Said'. Prove '..Said' where nothing that the law and all that it calls make is longer than what came in: it says more and counts as full. Else prove '..UptoSaid'. A law counts once. -/
mutual
def uptoBulk {H : Type} : DataW H → Nat
  | .lit (.string bytes) => bytes.length + 1
  | .lit _ => 1
  | .nil => 1
  | .ptr d => uptoBulk d + 1
  | .slice elems spare => uptoBulkAll elems + uptoBulkAll spare + 1
  | .agg parts => uptoBulkAll parts + 1
  | .iface _ d => uptoBulk d + 1
  | .map entries => uptoBulkEntries entries + 1
  | .held _ => 1
def uptoBulkAll {H : Type} : List (DataW H) → Nat
  | [] => 0
  | d :: r => uptoBulk d + uptoBulkAll r
def uptoBulkEntries {H : Type} : List (Lit × DataW H) → Nat
  | [] => 0
  | x :: r => uptoBulkEntry x + uptoBulkEntries r
def uptoBulkEntry {H : Type} : Lit × DataW H → Nat
  | (.string bytes, d) => bytes.length + uptoBulk d + 1
  | (_, d) => uptoBulk d + 1
 end
def uptoSmall : (H : Type) → List (DataW H) → Bool := fun _ ds => decide (uptoBulkAll ds ≤ 1048576)
def OpenSpec.upto (s : _root_.Go.ChangeSpec) : _root_.Go.OpenSpec := { _root_.Go.OpenSpec.ofChange s with cond := some uptoSmall }

/-- 'laws.FnExactVmGive', WHERE WHAT IT READS IS OF BULK AT MOST 1048576: true; the input reads as it did. -/
def fnExactVmGiveUptoRow : OpenClaim := { program := "ytcnipdbommmkmaa", sum := "86f59686b1c9f13dded6b4fdcdaa82fce7efd7f3099991cd2ed6b765d9d266bd", func := "loop.example/casemate/laws.FnExactVmGive", spec := "fnExactVmGive", apart := false, narrowed := true }
def FnExactVmGiveUptoSaid : Prop := fnExactVmGiveUptoRow.holds Try.pinned (OpenSpec.upto fnExactVmGiveSpec)

/-- 'laws.FnExactVmNew', WHERE WHAT IT READS IS OF BULK AT MOST 1048576: true; the input reads as it did. -/
def fnExactVmNewUptoRow : OpenClaim := { program := "ytcnipdbommmkmaa", sum := "86f59686b1c9f13dded6b4fdcdaa82fce7efd7f3099991cd2ed6b765d9d266bd", func := "loop.example/casemate/laws.FnExactVmNew", spec := "fnExactVmNew", apart := false, narrowed := true }
def FnExactVmNewUptoSaid : Prop := fnExactVmNewUptoRow.holds Try.pinned (OpenSpec.upto fnExactVmNewSpec)

/-- 'laws.FnExactVmOk', WHERE WHAT IT READS IS OF BULK AT MOST 1048576: true; the input reads as it did. -/
def fnExactVmOkUptoRow : OpenClaim := { program := "ytcnipdbommmkmaa", sum := "86f59686b1c9f13dded6b4fdcdaa82fce7efd7f3099991cd2ed6b765d9d266bd", func := "loop.example/casemate/laws.FnExactVmOk", spec := "fnExactVmOk", apart := false, narrowed := true }
def FnExactVmOkUptoSaid : Prop := fnExactVmOkUptoRow.holds Try.pinned (OpenSpec.upto fnExactVmOkSpec)

/-- 'laws.FnExactCelNew', WHERE WHAT IT READS IS OF BULK AT MOST 1048576: true; the input reads as it did. -/
def fnExactCelNewUptoRow : OpenClaim := { program := "ytcnipdbommmkmaa", sum := "86f59686b1c9f13dded6b4fdcdaa82fce7efd7f3099991cd2ed6b765d9d266bd", func := "loop.example/casemate/laws.FnExactCelNew", spec := "fnExactCelNew", apart := false, narrowed := true }
def FnExactCelNewUptoSaid : Prop := fnExactCelNewUptoRow.holds Try.pinned (OpenSpec.upto fnExactCelNewSpec)

/-- 'laws.FnExactCelOk', WHERE WHAT IT READS IS OF BULK AT MOST 1048576: true; the input reads as it did. -/
def fnExactCelOkUptoRow : OpenClaim := { program := "ytcnipdbommmkmaa", sum := "86f59686b1c9f13dded6b4fdcdaa82fce7efd7f3099991cd2ed6b765d9d266bd", func := "loop.example/casemate/laws.FnExactCelOk", spec := "fnExactCelOk", apart := false, narrowed := true }
def FnExactCelOkUptoSaid : Prop := fnExactCelOkUptoRow.holds Try.pinned (OpenSpec.upto fnExactCelOkSpec)

/-- 'laws.FnCelInput', WHERE WHAT IT READS IS OF BULK AT MOST 1048576: true; the input reads as it did. -/
def fnCelInputUptoRow : OpenClaim := { program := "ytcnipdbommmkmaa", sum := "86f59686b1c9f13dded6b4fdcdaa82fce7efd7f3099991cd2ed6b765d9d266bd", func := "loop.example/casemate/laws.FnCelInput", spec := "fnCelInput", apart := false, narrowed := true }
def FnCelInputUptoSaid : Prop := fnCelInputUptoRow.holds Try.pinned (OpenSpec.upto fnCelInputSpec)

/-- 'laws.FnVmGive', WHERE WHAT IT READS IS OF BULK AT MOST 1048576: true; the input reads as it did. -/
def fnVmGiveUptoRow : OpenClaim := { program := "ytcnipdbommmkmaa", sum := "86f59686b1c9f13dded6b4fdcdaa82fce7efd7f3099991cd2ed6b765d9d266bd", func := "loop.example/casemate/laws.FnVmGive", spec := "fnVmGive", apart := false, narrowed := true }
def FnVmGiveUptoSaid : Prop := fnVmGiveUptoRow.holds Try.pinned (OpenSpec.upto fnVmGiveSpec)

/-- 'laws.FnExactCelSightOk', WHERE WHAT IT READS IS OF BULK AT MOST 1048576: true; the input reads as it did. -/
def fnExactCelSightOkUptoRow : OpenClaim := { program := "ytcnipdbommmkmaa", sum := "86f59686b1c9f13dded6b4fdcdaa82fce7efd7f3099991cd2ed6b765d9d266bd", func := "loop.example/casemate/laws.FnExactCelSightOk", spec := "fnExactCelSightOk", unfollowed := true, recurses := true, apart := false, narrowed := true }
def FnExactCelSightOkUptoSaid : Prop := fnExactCelSightOkUptoRow.holds Try.pinned (OpenSpec.upto fnExactCelSightOkSpec)

end Rows
end Go.Proofs.Ytcnipdbommmkmaa
