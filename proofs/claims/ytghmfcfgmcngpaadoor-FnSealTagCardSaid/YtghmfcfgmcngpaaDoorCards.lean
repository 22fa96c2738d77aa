/-
  DERIVED. GIVEN WITH THE SEED: THE CARDS: each row of YtghmfcfgmcngpaaDoorRows.lean that lists a variable, with what it lists TIED to the program's text (the seventh form; the later family's looks); each row that meets fmt, with fmt's text TOLD by the authors' own Lean function (tested against real Go, not proved from fmt's source: count such statements apart). THE CARD IS WHAT COUNTS. Prove the row's statement (the work); the ties are given (YtghmfcfgmcngpaaDoorTie.lean); close each card by the builder's one call (the guide's Derived/Test/ToyasCard.lean, 'card_holds'). Laid BY PROGRAM, IN A SANDBOX (cutbox-door.mjs). By AI agents, Wed Nov 11 2026. No macro, syntax, notation, axiom, sorry.
-/
import Derived.Test.YtghmfcfgmcngpaaDoorRows
import GoSem.ClaimSeven
namespace Go.Proofs.YtghmfcfgmcngpaaDoor
namespace Rows

/-- THE TIED CARD OF 'laws.FnSealBack'. -/
def fnSealBackCard : Claim7 := { stood := { row := fnSealBackRow, standIns := [], harness := (true, "e34a64c84061e6a3e403af430a63cb7a080f1aceedf0565b2f321010c5e37f00"), looks := true }, kinds := [], alts := [], laidByText := true, laidKinds := [.handle], laidTests := true, laidLooks := .later }
def FnSealBackCardSaid : Prop := Claim7.holds Tryd.pinned (.plain (OpenSpec.ofChange fnSealBackSpec)) fnSealBackCard

/-- THE TIED CARD OF 'laws.FnSealTag'. -/
def fnSealTagCard : Claim7 := { stood := { row := fnSealTagRow, standIns := [], harness := (true, "e34a64c84061e6a3e403af430a63cb7a080f1aceedf0565b2f321010c5e37f00"), looks := true }, kinds := [], alts := [], laidByText := true, laidKinds := [.handle], laidTests := true, laidLooks := .later }
def FnSealTagCardSaid : Prop := Claim7.holds Tryd.pinned (.plain (OpenSpec.ofChange fnSealTagSpec)) fnSealTagCard

/-- THE TIED CARD OF 'laws.FnExactBytTake'. -/
def fnExactBytTakeCard : Claim7 := { stood := { row := fnExactBytTakeRow, standIns := [], harness := (true, "e34a64c84061e6a3e403af430a63cb7a080f1aceedf0565b2f321010c5e37f00"), looks := true }, kinds := [], alts := [], laidByText := true, laidKinds := [.handle], laidTests := true, laidLooks := .later }
def FnExactBytTakeCardSaid : Prop := Claim7.holds Tryd.pinned (.plain (OpenSpec.ofChange fnExactBytTakeSpec)) fnExactBytTakeCard

/-- THE TIED CARD OF 'laws.FnBytNumber'. -/
def fnBytNumberCard : Claim7 := { stood := { row := fnBytNumberRow, standIns := [], harness := (true, "e34a64c84061e6a3e403af430a63cb7a080f1aceedf0565b2f321010c5e37f00"), looks := true }, kinds := [], alts := [], laidByText := true, laidKinds := [.handle], laidTests := true, laidLooks := .later }
def FnBytNumberCardSaid : Prop := Claim7.holds Tryd.pinned (.plain (OpenSpec.ofChange fnBytNumberSpec)) fnBytNumberCard

/-- THE TIED CARD OF 'laws.FnExactSealOpen'. -/
def fnExactSealOpenCard : Claim7 := { stood := { row := fnExactSealOpenRow, standIns := [], harness := (true, "e34a64c84061e6a3e403af430a63cb7a080f1aceedf0565b2f321010c5e37f00"), looks := true }, kinds := [], alts := [], laidByText := true, laidKinds := [.handle], laidTests := true, laidLooks := .later }
def FnExactSealOpenCardSaid : Prop := Claim7.holds Tryd.pinned (.plain (OpenSpec.ofChange fnExactSealOpenSpec)) fnExactSealOpenCard

/-- THE SECOND FORM's CARD OF 'laws.FnSealBack'. -/
def fnSealBackUptoCard : Claim7 := { stood := { row := fnSealBackUptoRow, standIns := [], harness := (true, "e34a64c84061e6a3e403af430a63cb7a080f1aceedf0565b2f321010c5e37f00"), looks := true }, kinds := [], alts := [], laidByText := true, laidKinds := [.handle], laidTests := true, laidLooks := .later }
def FnSealBackUptoCardSaid : Prop := Claim7.holds Tryd.pinned (.plain (OpenSpec.upto fnSealBackSpec)) fnSealBackUptoCard

/-- THE SECOND FORM's CARD OF 'laws.FnSealTag'. -/
def fnSealTagUptoCard : Claim7 := { stood := { row := fnSealTagUptoRow, standIns := [], harness := (true, "e34a64c84061e6a3e403af430a63cb7a080f1aceedf0565b2f321010c5e37f00"), looks := true }, kinds := [], alts := [], laidByText := true, laidKinds := [.handle], laidTests := true, laidLooks := .later }
def FnSealTagUptoCardSaid : Prop := Claim7.holds Tryd.pinned (.plain (OpenSpec.upto fnSealTagSpec)) fnSealTagUptoCard

/-- THE SECOND FORM's CARD OF 'laws.FnExactBytTake'. -/
def fnExactBytTakeUptoCard : Claim7 := { stood := { row := fnExactBytTakeUptoRow, standIns := [], harness := (true, "e34a64c84061e6a3e403af430a63cb7a080f1aceedf0565b2f321010c5e37f00"), looks := true }, kinds := [], alts := [], laidByText := true, laidKinds := [.handle], laidTests := true, laidLooks := .later }
def FnExactBytTakeUptoCardSaid : Prop := Claim7.holds Tryd.pinned (.plain (OpenSpec.upto fnExactBytTakeSpec)) fnExactBytTakeUptoCard

/-- THE SECOND FORM's CARD OF 'laws.FnBytNumber'. -/
def fnBytNumberUptoCard : Claim7 := { stood := { row := fnBytNumberUptoRow, standIns := [], harness := (true, "e34a64c84061e6a3e403af430a63cb7a080f1aceedf0565b2f321010c5e37f00"), looks := true }, kinds := [], alts := [], laidByText := true, laidKinds := [.handle], laidTests := true, laidLooks := .later }
def FnBytNumberUptoCardSaid : Prop := Claim7.holds Tryd.pinned (.plain (OpenSpec.upto fnBytNumberSpec)) fnBytNumberUptoCard

/-- THE SECOND FORM's CARD OF 'laws.FnExactSealOpen'. -/
def fnExactSealOpenUptoCard : Claim7 := { stood := { row := fnExactSealOpenUptoRow, standIns := [], harness := (true, "e34a64c84061e6a3e403af430a63cb7a080f1aceedf0565b2f321010c5e37f00"), looks := true }, kinds := [], alts := [], laidByText := true, laidKinds := [.handle], laidTests := true, laidLooks := .later }
def FnExactSealOpenUptoCardSaid : Prop := Claim7.holds Tryd.pinned (.plain (OpenSpec.upto fnExactSealOpenSpec)) fnExactSealOpenUptoCard
end Rows
end Go.Proofs.YtghmfcfgmcngpaaDoor
