/-
  DERIVED. GIVEN WITH THE SEED: THE CARDS: each row of YtkhggobpanfkfaaDoorRows.lean that lists a variable, with what it lists TIED to the program's text (the seventh form; the later family's looks); each row that meets fmt, with fmt's text TOLD by the authors' own Lean function (tested against real Go, not proved from fmt's source: count such statements apart). THE CARD IS WHAT COUNTS. Prove the row's statement (the work); the ties are given (YtkhggobpanfkfaaDoorTie.lean); close each card by the builder's one call (the guide's Derived/Test/ToyasCard.lean, 'card_holds'). Laid BY PROGRAM, IN A SANDBOX (cutbox-door.mjs). By AI agents, Wed Nov 11 2026. No macro, syntax, notation, axiom, sorry.
-/
import Derived.Test.YtkhggobpanfkfaaDoorRows
import GoSem.ClaimSeven
namespace Go.Proofs.YtkhggobpanfkfaaDoor
namespace Rows

/-- THE TIED CARD OF 'laws.FnExactPortWrite'. -/
def fnExactPortWriteCard : Claim7 := { stood := { row := fnExactPortWriteRow, standIns := [], harness := (true, "26fa66eea9862589d5d99f48d896739499f3db51cceda8b555967ffe065fa9b9"), looks := true }, kinds := [], alts := [], laidByText := true, laidKinds := [.sentinel], laidTests := true, laidLooks := .later }
def FnExactPortWriteCardSaid : Prop := Claim7.holds Tryd.pinned (.plain (OpenSpec.ofChange fnExactPortWriteSpec)) fnExactPortWriteCard

/-- THE TIED CARD OF 'laws.FnWriteRead'. -/
def fnWriteReadCard : Claim7 := { stood := { row := fnWriteReadRow, standIns := [], harness := (true, "26fa66eea9862589d5d99f48d896739499f3db51cceda8b555967ffe065fa9b9"), looks := true }, kinds := [], alts := [], laidByText := true, laidKinds := [.sentinel], laidTests := true, laidLooks := .later }
def FnWriteReadCardSaid : Prop := Claim7.holds Tryd.pinned (.plain (OpenSpec.ofChange fnWriteReadSpec)) fnWriteReadCard

/-- THE SECOND FORM's CARD OF 'laws.FnExactPortWrite'. -/
def fnExactPortWriteUptoCard : Claim7 := { stood := { row := fnExactPortWriteUptoRow, standIns := [], harness := (true, "26fa66eea9862589d5d99f48d896739499f3db51cceda8b555967ffe065fa9b9"), looks := true }, kinds := [], alts := [], laidByText := true, laidKinds := [.sentinel], laidTests := true, laidLooks := .later }
def FnExactPortWriteUptoCardSaid : Prop := Claim7.holds Tryd.pinned (.plain (OpenSpec.upto fnExactPortWriteSpec)) fnExactPortWriteUptoCard

/-- THE SECOND FORM's CARD OF 'laws.FnWriteRead'. -/
def fnWriteReadUptoCard : Claim7 := { stood := { row := fnWriteReadUptoRow, standIns := [], harness := (true, "26fa66eea9862589d5d99f48d896739499f3db51cceda8b555967ffe065fa9b9"), looks := true }, kinds := [], alts := [], laidByText := true, laidKinds := [.sentinel], laidTests := true, laidLooks := .later }
def FnWriteReadUptoCardSaid : Prop := Claim7.holds Tryd.pinned (.plain (OpenSpec.upto fnWriteReadSpec)) fnWriteReadUptoCard
end Rows
end Go.Proofs.YtkhggobpanfkfaaDoor
