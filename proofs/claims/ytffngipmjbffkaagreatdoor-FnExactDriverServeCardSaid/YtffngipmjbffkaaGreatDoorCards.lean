/-
  DERIVED. GIVEN WITH THE SEED: THE CARDS: each row of YtffngipmjbffkaaGreatDoorRows.lean that lists a variable, with what it lists TIED to the program's text (the seventh form; the later family's looks); each row that meets fmt, with fmt's text TOLD by the authors' own Lean function (tested against real Go, not proved from fmt's source: count such statements apart). THE CARD IS WHAT COUNTS. Prove the row's statement (the work); the ties are given (YtffngipmjbffkaaGreatDoorTie.lean); close each card by the builder's one call (the guide's Derived/Test/ToyasCard.lean, 'card_holds'). Laid BY PROGRAM, IN A SANDBOX (cutbox-door.mjs). By AI agents, Wed Nov 11 2026. No macro, syntax, notation, axiom, sorry.
-/
import Derived.Test.YtffngipmjbffkaaGreatDoorRows
import GoSem.ClaimSeven
namespace Go.Proofs.YtffngipmjbffkaaGreatDoor
namespace Rows

/-- THE TIED CARD OF 'laws.FnServe'. -/
def fnServeCard : Claim7 := { stood := { row := fnServeRow, standIns := [], harness := (true, "4aeabd2e08522e933fc821550513b0bf3290f03f711e60a9f3a40b9120581456"), looks := true }, kinds := [], alts := [], laidByText := true, laidKinds := [.sentinel], laidTests := true, laidLooks := .later }
def FnServeCardSaid : Prop := Claim7.holds Tryz.pinned (.plain (OpenSpec.ofChange fnServeSpec)) fnServeCard

/-- THE TIED CARD OF 'laws.FnServeIn'. -/
def fnServeInCard : Claim7 := { stood := { row := fnServeInRow, standIns := [], harness := (true, "4aeabd2e08522e933fc821550513b0bf3290f03f711e60a9f3a40b9120581456"), looks := true }, kinds := [], alts := [], laidByText := true, laidKinds := [.sentinel], laidTests := true, laidLooks := .later }
def FnServeInCardSaid : Prop := Claim7.holds Tryz.pinned (.plain (OpenSpec.ofChange fnServeInSpec)) fnServeInCard

/-- THE TIED CARD OF 'laws.FnServeLine'. -/
def fnServeLineCard : Claim7 := { stood := { row := fnServeLineRow, standIns := [], harness := (true, "4aeabd2e08522e933fc821550513b0bf3290f03f711e60a9f3a40b9120581456"), looks := true }, kinds := [], alts := [], laidByText := true, laidKinds := [.sentinel], laidTests := true, laidLooks := .later }
def FnServeLineCardSaid : Prop := Claim7.holds Tryz.pinned (.plain (OpenSpec.ofChange fnServeLineSpec)) fnServeLineCard

/-- THE TIED CARD OF 'laws.FnServeMany'. -/
def fnServeManyCard : Claim7 := { stood := { row := fnServeManyRow, standIns := [], harness := (true, "4aeabd2e08522e933fc821550513b0bf3290f03f711e60a9f3a40b9120581456"), looks := true }, kinds := [], alts := [], laidByText := true, laidKinds := [.sentinel], laidTests := true, laidLooks := .later }
def FnServeManyCardSaid : Prop := Claim7.holds Tryz.pinned (.plain (OpenSpec.ofChange fnServeManySpec)) fnServeManyCard

/-- THE TIED CARD OF 'laws.FnServeOut'. -/
def fnServeOutCard : Claim7 := { stood := { row := fnServeOutRow, standIns := [], harness := (true, "4aeabd2e08522e933fc821550513b0bf3290f03f711e60a9f3a40b9120581456"), looks := true }, kinds := [], alts := [], laidByText := true, laidKinds := [.sentinel], laidTests := true, laidLooks := .later }
def FnServeOutCardSaid : Prop := Claim7.holds Tryz.pinned (.plain (OpenSpec.ofChange fnServeOutSpec)) fnServeOutCard

/-- THE TIED CARD OF 'laws.FnServeTwice'. -/
def fnServeTwiceCard : Claim7 := { stood := { row := fnServeTwiceRow, standIns := [], harness := (true, "4aeabd2e08522e933fc821550513b0bf3290f03f711e60a9f3a40b9120581456"), looks := true }, kinds := [], alts := [], laidByText := true, laidKinds := [.sentinel], laidTests := true, laidLooks := .later }
def FnServeTwiceCardSaid : Prop := Claim7.holds Tryz.pinned (.plain (OpenSpec.ofChange fnServeTwiceSpec)) fnServeTwiceCard

/-- THE TIED CARD OF 'laws.FnExactDriverServe'. -/
def fnExactDriverServeCard : Claim7 := { stood := { row := fnExactDriverServeRow, standIns := [], harness := (true, "4aeabd2e08522e933fc821550513b0bf3290f03f711e60a9f3a40b9120581456"), looks := true }, kinds := [], alts := [], laidByText := true, laidKinds := [.sentinel], laidTests := true, laidLooks := .later }
def FnExactDriverServeCardSaid : Prop := Claim7.holds Tryz.pinned (.plain (OpenSpec.ofChange fnExactDriverServeSpec)) fnExactDriverServeCard

/-- THE SECOND FORM's CARD OF 'laws.FnServe'. -/
def fnServeUptoCard : Claim7 := { stood := { row := fnServeUptoRow, standIns := [], harness := (true, "4aeabd2e08522e933fc821550513b0bf3290f03f711e60a9f3a40b9120581456"), looks := true }, kinds := [], alts := [], laidByText := true, laidKinds := [.sentinel], laidTests := true, laidLooks := .later }
def FnServeUptoCardSaid : Prop := Claim7.holds Tryz.pinned (.plain (OpenSpec.upto fnServeSpec)) fnServeUptoCard

/-- THE SECOND FORM's CARD OF 'laws.FnServeIn'. -/
def fnServeInUptoCard : Claim7 := { stood := { row := fnServeInUptoRow, standIns := [], harness := (true, "4aeabd2e08522e933fc821550513b0bf3290f03f711e60a9f3a40b9120581456"), looks := true }, kinds := [], alts := [], laidByText := true, laidKinds := [.sentinel], laidTests := true, laidLooks := .later }
def FnServeInUptoCardSaid : Prop := Claim7.holds Tryz.pinned (.plain (OpenSpec.upto fnServeInSpec)) fnServeInUptoCard

/-- THE SECOND FORM's CARD OF 'laws.FnServeLine'. -/
def fnServeLineUptoCard : Claim7 := { stood := { row := fnServeLineUptoRow, standIns := [], harness := (true, "4aeabd2e08522e933fc821550513b0bf3290f03f711e60a9f3a40b9120581456"), looks := true }, kinds := [], alts := [], laidByText := true, laidKinds := [.sentinel], laidTests := true, laidLooks := .later }
def FnServeLineUptoCardSaid : Prop := Claim7.holds Tryz.pinned (.plain (OpenSpec.upto fnServeLineSpec)) fnServeLineUptoCard

/-- THE SECOND FORM's CARD OF 'laws.FnServeMany'. -/
def fnServeManyUptoCard : Claim7 := { stood := { row := fnServeManyUptoRow, standIns := [], harness := (true, "4aeabd2e08522e933fc821550513b0bf3290f03f711e60a9f3a40b9120581456"), looks := true }, kinds := [], alts := [], laidByText := true, laidKinds := [.sentinel], laidTests := true, laidLooks := .later }
def FnServeManyUptoCardSaid : Prop := Claim7.holds Tryz.pinned (.plain (OpenSpec.upto fnServeManySpec)) fnServeManyUptoCard

/-- THE SECOND FORM's CARD OF 'laws.FnServeOut'. -/
def fnServeOutUptoCard : Claim7 := { stood := { row := fnServeOutUptoRow, standIns := [], harness := (true, "4aeabd2e08522e933fc821550513b0bf3290f03f711e60a9f3a40b9120581456"), looks := true }, kinds := [], alts := [], laidByText := true, laidKinds := [.sentinel], laidTests := true, laidLooks := .later }
def FnServeOutUptoCardSaid : Prop := Claim7.holds Tryz.pinned (.plain (OpenSpec.upto fnServeOutSpec)) fnServeOutUptoCard

/-- THE SECOND FORM's CARD OF 'laws.FnServeTwice'. -/
def fnServeTwiceUptoCard : Claim7 := { stood := { row := fnServeTwiceUptoRow, standIns := [], harness := (true, "4aeabd2e08522e933fc821550513b0bf3290f03f711e60a9f3a40b9120581456"), looks := true }, kinds := [], alts := [], laidByText := true, laidKinds := [.sentinel], laidTests := true, laidLooks := .later }
def FnServeTwiceUptoCardSaid : Prop := Claim7.holds Tryz.pinned (.plain (OpenSpec.upto fnServeTwiceSpec)) fnServeTwiceUptoCard

/-- THE SECOND FORM's CARD OF 'laws.FnExactDriverServe'. -/
def fnExactDriverServeUptoCard : Claim7 := { stood := { row := fnExactDriverServeUptoRow, standIns := [], harness := (true, "4aeabd2e08522e933fc821550513b0bf3290f03f711e60a9f3a40b9120581456"), looks := true }, kinds := [], alts := [], laidByText := true, laidKinds := [.sentinel], laidTests := true, laidLooks := .later }
def FnExactDriverServeUptoCardSaid : Prop := Claim7.holds Tryz.pinned (.plain (OpenSpec.upto fnExactDriverServeSpec)) fnExactDriverServeUptoCard
end Rows
end Go.Proofs.YtffngipmjbffkaaGreatDoor
