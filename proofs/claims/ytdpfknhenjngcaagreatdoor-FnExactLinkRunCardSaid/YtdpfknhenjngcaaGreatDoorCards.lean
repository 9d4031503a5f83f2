/-
  DERIVED. GIVEN WITH THE SEED: THE CARDS: each row of YtdpfknhenjngcaaGreatDoorRows.lean that lists a variable, with what it lists TIED to the program's text (the seventh form; the later family's looks); each row that meets fmt, with fmt's text TOLD by the authors' own Lean function (tested against real Go, not proved from fmt's source: count such statements apart). THE CARD IS WHAT COUNTS. Prove the row's statement (the work); the ties are given (YtdpfknhenjngcaaGreatDoorTie.lean); close each card by the builder's one call (the guide's Derived/Test/ToyasCard.lean, 'card_holds'). Laid BY PROGRAM, IN A SANDBOX (cutbox-door.mjs). By AI agents, Wed Nov 11 2026. No macro, syntax, notation, axiom, sorry.
-/
import Derived.Test.YtdpfknhenjngcaaGreatDoorRows
import GoSem.ClaimSeven
namespace Go.Proofs.YtdpfknhenjngcaaGreatDoor
namespace Rows

/-- THE TIED CARD OF 'laws.FnStep'. -/
def fnStepCard : Claim7 := { stood := { row := fnStepRow, standIns := [], harness := (true, "c6c82b1ac7112bf3386a7f27fb25917ed316a4177ca5dd2bd340ace58037e13c"), looks := true }, kinds := [], alts := [], goes := true, laidByText := true, laidKinds := [.sentinel], laidTests := true, laidLooks := .later }
def FnStepCardSaid : Prop := Claim7.holds Tryz.pinned (.plain (OpenSpec.ofChange fnStepSpec)) fnStepCard

/-- THE TIED CARD OF 'laws.FnSwap'. -/
def fnSwapCard : Claim7 := { stood := { row := fnSwapRow, standIns := [], harness := (true, "c6c82b1ac7112bf3386a7f27fb25917ed316a4177ca5dd2bd340ace58037e13c"), looks := true }, kinds := [], alts := [], goes := true, laidByText := true, laidKinds := [.sentinel], laidTests := true, laidLooks := .later }
def FnSwapCardSaid : Prop := Claim7.holds Tryz.pinned (.plain (OpenSpec.ofChange fnSwapSpec)) fnSwapCard

/-- THE TIED CARD OF 'laws.FnLinkRun'. -/
def fnLinkRunCard : Claim7 := { stood := { row := fnLinkRunRow, standIns := [], harness := (true, "c6c82b1ac7112bf3386a7f27fb25917ed316a4177ca5dd2bd340ace58037e13c"), looks := true }, kinds := [], alts := [], goes := true, laidByText := true, laidKinds := [.sentinel], laidTests := true, laidLooks := .later }
def FnLinkRunCardSaid : Prop := Claim7.holds Tryz.pinned (.plain (OpenSpec.ofChange fnLinkRunSpec)) fnLinkRunCard

/-- THE TIED CARD OF 'laws.FnLinkRunOne'. -/
def fnLinkRunOneCard : Claim7 := { stood := { row := fnLinkRunOneRow, standIns := [], harness := (true, "c6c82b1ac7112bf3386a7f27fb25917ed316a4177ca5dd2bd340ace58037e13c"), looks := true }, kinds := [], alts := [], goes := true, laidByText := true, laidKinds := [.sentinel], laidTests := true, laidLooks := .later }
def FnLinkRunOneCardSaid : Prop := Claim7.holds Tryz.pinned (.plain (OpenSpec.ofChange fnLinkRunOneSpec)) fnLinkRunOneCard

/-- THE TIED CARD OF 'laws.FnFlightStep'. -/
def fnFlightStepCard : Claim7 := { stood := { row := fnFlightStepRow, standIns := [], harness := (true, "c6c82b1ac7112bf3386a7f27fb25917ed316a4177ca5dd2bd340ace58037e13c"), looks := true }, kinds := [], alts := [], goes := true, laidByText := true, laidKinds := [.sentinel], laidTests := true, laidLooks := .later }
def FnFlightStepCardSaid : Prop := Claim7.holds Tryz.pinned (.plain (OpenSpec.ofChange fnFlightStepSpec)) fnFlightStepCard

/-- THE TIED CARD OF 'laws.FnChannel'. -/
def fnChannelCard : Claim7 := { stood := { row := fnChannelRow, standIns := [], harness := (true, "c6c82b1ac7112bf3386a7f27fb25917ed316a4177ca5dd2bd340ace58037e13c"), looks := true }, kinds := [], alts := [], goes := true, laidByText := true, laidKinds := [.sentinel], laidTests := true, laidLooks := .later }
def FnChannelCardSaid : Prop := Claim7.holds Tryz.pinned (.plain (OpenSpec.ofChange fnChannelSpec)) fnChannelCard

/-- THE TIED CARD OF 'laws.FnChannelArrive'. -/
def fnChannelArriveCard : Claim7 := { stood := { row := fnChannelArriveRow, standIns := [], harness := (true, "c6c82b1ac7112bf3386a7f27fb25917ed316a4177ca5dd2bd340ace58037e13c"), looks := true }, kinds := [], alts := [], goes := true, laidByText := true, laidKinds := [.sentinel], laidTests := true, laidLooks := .later }
def FnChannelArriveCardSaid : Prop := Claim7.holds Tryz.pinned (.plain (OpenSpec.ofChange fnChannelArriveSpec)) fnChannelArriveCard

/-- THE TIED CARD OF 'laws.FnExactLinkStep'. -/
def fnExactLinkStepCard : Claim7 := { stood := { row := fnExactLinkStepRow, standIns := [], harness := (true, "c6c82b1ac7112bf3386a7f27fb25917ed316a4177ca5dd2bd340ace58037e13c"), looks := true }, kinds := [], alts := [], goes := true, laidByText := true, laidKinds := [.sentinel], laidTests := true, laidLooks := .later }
def FnExactLinkStepCardSaid : Prop := Claim7.holds Tryz.pinned (.plain (OpenSpec.ofChange fnExactLinkStepSpec)) fnExactLinkStepCard

/-- THE TIED CARD OF 'laws.FnExactLinkRun'. -/
def fnExactLinkRunCard : Claim7 := { stood := { row := fnExactLinkRunRow, standIns := [], harness := (true, "c6c82b1ac7112bf3386a7f27fb25917ed316a4177ca5dd2bd340ace58037e13c"), looks := true }, kinds := [], alts := [], goes := true, laidByText := true, laidKinds := [.sentinel], laidTests := true, laidLooks := .later }
def FnExactLinkRunCardSaid : Prop := Claim7.holds Tryz.pinned (.plain (OpenSpec.ofChange fnExactLinkRunSpec)) fnExactLinkRunCard
end Rows
end Go.Proofs.YtdpfknhenjngcaaGreatDoor
