/-
  No cell of these rows narrows 'for every input' (looked for: loops, veiled, ifaces, maps, wideKeys, modest, calm, conditions, laid).
  DERIVED. THE GIVEN ROWS OF THIS SEAT. 9 by the template 'for every input the law returns true; each argument reads behind the call as it read before'; 0 by the template 'total and deterministic' (their statements: YtacjfkodndkaeaaTotals.lean).
  GIVEN WITH THE SEED: the statements are not yours to turn. If you find one false, say at which input.
  Laid BY PROGRAM, IN A SANDBOX (cutbox-rows.mjs): the forced cells as the released guide's own fill.sh prints them over the translation 5234f980fe518930… (all of the seat's roots in one cut). By AI agents, Wed Nov 11 2026. No macro, syntax, notation, axiom, sorry.
-/
import Derived.Test.YtacjfkodndkaeaaChecked
import GoSem.Claim
import GoSem.ClaimJoined
import GoSem.ClaimMapViews
import Derived.JoinedTies
import Derived.KernelRfl
namespace Go.Proofs.Ytacjfkodndkaeaa
/- THE CELL 'sum', in the pinned program and in every row, IS THE sha256 OF THE DUMP (.gsa) THAT YtacjfkodndkaeaaProg.lean LOADS. Nothing in Lean hashes anything: it is a label: what it is worth is what the hold of that sum in a sandbox is worth. -/
noncomputable def Try.pinned : Pinned := { name := "ytacjfkodndkaeaa", sum := "5234f980fe5189307028c1a2abad207046cc22de6c9194205c9d32ab24295600", checked := Try.checked }
namespace Rows
def none {H : Type} : Left H := { results := [], args := [] }

/-- 'laws.FnPortNew': WHATEVER THE INPUT: true; the input reads as it did. -/
def fnPortNewSpec : ChangeSpec := { name := "fnPortNew", fn := fun _ => fun
  | [d] => { results := [.lit (.bool true)], args := [d] }
  | _ => none }
def fnPortNewRow : OpenClaim := { program := "ytacjfkodndkaeaa", sum := "5234f980fe5189307028c1a2abad207046cc22de6c9194205c9d32ab24295600", func := "loop.example/serialpair/laws.FnPortNew", spec := "fnPortNew", unfollowed := true, recurses := true, apart := false }
def FnPortNewSaid : Prop := fnPortNewRow.holds Try.pinned (OpenSpec.ofChange fnPortNewSpec)

/-- ITS FALSE NEIGHBOUR: 'it returns false'. Refute it at one input. -/
def fnPortNewWrong : ChangeSpec := { name := "fnPortNew", fn := fun _ => fun
  | [d] => { results := [.lit (.bool false)], args := [d] }
  | _ => none }
def FnPortNewWrongFalsely : Prop := fnPortNewRow.holds Try.pinned (OpenSpec.ofChange fnPortNewWrong)

/-- 'laws.FnPortIrq': WHATEVER THE INPUT: true; the input reads as it did. -/
def fnPortIrqSpec : ChangeSpec := { name := "fnPortIrq", fn := fun _ => fun
  | [d] => { results := [.lit (.bool true)], args := [d] }
  | _ => none }
def fnPortIrqRow : OpenClaim := { program := "ytacjfkodndkaeaa", sum := "5234f980fe5189307028c1a2abad207046cc22de6c9194205c9d32ab24295600", func := "loop.example/serialpair/laws.FnPortIrq", spec := "fnPortIrq", unfollowed := true, recurses := true, apart := false }
def FnPortIrqSaid : Prop := fnPortIrqRow.holds Try.pinned (OpenSpec.ofChange fnPortIrqSpec)

/-- ITS FALSE NEIGHBOUR: 'it returns false'. Refute it at one input. -/
def fnPortIrqWrong : ChangeSpec := { name := "fnPortIrq", fn := fun _ => fun
  | [d] => { results := [.lit (.bool false)], args := [d] }
  | _ => none }
def FnPortIrqWrongFalsely : Prop := fnPortIrqRow.holds Try.pinned (OpenSpec.ofChange fnPortIrqWrong)

/-- 'laws.FnReadControl': WHATEVER THE INPUT: true; the input reads as it did. -/
def fnReadControlSpec : ChangeSpec := { name := "fnReadControl", fn := fun _ => fun
  | [d] => { results := [.lit (.bool true)], args := [d] }
  | _ => none }
def fnReadControlRow : OpenClaim := { program := "ytacjfkodndkaeaa", sum := "5234f980fe5189307028c1a2abad207046cc22de6c9194205c9d32ab24295600", func := "loop.example/serialpair/laws.FnReadControl", spec := "fnReadControl", unfollowed := true, recurses := true, apart := false }
def FnReadControlSaid : Prop := fnReadControlRow.holds Try.pinned (OpenSpec.ofChange fnReadControlSpec)

/-- ITS FALSE NEIGHBOUR: 'it returns false'. Refute it at one input. -/
def fnReadControlWrong : ChangeSpec := { name := "fnReadControl", fn := fun _ => fun
  | [d] => { results := [.lit (.bool false)], args := [d] }
  | _ => none }
def FnReadControlWrongFalsely : Prop := fnReadControlRow.holds Try.pinned (OpenSpec.ofChange fnReadControlWrong)

/-- 'laws.FnReadData': WHATEVER THE INPUT: true; the input reads as it did. -/
def fnReadDataSpec : ChangeSpec := { name := "fnReadData", fn := fun _ => fun
  | [d] => { results := [.lit (.bool true)], args := [d] }
  | _ => none }
def fnReadDataRow : OpenClaim := { program := "ytacjfkodndkaeaa", sum := "5234f980fe5189307028c1a2abad207046cc22de6c9194205c9d32ab24295600", func := "loop.example/serialpair/laws.FnReadData", spec := "fnReadData", unfollowed := true, recurses := true, apart := false }
def FnReadDataSaid : Prop := fnReadDataRow.holds Try.pinned (OpenSpec.ofChange fnReadDataSpec)

/-- ITS FALSE NEIGHBOUR: 'it returns false'. Refute it at one input. -/
def fnReadDataWrong : ChangeSpec := { name := "fnReadData", fn := fun _ => fun
  | [d] => { results := [.lit (.bool false)], args := [d] }
  | _ => none }
def FnReadDataWrongFalsely : Prop := fnReadDataRow.holds Try.pinned (OpenSpec.ofChange fnReadDataWrong)

/-- 'laws.FnReadModem': WHATEVER THE INPUT: true; the input reads as it did. -/
def fnReadModemSpec : ChangeSpec := { name := "fnReadModem", fn := fun _ => fun
  | [d] => { results := [.lit (.bool true)], args := [d] }
  | _ => none }
def fnReadModemRow : OpenClaim := { program := "ytacjfkodndkaeaa", sum := "5234f980fe5189307028c1a2abad207046cc22de6c9194205c9d32ab24295600", func := "loop.example/serialpair/laws.FnReadModem", spec := "fnReadModem", unfollowed := true, recurses := true, apart := false }
def FnReadModemSaid : Prop := fnReadModemRow.holds Try.pinned (OpenSpec.ofChange fnReadModemSpec)

/-- ITS FALSE NEIGHBOUR: 'it returns false'. Refute it at one input. -/
def fnReadModemWrong : ChangeSpec := { name := "fnReadModem", fn := fun _ => fun
  | [d] => { results := [.lit (.bool false)], args := [d] }
  | _ => none }
def FnReadModemWrongFalsely : Prop := fnReadModemRow.holds Try.pinned (OpenSpec.ofChange fnReadModemWrong)

/-- 'laws.FnReadStatus': WHATEVER THE INPUT: true; the input reads as it did. -/
def fnReadStatusSpec : ChangeSpec := { name := "fnReadStatus", fn := fun _ => fun
  | [d] => { results := [.lit (.bool true)], args := [d] }
  | _ => none }
def fnReadStatusRow : OpenClaim := { program := "ytacjfkodndkaeaa", sum := "5234f980fe5189307028c1a2abad207046cc22de6c9194205c9d32ab24295600", func := "loop.example/serialpair/laws.FnReadStatus", spec := "fnReadStatus", unfollowed := true, recurses := true, apart := false }
def FnReadStatusSaid : Prop := fnReadStatusRow.holds Try.pinned (OpenSpec.ofChange fnReadStatusSpec)

/-- ITS FALSE NEIGHBOUR: 'it returns false'. Refute it at one input. -/
def fnReadStatusWrong : ChangeSpec := { name := "fnReadStatus", fn := fun _ => fun
  | [d] => { results := [.lit (.bool false)], args := [d] }
  | _ => none }
def FnReadStatusWrongFalsely : Prop := fnReadStatusRow.holds Try.pinned (OpenSpec.ofChange fnReadStatusWrong)

/-- 'laws.FnReadStatusTwice': WHATEVER THE INPUT: true; the input reads as it did. -/
def fnReadStatusTwiceSpec : ChangeSpec := { name := "fnReadStatusTwice", fn := fun _ => fun
  | [d] => { results := [.lit (.bool true)], args := [d] }
  | _ => none }
def fnReadStatusTwiceRow : OpenClaim := { program := "ytacjfkodndkaeaa", sum := "5234f980fe5189307028c1a2abad207046cc22de6c9194205c9d32ab24295600", func := "loop.example/serialpair/laws.FnReadStatusTwice", spec := "fnReadStatusTwice", unfollowed := true, recurses := true, apart := false }
def FnReadStatusTwiceSaid : Prop := fnReadStatusTwiceRow.holds Try.pinned (OpenSpec.ofChange fnReadStatusTwiceSpec)

/-- ITS FALSE NEIGHBOUR: 'it returns false'. Refute it at one input. -/
def fnReadStatusTwiceWrong : ChangeSpec := { name := "fnReadStatusTwice", fn := fun _ => fun
  | [d] => { results := [.lit (.bool false)], args := [d] }
  | _ => none }
def FnReadStatusTwiceWrongFalsely : Prop := fnReadStatusTwiceRow.holds Try.pinned (OpenSpec.ofChange fnReadStatusTwiceWrong)

/-- 'laws.FnReadStay': WHATEVER THE INPUT: true; the input reads as it did. -/
def fnReadStaySpec : ChangeSpec := { name := "fnReadStay", fn := fun _ => fun
  | [d] => { results := [.lit (.bool true)], args := [d] }
  | _ => none }
def fnReadStayRow : OpenClaim := { program := "ytacjfkodndkaeaa", sum := "5234f980fe5189307028c1a2abad207046cc22de6c9194205c9d32ab24295600", func := "loop.example/serialpair/laws.FnReadStay", spec := "fnReadStay", unfollowed := true, recurses := true, apart := false }
def FnReadStaySaid : Prop := fnReadStayRow.holds Try.pinned (OpenSpec.ofChange fnReadStaySpec)

/-- ITS FALSE NEIGHBOUR: 'it returns false'. Refute it at one input. -/
def fnReadStayWrong : ChangeSpec := { name := "fnReadStay", fn := fun _ => fun
  | [d] => { results := [.lit (.bool false)], args := [d] }
  | _ => none }
def FnReadStayWrongFalsely : Prop := fnReadStayRow.holds Try.pinned (OpenSpec.ofChange fnReadStayWrong)

/-- 'laws.FnExactPortRead': WHATEVER THE INPUT: true; the input reads as it did. -/
def fnExactPortReadSpec : ChangeSpec := { name := "fnExactPortRead", fn := fun _ => fun
  | [d1, d2] => { results := [.lit (.bool true)], args := [d1, d2] }
  | _ => none }
def fnExactPortReadRow : OpenClaim := { program := "ytacjfkodndkaeaa", sum := "5234f980fe5189307028c1a2abad207046cc22de6c9194205c9d32ab24295600", func := "loop.example/serialpair/laws.FnExactPortRead", spec := "fnExactPortRead", unfollowed := true, recurses := true, apart := false }
def FnExactPortReadSaid : Prop := fnExactPortReadRow.holds Try.pinned (OpenSpec.ofChange fnExactPortReadSpec)

/-- ITS FALSE NEIGHBOUR: 'it returns false'. Refute it at one input. -/
def fnExactPortReadWrong : ChangeSpec := { name := "fnExactPortRead", fn := fun _ => fun
  | [d1, d2] => { results := [.lit (.bool false)], args := [d1, d2] }
  | _ => none }
def FnExactPortReadWrongFalsely : Prop := fnExactPortReadRow.holds Try.pinned (OpenSpec.ofChange fnExactPortReadWrong)

/- THE SECOND FORM. 'bulk': how many values and letters a reading holds, each counted each time it is reached (what is shared counts as often as it is met; a slice's spare places count too). A statement '..UptoSaid' is the law's where the arguments, and the package variables that the reading takes, are together of bulk at most 1048576: NARROWER than '..Said'. Prove '..Said' where nothing that the law and all that it calls make is longer than what came in: it says more and counts as full. Else prove '..UptoSaid'. A law counts once. -/
mutual
def uptoBulk {H : Type} : DataW H → Nat
  | .lit (.string bytes) => bytes.length + 1
  | .lit _ => 1
  | .nil => 1
  | .ptr d => uptoBulk d + 1
  | .slice elems spare => uptoBulkAll elems + uptoBulkAll spare + 1
  | .agg parts => uptoBulkAll parts + 1
  | .iface _ d => uptoBulk d + 1
  | .map entries => uptoBulkEntries entries + 1
  | .held _ => 1
def uptoBulkAll {H : Type} : List (DataW H) → Nat
  | [] => 0
  | d :: r => uptoBulk d + uptoBulkAll r
def uptoBulkEntries {H : Type} : List (Lit × DataW H) → Nat
  | [] => 0
  | x :: r => uptoBulkEntry x + uptoBulkEntries r
def uptoBulkEntry {H : Type} : Lit × DataW H → Nat
  | (.string bytes, d) => bytes.length + uptoBulk d + 1
  | (_, d) => uptoBulk d + 1
 end
def uptoSmall : (H : Type) → List (DataW H) → Bool := fun _ ds => decide (uptoBulkAll ds ≤ 1048576)
def OpenSpec.upto (s : _root_.Go.ChangeSpec) : _root_.Go.OpenSpec := { _root_.Go.OpenSpec.ofChange s with cond := some uptoSmall }

/-- 'laws.FnPortNew', WHERE WHAT IT READS IS OF BULK AT MOST 1048576: true; the input reads as it did. -/
def fnPortNewUptoRow : OpenClaim := { program := "ytacjfkodndkaeaa", sum := "5234f980fe5189307028c1a2abad207046cc22de6c9194205c9d32ab24295600", func := "loop.example/serialpair/laws.FnPortNew", spec := "fnPortNew", unfollowed := true, recurses := true, apart := false, narrowed := true }
def FnPortNewUptoSaid : Prop := fnPortNewUptoRow.holds Try.pinned (OpenSpec.upto fnPortNewSpec)

/-- 'laws.FnPortIrq', WHERE WHAT IT READS IS OF BULK AT MOST 1048576: true; the input reads as it did. -/
def fnPortIrqUptoRow : OpenClaim := { program := "ytacjfkodndkaeaa", sum := "5234f980fe5189307028c1a2abad207046cc22de6c9194205c9d32ab24295600", func := "loop.example/serialpair/laws.FnPortIrq", spec := "fnPortIrq", unfollowed := true, recurses := true, apart := false, narrowed := true }
def FnPortIrqUptoSaid : Prop := fnPortIrqUptoRow.holds Try.pinned (OpenSpec.upto fnPortIrqSpec)

/-- 'laws.FnReadControl', WHERE WHAT IT READS IS OF BULK AT MOST 1048576: true; the input reads as it did. -/
def fnReadControlUptoRow : OpenClaim := { program := "ytacjfkodndkaeaa", sum := "5234f980fe5189307028c1a2abad207046cc22de6c9194205c9d32ab24295600", func := "loop.example/serialpair/laws.FnReadControl", spec := "fnReadControl", unfollowed := true, recurses := true, apart := false, narrowed := true }
def FnReadControlUptoSaid : Prop := fnReadControlUptoRow.holds Try.pinned (OpenSpec.upto fnReadControlSpec)

/-- 'laws.FnReadData', WHERE WHAT IT READS IS OF BULK AT MOST 1048576: true; the input reads as it did. -/
def fnReadDataUptoRow : OpenClaim := { program := "ytacjfkodndkaeaa", sum := "5234f980fe5189307028c1a2abad207046cc22de6c9194205c9d32ab24295600", func := "loop.example/serialpair/laws.FnReadData", spec := "fnReadData", unfollowed := true, recurses := true, apart := false, narrowed := true }
def FnReadDataUptoSaid : Prop := fnReadDataUptoRow.holds Try.pinned (OpenSpec.upto fnReadDataSpec)

/-- 'laws.FnReadModem', WHERE WHAT IT READS IS OF BULK AT MOST 1048576: true; the input reads as it did. -/
def fnReadModemUptoRow : OpenClaim := { program := "ytacjfkodndkaeaa", sum := "5234f980fe5189307028c1a2abad207046cc22de6c9194205c9d32ab24295600", func := "loop.example/serialpair/laws.FnReadModem", spec := "fnReadModem", unfollowed := true, recurses := true, apart := false, narrowed := true }
def FnReadModemUptoSaid : Prop := fnReadModemUptoRow.holds Try.pinned (OpenSpec.upto fnReadModemSpec)

/-- 'laws.FnReadStatus', WHERE WHAT IT READS IS OF BULK AT MOST 1048576: true; the input reads as it did. -/
def fnReadStatusUptoRow : OpenClaim := { program := "ytacjfkodndkaeaa", sum := "5234f980fe5189307028c1a2abad207046cc22de6c9194205c9d32ab24295600", func := "loop.example/serialpair/laws.FnReadStatus", spec := "fnReadStatus", unfollowed := true, recurses := true, apart := false, narrowed := true }
def FnReadStatusUptoSaid : Prop := fnReadStatusUptoRow.holds Try.pinned (OpenSpec.upto fnReadStatusSpec)

/-- 'laws.FnReadStatusTwice', WHERE WHAT IT READS IS OF BULK AT MOST 1048576: true; the input reads as it did. -/
def fnReadStatusTwiceUptoRow : OpenClaim := { program := "ytacjfkodndkaeaa", sum := "5234f980fe5189307028c1a2abad207046cc22de6c9194205c9d32ab24295600", func := "loop.example/serialpair/laws.FnReadStatusTwice", spec := "fnReadStatusTwice", unfollowed := true, recurses := true, apart := false, narrowed := true }
def FnReadStatusTwiceUptoSaid : Prop := fnReadStatusTwiceUptoRow.holds Try.pinned (OpenSpec.upto fnReadStatusTwiceSpec)

/-- 'laws.FnReadStay', WHERE WHAT IT READS IS OF BULK AT MOST 1048576: true; the input reads as it did. -/
def fnReadStayUptoRow : OpenClaim := { program := "ytacjfkodndkaeaa", sum := "5234f980fe5189307028c1a2abad207046cc22de6c9194205c9d32ab24295600", func := "loop.example/serialpair/laws.FnReadStay", spec := "fnReadStay", unfollowed := true, recurses := true, apart := false, narrowed := true }
def FnReadStayUptoSaid : Prop := fnReadStayUptoRow.holds Try.pinned (OpenSpec.upto fnReadStaySpec)

/-- 'laws.FnExactPortRead', WHERE WHAT IT READS IS OF BULK AT MOST 1048576: true; the input reads as it did. -/
def fnExactPortReadUptoRow : OpenClaim := { program := "ytacjfkodndkaeaa", sum := "5234f980fe5189307028c1a2abad207046cc22de6c9194205c9d32ab24295600", func := "loop.example/serialpair/laws.FnExactPortRead", spec := "fnExactPortRead", unfollowed := true, recurses := true, apart := false, narrowed := true }
def FnExactPortReadUptoSaid : Prop := fnExactPortReadUptoRow.holds Try.pinned (OpenSpec.upto fnExactPortReadSpec)

end Rows
end Go.Proofs.Ytacjfkodndkaeaa
