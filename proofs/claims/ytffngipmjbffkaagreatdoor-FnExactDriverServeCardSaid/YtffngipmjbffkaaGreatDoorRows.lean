/-
  NARROWER THAN 'FOR EVERY INPUT', by the rows' own cells (each row's printed sentence says how): FnServe: ifaces, laid · FnServeIn: ifaces, laid · FnServeLine: ifaces, laid · FnServeMany: ifaces, laid · FnServeOut: ifaces, laid · FnServeTwice: ifaces, laid · FnExactDriverServe: ifaces, laid.
  DERIVED. THE GIVEN ROWS OF THIS SEAT. 7 by the template 'for every input the law returns true; each argument reads behind the call as it read before'; 0 by the template 'total and deterministic' (their statements: YtffngipmjbffkaaGreatDoorTotals.lean).
  GIVEN WITH THE SEED: the statements are not yours to turn. If you find one false, say at which input.
  Laid BY PROGRAM, IN A SANDBOX (cutbox-rows.mjs): the forced cells as the released guide's own fill.sh prints them over the translation e01ae2eb2069b202… (all of the seat's roots in one cut). By AI agents, Wed Nov 11 2026. No macro, syntax, notation, axiom, sorry.
-/
import Derived.Test.YtffngipmjbffkaaGreatDoorChecked
import GoSem.Claim
import GoSem.ClaimJoined
import GoSem.ClaimMapViews
import Derived.JoinedTies
import Derived.KernelRfl
namespace Go.Proofs.YtffngipmjbffkaaGreatDoor
/- THE CELL 'sum', in the pinned program and in every row, IS THE sha256 OF THE DUMP (.gsa) THAT YtffngipmjbffkaaGreatDoorProg.lean LOADS. Nothing in Lean hashes anything: it is a label: what it is worth is what the hold of that sum in a sandbox is worth. -/
noncomputable def Tryz.pinned : Pinned := { name := "ytffngipmjbffkaagreatdoor", sum := "e01ae2eb2069b2021cac49c07a6d6099bfb145595189af2121b457ccb4c9e9d4", checked := Tryz.checked }
namespace Rows
def none {H : Type} : Left H := { results := [], args := [] }

/- WHAT THE LISTED PACKAGE-LEVEL VARIABLES READ AS WHEN THE CALL BEGINS. Each datum BY PROGRAM (the guide's laid-datum.mjs) off the statement by which the dump's own 'gosem.cut.vars' lays the variable. In a bare row this is a premise. The card (YtffngipmjbffkaaGreatDoorCards.lean) ties it to the program's text. -/
def laid_loop_example_serialpair_impl_errNoFormat {H : Type} : DataW H := .iface "*errors.errorString" (.ptr (.agg [.lit (.string [110, 111, 32, 102, 111, 114, 109, 97, 116])]))

/-- 'laws.FnServe': WHATEVER THE INPUT: true; the input reads as it did. -/
def fnServeSpec : ChangeSpec := { name := "fnServe", vars := ["loop.example/serialpair/impl.errNoFormat"], fn := fun _ => fun
  | [d, g1] => { results := [.lit (.bool true)], args := [d], vars := [g1] }
  | _ => none }
def fnServeRow : OpenClaim := { program := "ytffngipmjbffkaagreatdoor", sum := "e01ae2eb2069b2021cac49c07a6d6099bfb145595189af2121b457ccb4c9e9d4", func := "loop.example/serialpair/laws.FnServe", spec := "fnServe", inPlace := ["internal/reflectlite.TypeOf"], unfollowed := true, recurses := true, named := ["loop.example/serialpair/impl.errNoFormat"], ifaces := true, apart := false, laid := [("loop.example/serialpair/impl.errNoFormat", laid_loop_example_serialpair_impl_errNoFormat)] }
def FnServeSaid : Prop := fnServeRow.holds Tryz.pinned (OpenSpec.ofChange fnServeSpec)

/-- ITS FALSE NEIGHBOUR: 'it returns false'. Refute it at one input. -/
def fnServeWrong : ChangeSpec := { name := "fnServe", vars := ["loop.example/serialpair/impl.errNoFormat"], fn := fun _ => fun
  | [d, g1] => { results := [.lit (.bool false)], args := [d], vars := [g1] }
  | _ => none }
def FnServeWrongFalsely : Prop := fnServeRow.holds Tryz.pinned (OpenSpec.ofChange fnServeWrong)

/-- 'laws.FnServeIn': WHATEVER THE INPUT: true; the input reads as it did. -/
def fnServeInSpec : ChangeSpec := { name := "fnServeIn", vars := ["loop.example/serialpair/impl.errNoFormat"], fn := fun _ => fun
  | [d, g1] => { results := [.lit (.bool true)], args := [d], vars := [g1] }
  | _ => none }
def fnServeInRow : OpenClaim := { program := "ytffngipmjbffkaagreatdoor", sum := "e01ae2eb2069b2021cac49c07a6d6099bfb145595189af2121b457ccb4c9e9d4", func := "loop.example/serialpair/laws.FnServeIn", spec := "fnServeIn", inPlace := ["internal/reflectlite.TypeOf"], unfollowed := true, recurses := true, named := ["loop.example/serialpair/impl.errNoFormat"], ifaces := true, apart := false, laid := [("loop.example/serialpair/impl.errNoFormat", laid_loop_example_serialpair_impl_errNoFormat)] }
def FnServeInSaid : Prop := fnServeInRow.holds Tryz.pinned (OpenSpec.ofChange fnServeInSpec)

/-- ITS FALSE NEIGHBOUR: 'it returns false'. Refute it at one input. -/
def fnServeInWrong : ChangeSpec := { name := "fnServeIn", vars := ["loop.example/serialpair/impl.errNoFormat"], fn := fun _ => fun
  | [d, g1] => { results := [.lit (.bool false)], args := [d], vars := [g1] }
  | _ => none }
def FnServeInWrongFalsely : Prop := fnServeInRow.holds Tryz.pinned (OpenSpec.ofChange fnServeInWrong)

/-- 'laws.FnServeLine': WHATEVER THE INPUT: true; the input reads as it did. -/
def fnServeLineSpec : ChangeSpec := { name := "fnServeLine", vars := ["loop.example/serialpair/impl.errNoFormat"], fn := fun _ => fun
  | [d, g1] => { results := [.lit (.bool true)], args := [d], vars := [g1] }
  | _ => none }
def fnServeLineRow : OpenClaim := { program := "ytffngipmjbffkaagreatdoor", sum := "e01ae2eb2069b2021cac49c07a6d6099bfb145595189af2121b457ccb4c9e9d4", func := "loop.example/serialpair/laws.FnServeLine", spec := "fnServeLine", inPlace := ["internal/reflectlite.TypeOf"], unfollowed := true, recurses := true, named := ["loop.example/serialpair/impl.errNoFormat"], ifaces := true, apart := false, laid := [("loop.example/serialpair/impl.errNoFormat", laid_loop_example_serialpair_impl_errNoFormat)] }
def FnServeLineSaid : Prop := fnServeLineRow.holds Tryz.pinned (OpenSpec.ofChange fnServeLineSpec)

/-- ITS FALSE NEIGHBOUR: 'it returns false'. Refute it at one input. -/
def fnServeLineWrong : ChangeSpec := { name := "fnServeLine", vars := ["loop.example/serialpair/impl.errNoFormat"], fn := fun _ => fun
  | [d, g1] => { results := [.lit (.bool false)], args := [d], vars := [g1] }
  | _ => none }
def FnServeLineWrongFalsely : Prop := fnServeLineRow.holds Tryz.pinned (OpenSpec.ofChange fnServeLineWrong)

/-- 'laws.FnServeMany': WHATEVER THE INPUT: true; the input reads as it did. -/
def fnServeManySpec : ChangeSpec := { name := "fnServeMany", vars := ["loop.example/serialpair/impl.errNoFormat"], fn := fun _ => fun
  | [d, g1] => { results := [.lit (.bool true)], args := [d], vars := [g1] }
  | _ => none }
def fnServeManyRow : OpenClaim := { program := "ytffngipmjbffkaagreatdoor", sum := "e01ae2eb2069b2021cac49c07a6d6099bfb145595189af2121b457ccb4c9e9d4", func := "loop.example/serialpair/laws.FnServeMany", spec := "fnServeMany", inPlace := ["internal/reflectlite.TypeOf"], unfollowed := true, recurses := true, named := ["loop.example/serialpair/impl.errNoFormat"], ifaces := true, apart := false, laid := [("loop.example/serialpair/impl.errNoFormat", laid_loop_example_serialpair_impl_errNoFormat)] }
def FnServeManySaid : Prop := fnServeManyRow.holds Tryz.pinned (OpenSpec.ofChange fnServeManySpec)

/-- ITS FALSE NEIGHBOUR: 'it returns false'. Refute it at one input. -/
def fnServeManyWrong : ChangeSpec := { name := "fnServeMany", vars := ["loop.example/serialpair/impl.errNoFormat"], fn := fun _ => fun
  | [d, g1] => { results := [.lit (.bool false)], args := [d], vars := [g1] }
  | _ => none }
def FnServeManyWrongFalsely : Prop := fnServeManyRow.holds Tryz.pinned (OpenSpec.ofChange fnServeManyWrong)

/-- 'laws.FnServeOut': WHATEVER THE INPUT: true; the input reads as it did. -/
def fnServeOutSpec : ChangeSpec := { name := "fnServeOut", vars := ["loop.example/serialpair/impl.errNoFormat"], fn := fun _ => fun
  | [d, g1] => { results := [.lit (.bool true)], args := [d], vars := [g1] }
  | _ => none }
def fnServeOutRow : OpenClaim := { program := "ytffngipmjbffkaagreatdoor", sum := "e01ae2eb2069b2021cac49c07a6d6099bfb145595189af2121b457ccb4c9e9d4", func := "loop.example/serialpair/laws.FnServeOut", spec := "fnServeOut", inPlace := ["internal/reflectlite.TypeOf"], unfollowed := true, recurses := true, named := ["loop.example/serialpair/impl.errNoFormat"], ifaces := true, apart := false, laid := [("loop.example/serialpair/impl.errNoFormat", laid_loop_example_serialpair_impl_errNoFormat)] }
def FnServeOutSaid : Prop := fnServeOutRow.holds Tryz.pinned (OpenSpec.ofChange fnServeOutSpec)

/-- ITS FALSE NEIGHBOUR: 'it returns false'. Refute it at one input. -/
def fnServeOutWrong : ChangeSpec := { name := "fnServeOut", vars := ["loop.example/serialpair/impl.errNoFormat"], fn := fun _ => fun
  | [d, g1] => { results := [.lit (.bool false)], args := [d], vars := [g1] }
  | _ => none }
def FnServeOutWrongFalsely : Prop := fnServeOutRow.holds Tryz.pinned (OpenSpec.ofChange fnServeOutWrong)

/-- 'laws.FnServeTwice': WHATEVER THE INPUT: true; the input reads as it did. -/
def fnServeTwiceSpec : ChangeSpec := { name := "fnServeTwice", vars := ["loop.example/serialpair/impl.errNoFormat"], fn := fun _ => fun
  | [d, g1] => { results := [.lit (.bool true)], args := [d], vars := [g1] }
  | _ => none }
def fnServeTwiceRow : OpenClaim := { program := "ytffngipmjbffkaagreatdoor", sum := "e01ae2eb2069b2021cac49c07a6d6099bfb145595189af2121b457ccb4c9e9d4", func := "loop.example/serialpair/laws.FnServeTwice", spec := "fnServeTwice", inPlace := ["internal/reflectlite.TypeOf"], unfollowed := true, recurses := true, named := ["loop.example/serialpair/impl.errNoFormat"], ifaces := true, apart := false, laid := [("loop.example/serialpair/impl.errNoFormat", laid_loop_example_serialpair_impl_errNoFormat)] }
def FnServeTwiceSaid : Prop := fnServeTwiceRow.holds Tryz.pinned (OpenSpec.ofChange fnServeTwiceSpec)

/-- ITS FALSE NEIGHBOUR: 'it returns false'. Refute it at one input. -/
def fnServeTwiceWrong : ChangeSpec := { name := "fnServeTwice", vars := ["loop.example/serialpair/impl.errNoFormat"], fn := fun _ => fun
  | [d, g1] => { results := [.lit (.bool false)], args := [d], vars := [g1] }
  | _ => none }
def FnServeTwiceWrongFalsely : Prop := fnServeTwiceRow.holds Tryz.pinned (OpenSpec.ofChange fnServeTwiceWrong)

/-- 'laws.FnExactDriverServe': WHATEVER THE INPUT: true; the input reads as it did. -/
def fnExactDriverServeSpec : ChangeSpec := { name := "fnExactDriverServe", vars := ["loop.example/serialpair/impl.errNoFormat"], fn := fun _ => fun
  | [d, g1] => { results := [.lit (.bool true)], args := [d], vars := [g1] }
  | _ => none }
def fnExactDriverServeRow : OpenClaim := { program := "ytffngipmjbffkaagreatdoor", sum := "e01ae2eb2069b2021cac49c07a6d6099bfb145595189af2121b457ccb4c9e9d4", func := "loop.example/serialpair/laws.FnExactDriverServe", spec := "fnExactDriverServe", inPlace := ["internal/reflectlite.TypeOf"], unfollowed := true, recurses := true, named := ["loop.example/serialpair/impl.errNoFormat"], ifaces := true, apart := false, laid := [("loop.example/serialpair/impl.errNoFormat", laid_loop_example_serialpair_impl_errNoFormat)] }
def FnExactDriverServeSaid : Prop := fnExactDriverServeRow.holds Tryz.pinned (OpenSpec.ofChange fnExactDriverServeSpec)

/-- ITS FALSE NEIGHBOUR: 'it returns false'. Refute it at one input. -/
def fnExactDriverServeWrong : ChangeSpec := { name := "fnExactDriverServe", vars := ["loop.example/serialpair/impl.errNoFormat"], fn := fun _ => fun
  | [d, g1] => { results := [.lit (.bool false)], args := [d], vars := [g1] }
  | _ => none }
def FnExactDriverServeWrongFalsely : Prop := fnExactDriverServeRow.holds Tryz.pinned (OpenSpec.ofChange fnExactDriverServeWrong)

/- THE SECOND FORM. 'bulk': how many values and letters a reading holds, each counted each time it is reached (what is shared counts as often as it is met; a slice's spare places count too). A statement '..UptoSaid' is the law's where the arguments, and the package variables that the reading takes, are together of bulk at most 1048576: NARROWER than '..Said'. Prove '..Said' where nothing that the law and all that it calls make is longer than what came in: it says more and counts as full. Else prove '..UptoSaid'. A law counts once. -/
mutual
def uptoBulk {H : Type} : DataW H → Nat
  | .lit (.string bytes) => bytes.length + 1
  | .lit _ => 1
  | .nil => 1
  | .ptr d => uptoBulk d + 1
  | .slice elems spare => uptoBulkAll elems + uptoBulkAll spare + 1
  | .agg parts => uptoBulkAll parts + 1
  | .iface _ d => uptoBulk d + 1
  | .map entries => uptoBulkEntries entries + 1
  | .held _ => 1
def uptoBulkAll {H : Type} : List (DataW H) → Nat
  | [] => 0
  | d :: r => uptoBulk d + uptoBulkAll r
def uptoBulkEntries {H : Type} : List (Lit × DataW H) → Nat
  | [] => 0
  | x :: r => uptoBulkEntry x + uptoBulkEntries r
def uptoBulkEntry {H : Type} : Lit × DataW H → Nat
  | (.string bytes, d) => bytes.length + uptoBulk d + 1
  | (_, d) => uptoBulk d + 1
 end
def uptoSmall : (H : Type) → List (DataW H) → Bool := fun _ ds => decide (uptoBulkAll ds ≤ 1048576)
def OpenSpec.upto (s : _root_.Go.ChangeSpec) : _root_.Go.OpenSpec := { _root_.Go.OpenSpec.ofChange s with cond := some uptoSmall }

/-- 'laws.FnServe', WHERE WHAT IT READS IS OF BULK AT MOST 1048576: true; the input reads as it did. -/
def fnServeUptoRow : OpenClaim := { program := "ytffngipmjbffkaagreatdoor", sum := "e01ae2eb2069b2021cac49c07a6d6099bfb145595189af2121b457ccb4c9e9d4", func := "loop.example/serialpair/laws.FnServe", spec := "fnServe", inPlace := ["internal/reflectlite.TypeOf"], unfollowed := true, recurses := true, named := ["loop.example/serialpair/impl.errNoFormat"], ifaces := true, apart := false, laid := [("loop.example/serialpair/impl.errNoFormat", laid_loop_example_serialpair_impl_errNoFormat)], narrowed := true }
def FnServeUptoSaid : Prop := fnServeUptoRow.holds Tryz.pinned (OpenSpec.upto fnServeSpec)

/-- 'laws.FnServeIn', WHERE WHAT IT READS IS OF BULK AT MOST 1048576: true; the input reads as it did. -/
def fnServeInUptoRow : OpenClaim := { program := "ytffngipmjbffkaagreatdoor", sum := "e01ae2eb2069b2021cac49c07a6d6099bfb145595189af2121b457ccb4c9e9d4", func := "loop.example/serialpair/laws.FnServeIn", spec := "fnServeIn", inPlace := ["internal/reflectlite.TypeOf"], unfollowed := true, recurses := true, named := ["loop.example/serialpair/impl.errNoFormat"], ifaces := true, apart := false, laid := [("loop.example/serialpair/impl.errNoFormat", laid_loop_example_serialpair_impl_errNoFormat)], narrowed := true }
def FnServeInUptoSaid : Prop := fnServeInUptoRow.holds Tryz.pinned (OpenSpec.upto fnServeInSpec)

/-- 'laws.FnServeLine', WHERE WHAT IT READS IS OF BULK AT MOST 1048576: true; the input reads as it did. -/
def fnServeLineUptoRow : OpenClaim := { program := "ytffngipmjbffkaagreatdoor", sum := "e01ae2eb2069b2021cac49c07a6d6099bfb145595189af2121b457ccb4c9e9d4", func := "loop.example/serialpair/laws.FnServeLine", spec := "fnServeLine", inPlace := ["internal/reflectlite.TypeOf"], unfollowed := true, recurses := true, named := ["loop.example/serialpair/impl.errNoFormat"], ifaces := true, apart := false, laid := [("loop.example/serialpair/impl.errNoFormat", laid_loop_example_serialpair_impl_errNoFormat)], narrowed := true }
def FnServeLineUptoSaid : Prop := fnServeLineUptoRow.holds Tryz.pinned (OpenSpec.upto fnServeLineSpec)

/-- 'laws.FnServeMany', WHERE WHAT IT READS IS OF BULK AT MOST 1048576: true; the input reads as it did. -/
def fnServeManyUptoRow : OpenClaim := { program := "ytffngipmjbffkaagreatdoor", sum := "e01ae2eb2069b2021cac49c07a6d6099bfb145595189af2121b457ccb4c9e9d4", func := "loop.example/serialpair/laws.FnServeMany", spec := "fnServeMany", inPlace := ["internal/reflectlite.TypeOf"], unfollowed := true, recurses := true, named := ["loop.example/serialpair/impl.errNoFormat"], ifaces := true, apart := false, laid := [("loop.example/serialpair/impl.errNoFormat", laid_loop_example_serialpair_impl_errNoFormat)], narrowed := true }
def FnServeManyUptoSaid : Prop := fnServeManyUptoRow.holds Tryz.pinned (OpenSpec.upto fnServeManySpec)

/-- 'laws.FnServeOut', WHERE WHAT IT READS IS OF BULK AT MOST 1048576: true; the input reads as it did. -/
def fnServeOutUptoRow : OpenClaim := { program := "ytffngipmjbffkaagreatdoor", sum := "e01ae2eb2069b2021cac49c07a6d6099bfb145595189af2121b457ccb4c9e9d4", func := "loop.example/serialpair/laws.FnServeOut", spec := "fnServeOut", inPlace := ["internal/reflectlite.TypeOf"], unfollowed := true, recurses := true, named := ["loop.example/serialpair/impl.errNoFormat"], ifaces := true, apart := false, laid := [("loop.example/serialpair/impl.errNoFormat", laid_loop_example_serialpair_impl_errNoFormat)], narrowed := true }
def FnServeOutUptoSaid : Prop := fnServeOutUptoRow.holds Tryz.pinned (OpenSpec.upto fnServeOutSpec)

/-- 'laws.FnServeTwice', WHERE WHAT IT READS IS OF BULK AT MOST 1048576: true; the input reads as it did. -/
def fnServeTwiceUptoRow : OpenClaim := { program := "ytffngipmjbffkaagreatdoor", sum := "e01ae2eb2069b2021cac49c07a6d6099bfb145595189af2121b457ccb4c9e9d4", func := "loop.example/serialpair/laws.FnServeTwice", spec := "fnServeTwice", inPlace := ["internal/reflectlite.TypeOf"], unfollowed := true, recurses := true, named := ["loop.example/serialpair/impl.errNoFormat"], ifaces := true, apart := false, laid := [("loop.example/serialpair/impl.errNoFormat", laid_loop_example_serialpair_impl_errNoFormat)], narrowed := true }
def FnServeTwiceUptoSaid : Prop := fnServeTwiceUptoRow.holds Tryz.pinned (OpenSpec.upto fnServeTwiceSpec)

/-- 'laws.FnExactDriverServe', WHERE WHAT IT READS IS OF BULK AT MOST 1048576: true; the input reads as it did. -/
def fnExactDriverServeUptoRow : OpenClaim := { program := "ytffngipmjbffkaagreatdoor", sum := "e01ae2eb2069b2021cac49c07a6d6099bfb145595189af2121b457ccb4c9e9d4", func := "loop.example/serialpair/laws.FnExactDriverServe", spec := "fnExactDriverServe", inPlace := ["internal/reflectlite.TypeOf"], unfollowed := true, recurses := true, named := ["loop.example/serialpair/impl.errNoFormat"], ifaces := true, apart := false, laid := [("loop.example/serialpair/impl.errNoFormat", laid_loop_example_serialpair_impl_errNoFormat)], narrowed := true }
def FnExactDriverServeUptoSaid : Prop := fnExactDriverServeUptoRow.holds Tryz.pinned (OpenSpec.upto fnExactDriverServeSpec)

end Rows
end Go.Proofs.YtffngipmjbffkaaGreatDoor
