/-
  NARROWER THAN 'FOR EVERY INPUT', by the rows' own cells (each row's printed sentence says how): FnExactPortWrite: ifaces, laid · FnWriteRead: ifaces, laid.
  DERIVED. THE GIVEN ROWS OF THIS SEAT. 2 by the template 'for every input the law returns true; each argument reads behind the call as it read before'; 0 by the template 'total and deterministic' (their statements: YtkhggobpanfkfaaDoorTotals.lean).
  GIVEN WITH THE SEED: the statements are not yours to turn. If you find one false, say at which input.
  Laid BY PROGRAM, IN A SANDBOX (cutbox-rows.mjs): the forced cells as the released guide's own fill.sh prints them over the translation 1df13a7d4369db0a… (all of the seat's roots in one cut). By AI agents, Wed Nov 11 2026. No macro, syntax, notation, axiom, sorry.
-/
import Derived.Test.YtkhggobpanfkfaaDoorChecked
import GoSem.Claim
import GoSem.ClaimJoined
import GoSem.ClaimMapViews
import Derived.JoinedTies
import Derived.KernelRfl
namespace Go.Proofs.YtkhggobpanfkfaaDoor
/- THE CELL 'sum', in the pinned program and in every row, IS THE sha256 OF THE DUMP (.gsa) THAT YtkhggobpanfkfaaDoorProg.lean LOADS. Nothing in Lean hashes anything: it is a label: what it is worth is what the hold of that sum in a sandbox is worth. -/
noncomputable def Tryd.pinned : Pinned := { name := "ytkhggobpanfkfaadoor", sum := "1df13a7d4369db0a65b426e82ab81c21c470f68e407fd76cb1055b71cb78a97c", checked := Tryd.checked }
namespace Rows
def none {H : Type} : Left H := { results := [], args := [] }

/- WHAT THE LISTED PACKAGE-LEVEL VARIABLES READ AS WHEN THE CALL BEGINS. Each datum BY PROGRAM (the guide's laid-datum.mjs) off the statement by which the dump's own 'gosem.cut.vars' lays the variable. In a bare row this is a premise. The card (YtkhggobpanfkfaaDoorCards.lean) ties it to the program's text. -/
def laid_loop_example_serialpair_impl_errNoFormat {H : Type} : DataW H := .iface "*errors.errorString" (.ptr (.agg [.lit (.string [110, 111, 32, 102, 111, 114, 109, 97, 116])]))

/-- 'laws.FnExactPortWrite': WHATEVER THE INPUT: true; the input reads as it did. -/
def fnExactPortWriteSpec : ChangeSpec := { name := "fnExactPortWrite", vars := ["loop.example/serialpair/impl.errNoFormat"], fn := fun _ => fun
  | [d1, d2, d3, g1] => { results := [.lit (.bool true)], args := [d1, d2, d3], vars := [g1] }
  | _ => none }
def fnExactPortWriteRow : OpenClaim := { program := "ytkhggobpanfkfaadoor", sum := "1df13a7d4369db0a65b426e82ab81c21c470f68e407fd76cb1055b71cb78a97c", func := "loop.example/serialpair/laws.FnExactPortWrite", spec := "fnExactPortWrite", inPlace := ["internal/reflectlite.TypeOf"], unfollowed := true, recurses := true, named := ["loop.example/serialpair/impl.errNoFormat"], ifaces := true, apart := false, laid := [("loop.example/serialpair/impl.errNoFormat", laid_loop_example_serialpair_impl_errNoFormat)] }
def FnExactPortWriteSaid : Prop := fnExactPortWriteRow.holds Tryd.pinned (OpenSpec.ofChange fnExactPortWriteSpec)

/-- ITS FALSE NEIGHBOUR: 'it returns false'. Refute it at one input. -/
def fnExactPortWriteWrong : ChangeSpec := { name := "fnExactPortWrite", vars := ["loop.example/serialpair/impl.errNoFormat"], fn := fun _ => fun
  | [d1, d2, d3, g1] => { results := [.lit (.bool false)], args := [d1, d2, d3], vars := [g1] }
  | _ => none }
def FnExactPortWriteWrongFalsely : Prop := fnExactPortWriteRow.holds Tryd.pinned (OpenSpec.ofChange fnExactPortWriteWrong)

/-- 'laws.FnWriteRead': WHATEVER THE INPUT: true; the input reads as it did. -/
def fnWriteReadSpec : ChangeSpec := { name := "fnWriteRead", vars := ["loop.example/serialpair/impl.errNoFormat"], fn := fun _ => fun
  | [d, g1] => { results := [.lit (.bool true)], args := [d], vars := [g1] }
  | _ => none }
def fnWriteReadRow : OpenClaim := { program := "ytkhggobpanfkfaadoor", sum := "1df13a7d4369db0a65b426e82ab81c21c470f68e407fd76cb1055b71cb78a97c", func := "loop.example/serialpair/laws.FnWriteRead", spec := "fnWriteRead", inPlace := ["internal/reflectlite.TypeOf"], unfollowed := true, recurses := true, named := ["loop.example/serialpair/impl.errNoFormat"], ifaces := true, apart := false, laid := [("loop.example/serialpair/impl.errNoFormat", laid_loop_example_serialpair_impl_errNoFormat)] }
def FnWriteReadSaid : Prop := fnWriteReadRow.holds Tryd.pinned (OpenSpec.ofChange fnWriteReadSpec)

/-- ITS FALSE NEIGHBOUR: 'it returns false'. Refute it at one input. -/
def fnWriteReadWrong : ChangeSpec := { name := "fnWriteRead", vars := ["loop.example/serialpair/impl.errNoFormat"], fn := fun _ => fun
  | [d, g1] => { results := [.lit (.bool false)], args := [d], vars := [g1] }
  | _ => none }
def FnWriteReadWrongFalsely : Prop := fnWriteReadRow.holds Tryd.pinned (OpenSpec.ofChange fnWriteReadWrong)

/- THE SECOND FORM. 'bulk': how many values and letters a reading holds, each counted each time it is reached (what is shared counts as often as it is met; a slice's spare places count too). A statement '..UptoSaid' is the law's where the arguments, and the package variables that the reading takes, are together of bulk at most 1048576: NARROWER than '..Said'. Prove '..Said' where nothing that the law and all that it calls make is longer than what came in: it says more and counts as full. Else prove '..UptoSaid'. A law counts once. -/
mutual
def uptoBulk {H : Type} : DataW H → Nat
  | .lit (.string bytes) => bytes.length + 1
  | .lit _ => 1
  | .nil => 1
  | .ptr d => uptoBulk d + 1
  | .slice elems spare => uptoBulkAll elems + uptoBulkAll spare + 1
  | .agg parts => uptoBulkAll parts + 1
  | .iface _ d => uptoBulk d + 1
  | .map entries => uptoBulkEntries entries + 1
  | .held _ => 1
def uptoBulkAll {H : Type} : List (DataW H) → Nat
  | [] => 0
  | d :: r => uptoBulk d + uptoBulkAll r
def uptoBulkEntries {H : Type} : List (Lit × DataW H) → Nat
  | [] => 0
  | x :: r => uptoBulkEntry x + uptoBulkEntries r
def uptoBulkEntry {H : Type} : Lit × DataW H → Nat
  | (.string bytes, d) => bytes.length + uptoBulk d + 1
  | (_, d) => uptoBulk d + 1
 end
def uptoSmall : (H : Type) → List (DataW H) → Bool := fun _ ds => decide (uptoBulkAll ds ≤ 1048576)
def OpenSpec.upto (s : _root_.Go.ChangeSpec) : _root_.Go.OpenSpec := { _root_.Go.OpenSpec.ofChange s with cond := some uptoSmall }

/-- 'laws.FnExactPortWrite', WHERE WHAT IT READS IS OF BULK AT MOST 1048576: true; the input reads as it did. -/
def fnExactPortWriteUptoRow : OpenClaim := { program := "ytkhggobpanfkfaadoor", sum := "1df13a7d4369db0a65b426e82ab81c21c470f68e407fd76cb1055b71cb78a97c", func := "loop.example/serialpair/laws.FnExactPortWrite", spec := "fnExactPortWrite", inPlace := ["internal/reflectlite.TypeOf"], unfollowed := true, recurses := true, named := ["loop.example/serialpair/impl.errNoFormat"], ifaces := true, apart := false, laid := [("loop.example/serialpair/impl.errNoFormat", laid_loop_example_serialpair_impl_errNoFormat)], narrowed := true }
def FnExactPortWriteUptoSaid : Prop := fnExactPortWriteUptoRow.holds Tryd.pinned (OpenSpec.upto fnExactPortWriteSpec)

/-- 'laws.FnWriteRead', WHERE WHAT IT READS IS OF BULK AT MOST 1048576: true; the input reads as it did. -/
def fnWriteReadUptoRow : OpenClaim := { program := "ytkhggobpanfkfaadoor", sum := "1df13a7d4369db0a65b426e82ab81c21c470f68e407fd76cb1055b71cb78a97c", func := "loop.example/serialpair/laws.FnWriteRead", spec := "fnWriteRead", inPlace := ["internal/reflectlite.TypeOf"], unfollowed := true, recurses := true, named := ["loop.example/serialpair/impl.errNoFormat"], ifaces := true, apart := false, laid := [("loop.example/serialpair/impl.errNoFormat", laid_loop_example_serialpair_impl_errNoFormat)], narrowed := true }
def FnWriteReadUptoSaid : Prop := fnWriteReadUptoRow.holds Tryd.pinned (OpenSpec.upto fnWriteReadSpec)

end Rows
end Go.Proofs.YtkhggobpanfkfaaDoor
