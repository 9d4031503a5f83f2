/-
  No cell of these rows narrows 'for every input' (looked for: loops, veiled, ifaces, maps, wideKeys, modest, calm, conditions, laid).
  DERIVED. THE GIVEN ROWS OF THIS SEAT. 12 by the template 'for every input the law returns true; each argument reads behind the call as it read before'; 0 by the template 'total and deterministic' (their statements: YtonibbcmgiflbaaTotals.lean).
  GIVEN WITH THE SEED: the statements are not yours to turn. If you find one false, say at which input.
  Laid BY PROGRAM, IN A SANDBOX (cutbox-rows.mjs): the forced cells as the released guide's own fill.sh prints them over the translation 1344dd7d19aefe63… (all of the seat's roots in one cut). By AI agents, Wed Nov 11 2026. No macro, syntax, notation, axiom, sorry.
-/
import Derived.Test.YtonibbcmgiflbaaChecked
import GoSem.Claim
import GoSem.ClaimJoined
import GoSem.ClaimMapViews
import Derived.JoinedTies
import Derived.KernelRfl
namespace Go.Proofs.Ytonibbcmgiflbaa
/- THE CELL 'sum', in the pinned program and in every row, IS THE sha256 OF THE DUMP (.gsa) THAT YtonibbcmgiflbaaProg.lean LOADS. Nothing in Lean hashes anything: it is a label: what it is worth is what the hold of that sum in a sandbox is worth. -/
noncomputable def Try.pinned : Pinned := { name := "ytonibbcmgiflbaa", sum := "1344dd7d19aefe63f6db8427c1da6de24907ad9c434177e158efff101f05d168", checked := Try.checked }
namespace Rows
def none {H : Type} : Left H := { results := [], args := [] }

/-- 'laws.FnQuiet': WHATEVER THE INPUT: true; the input reads as it did. -/
def fnQuietSpec : ChangeSpec := { name := "fnQuiet", fn := fun _ => fun
  | [d] => { results := [.lit (.bool true)], args := [d] }
  | _ => none }
def fnQuietRow : OpenClaim := { program := "ytonibbcmgiflbaa", sum := "1344dd7d19aefe63f6db8427c1da6de24907ad9c434177e158efff101f05d168", func := "loop.example/serialpair/laws.FnQuiet", spec := "fnQuiet", apart := false }
def FnQuietSaid : Prop := fnQuietRow.holds Try.pinned (OpenSpec.ofChange fnQuietSpec)

/-- ITS FALSE NEIGHBOUR: 'it returns false'. Refute it at one input. -/
def fnQuietWrong : ChangeSpec := { name := "fnQuiet", fn := fun _ => fun
  | [d] => { results := [.lit (.bool false)], args := [d] }
  | _ => none }
def FnQuietWrongFalsely : Prop := fnQuietRow.holds Try.pinned (OpenSpec.ofChange fnQuietWrong)

/-- 'laws.FnTick': WHATEVER THE INPUT: true; the input reads as it did. -/
def fnTickSpec : ChangeSpec := { name := "fnTick", fn := fun _ => fun
  | [d] => { results := [.lit (.bool true)], args := [d] }
  | _ => none }
def fnTickRow : OpenClaim := { program := "ytonibbcmgiflbaa", sum := "1344dd7d19aefe63f6db8427c1da6de24907ad9c434177e158efff101f05d168", func := "loop.example/serialpair/laws.FnTick", spec := "fnTick", apart := false }
def FnTickSaid : Prop := fnTickRow.holds Try.pinned (OpenSpec.ofChange fnTickSpec)

/-- ITS FALSE NEIGHBOUR: 'it returns false'. Refute it at one input. -/
def fnTickWrong : ChangeSpec := { name := "fnTick", fn := fun _ => fun
  | [d] => { results := [.lit (.bool false)], args := [d] }
  | _ => none }
def FnTickWrongFalsely : Prop := fnTickRow.holds Try.pinned (OpenSpec.ofChange fnTickWrong)

/-- 'laws.FnTickArrive': WHATEVER THE INPUT: true; the input reads as it did. -/
def fnTickArriveSpec : ChangeSpec := { name := "fnTickArrive", fn := fun _ => fun
  | [d] => { results := [.lit (.bool true)], args := [d] }
  | _ => none }
def fnTickArriveRow : OpenClaim := { program := "ytonibbcmgiflbaa", sum := "1344dd7d19aefe63f6db8427c1da6de24907ad9c434177e158efff101f05d168", func := "loop.example/serialpair/laws.FnTickArrive", spec := "fnTickArrive", apart := false }
def FnTickArriveSaid : Prop := fnTickArriveRow.holds Try.pinned (OpenSpec.ofChange fnTickArriveSpec)

/-- ITS FALSE NEIGHBOUR: 'it returns false'. Refute it at one input. -/
def fnTickArriveWrong : ChangeSpec := { name := "fnTickArrive", fn := fun _ => fun
  | [d] => { results := [.lit (.bool false)], args := [d] }
  | _ => none }
def FnTickArriveWrongFalsely : Prop := fnTickArriveRow.holds Try.pinned (OpenSpec.ofChange fnTickArriveWrong)

/-- 'laws.FnTickFormat': WHATEVER THE INPUT: true; the input reads as it did. -/
def fnTickFormatSpec : ChangeSpec := { name := "fnTickFormat", fn := fun _ => fun
  | [d] => { results := [.lit (.bool true)], args := [d] }
  | _ => none }
def fnTickFormatRow : OpenClaim := { program := "ytonibbcmgiflbaa", sum := "1344dd7d19aefe63f6db8427c1da6de24907ad9c434177e158efff101f05d168", func := "loop.example/serialpair/laws.FnTickFormat", spec := "fnTickFormat", apart := false }
def FnTickFormatSaid : Prop := fnTickFormatRow.holds Try.pinned (OpenSpec.ofChange fnTickFormatSpec)

/-- ITS FALSE NEIGHBOUR: 'it returns false'. Refute it at one input. -/
def fnTickFormatWrong : ChangeSpec := { name := "fnTickFormat", fn := fun _ => fun
  | [d] => { results := [.lit (.bool false)], args := [d] }
  | _ => none }
def FnTickFormatWrongFalsely : Prop := fnTickFormatRow.holds Try.pinned (OpenSpec.ofChange fnTickFormatWrong)

/-- 'laws.FnTickLines': WHATEVER THE INPUT: true; the input reads as it did. -/
def fnTickLinesSpec : ChangeSpec := { name := "fnTickLines", fn := fun _ => fun
  | [d] => { results := [.lit (.bool true)], args := [d] }
  | _ => none }
def fnTickLinesRow : OpenClaim := { program := "ytonibbcmgiflbaa", sum := "1344dd7d19aefe63f6db8427c1da6de24907ad9c434177e158efff101f05d168", func := "loop.example/serialpair/laws.FnTickLines", spec := "fnTickLines", apart := false }
def FnTickLinesSaid : Prop := fnTickLinesRow.holds Try.pinned (OpenSpec.ofChange fnTickLinesSpec)

/-- ITS FALSE NEIGHBOUR: 'it returns false'. Refute it at one input. -/
def fnTickLinesWrong : ChangeSpec := { name := "fnTickLines", fn := fun _ => fun
  | [d] => { results := [.lit (.bool false)], args := [d] }
  | _ => none }
def FnTickLinesWrongFalsely : Prop := fnTickLinesRow.holds Try.pinned (OpenSpec.ofChange fnTickLinesWrong)

/-- 'laws.FnTickSwap': WHATEVER THE INPUT: true; the input reads as it did. -/
def fnTickSwapSpec : ChangeSpec := { name := "fnTickSwap", fn := fun _ => fun
  | [d] => { results := [.lit (.bool true)], args := [d] }
  | _ => none }
def fnTickSwapRow : OpenClaim := { program := "ytonibbcmgiflbaa", sum := "1344dd7d19aefe63f6db8427c1da6de24907ad9c434177e158efff101f05d168", func := "loop.example/serialpair/laws.FnTickSwap", spec := "fnTickSwap", apart := false }
def FnTickSwapSaid : Prop := fnTickSwapRow.holds Try.pinned (OpenSpec.ofChange fnTickSwapSpec)

/-- ITS FALSE NEIGHBOUR: 'it returns false'. Refute it at one input. -/
def fnTickSwapWrong : ChangeSpec := { name := "fnTickSwap", fn := fun _ => fun
  | [d] => { results := [.lit (.bool false)], args := [d] }
  | _ => none }
def FnTickSwapWrongFalsely : Prop := fnTickSwapRow.holds Try.pinned (OpenSpec.ofChange fnTickSwapWrong)

/-- 'laws.FnRun': WHATEVER THE INPUT: true; the input reads as it did. -/
def fnRunSpec : ChangeSpec := { name := "fnRun", fn := fun _ => fun
  | [d1, d2] => { results := [.lit (.bool true)], args := [d1, d2] }
  | _ => none }
def fnRunRow : OpenClaim := { program := "ytonibbcmgiflbaa", sum := "1344dd7d19aefe63f6db8427c1da6de24907ad9c434177e158efff101f05d168", func := "loop.example/serialpair/laws.FnRun", spec := "fnRun", apart := false }
def FnRunSaid : Prop := fnRunRow.holds Try.pinned (OpenSpec.ofChange fnRunSpec)

/-- ITS FALSE NEIGHBOUR: 'it returns false'. Refute it at one input. -/
def fnRunWrong : ChangeSpec := { name := "fnRun", fn := fun _ => fun
  | [d1, d2] => { results := [.lit (.bool false)], args := [d1, d2] }
  | _ => none }
def FnRunWrongFalsely : Prop := fnRunRow.holds Try.pinned (OpenSpec.ofChange fnRunWrong)

/-- 'laws.FnRunLines': WHATEVER THE INPUT: true; the input reads as it did. -/
def fnRunLinesSpec : ChangeSpec := { name := "fnRunLines", fn := fun _ => fun
  | [d] => { results := [.lit (.bool true)], args := [d] }
  | _ => none }
def fnRunLinesRow : OpenClaim := { program := "ytonibbcmgiflbaa", sum := "1344dd7d19aefe63f6db8427c1da6de24907ad9c434177e158efff101f05d168", func := "loop.example/serialpair/laws.FnRunLines", spec := "fnRunLines", apart := false }
def FnRunLinesSaid : Prop := fnRunLinesRow.holds Try.pinned (OpenSpec.ofChange fnRunLinesSpec)

/-- ITS FALSE NEIGHBOUR: 'it returns false'. Refute it at one input. -/
def fnRunLinesWrong : ChangeSpec := { name := "fnRunLines", fn := fun _ => fun
  | [d] => { results := [.lit (.bool false)], args := [d] }
  | _ => none }
def FnRunLinesWrongFalsely : Prop := fnRunLinesRow.holds Try.pinned (OpenSpec.ofChange fnRunLinesWrong)

/-- 'laws.FnRunOne': WHATEVER THE INPUT: true; the input reads as it did. -/
def fnRunOneSpec : ChangeSpec := { name := "fnRunOne", fn := fun _ => fun
  | [d] => { results := [.lit (.bool true)], args := [d] }
  | _ => none }
def fnRunOneRow : OpenClaim := { program := "ytonibbcmgiflbaa", sum := "1344dd7d19aefe63f6db8427c1da6de24907ad9c434177e158efff101f05d168", func := "loop.example/serialpair/laws.FnRunOne", spec := "fnRunOne", apart := false }
def FnRunOneSaid : Prop := fnRunOneRow.holds Try.pinned (OpenSpec.ofChange fnRunOneSpec)

/-- ITS FALSE NEIGHBOUR: 'it returns false'. Refute it at one input. -/
def fnRunOneWrong : ChangeSpec := { name := "fnRunOne", fn := fun _ => fun
  | [d] => { results := [.lit (.bool false)], args := [d] }
  | _ => none }
def FnRunOneWrongFalsely : Prop := fnRunOneRow.holds Try.pinned (OpenSpec.ofChange fnRunOneWrong)

/-- 'laws.FnRunQuiet': WHATEVER THE INPUT: true; the input reads as it did. -/
def fnRunQuietSpec : ChangeSpec := { name := "fnRunQuiet", fn := fun _ => fun
  | [d] => { results := [.lit (.bool true)], args := [d] }
  | _ => none }
def fnRunQuietRow : OpenClaim := { program := "ytonibbcmgiflbaa", sum := "1344dd7d19aefe63f6db8427c1da6de24907ad9c434177e158efff101f05d168", func := "loop.example/serialpair/laws.FnRunQuiet", spec := "fnRunQuiet", apart := false }
def FnRunQuietSaid : Prop := fnRunQuietRow.holds Try.pinned (OpenSpec.ofChange fnRunQuietSpec)

/-- ITS FALSE NEIGHBOUR: 'it returns false'. Refute it at one input. -/
def fnRunQuietWrong : ChangeSpec := { name := "fnRunQuiet", fn := fun _ => fun
  | [d] => { results := [.lit (.bool false)], args := [d] }
  | _ => none }
def FnRunQuietWrongFalsely : Prop := fnRunQuietRow.holds Try.pinned (OpenSpec.ofChange fnRunQuietWrong)

/-- 'laws.FnExactPairTick': WHATEVER THE INPUT: true; the input reads as it did. -/
def fnExactPairTickSpec : ChangeSpec := { name := "fnExactPairTick", fn := fun _ => fun
  | [d] => { results := [.lit (.bool true)], args := [d] }
  | _ => none }
def fnExactPairTickRow : OpenClaim := { program := "ytonibbcmgiflbaa", sum := "1344dd7d19aefe63f6db8427c1da6de24907ad9c434177e158efff101f05d168", func := "loop.example/serialpair/laws.FnExactPairTick", spec := "fnExactPairTick", apart := false }
def FnExactPairTickSaid : Prop := fnExactPairTickRow.holds Try.pinned (OpenSpec.ofChange fnExactPairTickSpec)

/-- ITS FALSE NEIGHBOUR: 'it returns false'. Refute it at one input. -/
def fnExactPairTickWrong : ChangeSpec := { name := "fnExactPairTick", fn := fun _ => fun
  | [d] => { results := [.lit (.bool false)], args := [d] }
  | _ => none }
def FnExactPairTickWrongFalsely : Prop := fnExactPairTickRow.holds Try.pinned (OpenSpec.ofChange fnExactPairTickWrong)

/-- 'laws.FnExactPairRun': WHATEVER THE INPUT: true; the input reads as it did. -/
def fnExactPairRunSpec : ChangeSpec := { name := "fnExactPairRun", fn := fun _ => fun
  | [d1, d2] => { results := [.lit (.bool true)], args := [d1, d2] }
  | _ => none }
def fnExactPairRunRow : OpenClaim := { program := "ytonibbcmgiflbaa", sum := "1344dd7d19aefe63f6db8427c1da6de24907ad9c434177e158efff101f05d168", func := "loop.example/serialpair/laws.FnExactPairRun", spec := "fnExactPairRun", apart := false }
def FnExactPairRunSaid : Prop := fnExactPairRunRow.holds Try.pinned (OpenSpec.ofChange fnExactPairRunSpec)

/-- ITS FALSE NEIGHBOUR: 'it returns false'. Refute it at one input. -/
def fnExactPairRunWrong : ChangeSpec := { name := "fnExactPairRun", fn := fun _ => fun
  | [d1, d2] => { results := [.lit (.bool false)], args := [d1, d2] }
  | _ => none }
def FnExactPairRunWrongFalsely : Prop := fnExactPairRunRow.holds Try.pinned (OpenSpec.ofChange fnExactPairRunWrong)

/- THE SECOND FORM. 'bulk': how many values and letters a reading holds, each counted each time it is reached (what is shared counts as often as it is met; a slice's spare places count too). A statement '..UptoSaid' is the law's where the arguments, and the package variables that the reading takes, are together of bulk at most 1048576: NARROWER than '..Said'. Prove '..Said' where nothing that the law and all that it calls make is longer than what came in: it says more and counts as full. Else prove '..UptoSaid'. A law counts once. -/
mutual
def uptoBulk {H : Type} : DataW H → Nat
  | .lit (.string bytes) => bytes.length + 1
  | .lit _ => 1
  | .nil => 1
  | .ptr d => uptoBulk d + 1
  | .slice elems spare => uptoBulkAll elems + uptoBulkAll spare + 1
  | .agg parts => uptoBulkAll parts + 1
  | .iface _ d => uptoBulk d + 1
  | .map entries => uptoBulkEntries entries + 1
  | .held _ => 1
def uptoBulkAll {H : Type} : List (DataW H) → Nat
  | [] => 0
  | d :: r => uptoBulk d + uptoBulkAll r
def uptoBulkEntries {H : Type} : List (Lit × DataW H) → Nat
  | [] => 0
  | x :: r => uptoBulkEntry x + uptoBulkEntries r
def uptoBulkEntry {H : Type} : Lit × DataW H → Nat
  | (.string bytes, d) => bytes.length + uptoBulk d + 1
  | (_, d) => uptoBulk d + 1
 end
def uptoSmall : (H : Type) → List (DataW H) → Bool := fun _ ds => decide (uptoBulkAll ds ≤ 1048576)
def OpenSpec.upto (s : _root_.Go.ChangeSpec) : _root_.Go.OpenSpec := { _root_.Go.OpenSpec.ofChange s with cond := some uptoSmall }

/-- 'laws.FnQuiet', WHERE WHAT IT READS IS OF BULK AT MOST 1048576: true; the input reads as it did. -/
def fnQuietUptoRow : OpenClaim := { program := "ytonibbcmgiflbaa", sum := "1344dd7d19aefe63f6db8427c1da6de24907ad9c434177e158efff101f05d168", func := "loop.example/serialpair/laws.FnQuiet", spec := "fnQuiet", apart := false, narrowed := true }
def FnQuietUptoSaid : Prop := fnQuietUptoRow.holds Try.pinned (OpenSpec.upto fnQuietSpec)

/-- 'laws.FnTick', WHERE WHAT IT READS IS OF BULK AT MOST 1048576: true; the input reads as it did. -/
def fnTickUptoRow : OpenClaim := { program := "ytonibbcmgiflbaa", sum := "1344dd7d19aefe63f6db8427c1da6de24907ad9c434177e158efff101f05d168", func := "loop.example/serialpair/laws.FnTick", spec := "fnTick", apart := false, narrowed := true }
def FnTickUptoSaid : Prop := fnTickUptoRow.holds Try.pinned (OpenSpec.upto fnTickSpec)

/-- 'laws.FnTickArrive', WHERE WHAT IT READS IS OF BULK AT MOST 1048576: true; the input reads as it did. -/
def fnTickArriveUptoRow : OpenClaim := { program := "ytonibbcmgiflbaa", sum := "1344dd7d19aefe63f6db8427c1da6de24907ad9c434177e158efff101f05d168", func := "loop.example/serialpair/laws.FnTickArrive", spec := "fnTickArrive", apart := false, narrowed := true }
def FnTickArriveUptoSaid : Prop := fnTickArriveUptoRow.holds Try.pinned (OpenSpec.upto fnTickArriveSpec)

/-- 'laws.FnTickFormat', WHERE WHAT IT READS IS OF BULK AT MOST 1048576: true; the input reads as it did. -/
def fnTickFormatUptoRow : OpenClaim := { program := "ytonibbcmgiflbaa", sum := "1344dd7d19aefe63f6db8427c1da6de24907ad9c434177e158efff101f05d168", func := "loop.example/serialpair/laws.FnTickFormat", spec := "fnTickFormat", apart := false, narrowed := true }
def FnTickFormatUptoSaid : Prop := fnTickFormatUptoRow.holds Try.pinned (OpenSpec.upto fnTickFormatSpec)

/-- 'laws.FnTickLines', WHERE WHAT IT READS IS OF BULK AT MOST 1048576: true; the input reads as it did. -/
def fnTickLinesUptoRow : OpenClaim := { program := "ytonibbcmgiflbaa", sum := "1344dd7d19aefe63f6db8427c1da6de24907ad9c434177e158efff101f05d168", func := "loop.example/serialpair/laws.FnTickLines", spec := "fnTickLines", apart := false, narrowed := true }
def FnTickLinesUptoSaid : Prop := fnTickLinesUptoRow.holds Try.pinned (OpenSpec.upto fnTickLinesSpec)

/-- 'laws.FnTickSwap', WHERE WHAT IT READS IS OF BULK AT MOST 1048576: true; the input reads as it did. -/
def fnTickSwapUptoRow : OpenClaim := { program := "ytonibbcmgiflbaa", sum := "1344dd7d19aefe63f6db8427c1da6de24907ad9c434177e158efff101f05d168", func := "loop.example/serialpair/laws.FnTickSwap", spec := "fnTickSwap", apart := false, narrowed := true }
def FnTickSwapUptoSaid : Prop := fnTickSwapUptoRow.holds Try.pinned (OpenSpec.upto fnTickSwapSpec)

/-- 'laws.FnRun', WHERE WHAT IT READS IS OF BULK AT MOST 1048576: true; the input reads as it did. -/
def fnRunUptoRow : OpenClaim := { program := "ytonibbcmgiflbaa", sum := "1344dd7d19aefe63f6db8427c1da6de24907ad9c434177e158efff101f05d168", func := "loop.example/serialpair/laws.FnRun", spec := "fnRun", apart := false, narrowed := true }
def FnRunUptoSaid : Prop := fnRunUptoRow.holds Try.pinned (OpenSpec.upto fnRunSpec)

/-- 'laws.FnRunLines', WHERE WHAT IT READS IS OF BULK AT MOST 1048576: true; the input reads as it did. -/
def fnRunLinesUptoRow : OpenClaim := { program := "ytonibbcmgiflbaa", sum := "1344dd7d19aefe63f6db8427c1da6de24907ad9c434177e158efff101f05d168", func := "loop.example/serialpair/laws.FnRunLines", spec := "fnRunLines", apart := false, narrowed := true }
def FnRunLinesUptoSaid : Prop := fnRunLinesUptoRow.holds Try.pinned (OpenSpec.upto fnRunLinesSpec)

/-- 'laws.FnRunOne', WHERE WHAT IT READS IS OF BULK AT MOST 1048576: true; the input reads as it did. -/
def fnRunOneUptoRow : OpenClaim := { program := "ytonibbcmgiflbaa", sum := "1344dd7d19aefe63f6db8427c1da6de24907ad9c434177e158efff101f05d168", func := "loop.example/serialpair/laws.FnRunOne", spec := "fnRunOne", apart := false, narrowed := true }
def FnRunOneUptoSaid : Prop := fnRunOneUptoRow.holds Try.pinned (OpenSpec.upto fnRunOneSpec)

/-- 'laws.FnRunQuiet', WHERE WHAT IT READS IS OF BULK AT MOST 1048576: true; the input reads as it did. -/
def fnRunQuietUptoRow : OpenClaim := { program := "ytonibbcmgiflbaa", sum := "1344dd7d19aefe63f6db8427c1da6de24907ad9c434177e158efff101f05d168", func := "loop.example/serialpair/laws.FnRunQuiet", spec := "fnRunQuiet", apart := false, narrowed := true }
def FnRunQuietUptoSaid : Prop := fnRunQuietUptoRow.holds Try.pinned (OpenSpec.upto fnRunQuietSpec)

/-- 'laws.FnExactPairTick', WHERE WHAT IT READS IS OF BULK AT MOST 1048576: true; the input reads as it did. -/
def fnExactPairTickUptoRow : OpenClaim := { program := "ytonibbcmgiflbaa", sum := "1344dd7d19aefe63f6db8427c1da6de24907ad9c434177e158efff101f05d168", func := "loop.example/serialpair/laws.FnExactPairTick", spec := "fnExactPairTick", apart := false, narrowed := true }
def FnExactPairTickUptoSaid : Prop := fnExactPairTickUptoRow.holds Try.pinned (OpenSpec.upto fnExactPairTickSpec)

/-- 'laws.FnExactPairRun', WHERE WHAT IT READS IS OF BULK AT MOST 1048576: true; the input reads as it did. -/
def fnExactPairRunUptoRow : OpenClaim := { program := "ytonibbcmgiflbaa", sum := "1344dd7d19aefe63f6db8427c1da6de24907ad9c434177e158efff101f05d168", func := "loop.example/serialpair/laws.FnExactPairRun", spec := "fnExactPairRun", apart := false, narrowed := true }
def FnExactPairRunUptoSaid : Prop := fnExactPairRunUptoRow.holds Try.pinned (OpenSpec.upto fnExactPairRunSpec)

end Rows
end Go.Proofs.Ytonibbcmgiflbaa
