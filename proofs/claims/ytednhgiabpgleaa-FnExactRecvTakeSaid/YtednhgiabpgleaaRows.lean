/-
  No cell of these rows narrows 'for every input' (looked for: loops, veiled, ifaces, maps, wideKeys, modest, calm, conditions, laid).
  DERIVED. THE GIVEN ROWS OF THIS SEAT. 13 by the template 'for every input the law returns true; each argument reads behind the call as it read before'; 0 by the template 'total and deterministic' (their statements: YtednhgiabpgleaaTotals.lean).
  GIVEN WITH THE SEED: the statements are not yours to turn. If you find one false, say at which input.
  Laid BY PROGRAM, IN A SANDBOX (cutbox-rows.mjs): the forced cells as the released guide's own fill.sh prints them over the translation c24a6b547a118b51… (all of the seat's roots in one cut). By AI agents, Wed Nov 11 2026. No macro, syntax, notation, axiom, sorry.
-/
import Derived.Test.YtednhgiabpgleaaChecked
import GoSem.Claim
import GoSem.ClaimJoined
import GoSem.ClaimMapViews
import Derived.JoinedTies
import Derived.KernelRfl
namespace Go.Proofs.Ytednhgiabpgleaa
/- THE CELL 'sum', in the pinned program and in every row, IS THE sha256 OF THE DUMP (.gsa) THAT YtednhgiabpgleaaProg.lean LOADS. Nothing in Lean hashes anything: it is a label: what it is worth is what the hold of that sum in a sandbox is worth. -/
noncomputable def Try.pinned : Pinned := { name := "ytednhgiabpgleaa", sum := "c24a6b547a118b512d472c04c56cd1bcb21547e4446d887dd682b4da5240420c", checked := Try.checked }
namespace Rows
def none {H : Type} : Left H := { results := [], args := [] }

/-- 'laws.FnFifoTake': WHATEVER THE INPUT: true; the input reads as it did. -/
def fnFifoTakeSpec : ChangeSpec := { name := "fnFifoTake", fn := fun _ => fun
  | [d] => { results := [.lit (.bool true)], args := [d] }
  | _ => none }
def fnFifoTakeRow : OpenClaim := { program := "ytednhgiabpgleaa", sum := "c24a6b547a118b512d472c04c56cd1bcb21547e4446d887dd682b4da5240420c", func := "loop.example/serialpair/laws.FnFifoTake", spec := "fnFifoTake", apart := false }
def FnFifoTakeSaid : Prop := fnFifoTakeRow.holds Try.pinned (OpenSpec.ofChange fnFifoTakeSpec)

/-- ITS FALSE NEIGHBOUR: 'it returns false'. Refute it at one input. -/
def fnFifoTakeWrong : ChangeSpec := { name := "fnFifoTake", fn := fun _ => fun
  | [d] => { results := [.lit (.bool false)], args := [d] }
  | _ => none }
def FnFifoTakeWrongFalsely : Prop := fnFifoTakeRow.holds Try.pinned (OpenSpec.ofChange fnFifoTakeWrong)

/-- 'laws.FnFifoTakePut': WHATEVER THE INPUT: true; the input reads as it did. -/
def fnFifoTakePutSpec : ChangeSpec := { name := "fnFifoTakePut", fn := fun _ => fun
  | [d] => { results := [.lit (.bool true)], args := [d] }
  | _ => none }
def fnFifoTakePutRow : OpenClaim := { program := "ytednhgiabpgleaa", sum := "c24a6b547a118b512d472c04c56cd1bcb21547e4446d887dd682b4da5240420c", func := "loop.example/serialpair/laws.FnFifoTakePut", spec := "fnFifoTakePut", apart := false }
def FnFifoTakePutSaid : Prop := fnFifoTakePutRow.holds Try.pinned (OpenSpec.ofChange fnFifoTakePutSpec)

/-- ITS FALSE NEIGHBOUR: 'it returns false'. Refute it at one input. -/
def fnFifoTakePutWrong : ChangeSpec := { name := "fnFifoTakePut", fn := fun _ => fun
  | [d] => { results := [.lit (.bool false)], args := [d] }
  | _ => none }
def FnFifoTakePutWrongFalsely : Prop := fnFifoTakePutRow.holds Try.pinned (OpenSpec.ofChange fnFifoTakePutWrong)

/-- 'laws.FnExactFifoTake': WHATEVER THE INPUT: true; the input reads as it did. -/
def fnExactFifoTakeSpec : ChangeSpec := { name := "fnExactFifoTake", fn := fun _ => fun
  | [d] => { results := [.lit (.bool true)], args := [d] }
  | _ => none }
def fnExactFifoTakeRow : OpenClaim := { program := "ytednhgiabpgleaa", sum := "c24a6b547a118b512d472c04c56cd1bcb21547e4446d887dd682b4da5240420c", func := "loop.example/serialpair/laws.FnExactFifoTake", spec := "fnExactFifoTake", apart := false }
def FnExactFifoTakeSaid : Prop := fnExactFifoTakeRow.holds Try.pinned (OpenSpec.ofChange fnExactFifoTakeSpec)

/-- ITS FALSE NEIGHBOUR: 'it returns false'. Refute it at one input. -/
def fnExactFifoTakeWrong : ChangeSpec := { name := "fnExactFifoTake", fn := fun _ => fun
  | [d] => { results := [.lit (.bool false)], args := [d] }
  | _ => none }
def FnExactFifoTakeWrongFalsely : Prop := fnExactFifoTakeRow.holds Try.pinned (OpenSpec.ofChange fnExactFifoTakeWrong)

/-- 'laws.FnRecvTake': WHATEVER THE INPUT: true; the input reads as it did. -/
def fnRecvTakeSpec : ChangeSpec := { name := "fnRecvTake", fn := fun _ => fun
  | [d] => { results := [.lit (.bool true)], args := [d] }
  | _ => none }
def fnRecvTakeRow : OpenClaim := { program := "ytednhgiabpgleaa", sum := "c24a6b547a118b512d472c04c56cd1bcb21547e4446d887dd682b4da5240420c", func := "loop.example/serialpair/laws.FnRecvTake", spec := "fnRecvTake", apart := false }
def FnRecvTakeSaid : Prop := fnRecvTakeRow.holds Try.pinned (OpenSpec.ofChange fnRecvTakeSpec)

/-- ITS FALSE NEIGHBOUR: 'it returns false'. Refute it at one input. -/
def fnRecvTakeWrong : ChangeSpec := { name := "fnRecvTake", fn := fun _ => fun
  | [d] => { results := [.lit (.bool false)], args := [d] }
  | _ => none }
def FnRecvTakeWrongFalsely : Prop := fnRecvTakeRow.holds Try.pinned (OpenSpec.ofChange fnRecvTakeWrong)

/-- 'laws.FnRecvTakePut': WHATEVER THE INPUT: true; the input reads as it did. -/
def fnRecvTakePutSpec : ChangeSpec := { name := "fnRecvTakePut", fn := fun _ => fun
  | [d] => { results := [.lit (.bool true)], args := [d] }
  | _ => none }
def fnRecvTakePutRow : OpenClaim := { program := "ytednhgiabpgleaa", sum := "c24a6b547a118b512d472c04c56cd1bcb21547e4446d887dd682b4da5240420c", func := "loop.example/serialpair/laws.FnRecvTakePut", spec := "fnRecvTakePut", apart := false }
def FnRecvTakePutSaid : Prop := fnRecvTakePutRow.holds Try.pinned (OpenSpec.ofChange fnRecvTakePutSpec)

/-- ITS FALSE NEIGHBOUR: 'it returns false'. Refute it at one input. -/
def fnRecvTakePutWrong : ChangeSpec := { name := "fnRecvTakePut", fn := fun _ => fun
  | [d] => { results := [.lit (.bool false)], args := [d] }
  | _ => none }
def FnRecvTakePutWrongFalsely : Prop := fnRecvTakePutRow.holds Try.pinned (OpenSpec.ofChange fnRecvTakePutWrong)

/-- 'laws.FnWaits': WHATEVER THE INPUT: true; the input reads as it did. -/
def fnWaitsSpec : ChangeSpec := { name := "fnWaits", fn := fun _ => fun
  | [d] => { results := [.lit (.bool true)], args := [d] }
  | _ => none }
def fnWaitsRow : OpenClaim := { program := "ytednhgiabpgleaa", sum := "c24a6b547a118b512d472c04c56cd1bcb21547e4446d887dd682b4da5240420c", func := "loop.example/serialpair/laws.FnWaits", spec := "fnWaits", apart := false }
def FnWaitsSaid : Prop := fnWaitsRow.holds Try.pinned (OpenSpec.ofChange fnWaitsSpec)

/-- ITS FALSE NEIGHBOUR: 'it returns false'. Refute it at one input. -/
def fnWaitsWrong : ChangeSpec := { name := "fnWaits", fn := fun _ => fun
  | [d] => { results := [.lit (.bool false)], args := [d] }
  | _ => none }
def FnWaitsWrongFalsely : Prop := fnWaitsRow.holds Try.pinned (OpenSpec.ofChange fnWaitsWrong)

/-- 'laws.FnWaitsAll': WHATEVER THE INPUT: true; the input reads as it did. -/
def fnWaitsAllSpec : ChangeSpec := { name := "fnWaitsAll", fn := fun _ => fun
  | [d] => { results := [.lit (.bool true)], args := [d] }
  | _ => none }
def fnWaitsAllRow : OpenClaim := { program := "ytednhgiabpgleaa", sum := "c24a6b547a118b512d472c04c56cd1bcb21547e4446d887dd682b4da5240420c", func := "loop.example/serialpair/laws.FnWaitsAll", spec := "fnWaitsAll", apart := false }
def FnWaitsAllSaid : Prop := fnWaitsAllRow.holds Try.pinned (OpenSpec.ofChange fnWaitsAllSpec)

/-- ITS FALSE NEIGHBOUR: 'it returns false'. Refute it at one input. -/
def fnWaitsAllWrong : ChangeSpec := { name := "fnWaitsAll", fn := fun _ => fun
  | [d] => { results := [.lit (.bool false)], args := [d] }
  | _ => none }
def FnWaitsAllWrongFalsely : Prop := fnWaitsAllRow.holds Try.pinned (OpenSpec.ofChange fnWaitsAllWrong)

/-- 'laws.FnSendTick': WHATEVER THE INPUT: true; the input reads as it did. -/
def fnSendTickSpec : ChangeSpec := { name := "fnSendTick", fn := fun _ => fun
  | [d] => { results := [.lit (.bool true)], args := [d] }
  | _ => none }
def fnSendTickRow : OpenClaim := { program := "ytednhgiabpgleaa", sum := "c24a6b547a118b512d472c04c56cd1bcb21547e4446d887dd682b4da5240420c", func := "loop.example/serialpair/laws.FnSendTick", spec := "fnSendTick", apart := false }
def FnSendTickSaid : Prop := fnSendTickRow.holds Try.pinned (OpenSpec.ofChange fnSendTickSpec)

/-- ITS FALSE NEIGHBOUR: 'it returns false'. Refute it at one input. -/
def fnSendTickWrong : ChangeSpec := { name := "fnSendTick", fn := fun _ => fun
  | [d] => { results := [.lit (.bool false)], args := [d] }
  | _ => none }
def FnSendTickWrongFalsely : Prop := fnSendTickRow.holds Try.pinned (OpenSpec.ofChange fnSendTickWrong)

/-- 'laws.FnSendTickLeft': WHATEVER THE INPUT: true; the input reads as it did. -/
def fnSendTickLeftSpec : ChangeSpec := { name := "fnSendTickLeft", fn := fun _ => fun
  | [d] => { results := [.lit (.bool true)], args := [d] }
  | _ => none }
def fnSendTickLeftRow : OpenClaim := { program := "ytednhgiabpgleaa", sum := "c24a6b547a118b512d472c04c56cd1bcb21547e4446d887dd682b4da5240420c", func := "loop.example/serialpair/laws.FnSendTickLeft", spec := "fnSendTickLeft", apart := false }
def FnSendTickLeftSaid : Prop := fnSendTickLeftRow.holds Try.pinned (OpenSpec.ofChange fnSendTickLeftSpec)

/-- ITS FALSE NEIGHBOUR: 'it returns false'. Refute it at one input. -/
def fnSendTickLeftWrong : ChangeSpec := { name := "fnSendTickLeft", fn := fun _ => fun
  | [d] => { results := [.lit (.bool false)], args := [d] }
  | _ => none }
def FnSendTickLeftWrongFalsely : Prop := fnSendTickLeftRow.holds Try.pinned (OpenSpec.ofChange fnSendTickLeftWrong)

/-- 'laws.FnSendTickNew': WHATEVER THE INPUT: true; the input reads as it did. -/
def fnSendTickNewSpec : ChangeSpec := { name := "fnSendTickNew", fn := fun _ => fun
  | [d] => { results := [.lit (.bool true)], args := [d] }
  | _ => none }
def fnSendTickNewRow : OpenClaim := { program := "ytednhgiabpgleaa", sum := "c24a6b547a118b512d472c04c56cd1bcb21547e4446d887dd682b4da5240420c", func := "loop.example/serialpair/laws.FnSendTickNew", spec := "fnSendTickNew", apart := false }
def FnSendTickNewSaid : Prop := fnSendTickNewRow.holds Try.pinned (OpenSpec.ofChange fnSendTickNewSpec)

/-- ITS FALSE NEIGHBOUR: 'it returns false'. Refute it at one input. -/
def fnSendTickNewWrong : ChangeSpec := { name := "fnSendTickNew", fn := fun _ => fun
  | [d] => { results := [.lit (.bool false)], args := [d] }
  | _ => none }
def FnSendTickNewWrongFalsely : Prop := fnSendTickNewRow.holds Try.pinned (OpenSpec.ofChange fnSendTickNewWrong)

/-- 'laws.FnSendTickNext': WHATEVER THE INPUT: true; the input reads as it did. -/
def fnSendTickNextSpec : ChangeSpec := { name := "fnSendTickNext", fn := fun _ => fun
  | [d] => { results := [.lit (.bool true)], args := [d] }
  | _ => none }
def fnSendTickNextRow : OpenClaim := { program := "ytednhgiabpgleaa", sum := "c24a6b547a118b512d472c04c56cd1bcb21547e4446d887dd682b4da5240420c", func := "loop.example/serialpair/laws.FnSendTickNext", spec := "fnSendTickNext", apart := false }
def FnSendTickNextSaid : Prop := fnSendTickNextRow.holds Try.pinned (OpenSpec.ofChange fnSendTickNextSpec)

/-- ITS FALSE NEIGHBOUR: 'it returns false'. Refute it at one input. -/
def fnSendTickNextWrong : ChangeSpec := { name := "fnSendTickNext", fn := fun _ => fun
  | [d] => { results := [.lit (.bool false)], args := [d] }
  | _ => none }
def FnSendTickNextWrongFalsely : Prop := fnSendTickNextRow.holds Try.pinned (OpenSpec.ofChange fnSendTickNextWrong)

/-- 'laws.FnExactRecvTake': WHATEVER THE INPUT: true; the input reads as it did. -/
def fnExactRecvTakeSpec : ChangeSpec := { name := "fnExactRecvTake", fn := fun _ => fun
  | [d] => { results := [.lit (.bool true)], args := [d] }
  | _ => none }
def fnExactRecvTakeRow : OpenClaim := { program := "ytednhgiabpgleaa", sum := "c24a6b547a118b512d472c04c56cd1bcb21547e4446d887dd682b4da5240420c", func := "loop.example/serialpair/laws.FnExactRecvTake", spec := "fnExactRecvTake", apart := false }
def FnExactRecvTakeSaid : Prop := fnExactRecvTakeRow.holds Try.pinned (OpenSpec.ofChange fnExactRecvTakeSpec)

/-- ITS FALSE NEIGHBOUR: 'it returns false'. Refute it at one input. -/
def fnExactRecvTakeWrong : ChangeSpec := { name := "fnExactRecvTake", fn := fun _ => fun
  | [d] => { results := [.lit (.bool false)], args := [d] }
  | _ => none }
def FnExactRecvTakeWrongFalsely : Prop := fnExactRecvTakeRow.holds Try.pinned (OpenSpec.ofChange fnExactRecvTakeWrong)

/-- 'laws.FnExactSendTick': WHATEVER THE INPUT: true; the input reads as it did. -/
def fnExactSendTickSpec : ChangeSpec := { name := "fnExactSendTick", fn := fun _ => fun
  | [d] => { results := [.lit (.bool true)], args := [d] }
  | _ => none }
def fnExactSendTickRow : OpenClaim := { program := "ytednhgiabpgleaa", sum := "c24a6b547a118b512d472c04c56cd1bcb21547e4446d887dd682b4da5240420c", func := "loop.example/serialpair/laws.FnExactSendTick", spec := "fnExactSendTick", apart := false }
def FnExactSendTickSaid : Prop := fnExactSendTickRow.holds Try.pinned (OpenSpec.ofChange fnExactSendTickSpec)

/-- ITS FALSE NEIGHBOUR: 'it returns false'. Refute it at one input. -/
def fnExactSendTickWrong : ChangeSpec := { name := "fnExactSendTick", fn := fun _ => fun
  | [d] => { results := [.lit (.bool false)], args := [d] }
  | _ => none }
def FnExactSendTickWrongFalsely : Prop := fnExactSendTickRow.holds Try.pinned (OpenSpec.ofChange fnExactSendTickWrong)

/- THE SECOND FORM. 'bulk': how many values and letters a reading holds, each counted each time it is reached (what is shared counts as often as it is met; a slice's spare places count too). A statement '..UptoSaid' is the law's where the arguments, and the package variables that the reading takes, are together of bulk at most 1048576: NARROWER than '..Said'. Prove '..Said' where nothing that the law and all that it calls make is longer than what came in: it says more and counts as full. Else prove '..UptoSaid'. A law counts once. -/
mutual
def uptoBulk {H : Type} : DataW H → Nat
  | .lit (.string bytes) => bytes.length + 1
  | .lit _ => 1
  | .nil => 1
  | .ptr d => uptoBulk d + 1
  | .slice elems spare => uptoBulkAll elems + uptoBulkAll spare + 1
  | .agg parts => uptoBulkAll parts + 1
  | .iface _ d => uptoBulk d + 1
  | .map entries => uptoBulkEntries entries + 1
  | .held _ => 1
def uptoBulkAll {H : Type} : List (DataW H) → Nat
  | [] => 0
  | d :: r => uptoBulk d + uptoBulkAll r
def uptoBulkEntries {H : Type} : List (Lit × DataW H) → Nat
  | [] => 0
  | x :: r => uptoBulkEntry x + uptoBulkEntries r
def uptoBulkEntry {H : Type} : Lit × DataW H → Nat
  | (.string bytes, d) => bytes.length + uptoBulk d + 1
  | (_, d) => uptoBulk d + 1
 end
def uptoSmall : (H : Type) → List (DataW H) → Bool := fun _ ds => decide (uptoBulkAll ds ≤ 1048576)
def OpenSpec.upto (s : _root_.Go.ChangeSpec) : _root_.Go.OpenSpec := { _root_.Go.OpenSpec.ofChange s with cond := some uptoSmall }

/-- 'laws.FnFifoTake', WHERE WHAT IT READS IS OF BULK AT MOST 1048576: true; the input reads as it did. -/
def fnFifoTakeUptoRow : OpenClaim := { program := "ytednhgiabpgleaa", sum := "c24a6b547a118b512d472c04c56cd1bcb21547e4446d887dd682b4da5240420c", func := "loop.example/serialpair/laws.FnFifoTake", spec := "fnFifoTake", apart := false, narrowed := true }
def FnFifoTakeUptoSaid : Prop := fnFifoTakeUptoRow.holds Try.pinned (OpenSpec.upto fnFifoTakeSpec)

/-- 'laws.FnFifoTakePut', WHERE WHAT IT READS IS OF BULK AT MOST 1048576: true; the input reads as it did. -/
def fnFifoTakePutUptoRow : OpenClaim := { program := "ytednhgiabpgleaa", sum := "c24a6b547a118b512d472c04c56cd1bcb21547e4446d887dd682b4da5240420c", func := "loop.example/serialpair/laws.FnFifoTakePut", spec := "fnFifoTakePut", apart := false, narrowed := true }
def FnFifoTakePutUptoSaid : Prop := fnFifoTakePutUptoRow.holds Try.pinned (OpenSpec.upto fnFifoTakePutSpec)

/-- 'laws.FnExactFifoTake', WHERE WHAT IT READS IS OF BULK AT MOST 1048576: true; the input reads as it did. -/
def fnExactFifoTakeUptoRow : OpenClaim := { program := "ytednhgiabpgleaa", sum := "c24a6b547a118b512d472c04c56cd1bcb21547e4446d887dd682b4da5240420c", func := "loop.example/serialpair/laws.FnExactFifoTake", spec := "fnExactFifoTake", apart := false, narrowed := true }
def FnExactFifoTakeUptoSaid : Prop := fnExactFifoTakeUptoRow.holds Try.pinned (OpenSpec.upto fnExactFifoTakeSpec)

/-- 'laws.FnRecvTake', WHERE WHAT IT READS IS OF BULK AT MOST 1048576: true; the input reads as it did. -/
def fnRecvTakeUptoRow : OpenClaim := { program := "ytednhgiabpgleaa", sum := "c24a6b547a118b512d472c04c56cd1bcb21547e4446d887dd682b4da5240420c", func := "loop.example/serialpair/laws.FnRecvTake", spec := "fnRecvTake", apart := false, narrowed := true }
def FnRecvTakeUptoSaid : Prop := fnRecvTakeUptoRow.holds Try.pinned (OpenSpec.upto fnRecvTakeSpec)

/-- 'laws.FnRecvTakePut', WHERE WHAT IT READS IS OF BULK AT MOST 1048576: true; the input reads as it did. -/
def fnRecvTakePutUptoRow : OpenClaim := { program := "ytednhgiabpgleaa", sum := "c24a6b547a118b512d472c04c56cd1bcb21547e4446d887dd682b4da5240420c", func := "loop.example/serialpair/laws.FnRecvTakePut", spec := "fnRecvTakePut", apart := false, narrowed := true }
def FnRecvTakePutUptoSaid : Prop := fnRecvTakePutUptoRow.holds Try.pinned (OpenSpec.upto fnRecvTakePutSpec)

/-- 'laws.FnWaits', WHERE WHAT IT READS IS OF BULK AT MOST 1048576: true; the input reads as it did. -/
def fnWaitsUptoRow : OpenClaim := { program := "ytednhgiabpgleaa", sum := "c24a6b547a118b512d472c04c56cd1bcb21547e4446d887dd682b4da5240420c", func := "loop.example/serialpair/laws.FnWaits", spec := "fnWaits", apart := false, narrowed := true }
def FnWaitsUptoSaid : Prop := fnWaitsUptoRow.holds Try.pinned (OpenSpec.upto fnWaitsSpec)

/-- 'laws.FnWaitsAll', WHERE WHAT IT READS IS OF BULK AT MOST 1048576: true; the input reads as it did. -/
def fnWaitsAllUptoRow : OpenClaim := { program := "ytednhgiabpgleaa", sum := "c24a6b547a118b512d472c04c56cd1bcb21547e4446d887dd682b4da5240420c", func := "loop.example/serialpair/laws.FnWaitsAll", spec := "fnWaitsAll", apart := false, narrowed := true }
def FnWaitsAllUptoSaid : Prop := fnWaitsAllUptoRow.holds Try.pinned (OpenSpec.upto fnWaitsAllSpec)

/-- 'laws.FnSendTick', WHERE WHAT IT READS IS OF BULK AT MOST 1048576: true; the input reads as it did. -/
def fnSendTickUptoRow : OpenClaim := { program := "ytednhgiabpgleaa", sum := "c24a6b547a118b512d472c04c56cd1bcb21547e4446d887dd682b4da5240420c", func := "loop.example/serialpair/laws.FnSendTick", spec := "fnSendTick", apart := false, narrowed := true }
def FnSendTickUptoSaid : Prop := fnSendTickUptoRow.holds Try.pinned (OpenSpec.upto fnSendTickSpec)

/-- 'laws.FnSendTickLeft', WHERE WHAT IT READS IS OF BULK AT MOST 1048576: true; the input reads as it did. -/
def fnSendTickLeftUptoRow : OpenClaim := { program := "ytednhgiabpgleaa", sum := "c24a6b547a118b512d472c04c56cd1bcb21547e4446d887dd682b4da5240420c", func := "loop.example/serialpair/laws.FnSendTickLeft", spec := "fnSendTickLeft", apart := false, narrowed := true }
def FnSendTickLeftUptoSaid : Prop := fnSendTickLeftUptoRow.holds Try.pinned (OpenSpec.upto fnSendTickLeftSpec)

/-- 'laws.FnSendTickNew', WHERE WHAT IT READS IS OF BULK AT MOST 1048576: true; the input reads as it did. -/
def fnSendTickNewUptoRow : OpenClaim := { program := "ytednhgiabpgleaa", sum := "c24a6b547a118b512d472c04c56cd1bcb21547e4446d887dd682b4da5240420c", func := "loop.example/serialpair/laws.FnSendTickNew", spec := "fnSendTickNew", apart := false, narrowed := true }
def FnSendTickNewUptoSaid : Prop := fnSendTickNewUptoRow.holds Try.pinned (OpenSpec.upto fnSendTickNewSpec)

/-- 'laws.FnSendTickNext', WHERE WHAT IT READS IS OF BULK AT MOST 1048576: true; the input reads as it did. -/
def fnSendTickNextUptoRow : OpenClaim := { program := "ytednhgiabpgleaa", sum := "c24a6b547a118b512d472c04c56cd1bcb21547e4446d887dd682b4da5240420c", func := "loop.example/serialpair/laws.FnSendTickNext", spec := "fnSendTickNext", apart := false, narrowed := true }
def FnSendTickNextUptoSaid : Prop := fnSendTickNextUptoRow.holds Try.pinned (OpenSpec.upto fnSendTickNextSpec)

/-- 'laws.FnExactRecvTake', WHERE WHAT IT READS IS OF BULK AT MOST 1048576: true; the input reads as it did. -/
def fnExactRecvTakeUptoRow : OpenClaim := { program := "ytednhgiabpgleaa", sum := "c24a6b547a118b512d472c04c56cd1bcb21547e4446d887dd682b4da5240420c", func := "loop.example/serialpair/laws.FnExactRecvTake", spec := "fnExactRecvTake", apart := false, narrowed := true }
def FnExactRecvTakeUptoSaid : Prop := fnExactRecvTakeUptoRow.holds Try.pinned (OpenSpec.upto fnExactRecvTakeSpec)

/-- 'laws.FnExactSendTick', WHERE WHAT IT READS IS OF BULK AT MOST 1048576: true; the input reads as it did. -/
def fnExactSendTickUptoRow : OpenClaim := { program := "ytednhgiabpgleaa", sum := "c24a6b547a118b512d472c04c56cd1bcb21547e4446d887dd682b4da5240420c", func := "loop.example/serialpair/laws.FnExactSendTick", spec := "fnExactSendTick", apart := false, narrowed := true }
def FnExactSendTickUptoSaid : Prop := fnExactSendTickUptoRow.holds Try.pinned (OpenSpec.upto fnExactSendTickSpec)

end Rows
end Go.Proofs.Ytednhgiabpgleaa
