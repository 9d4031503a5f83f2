/-
  NARROWER THAN 'FOR EVERY INPUT', by the rows' own cells (each row's printed sentence says how): FnStep: ifaces, calm, laid · FnSwap: ifaces, calm, laid · FnLinkRun: ifaces, calm, laid · FnLinkRunOne: ifaces, calm, laid · FnFlightStep: ifaces, calm, laid · FnChannel: ifaces, calm, laid · FnChannelArrive: ifaces, calm, laid · FnExactLinkStep: ifaces, calm, laid · FnExactLinkRun: ifaces, calm, laid.
  DERIVED. THE GIVEN ROWS OF THIS SEAT. 9 by the template 'for every input the law returns true; each argument reads behind the call as it read before'; 0 by the template 'total and deterministic' (their statements: YtdpfknhenjngcaaGreatDoorTotals.lean).
  GIVEN WITH THE SEED: the statements are not yours to turn. If you find one false, say at which input.
  Laid BY PROGRAM, IN A SANDBOX (cutbox-rows.mjs): the forced cells as the released guide's own fill.sh prints them over the translation 4d900c5487526f51… (all of the seat's roots in one cut). By AI agents, Wed Nov 11 2026. No macro, syntax, notation, axiom, sorry.
-/
import Derived.Test.YtdpfknhenjngcaaGreatDoorChecked
import GoSem.Claim
import GoSem.ClaimJoined
import GoSem.ClaimMapViews
import Derived.JoinedTies
import Derived.KernelRfl
namespace Go.Proofs.YtdpfknhenjngcaaGreatDoor
/- THE CELL 'sum', in the pinned program and in every row, IS THE sha256 OF THE DUMP (.gsa) THAT YtdpfknhenjngcaaGreatDoorProg.lean LOADS. Nothing in Lean hashes anything: it is a label: what it is worth is what the hold of that sum in a sandbox is worth. -/
noncomputable def Tryz.pinned : Pinned := { name := "ytdpfknhenjngcaagreatdoor", sum := "4d900c5487526f5136c824e22479f547fe7ecc77d149de23449e11710dc83fad", checked := Tryz.checked }
namespace Rows
def none {H : Type} : Left H := { results := [], args := [] }

/- WHAT THE LISTED PACKAGE-LEVEL VARIABLES READ AS WHEN THE CALL BEGINS. Each datum BY PROGRAM (the guide's laid-datum.mjs) off the statement by which the dump's own 'gosem.cut.vars' lays the variable. In a bare row this is a premise. The card (YtdpfknhenjngcaaGreatDoorCards.lean) ties it to the program's text. -/
def laid_loop_example_serialpair_impl_errNoFormat {H : Type} : DataW H := .iface "*errors.errorString" (.ptr (.agg [.lit (.string [110, 111, 32, 102, 111, 114, 109, 97, 116])]))

/-- 'laws.FnStep': WHATEVER THE INPUT: true; the input reads as it did. -/
def fnStepSpec : ChangeSpec := { name := "fnStep", vars := ["loop.example/serialpair/impl.errNoFormat"], fn := fun _ => fun
  | [d, g1] => { results := [.lit (.bool true)], args := [d], vars := [g1] }
  | _ => none }
def fnStepRow : OpenClaim := { program := "ytdpfknhenjngcaagreatdoor", sum := "4d900c5487526f5136c824e22479f547fe7ecc77d149de23449e11710dc83fad", func := "loop.example/serialpair/laws.FnStep", spec := "fnStep", inPlace := ["(*sync.WaitGroup).Add", "internal/race.ReleaseMerge", "internal/race.Disable", "internal/race.Enable", "internal/synctest.IsInBubble", "internal/synctest.Associate[sync.WaitGroup]", "sync.fatal", "sync/atomic.OrUint64", "sync/atomic.AddUint64", "internal/race.Read", "sync/atomic.LoadUint64", "sync/atomic.StoreUint64", "internal/synctest.Disassociate[sync.WaitGroup]", "sync.runtime_Semrelease", "(*sync.WaitGroup).Done", "internal/reflectlite.TypeOf", "(*internal/sync.Mutex).Lock", "sync/atomic.CompareAndSwapInt32", "internal/race.Acquire", "(*internal/sync.Mutex).lockSlow", "internal/sync.runtime_canSpin", "internal/sync.runtime_doSpin", "internal/sync.throw", "internal/sync.runtime_nanotime", "internal/sync.runtime_SemacquireMutex", "sync/atomic.AddInt32", "(*internal/sync.Mutex).Unlock", "(*internal/sync.Mutex).unlockSlow", "internal/sync.fatal", "internal/sync.runtime_Semrelease", "(*sync.WaitGroup).Wait", "internal/synctest.IsAssociated[sync.WaitGroup]", "sync/atomic.CompareAndSwapUint64", "internal/race.Write", "sync.runtime_SemacquireWaitGroup"], unfollowed := true, recurses := true, named := ["loop.example/serialpair/impl.errNoFormat"], ifaces := true, leaving := true, apart := false, calm := true, outside := [.timePasses], laid := [("loop.example/serialpair/impl.errNoFormat", laid_loop_example_serialpair_impl_errNoFormat)] }
def FnStepSaid : Prop := fnStepRow.holds Tryz.pinned (OpenSpec.ofChange fnStepSpec)

/-- ITS FALSE NEIGHBOUR: 'it returns false'. Refute it at one input. -/
def fnStepWrong : ChangeSpec := { name := "fnStep", vars := ["loop.example/serialpair/impl.errNoFormat"], fn := fun _ => fun
  | [d, g1] => { results := [.lit (.bool false)], args := [d], vars := [g1] }
  | _ => none }
def FnStepWrongFalsely : Prop := fnStepRow.holds Tryz.pinned (OpenSpec.ofChange fnStepWrong)

/-- 'laws.FnSwap': WHATEVER THE INPUT: true; the input reads as it did. -/
def fnSwapSpec : ChangeSpec := { name := "fnSwap", vars := ["loop.example/serialpair/impl.errNoFormat"], fn := fun _ => fun
  | [d, g1] => { results := [.lit (.bool true)], args := [d], vars := [g1] }
  | _ => none }
def fnSwapRow : OpenClaim := { program := "ytdpfknhenjngcaagreatdoor", sum := "4d900c5487526f5136c824e22479f547fe7ecc77d149de23449e11710dc83fad", func := "loop.example/serialpair/laws.FnSwap", spec := "fnSwap", inPlace := ["(*sync.WaitGroup).Add", "internal/race.ReleaseMerge", "internal/race.Disable", "internal/race.Enable", "internal/synctest.IsInBubble", "internal/synctest.Associate[sync.WaitGroup]", "sync.fatal", "sync/atomic.OrUint64", "sync/atomic.AddUint64", "internal/race.Read", "sync/atomic.LoadUint64", "sync/atomic.StoreUint64", "internal/synctest.Disassociate[sync.WaitGroup]", "sync.runtime_Semrelease", "(*sync.WaitGroup).Done", "internal/reflectlite.TypeOf", "(*internal/sync.Mutex).Lock", "sync/atomic.CompareAndSwapInt32", "internal/race.Acquire", "(*internal/sync.Mutex).lockSlow", "internal/sync.runtime_canSpin", "internal/sync.runtime_doSpin", "internal/sync.throw", "internal/sync.runtime_nanotime", "internal/sync.runtime_SemacquireMutex", "sync/atomic.AddInt32", "(*internal/sync.Mutex).Unlock", "(*internal/sync.Mutex).unlockSlow", "internal/sync.fatal", "internal/sync.runtime_Semrelease", "(*sync.WaitGroup).Wait", "internal/synctest.IsAssociated[sync.WaitGroup]", "sync/atomic.CompareAndSwapUint64", "internal/race.Write", "sync.runtime_SemacquireWaitGroup"], unfollowed := true, recurses := true, named := ["loop.example/serialpair/impl.errNoFormat"], ifaces := true, leaving := true, apart := false, calm := true, outside := [.timePasses], laid := [("loop.example/serialpair/impl.errNoFormat", laid_loop_example_serialpair_impl_errNoFormat)] }
def FnSwapSaid : Prop := fnSwapRow.holds Tryz.pinned (OpenSpec.ofChange fnSwapSpec)

/-- ITS FALSE NEIGHBOUR: 'it returns false'. Refute it at one input. -/
def fnSwapWrong : ChangeSpec := { name := "fnSwap", vars := ["loop.example/serialpair/impl.errNoFormat"], fn := fun _ => fun
  | [d, g1] => { results := [.lit (.bool false)], args := [d], vars := [g1] }
  | _ => none }
def FnSwapWrongFalsely : Prop := fnSwapRow.holds Tryz.pinned (OpenSpec.ofChange fnSwapWrong)

/-- 'laws.FnLinkRun': WHATEVER THE INPUT: true; the input reads as it did. -/
def fnLinkRunSpec : ChangeSpec := { name := "fnLinkRun", vars := ["loop.example/serialpair/impl.errNoFormat"], fn := fun _ => fun
  | [d1, d2, g1] => { results := [.lit (.bool true)], args := [d1, d2], vars := [g1] }
  | _ => none }
def fnLinkRunRow : OpenClaim := { program := "ytdpfknhenjngcaagreatdoor", sum := "4d900c5487526f5136c824e22479f547fe7ecc77d149de23449e11710dc83fad", func := "loop.example/serialpair/laws.FnLinkRun", spec := "fnLinkRun", inPlace := ["(*sync.WaitGroup).Add", "internal/race.ReleaseMerge", "internal/race.Disable", "internal/race.Enable", "internal/synctest.IsInBubble", "internal/synctest.Associate[sync.WaitGroup]", "sync.fatal", "sync/atomic.OrUint64", "sync/atomic.AddUint64", "internal/race.Read", "sync/atomic.LoadUint64", "sync/atomic.StoreUint64", "internal/synctest.Disassociate[sync.WaitGroup]", "sync.runtime_Semrelease", "(*sync.WaitGroup).Done", "internal/reflectlite.TypeOf", "(*internal/sync.Mutex).Lock", "sync/atomic.CompareAndSwapInt32", "internal/race.Acquire", "(*internal/sync.Mutex).lockSlow", "internal/sync.runtime_canSpin", "internal/sync.runtime_doSpin", "internal/sync.throw", "internal/sync.runtime_nanotime", "internal/sync.runtime_SemacquireMutex", "sync/atomic.AddInt32", "(*internal/sync.Mutex).Unlock", "(*internal/sync.Mutex).unlockSlow", "internal/sync.fatal", "internal/sync.runtime_Semrelease", "(*sync.WaitGroup).Wait", "internal/synctest.IsAssociated[sync.WaitGroup]", "sync/atomic.CompareAndSwapUint64", "internal/race.Write", "sync.runtime_SemacquireWaitGroup"], unfollowed := true, recurses := true, named := ["loop.example/serialpair/impl.errNoFormat"], ifaces := true, leaving := true, apart := false, calm := true, outside := [.timePasses], laid := [("loop.example/serialpair/impl.errNoFormat", laid_loop_example_serialpair_impl_errNoFormat)] }
def FnLinkRunSaid : Prop := fnLinkRunRow.holds Tryz.pinned (OpenSpec.ofChange fnLinkRunSpec)

/-- ITS FALSE NEIGHBOUR: 'it returns false'. Refute it at one input. -/
def fnLinkRunWrong : ChangeSpec := { name := "fnLinkRun", vars := ["loop.example/serialpair/impl.errNoFormat"], fn := fun _ => fun
  | [d1, d2, g1] => { results := [.lit (.bool false)], args := [d1, d2], vars := [g1] }
  | _ => none }
def FnLinkRunWrongFalsely : Prop := fnLinkRunRow.holds Tryz.pinned (OpenSpec.ofChange fnLinkRunWrong)

/-- 'laws.FnLinkRunOne': WHATEVER THE INPUT: true; the input reads as it did. -/
def fnLinkRunOneSpec : ChangeSpec := { name := "fnLinkRunOne", vars := ["loop.example/serialpair/impl.errNoFormat"], fn := fun _ => fun
  | [d, g1] => { results := [.lit (.bool true)], args := [d], vars := [g1] }
  | _ => none }
def fnLinkRunOneRow : OpenClaim := { program := "ytdpfknhenjngcaagreatdoor", sum := "4d900c5487526f5136c824e22479f547fe7ecc77d149de23449e11710dc83fad", func := "loop.example/serialpair/laws.FnLinkRunOne", spec := "fnLinkRunOne", inPlace := ["(*sync.WaitGroup).Add", "internal/race.ReleaseMerge", "internal/race.Disable", "internal/race.Enable", "internal/synctest.IsInBubble", "internal/synctest.Associate[sync.WaitGroup]", "sync.fatal", "sync/atomic.OrUint64", "sync/atomic.AddUint64", "internal/race.Read", "sync/atomic.LoadUint64", "sync/atomic.StoreUint64", "internal/synctest.Disassociate[sync.WaitGroup]", "sync.runtime_Semrelease", "(*sync.WaitGroup).Done", "internal/reflectlite.TypeOf", "(*internal/sync.Mutex).Lock", "sync/atomic.CompareAndSwapInt32", "internal/race.Acquire", "(*internal/sync.Mutex).lockSlow", "internal/sync.runtime_canSpin", "internal/sync.runtime_doSpin", "internal/sync.throw", "internal/sync.runtime_nanotime", "internal/sync.runtime_SemacquireMutex", "sync/atomic.AddInt32", "(*internal/sync.Mutex).Unlock", "(*internal/sync.Mutex).unlockSlow", "internal/sync.fatal", "internal/sync.runtime_Semrelease", "(*sync.WaitGroup).Wait", "internal/synctest.IsAssociated[sync.WaitGroup]", "sync/atomic.CompareAndSwapUint64", "internal/race.Write", "sync.runtime_SemacquireWaitGroup"], unfollowed := true, recurses := true, named := ["loop.example/serialpair/impl.errNoFormat"], ifaces := true, leaving := true, apart := false, calm := true, outside := [.timePasses], laid := [("loop.example/serialpair/impl.errNoFormat", laid_loop_example_serialpair_impl_errNoFormat)] }
def FnLinkRunOneSaid : Prop := fnLinkRunOneRow.holds Tryz.pinned (OpenSpec.ofChange fnLinkRunOneSpec)

/-- ITS FALSE NEIGHBOUR: 'it returns false'. Refute it at one input. -/
def fnLinkRunOneWrong : ChangeSpec := { name := "fnLinkRunOne", vars := ["loop.example/serialpair/impl.errNoFormat"], fn := fun _ => fun
  | [d, g1] => { results := [.lit (.bool false)], args := [d], vars := [g1] }
  | _ => none }
def FnLinkRunOneWrongFalsely : Prop := fnLinkRunOneRow.holds Tryz.pinned (OpenSpec.ofChange fnLinkRunOneWrong)

/-- 'laws.FnFlightStep': WHATEVER THE INPUT: true; the input reads as it did. -/
def fnFlightStepSpec : ChangeSpec := { name := "fnFlightStep", vars := ["loop.example/serialpair/impl.errNoFormat"], fn := fun _ => fun
  | [d, g1] => { results := [.lit (.bool true)], args := [d], vars := [g1] }
  | _ => none }
def fnFlightStepRow : OpenClaim := { program := "ytdpfknhenjngcaagreatdoor", sum := "4d900c5487526f5136c824e22479f547fe7ecc77d149de23449e11710dc83fad", func := "loop.example/serialpair/laws.FnFlightStep", spec := "fnFlightStep", inPlace := ["(*sync.WaitGroup).Add", "internal/race.ReleaseMerge", "internal/race.Disable", "internal/race.Enable", "internal/synctest.IsInBubble", "internal/synctest.Associate[sync.WaitGroup]", "sync.fatal", "sync/atomic.OrUint64", "sync/atomic.AddUint64", "internal/race.Read", "sync/atomic.LoadUint64", "sync/atomic.StoreUint64", "internal/synctest.Disassociate[sync.WaitGroup]", "sync.runtime_Semrelease", "(*sync.WaitGroup).Done", "internal/reflectlite.TypeOf", "(*internal/sync.Mutex).Lock", "sync/atomic.CompareAndSwapInt32", "internal/race.Acquire", "(*internal/sync.Mutex).lockSlow", "internal/sync.runtime_canSpin", "internal/sync.runtime_doSpin", "internal/sync.throw", "internal/sync.runtime_nanotime", "internal/sync.runtime_SemacquireMutex", "sync/atomic.AddInt32", "(*internal/sync.Mutex).Unlock", "(*internal/sync.Mutex).unlockSlow", "internal/sync.fatal", "internal/sync.runtime_Semrelease", "(*sync.WaitGroup).Wait", "internal/synctest.IsAssociated[sync.WaitGroup]", "sync/atomic.CompareAndSwapUint64", "internal/race.Write", "sync.runtime_SemacquireWaitGroup"], unfollowed := true, recurses := true, named := ["loop.example/serialpair/impl.errNoFormat"], ifaces := true, leaving := true, apart := false, calm := true, outside := [.timePasses], laid := [("loop.example/serialpair/impl.errNoFormat", laid_loop_example_serialpair_impl_errNoFormat)] }
def FnFlightStepSaid : Prop := fnFlightStepRow.holds Tryz.pinned (OpenSpec.ofChange fnFlightStepSpec)

/-- ITS FALSE NEIGHBOUR: 'it returns false'. Refute it at one input. -/
def fnFlightStepWrong : ChangeSpec := { name := "fnFlightStep", vars := ["loop.example/serialpair/impl.errNoFormat"], fn := fun _ => fun
  | [d, g1] => { results := [.lit (.bool false)], args := [d], vars := [g1] }
  | _ => none }
def FnFlightStepWrongFalsely : Prop := fnFlightStepRow.holds Tryz.pinned (OpenSpec.ofChange fnFlightStepWrong)

/-- 'laws.FnChannel': WHATEVER THE INPUT: true; the input reads as it did. -/
def fnChannelSpec : ChangeSpec := { name := "fnChannel", vars := ["loop.example/serialpair/impl.errNoFormat"], fn := fun _ => fun
  | [d1, d2, g1] => { results := [.lit (.bool true)], args := [d1, d2], vars := [g1] }
  | _ => none }
def fnChannelRow : OpenClaim := { program := "ytdpfknhenjngcaagreatdoor", sum := "4d900c5487526f5136c824e22479f547fe7ecc77d149de23449e11710dc83fad", func := "loop.example/serialpair/laws.FnChannel", spec := "fnChannel", inPlace := ["(*sync.WaitGroup).Add", "internal/race.ReleaseMerge", "internal/race.Disable", "internal/race.Enable", "internal/synctest.IsInBubble", "internal/synctest.Associate[sync.WaitGroup]", "sync.fatal", "sync/atomic.OrUint64", "sync/atomic.AddUint64", "internal/race.Read", "sync/atomic.LoadUint64", "sync/atomic.StoreUint64", "internal/synctest.Disassociate[sync.WaitGroup]", "sync.runtime_Semrelease", "(*sync.WaitGroup).Done", "internal/reflectlite.TypeOf", "(*internal/sync.Mutex).Lock", "sync/atomic.CompareAndSwapInt32", "internal/race.Acquire", "(*internal/sync.Mutex).lockSlow", "internal/sync.runtime_canSpin", "internal/sync.runtime_doSpin", "internal/sync.throw", "internal/sync.runtime_nanotime", "internal/sync.runtime_SemacquireMutex", "sync/atomic.AddInt32", "(*internal/sync.Mutex).Unlock", "(*internal/sync.Mutex).unlockSlow", "internal/sync.fatal", "internal/sync.runtime_Semrelease", "(*sync.WaitGroup).Wait", "internal/synctest.IsAssociated[sync.WaitGroup]", "sync/atomic.CompareAndSwapUint64", "internal/race.Write", "sync.runtime_SemacquireWaitGroup"], unfollowed := true, recurses := true, named := ["loop.example/serialpair/impl.errNoFormat"], ifaces := true, leaving := true, apart := false, calm := true, outside := [.timePasses], laid := [("loop.example/serialpair/impl.errNoFormat", laid_loop_example_serialpair_impl_errNoFormat)] }
def FnChannelSaid : Prop := fnChannelRow.holds Tryz.pinned (OpenSpec.ofChange fnChannelSpec)

/-- ITS FALSE NEIGHBOUR: 'it returns false'. Refute it at one input. -/
def fnChannelWrong : ChangeSpec := { name := "fnChannel", vars := ["loop.example/serialpair/impl.errNoFormat"], fn := fun _ => fun
  | [d1, d2, g1] => { results := [.lit (.bool false)], args := [d1, d2], vars := [g1] }
  | _ => none }
def FnChannelWrongFalsely : Prop := fnChannelRow.holds Tryz.pinned (OpenSpec.ofChange fnChannelWrong)

/-- 'laws.FnChannelArrive': WHATEVER THE INPUT: true; the input reads as it did. -/
def fnChannelArriveSpec : ChangeSpec := { name := "fnChannelArrive", vars := ["loop.example/serialpair/impl.errNoFormat"], fn := fun _ => fun
  | [d1, d2, g1] => { results := [.lit (.bool true)], args := [d1, d2], vars := [g1] }
  | _ => none }
def fnChannelArriveRow : OpenClaim := { program := "ytdpfknhenjngcaagreatdoor", sum := "4d900c5487526f5136c824e22479f547fe7ecc77d149de23449e11710dc83fad", func := "loop.example/serialpair/laws.FnChannelArrive", spec := "fnChannelArrive", inPlace := ["(*sync.WaitGroup).Add", "internal/race.ReleaseMerge", "internal/race.Disable", "internal/race.Enable", "internal/synctest.IsInBubble", "internal/synctest.Associate[sync.WaitGroup]", "sync.fatal", "sync/atomic.OrUint64", "sync/atomic.AddUint64", "internal/race.Read", "sync/atomic.LoadUint64", "sync/atomic.StoreUint64", "internal/synctest.Disassociate[sync.WaitGroup]", "sync.runtime_Semrelease", "(*sync.WaitGroup).Done", "internal/reflectlite.TypeOf", "(*internal/sync.Mutex).Lock", "sync/atomic.CompareAndSwapInt32", "internal/race.Acquire", "(*internal/sync.Mutex).lockSlow", "internal/sync.runtime_canSpin", "internal/sync.runtime_doSpin", "internal/sync.throw", "internal/sync.runtime_nanotime", "internal/sync.runtime_SemacquireMutex", "sync/atomic.AddInt32", "(*internal/sync.Mutex).Unlock", "(*internal/sync.Mutex).unlockSlow", "internal/sync.fatal", "internal/sync.runtime_Semrelease", "(*sync.WaitGroup).Wait", "internal/synctest.IsAssociated[sync.WaitGroup]", "sync/atomic.CompareAndSwapUint64", "internal/race.Write", "sync.runtime_SemacquireWaitGroup"], unfollowed := true, recurses := true, named := ["loop.example/serialpair/impl.errNoFormat"], ifaces := true, leaving := true, apart := false, calm := true, outside := [.timePasses], laid := [("loop.example/serialpair/impl.errNoFormat", laid_loop_example_serialpair_impl_errNoFormat)] }
def FnChannelArriveSaid : Prop := fnChannelArriveRow.holds Tryz.pinned (OpenSpec.ofChange fnChannelArriveSpec)

/-- ITS FALSE NEIGHBOUR: 'it returns false'. Refute it at one input. -/
def fnChannelArriveWrong : ChangeSpec := { name := "fnChannelArrive", vars := ["loop.example/serialpair/impl.errNoFormat"], fn := fun _ => fun
  | [d1, d2, g1] => { results := [.lit (.bool false)], args := [d1, d2], vars := [g1] }
  | _ => none }
def FnChannelArriveWrongFalsely : Prop := fnChannelArriveRow.holds Tryz.pinned (OpenSpec.ofChange fnChannelArriveWrong)

/-- 'laws.FnExactLinkStep': WHATEVER THE INPUT: true; the input reads as it did. -/
def fnExactLinkStepSpec : ChangeSpec := { name := "fnExactLinkStep", vars := ["loop.example/serialpair/impl.errNoFormat"], fn := fun _ => fun
  | [d, g1] => { results := [.lit (.bool true)], args := [d], vars := [g1] }
  | _ => none }
def fnExactLinkStepRow : OpenClaim := { program := "ytdpfknhenjngcaagreatdoor", sum := "4d900c5487526f5136c824e22479f547fe7ecc77d149de23449e11710dc83fad", func := "loop.example/serialpair/laws.FnExactLinkStep", spec := "fnExactLinkStep", inPlace := ["(*sync.WaitGroup).Add", "internal/race.ReleaseMerge", "internal/race.Disable", "internal/race.Enable", "internal/synctest.IsInBubble", "internal/synctest.Associate[sync.WaitGroup]", "sync.fatal", "sync/atomic.OrUint64", "sync/atomic.AddUint64", "internal/race.Read", "sync/atomic.LoadUint64", "sync/atomic.StoreUint64", "internal/synctest.Disassociate[sync.WaitGroup]", "sync.runtime_Semrelease", "(*sync.WaitGroup).Done", "internal/reflectlite.TypeOf", "(*internal/sync.Mutex).Lock", "sync/atomic.CompareAndSwapInt32", "internal/race.Acquire", "(*internal/sync.Mutex).lockSlow", "internal/sync.runtime_canSpin", "internal/sync.runtime_doSpin", "internal/sync.throw", "internal/sync.runtime_nanotime", "internal/sync.runtime_SemacquireMutex", "sync/atomic.AddInt32", "(*internal/sync.Mutex).Unlock", "(*internal/sync.Mutex).unlockSlow", "internal/sync.fatal", "internal/sync.runtime_Semrelease", "(*sync.WaitGroup).Wait", "internal/synctest.IsAssociated[sync.WaitGroup]", "sync/atomic.CompareAndSwapUint64", "internal/race.Write", "sync.runtime_SemacquireWaitGroup"], unfollowed := true, recurses := true, named := ["loop.example/serialpair/impl.errNoFormat"], ifaces := true, leaving := true, apart := false, calm := true, outside := [.timePasses], laid := [("loop.example/serialpair/impl.errNoFormat", laid_loop_example_serialpair_impl_errNoFormat)] }
def FnExactLinkStepSaid : Prop := fnExactLinkStepRow.holds Tryz.pinned (OpenSpec.ofChange fnExactLinkStepSpec)

/-- ITS FALSE NEIGHBOUR: 'it returns false'. Refute it at one input. -/
def fnExactLinkStepWrong : ChangeSpec := { name := "fnExactLinkStep", vars := ["loop.example/serialpair/impl.errNoFormat"], fn := fun _ => fun
  | [d, g1] => { results := [.lit (.bool false)], args := [d], vars := [g1] }
  | _ => none }
def FnExactLinkStepWrongFalsely : Prop := fnExactLinkStepRow.holds Tryz.pinned (OpenSpec.ofChange fnExactLinkStepWrong)

/-- 'laws.FnExactLinkRun': WHATEVER THE INPUT: true; the input reads as it did. -/
def fnExactLinkRunSpec : ChangeSpec := { name := "fnExactLinkRun", vars := ["loop.example/serialpair/impl.errNoFormat"], fn := fun _ => fun
  | [d1, d2, g1] => { results := [.lit (.bool true)], args := [d1, d2], vars := [g1] }
  | _ => none }
def fnExactLinkRunRow : OpenClaim := { program := "ytdpfknhenjngcaagreatdoor", sum := "4d900c5487526f5136c824e22479f547fe7ecc77d149de23449e11710dc83fad", func := "loop.example/serialpair/laws.FnExactLinkRun", spec := "fnExactLinkRun", inPlace := ["(*sync.WaitGroup).Add", "internal/race.ReleaseMerge", "internal/race.Disable", "internal/race.Enable", "internal/synctest.IsInBubble", "internal/synctest.Associate[sync.WaitGroup]", "sync.fatal", "sync/atomic.OrUint64", "sync/atomic.AddUint64", "internal/race.Read", "sync/atomic.LoadUint64", "sync/atomic.StoreUint64", "internal/synctest.Disassociate[sync.WaitGroup]", "sync.runtime_Semrelease", "(*sync.WaitGroup).Done", "internal/reflectlite.TypeOf", "(*internal/sync.Mutex).Lock", "sync/atomic.CompareAndSwapInt32", "internal/race.Acquire", "(*internal/sync.Mutex).lockSlow", "internal/sync.runtime_canSpin", "internal/sync.runtime_doSpin", "internal/sync.throw", "internal/sync.runtime_nanotime", "internal/sync.runtime_SemacquireMutex", "sync/atomic.AddInt32", "(*internal/sync.Mutex).Unlock", "(*internal/sync.Mutex).unlockSlow", "internal/sync.fatal", "internal/sync.runtime_Semrelease", "(*sync.WaitGroup).Wait", "internal/synctest.IsAssociated[sync.WaitGroup]", "sync/atomic.CompareAndSwapUint64", "internal/race.Write", "sync.runtime_SemacquireWaitGroup"], unfollowed := true, recurses := true, named := ["loop.example/serialpair/impl.errNoFormat"], ifaces := true, leaving := true, apart := false, calm := true, outside := [.timePasses], laid := [("loop.example/serialpair/impl.errNoFormat", laid_loop_example_serialpair_impl_errNoFormat)] }
def FnExactLinkRunSaid : Prop := fnExactLinkRunRow.holds Tryz.pinned (OpenSpec.ofChange fnExactLinkRunSpec)

/-- ITS FALSE NEIGHBOUR: 'it returns false'. Refute it at one input. -/
def fnExactLinkRunWrong : ChangeSpec := { name := "fnExactLinkRun", vars := ["loop.example/serialpair/impl.errNoFormat"], fn := fun _ => fun
  | [d1, d2, g1] => { results := [.lit (.bool false)], args := [d1, d2], vars := [g1] }
  | _ => none }
def FnExactLinkRunWrongFalsely : Prop := fnExactLinkRunRow.holds Tryz.pinned (OpenSpec.ofChange fnExactLinkRunWrong)

end Rows
end Go.Proofs.YtdpfknhenjngcaaGreatDoor
