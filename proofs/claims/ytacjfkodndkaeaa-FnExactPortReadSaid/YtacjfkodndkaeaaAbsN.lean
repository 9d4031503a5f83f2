/-
  The executor once more, so that Lean and its kernel unfold it alike.
-/
import Derived.Test.YtacjfkodndkaeaaAbsB
namespace Go.Proofs.Ytacjfkodndkaeaa
open Go.RowKit
namespace Ab

def opsP : {f : Tab → Env → List Oper → List Oper → Fr → Hp → (Fr → Hp → Prop) → Prop // f = @opsK} := by
  refine ⟨?f, ?h⟩
  rotate_left
  · delta opsK opsK._f
    exact rfl
def opsN := opsP.1
theorem opsN_eq : @opsN = @opsK := opsP.2
def lateP : {f : Tab → Env → List Oper → Nat × List Nat → Nat → Tr → Fr → Hp → (Fr → Hp → Prop) → Prop // f = @lateK} := by
  refine ⟨?f, ?h⟩
  rotate_left
  · delta lateK lateK._f
    exact rfl
def lateN := lateP.1
theorem lateN_eq : @lateN = @lateK := lateP.2
def treeP : {f : Tab → Env → List Oper → Nat × List Nat → Nat → Tr → Fr → Hp → (Fr → Hp → Prop) → Prop // f = @treeK} := by
  refine ⟨?f, ?h⟩
  rotate_left
  · delta treeK treeK._f
    rw [← lateN_eq]
def treeN := treeP.1
theorem treeN_eq : @treeN = @treeK := treeP.2
def execP : {f : Tab → Env → Nat → List Nat → (Nat → Tr) → Code → Go1 // f = @exec} := by
  refine ⟨?f, ?h⟩
  rotate_left
  · delta exec exec._f
    rw [← treeN_eq, ← opsN_eq]
def execN := execP.1
theorem execN_eq : @execN = @exec := execP.2
def callN (T : Tab) (G : Env) (N : Nat) (W0 : List Nat) (TR : Nat → Tr) (fn : Func) (vs0 : List AV) (hp : Hp) (K : AV → Hp → Prop) : Prop := match fn.body with
  | none => False
  | some c => execN T G N W0 TR c (padF fn.ntmps vs0) hp fun e fr' hp' => (match e with
    | .n => outK T fr' hp' fn.results.toList fun r => K r hp'
    | .r => outK T fr' hp' fn.results.toList fun r => K r hp'
    | .x _ => False)
theorem callN_eq : @callN = @callP := by
  funext T G N W0 TR fn vs0 hp K
  unfold callN callP
  rw [execN_eq]
  rfl

theorem la {α : Type _} {a b : List α} : (a ++ b).length = a.length + b.length := List.length_append
theorem ln {α : Type _} : ([] : List α).length = 0 := rfl
theorem lc {α : Type _} {a : α} {l : List α} : (a :: l).length = l.length + 1 := rfl
theorem ld {α : Type _} {n : Nat} {l : List α} : (l.drop n).length = l.length - n := List.length_drop
theorem lt {α : Type _} {n : Nat} {l : List α} : (l.take n).length = min n l.length := List.length_take
theorem ls {α : Type _} {n : Nat} {a : α} {l : List α} : (l.set n a).length = l.length := List.length_set
theorem lna {α : Type _} {l : List α} : [] ++ l = l := rfl
theorem bnF {b : Bool} (h : b = false) (k : b = true) : False := by rw [h] at k; cases k
theorem bnT {b : Bool} (h : b = true) (k : b = false) : False := by rw [h] at k; cases k
section
variable {P : Program}
theorem con_ofN {T : Tab} {G : Env} {TR : Nat → Tr} {f : FuncId} {fn : Func} {sig : List (Sh ⊕ List Sh)} {S : DA sig → (DV → Prop) → Prop} (hT : TabOk P T) (hM : P.follows .mixedOrders = true) (hG : EnvOk P G) (hfn : P.funcs[f]? = some fn) (hn : Nat.ble sig.length fn.ntmps = true)
    (h : ∀ (x : DA sig) (K : DV → Prop), S x K → bdA sig x → frzAK sig x fun vs0 => callN T G 0 [] TR fn vs0 [] fun r hp => ∃ d, matV hp r d ∧ K d) : Con P f sig S := by
  rw [callN_eq] at h
  exact con_of hT hM hG hfn hn h
theorem conB_ofN {T : Tab} {G : Env} {TR : Nat → Tr} {T0 : TypeId} {f : FuncId} {fn : Func} {sig : List (Sh ⊕ List Sh)} {S : Int → DA sig → (DV → Int → Prop) → Prop} (hT : TabOk P T) (hM : P.follows .mixedOrders = true) (hG : EnvOk P G) (hfn : P.funcs[f]? = some fn) (hn : Nat.ble (sig.length + 1) fn.ntmps = true) (hs : scal sig = true)
    (h : ∀ (v0 : Value) (l : List UInt8) (p : Int) (x : DA sig) (K : DV → Int → Prop), l.length ≤ maxL → S p x K → frzAK sig x fun vs0 => callN T G 1 [0] TR fn (.l (.p 0 0) :: vs0) [.b [.fx v0 (.bytes l), .v (.int .i64 p)] T0] fun r hp => ∃ d p', endB v0 l T0 hp p' (matV hp r d) ∧ K d p') : ConB P f T0 sig S := by
  rw [callN_eq] at h
  exact conB_of hT hM hG hfn hn hs h
theorem callN_spec {cx : Cx} {β : List En} {hp : Hp} {w : World} {T : Tab} {G : Env} (hT : TabOk P T) (hM : P.follows .mixedOrders = true) (hG : EnvOk P G) {W0 : List Nat} {TR : Nat → Tr} {f : FuncId} {fn : Func} (hfn : P.funcs[f]? = some fn) {xs : List AV} {vs : Array Value} {K : AV → Hp → Prop}
    (hI : Inv cx β hp w) (ha : ACs cx β xs vs.toList) (hn : Nat.ble xs.length fn.ntmps = true) (h : callN T G hp.length W0 TR fn xs hp K) :
    Calls P f vs w fun e w' => ∃ v r hp' β', e = .returned v ∧ K r hp' ∧ AC cx β' r v ∧ Inv cx β' hp' w' ∧ Lk β hp w β' hp' w' := by
  rw [callN_eq] at h
  exact call_spec hT hG hM hfn hI ha (by simpa using hn) h
/-- A function that is walked where it is called. -/
def csN (T : Tab) (G : Env) (TR : Nat → Tr) (fn : Func) : CS :=
  { S := fun xs hp K => Side (Nat.ble xs.length fn.ntmps = true) <| natK (lenH hp) fun n => callN T G n [] TR fn xs hp K, tch := fun _ => none }
theorem csN_ok {T : Tab} {G : Env} {TR : Nat → Tr} {f : FuncId} {fn : Func} (hT : TabOk P T) (hM : P.follows .mixedOrders = true) (hG : EnvOk P G) (hfn : P.funcs[f]? = some fn) (hok : (P.funcs[f]?).map (fun fn => (fn.name == "runtime.NumGoroutine", fn.body.isNone)) = some (false, false)) : CSok P f (csN T G TR fn) := by
  have e : csN T G TR fn = csI T G TR fn := by
    unfold csN csI
    rw [callN_eq]
  rw [e]
  exact csI_ok hT hM hG hfn hok
theorem law_ofN {T : Tab} {G : Env} {TR : Nat → Tr} {f : FuncId} {fn : Func} (hT : TabOk P T) (hM : P.follows .mixedOrders = true) (hG : EnvOk P G) (hfn : P.funcs[f]? = some fn) (hn : Nat.ble 1 fn.ntmps = true)
    (hbig : ∀ (a : Option Addr) (n c : Nat), 1048576 < n → callN T G 0 [] TR fn [.l (.v (.slice a n c))] [] fun r _ => r = B true) (hcon : Con P f [.inl .bytes] (fun _ K => K (.l (.v (.bool true))))) (v : Value) (w : World) (h : CodeB w v) :
    Calls P f #[v] w fun e w' => e = .returned (.bool true) ∧ Below w.heap.size w w' := by
  rw [callN_eq] at hbig
  exact law_of hT hM hG hfn hn hbig hcon v w h
end
end Ab
end Go.Proofs.Ytacjfkodndkaeaa
