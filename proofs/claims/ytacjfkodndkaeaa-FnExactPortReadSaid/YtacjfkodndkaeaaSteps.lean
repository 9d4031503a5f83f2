/-
  The steps of the walk through a region that draws its order: which operations answer the same in every world, and what a load wants.
-/
import Derived.Test.YtacjfkodndkaeaaRegion
namespace Go.Proofs.Ytacjfkodndkaeaa
open Go.RowKit

/-! ### Runs that never ask the world -/

def Dies (P : Program) {α : Type} : Sem α → Prop
  | .halt _ => True
  | .program k => Dies P (k P)
  | .mark _ k => Dies P k
  | .choose _ k => ∀ n, Dies P (k n)
  | .new _ k => ∀ n, Dies P (k n)
  | _ => False

def WF (P : Program) {α : Type} : Sem α → Prop
  | .pure _ => True
  | .halt _ => True
  | .program k => WF P (k P)
  | .mark _ k => WF P k
  | .choose _ k => ∀ n, Dies P (k n)
  | .new _ k => ∀ n, Dies P (k n)
  | _ => False

section
variable {P : Program} {α β : Type}

theorem Dies.not_ok : ∀ {s : Sem α}, Dies P s → ∀ {w w1 : World} {x : α}, s.run P w ≠ .ok x w1 := by
  intro s
  induction s with
  | halt h => intro _ w w1 x e; cases e
  | program k ih => intro h w w1 x; exact ih P h
  | mark m k ih => intro h w w1 x; exact ih h
  | choose q k ih =>
    intro h w w1 x
    simp only [Sem.run]
    split
    · exact ih _ (h _)
    · exact ih _ (h _)
  | new o k ih => intro h w w1 x; exact ih _ (h _)
  | _ => intro h; exact h.elim

theorem Dies.wf : ∀ {s : Sem α}, Dies P s → WF P s := by
  intro s
  induction s with
  | halt h => intro _; trivial
  | program k ih => intro h; exact ih P h
  | mark m k ih => intro h; exact ih h
  | choose q k ih => intro h n; exact h n
  | new o k ih => intro h n; exact h n
  | _ => intro h; exact h.elim

theorem Dies.bind {f : α → Sem β} : ∀ {s : Sem α}, Dies P s → Dies P (s.bind f) := by
  intro s
  induction s with
  | halt h => intro _; trivial
  | program k ih => intro h; exact ih P h
  | mark m k ih => intro h; exact ih h
  | choose q k ih => intro h n; exact ih n (h n)
  | new o k ih => intro h n; exact ih n (h n)
  | _ => intro h; exact h.elim

theorem WF.bind {f : α → Sem β} : ∀ {s : Sem α}, WF P s → (∀ a, WF P (f a)) → WF P (s >>= f) := by
  intro s
  show WF P s → _ → WF P (s.bind f)
  induction s with
  | pure a => intro _ hf; exact hf a
  | halt h => intro _ _; trivial
  | program k ih => intro h hf; exact ih P h hf
  | mark m k ih => intro h hf; exact ih h hf
  | choose q k ih => intro h hf n; exact (h n).bind
  | new o k ih => intro h hf n; exact (h n).bind
  | _ => intro h; exact h.elim

theorem WF.run : ∀ {s : Sem α}, WF P s → ∀ {w w1 : World} {x : α}, s.run P w = .ok x w1 → w1 = w ∧ ∀ w', s.run P w' = .ok x w' := by
  intro s
  induction s with
  | pure a => intro _ w w1 x e; simp only [Sem.run, Result.ok.injEq] at e; obtain ⟨rfl, rfl⟩ := e; exact ⟨rfl, fun _ => rfl⟩
  | halt h => intro _ w w1 x e; cases e
  | program k ih => intro h w w1 x e; exact ih P h e
  | mark m k ih => intro h w w1 x e; exact ih h e
  | choose q k ih =>
    intro h w w1 x e
    simp only [Sem.run] at e
    split at e <;> exact absurd e (h _).not_ok
  | new o k ih => intro h w w1 x e; exact absurd e (h _).not_ok
  | _ => intro h; exact h.elim

theorem wf_pure (a : α) : WF P (Pure.pure a : Sem α) := trivial
theorem wf_stuck (why : String) : WF P (stuck why : Sem α) := trivial
theorem wf_unsupported (u : Unsupported) : WF P (unsupported u : Sem α) := trivial
theorem wf_goPanic (v : Value) : WF P (goPanic v : Sem α) := trivial
theorem wf_program : WF P program := trivial
theorem wf_underlying (t : TypeId) : WF P (underlying t) := by
  refine wf_program.bind fun p => ?_
  cases p.underlying t <;> exact trivial
theorem wf_typeInfo (t : TypeId) : WF P (typeInfo t) := by
  refine wf_program.bind fun p => ?_
  cases p.info? t <;> exact trivial
theorem wf_sizeOf (t : TypeId) : WF P (sizeOf t) := (wf_typeInfo t).bind fun _ => trivial
theorem wf_zeroValue (t : TypeId) : WF P (zeroValue t) := by
  refine (wf_typeInfo t).bind fun i => ?_
  cases i.zero <;> exact trivial
theorem wf_isAgg (t : TypeId) : WF P (isAgg t) := by
  refine (wf_underlying t).bind fun d => ?_
  cases d <;> exact trivial
theorem wf_part (t : TypeId) (cs : Array Value) (off : Nat) : WF P (part t cs off) := by
  refine (wf_isAgg t).bind fun b => ?_
  cases b
  · show WF P (match cs[off]? with | some v => (Pure.pure v : Sem Value) | none => stuck "part: no such cell")
    cases cs[off]? <;> exact trivial
  · exact (wf_sizeOf t).bind fun _ => trivial
theorem wf_asIntOf (v : Value) : WF P (asIntOf v) := by
  cases v <;> first | exact trivial | (rename_i a; cases a <;> exact trivial)
theorem wf_asBool (v : Value) : WF P (asBool v) := by cases v <;> exact trivial
theorem wf_asString (v : Value) : WF P (asString v) := by cases v <;> exact trivial
theorem wf_asAgg (v : Value) : WF P (asAgg v) := by cases v <;> exact trivial
theorem WF.dies {f : α → Sem β} : ∀ {s : Sem α}, WF P s → (∀ a, Dies P (f a)) → Dies P (s >>= f) := by
  intro s
  show WF P s → _ → Dies P (s.bind f)
  induction s with
  | pure a => intro _ hf; exact hf a
  | halt h => intro _ _; trivial
  | program k ih => intro h hf; exact ih P h hf
  | mark m k ih => intro h hf; exact ih h hf
  | choose q k ih => intro h hf n; exact (h n).bind
  | new o k ih => intro h hf n; exact (h n).bind
  | _ => intro h; exact h.elim
theorem wf_elemOf (t : TypeId) : WF P (elemOf t) := by
  refine (wf_underlying t).bind fun d => ?_
  cases d <;> exact trivial
theorem dies_newVar {f : Addr → Sem β} (t : TypeId) (v : Value) (hf : ∀ a, Dies P (f a)) : Dies P (newVar t v >>= f) := fun _ => hf _
theorem dies_goPanic (v : Value) : Dies P (goPanic v : Sem α) := trivial
theorem dies_stuck (why : String) : Dies P (stuck why : Sem α) := trivial
theorem dies_runtimePanic (e : RuntimeError) : Dies P (runtimePanic e : Sem α) := by
  refine wf_program.dies fun p => ?_
  cases e with
  | typeAssertion i c a m => exact (wf_elemOf _).dies fun _ => dies_newVar _ _ fun _ => trivial
  | panicNil => exact (wf_elemOf _).dies fun _ => dies_newVar _ _ fun _ => trivial
  | _ => exact trivial
theorem dies_boundsPanic (k : IntKind) (x y : Int) (c : BoundsCode) : Dies P (boundsPanic k x y c : Sem α) := by
  unfold boundsPanic
  dsimp only
  split
  · exact fun n => show Dies P (runtimePanic (.bounds (IntKind.i64.wrap x) y (n == 1) c) : Sem α) from dies_runtimePanic _
  · exact show Dies P (runtimePanic (.bounds (IntKind.i64.wrap x) y (k != IntKind.u64) c) : Sem α) from dies_runtimePanic _
theorem wf_sureAddr (v : Value) : WF P (Instr.sureAddr v) := by
  cases v <;> first | exact trivial | (rename_i a; cases a <;> exact trivial)

theorem wf_ite {c : Prop} [Decidable c] {x y : Sem α} (hx : WF P x) (hy : WF P y) : WF P (if c then x else y) := by split <;> assumption

theorem wf_indexAt (t : TypeId) (x i : Value) : WF P (Instr.indexAt t x i) := by
  unfold Instr.indexAt
  try dsimp only
  repeat' (first
    | exact trivial | exact wf_underlying _ | exact wf_sureAddr _ | exact wf_sizeOf _ | exact wf_asIntOf _ | exact wf_asBool _ | exact wf_asString _ | exact wf_asAgg _ | exact wf_part _ _ _ | exact wf_zeroValue _ | exact wf_typeInfo _ | exact wf_isAgg _ | exact (dies_boundsPanic ..).wf | exact (dies_runtimePanic ..).wf
    | (refine WF.bind ?_ fun _ => ?_) | split | dsimp only)
theorem wf_index (t : TypeId) (x i : Value) : WF P (Instr.index t x i) := by
  unfold Instr.index
  try dsimp only
  repeat' (first
    | exact trivial | exact wf_underlying _ | exact wf_sureAddr _ | exact wf_sizeOf _ | exact wf_asIntOf _ | exact wf_asBool _ | exact wf_asString _ | exact wf_asAgg _ | exact wf_part _ _ _ | exact wf_zeroValue _ | exact wf_typeInfo _ | exact wf_isAgg _ | exact (dies_boundsPanic ..).wf | exact (dies_runtimePanic ..).wf
    | (refine WF.bind ?_ fun _ => ?_) | split | dsimp only)
theorem wf_field (t : TypeId) (x : Value) (f : Nat) : WF P (Instr.field t x f) := by
  unfold Instr.field
  try dsimp only
  repeat' (first
    | exact trivial | exact wf_underlying _ | exact wf_sureAddr _ | exact wf_sizeOf _ | exact wf_asIntOf _ | exact wf_asBool _ | exact wf_asString _ | exact wf_asAgg _ | exact wf_part _ _ _ | exact wf_zeroValue _ | exact wf_typeInfo _ | exact wf_isAgg _ | exact (dies_boundsPanic ..).wf | exact (dies_runtimePanic ..).wf
    | (refine WF.bind ?_ fun _ => ?_) | split | dsimp only)
theorem wf_extract (x : Value) (i : Nat) : WF P (Instr.extract x i) := by
  unfold Instr.extract
  try dsimp only
  repeat' (first
    | exact trivial | exact wf_underlying _ | exact wf_sureAddr _ | exact wf_sizeOf _ | exact wf_asIntOf _ | exact wf_asBool _ | exact wf_asString _ | exact wf_asAgg _ | exact wf_part _ _ _ | exact wf_zeroValue _ | exact wf_typeInfo _ | exact wf_isAgg _ | exact (dies_boundsPanic ..).wf | exact (dies_runtimePanic ..).wf
    | (refine WF.bind ?_ fun _ => ?_) | split | dsimp only)
theorem wf_sliceBound (x : Value) (y : Nat) (c : BoundsCode) : WF P (Instr.sliceBound x y c) := by
  unfold Instr.sliceBound
  try dsimp only
  repeat' (first
    | exact trivial | exact wf_underlying _ | exact wf_sureAddr _ | exact wf_sizeOf _ | exact wf_asIntOf _ | exact wf_asBool _ | exact wf_asString _ | exact wf_asAgg _ | exact wf_part _ _ _ | exact wf_zeroValue _ | exact wf_typeInfo _ | exact wf_isAgg _ | exact (dies_boundsPanic ..).wf | exact (dies_runtimePanic ..).wf
    | (refine WF.bind ?_ fun _ => ?_) | split | dsimp only)
theorem wf_sliceBounds (b : Bool) (l c : Nat) (lo hi mx : Option Value) : WF P (Instr.sliceBounds b l c lo hi mx) := by
  unfold Instr.sliceBounds
  try dsimp only
  repeat' (first
    | exact trivial | exact wf_underlying _ | exact wf_sureAddr _ | exact wf_sizeOf _ | exact wf_asIntOf _ | exact wf_asBool _ | exact wf_asString _ | exact wf_asAgg _ | exact wf_part _ _ _ | exact wf_zeroValue _ | exact wf_typeInfo _ | exact wf_isAgg _ | exact wf_sliceBound _ _ _ | exact (dies_boundsPanic ..).wf | exact (dies_runtimePanic ..).wf
    | (refine WF.bind ?_ fun _ => ?_) | split | dsimp only)
theorem wf_asAddr (v : Value) : WF P (asAddr v) := by
  cases v <;> first | exact trivial | (rename_i a; cases a <;> first | exact trivial | exact (dies_runtimePanic ..).wf)
theorem wf_slice (t : TypeId) (x : Value) (lo hi mx : Option Value) : WF P (Instr.slice t x lo hi mx) := by
  unfold Instr.slice
  try dsimp only
  repeat' (first
    | exact trivial | exact wf_underlying _ | exact wf_sureAddr _ | exact wf_sizeOf _ | exact wf_asIntOf _ | exact wf_asBool _ | exact wf_asString _ | exact wf_asAgg _ | exact wf_part _ _ _ | exact wf_zeroValue _ | exact wf_typeInfo _ | exact wf_isAgg _ | exact wf_sliceBounds _ _ _ _ _ _ | exact wf_asAddr _ | exact (dies_boundsPanic ..).wf | exact (dies_runtimePanic ..).wf
    | (refine WF.bind ?_ fun _ => ?_) | split | dsimp only)
theorem wf_sliceAt (t : TypeId) (x : Value) (lo hi mx : Option Value) : WF P (Instr.sliceAt t x lo hi mx) := by
  unfold Instr.sliceAt
  try dsimp only
  repeat' (first
    | exact trivial | exact wf_underlying _ | exact wf_sureAddr _ | exact wf_sizeOf _ | exact wf_asIntOf _ | exact wf_asBool _ | exact wf_asString _ | exact wf_asAgg _ | exact wf_part _ _ _ | exact wf_zeroValue _ | exact wf_typeInfo _ | exact wf_isAgg _ | exact wf_sliceBounds _ _ _ _ _ _ | exact wf_asAddr _ | exact wf_slice _ _ _ _ _ | exact (dies_boundsPanic ..).wf | exact (dies_runtimePanic ..).wf
    | (refine WF.bind ?_ fun _ => ?_) | split | dsimp only)
theorem wf_makeInterface (t : TypeId) (x : Value) : WF P (Instr.makeInterface t x) := by
  unfold Instr.makeInterface
  try dsimp only
  repeat' (first
    | exact trivial | exact wf_underlying _ | exact wf_sureAddr _ | exact wf_sizeOf _ | exact wf_asIntOf _ | exact wf_asBool _ | exact wf_asString _ | exact wf_asAgg _ | exact wf_part _ _ _ | exact wf_zeroValue _ | exact wf_typeInfo _ | exact wf_isAgg _ | exact (dies_boundsPanic ..).wf | exact (dies_runtimePanic ..).wf
    | (refine WF.bind ?_ fun _ => ?_) | split | dsimp only)
theorem wf_intArith (o : BinOp) (k : IntKind) (x y : Int) : WF P (Op.intArith o k x y) := by
  unfold Op.intArith
  try dsimp only
  repeat' (first
    | exact trivial | exact wf_underlying _ | exact wf_sureAddr _ | exact wf_sizeOf _ | exact wf_asIntOf _ | exact wf_asBool _ | exact wf_asString _ | exact wf_asAgg _ | exact wf_part _ _ _ | exact wf_zeroValue _ | exact wf_typeInfo _ | exact wf_isAgg _ | exact (dies_boundsPanic ..).wf | exact (dies_runtimePanic ..).wf
    | (refine WF.bind ?_ fun _ => ?_) | split | dsimp only)
theorem wf_intDiv (o : BinOp) (k : IntKind) (x y : Int) : WF P (Op.intDiv o k x y) := by
  unfold Op.intDiv
  try dsimp only
  repeat' (first
    | exact trivial | exact wf_underlying _ | exact wf_sureAddr _ | exact wf_sizeOf _ | exact wf_asIntOf _ | exact wf_asBool _ | exact wf_asString _ | exact wf_asAgg _ | exact wf_part _ _ _ | exact wf_zeroValue _ | exact wf_typeInfo _ | exact wf_isAgg _ | exact (dies_boundsPanic ..).wf | exact (dies_runtimePanic ..).wf
    | (refine WF.bind ?_ fun _ => ?_) | split | dsimp only)
theorem wf_intBits (o : BinOp) (k : IntKind) (x y : Int) : WF P (Op.intBits o k x y) := by
  unfold Op.intBits
  try dsimp only
  repeat' (first
    | exact trivial | exact wf_underlying _ | exact wf_sureAddr _ | exact wf_sizeOf _ | exact wf_asIntOf _ | exact wf_asBool _ | exact wf_asString _ | exact wf_asAgg _ | exact wf_part _ _ _ | exact wf_zeroValue _ | exact wf_typeInfo _ | exact wf_isAgg _ | exact (dies_boundsPanic ..).wf | exact (dies_runtimePanic ..).wf
    | (refine WF.bind ?_ fun _ => ?_) | split | dsimp only)
theorem wf_intCmp (o : BinOp) (x y : Int) : WF P (Op.intCmp o x y) := by
  unfold Op.intCmp
  try dsimp only
  repeat' (first
    | exact trivial | exact wf_underlying _ | exact wf_sureAddr _ | exact wf_sizeOf _ | exact wf_asIntOf _ | exact wf_asBool _ | exact wf_asString _ | exact wf_asAgg _ | exact wf_part _ _ _ | exact wf_zeroValue _ | exact wf_typeInfo _ | exact wf_isAgg _ | exact (dies_boundsPanic ..).wf | exact (dies_runtimePanic ..).wf
    | (refine WF.bind ?_ fun _ => ?_) | split | dsimp only)
theorem wf_shift (o : BinOp) (k : IntKind) (x : Int) (k' : IntKind) (y : Int) : WF P (Op.shift o k x k' y) := by
  unfold Op.shift
  try dsimp only
  repeat' (first
    | exact trivial | exact wf_underlying _ | exact wf_sureAddr _ | exact wf_sizeOf _ | exact wf_asIntOf _ | exact wf_asBool _ | exact wf_asString _ | exact wf_asAgg _ | exact wf_part _ _ _ | exact wf_zeroValue _ | exact wf_typeInfo _ | exact wf_isAgg _ | exact (dies_boundsPanic ..).wf | exact (dies_runtimePanic ..).wf
    | (refine WF.bind ?_ fun _ => ?_) | split | dsimp only)
theorem wf_stringOp (o : BinOp) (x y : ByteArray) : WF P (Op.stringOp o x y) := by
  unfold Op.stringOp
  try dsimp only
  repeat' (first
    | exact trivial | exact wf_underlying _ | exact wf_sureAddr _ | exact wf_sizeOf _ | exact wf_asIntOf _ | exact wf_asBool _ | exact wf_asString _ | exact wf_asAgg _ | exact wf_part _ _ _ | exact wf_zeroValue _ | exact wf_typeInfo _ | exact wf_isAgg _ | exact (dies_boundsPanic ..).wf | exact (dies_runtimePanic ..).wf
    | (refine WF.bind ?_ fun _ => ?_) | split | dsimp only)
theorem wf_unary (o : UnOp) (x : Value) : WF P (Op.unary o x) := by
  unfold Op.unary
  try dsimp only
  repeat' (first
    | exact trivial | exact wf_underlying _ | exact wf_sureAddr _ | exact wf_sizeOf _ | exact wf_asIntOf _ | exact wf_asBool _ | exact wf_asString _ | exact wf_asAgg _ | exact wf_part _ _ _ | exact wf_zeroValue _ | exact wf_typeInfo _ | exact wf_isAgg _ | exact wf_intArith _ _ _ _ | exact wf_intBits _ _ _ _ | exact (dies_boundsPanic ..).wf | exact (dies_runtimePanic ..).wf
    | (refine WF.bind ?_ fun _ => ?_) | split | dsimp only)
end

end Go.Proofs.Ytacjfkodndkaeaa
