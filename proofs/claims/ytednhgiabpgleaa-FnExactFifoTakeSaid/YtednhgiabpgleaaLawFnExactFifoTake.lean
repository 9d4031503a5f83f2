/-
  The law FnExactFifoTake returns true for every input, and leaves what came in as it was. No condition.
-/
import Derived.Test.YtednhgiabpgleaaRows
import Derived.Test.YtednhgiabpgleaaArgs
import Derived.Test.YtednhgiabpgleaaLawExFifo
import Derived.WalkKit
import Derived.ProofKit
import Derived.OpenShut
import Derived.ShutString
import Derived.ChangeOld
import Derived.Below
import Derived.Lib.SmallJoins
namespace Go.Proofs.Ytednhgiabpgleaa.fnExactFifoTake
open Go.ChangeShapes Go.WideShapes Go.ChangeAt Go.RowKit Go.Joins

theorem own : ownKnob Try.prog.godebug = none := by kernel_rfl
theorem laidOut : laidOutB Try.prog = true := by kernel_rfl
theorem cells0 : Try.prog.cellsOf 35 = 2 := by kernel_rfl

set_option maxRecDepth 100000 in
theorem lifted (os : Os) (started : os.Started) (H : Type) (enc : TypeId × Value → H) :
    ReturnsInHanded {} Try.checked os 5 .any (Rows.fnExactFifoTakeSpec.pre6 enc Try.prog Try.f5 Rows.fnExactFifoTakeRow.domain false) (Rows.fnExactFifoTakeSpec.post enc Try.prog Try.f5 false true false false) := by
  refine returnsInHanded_of_change (C := Try.checked) own started (by kernel_rfl) Try.func5
    (ChangeSpec.witness6 (enc := enc) (C := Try.checked) false ⟨#[], #[.agg #[.int .i64 0, .slice none 0 0]], []⟩ 8 (by kernel_rfl) (by kernel_rfl) (by kernel_rfl) (by kernel_rfl)) ?_
  intro W base args ds gs before hval0 hW hcnd _
  have hval : ∀ (j : Nat) t v, Try.f5.params[j]? = some t → args[j]? = some v → Value.okWide Try.prog W .any base t v := hval0
  have hW' := hW
  obtain ⟨p, q, hA0, hV, rfl, hfz, hnd⟩ := hW
  have hA : DataW.TrodAll enc Try.prog W 0 (fun _ => true) true Try.f5.params.toList args.toList ds p := hA0
  rw [Try.params5] at hA hval
  obtain ⟨v0, vs0, d0, ds0, p0, q0, hargs, rfl, rfl, h0, r0⟩ := trodAll_cons hA
  obtain ⟨rfl, rfl, rfl⟩ := trodAll_nil r0
  obtain rfl : args = #[v0] := by cases args; simp_all
  obtain ⟨rfl, rfl⟩ := trodVars_none hV
  have k0 := h0
  have lt0 : ∀ x ∈ p0, x.block < W.heap.size := by obtain ⟨m, hm⟩ := k0; exact DataW.trod_lt m _ _ _ hm
  obtain ⟨c0, c1, y0, y1, m, rfl, rfl, rfl, hy0, hy1⟩ := open_agg2 Try.underlying35 (by kernel_rfl) cells0 (hval 0 35 v0 rfl rfl) h0
  obtain ⟨z, e0, -, -⟩ := DataW.trod_int Try.underlying3 hy0
  simp only [List.cons.injEq, and_true] at e0
  subst e0
  obtain ⟨l, hr, hl⟩ : ∃ l, ReadI W c1 l ∧ l.length ≤ 9223372036854775807 := by
    rcases open_ints Try.underlying23 Try.underlying3 (by kernel_rfl) hy1 with ⟨hcs, _⟩ | ⟨x, n, cap, zs, hcs, _, h1, h2, h3, _, hcell, _⟩
    · simp only [List.cons.injEq, and_true] at hcs
      subst hcs
      exact ⟨[], readI_nil W, by simp⟩
    · simp only [List.cons.injEq, and_true] at hcs
      subst hcs
      refine ⟨_, readI_row h1 (by simpa using h3) hcell, ?_⟩
      have : maxLen = 9223372036854775807 := rfl
      rw [List.length_take]; omega
  clear hA0 hval0
  refine (Go.Proofs.Ytednhgiabpgleaa.FnExactFifoTake_any z c1 l W hr hl).mono fun e W' ⟨he, bel⟩ => ?_
  subst he
  exact ⟨_, rfl, _, _, _, [], _, [], hW', trodAll_mk1 (shut_bool Try.underlying4 _), (trodAll_cons_mk (Below.trod laidOut (by kernel_rfl) (of_decide_eq_true (by kernel_rfl)) k0 bel lt0) trodAll_mk0), rfl, bel.frame _, fun h => by cases h⟩

theorem over : Rows.fnExactFifoTakeRow.holds Try.pinned (OpenSpec.ofChange Rows.fnExactFifoTakeSpec) :=
  OpenClaim.holds_of_wide 5 Try.f5 rfl rfl rfl rfl rfl rfl rfl ⟨rfl, rfl, rfl, rfl, rfl⟩ rfl rfl rfl rfl rfl (by kernel_rfl) Try.func5 (by kernel_rfl)
    (of_decide_eq_true (by kernel_rfl)) (by unfold Func.isWrapper; first | (rw [if_pos (by decide +kernel)]; kernel_rfl) | (rw [if_neg (by decide +kernel)]; exact ⟨rfl, rfl⟩))
    (fun os started H enc _ => lifted os started H enc)

/-- The statement. -/
theorem proved : Rows.FnExactFifoTakeSaid := over
#print axioms proved
end Go.Proofs.Ytednhgiabpgleaa.fnExactFifoTake
