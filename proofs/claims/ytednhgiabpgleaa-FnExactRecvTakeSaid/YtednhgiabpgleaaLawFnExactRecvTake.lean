/-
  The law FnExactRecvTake returns true for every input, and leaves what came in as it was. No condition.
-/
import Derived.Test.YtednhgiabpgleaaRows
import Derived.Test.YtednhgiabpgleaaExR
import Derived.Test.YtednhgiabpgleaaArgG
import Derived.WalkKit
import Derived.ProofKit
import Derived.OpenShut
import Derived.ShutString
import Derived.ChangeOld
import Derived.Below
import Derived.Lib.SmallJoins
namespace Go.Proofs.Ytednhgiabpgleaa.fnExactRecvTake
open Go.ChangeShapes Go.WideShapes Go.ChangeAt Go.RowKit Go.Joins

theorem own : ownKnob Try.prog.godebug = none := by kernel_rfl
theorem laidOut : laidOutB Try.prog = true := by kernel_rfl
theorem cells0 : Try.prog.cellsOf 63 = 5 := by kernel_rfl

set_option maxRecDepth 100000 in
theorem lifted (os : Os) (started : os.Started) (H : Type) (enc : TypeId × Value → H) :
    ReturnsInHanded {} Try.checked os 14 .any (Rows.fnExactRecvTakeSpec.pre6 enc Try.prog Try.f14 Rows.fnExactRecvTakeRow.domain false) (Rows.fnExactRecvTakeSpec.post enc Try.prog Try.f14 false true false false) := by
  refine returnsInHanded_of_change (C := Try.checked) own started (by kernel_rfl) Try.func14
    (ChangeSpec.witness6 (enc := enc) (C := Try.checked) false ⟨#[], #[.agg #[.int .i64 0, .int .i64 0, .slice none 0 0, .bool false, .int .i64 0]], []⟩ 8 (by kernel_rfl) (by kernel_rfl) (by kernel_rfl) (by kernel_rfl)) ?_
  intro W base args ds gs before hval0 hW hcnd _
  have hval : ∀ (j : Nat) t v, Try.f14.params[j]? = some t → args[j]? = some v → Value.okWide Try.prog W .any base t v := hval0
  have hW' := hW
  obtain ⟨p, q, hA0, hV, rfl, hfz, hnd⟩ := hW
  have hA : DataW.TrodAll enc Try.prog W 0 (fun _ => true) true Try.f14.params.toList args.toList ds p := hA0
  rw [Try.params14] at hA hval
  obtain ⟨v0, vs0, d0, ds0, p0, q0, hargs, rfl, rfl, h0, r0⟩ := trodAll_cons hA
  obtain ⟨rfl, rfl, rfl⟩ := trodAll_nil r0
  obtain rfl : args = #[v0] := by cases args; simp_all
  obtain ⟨rfl, rfl⟩ := trodVars_none hV
  have k0 := h0
  have lt0 : ∀ x ∈ p0, x.block < W.heap.size := by obtain ⟨m, hm⟩ := k0; exact DataW.trod_lt m _ _ _ hm
  obtain ⟨c0, c1, c2, c3, c4, y0, y1, y2, y3, y4, m, rfl, hy0, hy1, hy2, hy3, hy4⟩ := Go.Proofs.Ytednhgiabpgleaa.open_agg5 Try.underlying63 (by kernel_rfl) cells0 (hval 0 63 v0 rfl rfl) h0
  obtain ⟨z0, e0, -, -⟩ := DataW.trod_int Try.underlying3 hy0
  simp only [List.cons.injEq, and_true] at e0
  subst e0
  obtain ⟨z1, e1, -, -⟩ := DataW.trod_int Try.underlying3 hy1
  simp only [List.cons.injEq, and_true] at e1
  subst e1
  obtain ⟨z3, e3, -⟩ := DataW.trod_bool Try.underlying4 hy3
  simp only [List.cons.injEq, and_true] at e3
  subst e3
  obtain ⟨z4, e4, -, -⟩ := DataW.trod_int Try.underlying3 hy4
  simp only [List.cons.injEq, and_true] at e4
  subst e4
  have hr := Go.Proofs.Ytednhgiabpgleaa.gots_arg Try.underlying61 Try.underlying116 Try.underlying3 Try.underlying3 (by kernel_rfl) (by kernel_rfl) hy2 (fun _ => rfl)
  clear hA0 hval0
  refine (Go.Proofs.Ytednhgiabpgleaa.law_l_FnExactRecvTake z0 z1 z3 z4 c2 W hr).mono fun e W' ⟨he, bel⟩ => ?_
  subst he
  exact ⟨_, rfl, _, _, _, [], _, [], hW', trodAll_mk1 (shut_bool Try.underlying4 _), (trodAll_cons_mk (Below.trod laidOut (by kernel_rfl) (of_decide_eq_true (by kernel_rfl)) k0 bel lt0) trodAll_mk0), rfl, bel.frame _, fun h => by cases h⟩

theorem over : Rows.fnExactRecvTakeRow.holds Try.pinned (OpenSpec.ofChange Rows.fnExactRecvTakeSpec) :=
  OpenClaim.holds_of_wide 14 Try.f14 rfl rfl rfl rfl rfl rfl rfl ⟨rfl, rfl, rfl, rfl, rfl⟩ rfl rfl rfl rfl rfl (by kernel_rfl) Try.func14 (by kernel_rfl)
    (of_decide_eq_true (by kernel_rfl)) (by unfold Func.isWrapper; first | (rw [if_pos (by decide +kernel)]; kernel_rfl) | (rw [if_neg (by decide +kernel)]; exact ⟨rfl, rfl⟩))
    (fun os started H enc _ => lifted os started H enc)

/-- The statement. -/
theorem proved : Rows.FnExactRecvTakeSaid := over
#print axioms proved
end Go.Proofs.Ytednhgiabpgleaa.fnExactRecvTake
