/-
  Equal receivers.
-/
import Derived.Test.YtkhggobpanfkfaaR1
namespace Go.Proofs.Ytkhggobpanfkfaa
open Go.RowKit
open Ab
set_option linter.unusedSimpArgs false
set_option linter.unusedVariables false

theorem pair_eq {x y : Int × Int} : (decide (x.1 = y.1) && (decide (x.2 = y.2) && true)) = decide (x = y) := by
  obtain ⟨a, b⟩ := x
  obtain ⟨c, d⟩ := y
  rw [Bool.eq_iff_iff]
  simp



end Go.Proofs.Ytkhggobpanfkfaa
