/-
  What the row's condition on the listed variable gives the walks.
-/
import Derived.Test.YtkhggobpanfkfaaDoorCodeB
import Derived.LaidLaws
import Derived.LaidMore
import Derived.Stop.LaidErr
import Derived.Stop.Joined
namespace Go.Proofs.YtkhggobpanfkfaaDoor
open Go.ChangeShapes Go.WideShapes Go.RowKit Go.Stop
open Ab
set_option linter.unusedSimpArgs false
set_option linter.unusedVariables false

theorem starName : ("*errors.errorString" : String) = "*" ++ "errors.errorString" := by decide
theorem rowErr (u : TypeId) (h : Tryd.prog.typeName? 3 u = some "*errors.errorString") : u = 187 :=
  typeName_ptr_named (nm := "errors.errorString") (by rw [← starName]; kernel_rfl) (by kernel_rfl) (by decide) u (by rw [← starName]; exact h)
theorem gw_of_laid {W : World} (h : laidMetH Tryd.prog [("loop.example/serialpair/impl.errNoFormat", Rows.laid_loop_example_serialpair_impl_errNoFormat)] W) : Gw W := by
  rw [MakeChecks.laidMetH_plain _ _ _ (by kernel_rfl)] at h
  have hn : Tryd.prog.globalNamed "loop.example/serialpair/impl.errNoFormat" = some 0 := by kernel_rfl
  obtain ⟨a, s, hv, _, _, _⟩ := laid_sentinel (ti := 106) (tp := 187) (te := 212) (ts := 9) h hn (by kernel_rfl) Tryd.underlying106 rowErr Tryd.underlying187 Tryd.underlying212 rfl rfl Tryd.underlying9 (by kernel_rfl) (by kernel_rfl)
  unfold World.var? at hv
  rw [hn] at hv
  simp only [Option.bind_some] at hv
  split at hv
  · rename_i cs T fr e
    cases hv
    exact ⟨a, T, fr, e⟩
  · cases hv

end Go.Proofs.YtkhggobpanfkfaaDoor
