/-
  A bit of a number, in the reference; by the abstract walk.
-/
import Derived.Test.YtkhggobpanfkfaaDoorG2
namespace Go.Proofs.YtkhggobpanfkfaaDoor
open Go.RowKit
open Ab
set_option linter.unusedSimpArgs false
set_option linter.unusedVariables false

def bitB (b : Int) : Bool := b == 1 || b == 2 || b == 4 || b == 8 || b == 32
theorem bitB_or {b : Int} (h : bitB b = true) : b = 1 ∨ b = 2 ∨ b = 4 ∨ b = 8 ∨ b = 32 := by
  simp [bitB] at h
  omega

end Go.Proofs.YtkhggobpanfkfaaDoor
