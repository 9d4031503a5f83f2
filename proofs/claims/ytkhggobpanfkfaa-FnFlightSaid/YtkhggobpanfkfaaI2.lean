/-
  IrqOf of the program.
-/
import Derived.Test.YtkhggobpanfkfaaI1
namespace Go.Proofs.Ytkhggobpanfkfaa
open Go.RowKit
open Ab
set_option linter.unusedSimpArgs false
set_option linter.unusedVariables false




end Go.Proofs.Ytkhggobpanfkfaa
