/-
  Pairs of the program: copies, lines, and what goes through a channel.
-/
import Derived.Test.YtkhggobpanfkfaaM5
import Derived.Test.YtkhggobpanfkfaaP5
import Derived.Test.YtkhggobpanfkfaaS2
namespace Go.Proofs.Ytkhggobpanfkfaa
open Go.RowKit
open Ab
set_option linter.unusedSimpArgs false
set_option linter.unusedVariables false






end Go.Proofs.Ytkhggobpanfkfaa
