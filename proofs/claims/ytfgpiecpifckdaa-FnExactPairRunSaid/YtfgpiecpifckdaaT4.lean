/-
  Pairs that are drawn; quiet pairs.
-/
import Derived.Test.YtfgpiecpifckdaaT2
import Derived.Test.YtfgpiecpifckdaaT3
namespace Go.Proofs.Ytfgpiecpifckdaa
open Go.RowKit
open Ab
set_option linter.unusedSimpArgs false
set_option linter.unusedVariables false




end Go.Proofs.Ytfgpiecpifckdaa
