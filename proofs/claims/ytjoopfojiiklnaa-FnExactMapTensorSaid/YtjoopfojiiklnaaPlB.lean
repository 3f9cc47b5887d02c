/-
  Plain lists: labels without some, axes fused. No condition.
-/
import Derived.Test.YtjoopfojiiklnaaPlB0
import Derived.Test.YtjoopfojiiklnaaCoD
namespace Go.Proofs.Ytjoopfojiiklnaa
open Go.RowKit Go.Lift Plain
set_option linter.unusedSimpArgs false
set_option linter.unusedVariables false

set_option maxRecDepth 100000
end Go.Proofs.Ytjoopfojiiklnaa
