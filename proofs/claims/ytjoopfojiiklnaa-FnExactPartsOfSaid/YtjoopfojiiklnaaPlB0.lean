/-
  Plain lists: labels without some, without doubles. No condition.
-/
import Derived.Test.YtjoopfojiiklnaaPlA
import Derived.Test.YtjoopfojiiklnaaCoS
namespace Go.Proofs.Ytjoopfojiiklnaa
open Go.RowKit Go.Lift Plain
set_option linter.unusedSimpArgs false
set_option linter.unusedVariables false

set_option maxRecDepth 100000
end Go.Proofs.Ytjoopfojiiklnaa
