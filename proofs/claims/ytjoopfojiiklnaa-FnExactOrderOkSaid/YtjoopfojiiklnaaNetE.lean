/-
  Contracts: labels, uses, neighbours, closed labels. No condition.
-/
import Derived.Test.YtjoopfojiiklnaaCodeE
import Derived.Test.YtjoopfojiiklnaaNetC
import Derived.Test.YtjoopfojiiklnaaPlB0
namespace Go.Proofs.Ytjoopfojiiklnaa
open Go.RowKit Go.Lift Plain
set_option linter.unusedSimpArgs false
set_option linter.unusedVariables false
set_option maxRecDepth 100000

end Go.Proofs.Ytjoopfojiiklnaa
