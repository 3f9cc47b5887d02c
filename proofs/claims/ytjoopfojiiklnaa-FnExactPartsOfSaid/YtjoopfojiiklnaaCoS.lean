/-
  Contracts: the same labels in any order. No condition.
-/
import Derived.Test.YtjoopfojiiklnaaCoB
import Derived.Test.YtjoopfojiiklnaaPlA
namespace Go.Proofs.Ytjoopfojiiklnaa
open Go.RowKit Go.Lift Plain
set_option linter.unusedSimpArgs false
set_option linter.unusedVariables false
set_option maxRecDepth 100000

end Go.Proofs.Ytjoopfojiiklnaa
