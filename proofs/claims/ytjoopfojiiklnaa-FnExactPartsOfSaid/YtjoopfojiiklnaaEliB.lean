/-
  Contracts: widths of eliminations. No condition.
-/
import Derived.Test.YtjoopfojiiklnaaEliA
namespace Go.Proofs.Ytjoopfojiiklnaa
open Go.RowKit Go.Lift Plain
set_option linter.unusedSimpArgs false
set_option linter.unusedVariables false
set_option maxRecDepth 100000

/-! ### By the reference -/
end Go.Proofs.Ytjoopfojiiklnaa
