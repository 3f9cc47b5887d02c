/-
  Plain networks with their labels renamed. No condition.
-/
import Derived.Test.YtjoopfojiiklnaaNetE
namespace Go.Proofs.Ytjoopfojiiklnaa
open Go.RowKit Go.Lift Plain
set_option linter.unusedSimpArgs false
set_option linter.unusedVariables false

section
variable {ρ : Int → Int}
end
end Go.Proofs.Ytjoopfojiiklnaa
