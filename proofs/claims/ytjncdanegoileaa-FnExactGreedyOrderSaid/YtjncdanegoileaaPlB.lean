/-
  Plain lists: labels without some, axes fused. No condition.
-/
import Derived.Test.YtjncdanegoileaaCoS
import Derived.Test.YtjncdanegoileaaCoD
namespace Go.Proofs.Ytjncdanegoileaa
open Go.RowKit Go.Lift Plain
set_option linter.unusedSimpArgs false
set_option linter.unusedVariables false

set_option maxRecDepth 100000
end Go.Proofs.Ytjncdanegoileaa
