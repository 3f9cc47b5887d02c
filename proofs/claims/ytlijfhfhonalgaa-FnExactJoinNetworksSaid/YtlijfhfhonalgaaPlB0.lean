/-
  Plain lists: labels without some, without doubles. No condition.
-/
import Derived.Test.YtlijfhfhonalgaaPlA
import Derived.Test.YtlijfhfhonalgaaCoS
namespace Go.Proofs.Ytlijfhfhonalgaa
open Go.RowKit Go.Lift Plain
set_option linter.unusedSimpArgs false
set_option linter.unusedVariables false

set_option maxRecDepth 100000
end Go.Proofs.Ytlijfhfhonalgaa
