/-
  Plain lists: labels without some, axes fused. No condition.
-/
import Derived.Test.YtcgnehacihjnkaaCoS
import Derived.Test.YtcgnehacihjnkaaCoD
namespace Go.Proofs.Ytcgnehacihjnkaa
open Go.RowKit Go.Lift Plain
set_option linter.unusedSimpArgs false
set_option linter.unusedVariables false

set_option maxRecDepth 100000
end Go.Proofs.Ytcgnehacihjnkaa
