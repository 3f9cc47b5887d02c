/-
  Contracts: the first state of an order, whether an order is valid, by the program. No condition.
-/
import Derived.Test.YtcgnehacihjnkaaOrdL
import Derived.Test.YtcgnehacihjnkaaStp
import Derived.Test.YtcgnehacihjnkaaBoolA
namespace Go.Proofs.Ytcgnehacihjnkaa
open Go.RowKit Go.Lift Plain
set_option linter.unusedSimpArgs false
set_option linter.unusedVariables false
set_option maxRecDepth 100000

/-! ### Whether an order is valid -/
/-! ### By the reference -/
end Go.Proofs.Ytcgnehacihjnkaa
