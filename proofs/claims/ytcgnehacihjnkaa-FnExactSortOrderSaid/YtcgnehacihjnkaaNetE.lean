/-
  Contracts: labels, uses, neighbours, closed labels. No condition.
-/
import Derived.Test.YtcgnehacihjnkaaMgSortOrderA
import Derived.Test.YtcgnehacihjnkaaNetC
import Derived.Test.YtcgnehacihjnkaaCoS
namespace Go.Proofs.Ytcgnehacihjnkaa
open Go.RowKit Go.Lift Plain
set_option linter.unusedSimpArgs false
set_option linter.unusedVariables false
set_option maxRecDepth 100000

end Go.Proofs.Ytcgnehacihjnkaa

/-
  Contracts: neighbours, closed labels. No condition.
-/
namespace Go.Proofs.Ytcgnehacihjnkaa
open Go.RowKit Go.Lift Plain
set_option linter.unusedSimpArgs false
set_option linter.unusedVariables false
set_option maxRecDepth 100000

open Classical in
noncomputable def shareB (a b : List Int) : Bool := decide (∃ x ∈ a, x ∈ b)
/-! ### Closed labels -/
end Go.Proofs.Ytcgnehacihjnkaa
