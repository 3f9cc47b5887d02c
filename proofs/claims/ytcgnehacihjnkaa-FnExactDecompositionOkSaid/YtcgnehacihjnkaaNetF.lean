/-
  Contracts: neighbours, closed labels. No condition.
-/
import Derived.Test.YtcgnehacihjnkaaNetE
namespace Go.Proofs.Ytcgnehacihjnkaa
open Go.RowKit Go.Lift Plain
set_option linter.unusedSimpArgs false
set_option linter.unusedVariables false
set_option maxRecDepth 100000

open Classical in
noncomputable def shareB (a b : List Int) : Bool := decide (∃ x ∈ a, x ∈ b)
/-! ### Closed labels -/
end Go.Proofs.Ytcgnehacihjnkaa
