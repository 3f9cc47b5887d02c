/-
  Contracts: the same labels in any order. No condition.
-/
import Derived.Test.YtjncdanegoileaaCoB
import Derived.Test.YtjncdanegoileaaPlA
namespace Go.Proofs.Ytjncdanegoileaa
open Go.RowKit Go.Lift Plain
set_option linter.unusedSimpArgs false
set_option linter.unusedVariables false
set_option maxRecDepth 100000

/-- The same labels, in any order. -/
def sameB (ls L : List Int) : Bool := decide (L.length = ls.length ∧ ∀ k (hk : k < L.length), L[k] ∈ ls ∧ L[k] ∉ L.take k)
end Go.Proofs.Ytjncdanegoileaa
