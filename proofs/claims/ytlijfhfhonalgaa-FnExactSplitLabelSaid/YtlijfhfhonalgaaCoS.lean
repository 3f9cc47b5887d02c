/-
  Contracts: the same labels in any order. No condition.
-/
import Derived.Test.YtlijfhfhonalgaaCoB
import Derived.Test.YtlijfhfhonalgaaPlA
namespace Go.Proofs.Ytlijfhfhonalgaa
open Go.RowKit Go.Lift Plain
set_option linter.unusedSimpArgs false
set_option linter.unusedVariables false
set_option maxRecDepth 100000

def sameB (ls L : List Int) : Bool := decide (L.length = ls.length ∧ ∀ k (hk : k < L.length), L[k] ∈ ls ∧ L[k] ∉ L.take k)
end Go.Proofs.Ytlijfhfhonalgaa
