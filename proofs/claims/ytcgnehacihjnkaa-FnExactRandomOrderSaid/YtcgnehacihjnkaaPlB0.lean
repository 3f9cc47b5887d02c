/-
  Plain lists: labels without some, without doubles. No condition.
-/
import Derived.Test.YtcgnehacihjnkaaPlA
import Derived.Test.YtcgnehacihjnkaaCoS
namespace Go.Proofs.Ytcgnehacihjnkaa
open Go.RowKit Go.Lift Plain
set_option linter.unusedSimpArgs false
set_option linter.unusedVariables false

/-- The labels of a list without those of another. -/
def wol (ls L : List Int) : List Int := ls.filter fun x => !has L x
set_option maxRecDepth 100000
end Go.Proofs.Ytcgnehacihjnkaa
