/-
  Contracts: networks that are marked. No condition.
-/
import Derived.Test.YtcgnehacihjnkaaMgBestCostA
import Derived.Test.YtcgnehacihjnkaaNetB
import Derived.Test.YtcgnehacihjnkaaArrA
namespace Go.Proofs.Ytcgnehacihjnkaa
open Go.RowKit Go.Lift Plain
set_option linter.unusedSimpArgs false
set_option linter.unusedVariables false
set_option maxRecDepth 100000

def markTs : List Ten → Int → List Ten
  | [], _ => []
  | t :: l, m => markT t m :: markTs l (m + lenT t)
theorem markTs_len : ∀ (ts : List Ten) (m : Int), (markTs ts m).length = ts.length
  | [], _ => rfl
  | t :: l, m => by simp [markTs, markTs_len l]
section
variable {ts : List Ten} {m : Int} {k : Nat}
end
def markN (N : Net) (m : Int) : Net := ⟨N.k, N.p, N.n, markTs N.ts m, markL N.os (m + totT N.ts)⟩
attribute [go_sem] markN markTs_len
end Go.Proofs.Ytcgnehacihjnkaa
