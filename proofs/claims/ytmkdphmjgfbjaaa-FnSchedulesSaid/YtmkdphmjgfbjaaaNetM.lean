/-
 Contracts: networks that are marked. No condition.
-/
import Derived.Test.YtmkdphmjgfbjaaaMgSchedulesA
import Derived.Test.YtmkdphmjgfbjaaaNetB
import Derived.Test.YtmkdphmjgfbjaaaArrA
set_option linter.unusedSimpArgs false
set_option linter.unusedVariables false
namespace Go.Proofs.Ytmkdphmjgfbjaaa
open Go.RowKit Go.Lift Plain
set_option maxRecDepth 100000
def markTs : List Ten → Int → List Ten
 | [], _ => []
 | t :: l, m => markT t m :: markTs l (m + lenT t)
section
variable {ts : List Ten} {m : Int} {k : Nat}
end
def markN (N : Net) (m : Int) : Net := ⟨N.k, N.p, N.n, markTs N.ts m, markL N.os (m + totT N.ts)⟩
attribute [go_sem] markN
end Go.Proofs.Ytmkdphmjgfbjaaa
