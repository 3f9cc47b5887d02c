/-
 Contracts: tensors stacked. No condition.
-/
import Derived.Test.YtndmbmmnbocmhaaMgSliceLimitA
import Derived.Test.YtndmbmmnbocmhaaConR
import Derived.Test.YtndmbmmnbocmhaaNetB
import Derived.Test.YtndmbmmnbocmhaaLiftI
set_option linter.unusedSimpArgs false
set_option linter.unusedVariables false
namespace Go.Proofs.Ytndmbmmnbocmhaa
open Go.RowKit Go.Lift Plain
set_option maxRecDepth 100000
section
variable {ts : List Ten} {n i k : Nat} {t : Ten}
end
section
variable {wd n q : Nat} {ts : List Ten}
end
def hd0 (ts : List Ten) : Ten := ts.getD 0 ⟨[], [], []⟩
def skA (r : Rg) (ts : List Ten) : List Ten := ts.map (alR r (hd0 ts))
structure SkOk (r : Rg) (ts : List Ten) (wd n : Nat) : Prop where
 w : width r = wd
 wb : 1 ≤ wd ∧ wd ≤ 6
 p : prodI (hd0 ts).dims = n
 nb : 1 ≤ n ∧ n ≤ 4096
 len : 1 ≤ ts.length ∧ ts.length ≤ 8
 ax : axOk (hd0 ts).labels (hd0 ts).dims
 dl : ∀ t ∈ skA r ts, t.data.length = n * wd
end Go.Proofs.Ytndmbmmnbocmhaa
