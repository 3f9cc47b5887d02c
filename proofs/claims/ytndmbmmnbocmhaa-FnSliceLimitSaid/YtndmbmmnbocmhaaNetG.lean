/-
 Contracts: networks copied, opened, scaled; networks that are held. No condition.
-/
import Derived.Test.YtndmbmmnbocmhaaMgSliceLimitA
import Derived.Test.YtndmbmmnbocmhaaNetM
import Derived.Test.YtndmbmmnbocmhaaNetC
import Derived.Test.YtndmbmmnbocmhaaLiftI
set_option linter.unusedSimpArgs false
set_option linter.unusedVariables false
namespace Go.Proofs.Ytndmbmmnbocmhaa
open Go.RowKit Go.Lift Plain
set_option maxRecDepth 100000
def zeroN : Net := ⟨0, 0, 0, [], []⟩
attribute [go_sem] zeroN
def scal (x : List Int) : Ten := ⟨[], [], x⟩
section
variable {p : Nat → Bool} {xs : List Int} {k : Nat}
end
section
variable {f : Ten → Ten} {ts : List Ten} {k : Nat}
end
set_option maxRecDepth 100000
section
variable {A B : List AV} {q : Nat} {x y z : AV}
end
end Go.Proofs.Ytndmbmmnbocmhaa
