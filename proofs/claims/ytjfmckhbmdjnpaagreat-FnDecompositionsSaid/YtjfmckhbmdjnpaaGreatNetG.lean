/-
 Contracts: networks copied, opened, scaled; networks that are held. No condition.
-/
import Derived.Test.YtjfmckhbmdjnpaaGreatMgDecompositionsA
import Derived.Test.YtjfmckhbmdjnpaaGreatNetM
import Derived.Test.YtjfmckhbmdjnpaaGreatNetC
import Derived.Test.YtjfmckhbmdjnpaaGreatLiftI
set_option linter.unusedSimpArgs false
set_option linter.unusedVariables false
namespace Go.Proofs.YtjfmckhbmdjnpaaGreat
open Go.RowKit Go.Lift Plain
set_option maxRecDepth 100000
def Js:Net:=⟨0,0,0,[],[]⟩
attribute [go_sem] Js
def scal (x:List Int):Ten:=⟨[],[],x⟩
section
variable {p : Nat → Bool} {xs : List Int} {k : Nat}
end
section
variable {f : Ten → Ten} {ts : List Ten} {k : Nat}
end
end Go.Proofs.YtjfmckhbmdjnpaaGreat
