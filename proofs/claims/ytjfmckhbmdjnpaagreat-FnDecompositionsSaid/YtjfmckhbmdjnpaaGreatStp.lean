/-
 Contracts: steps of orders, as flat lists of ints; plain orders. No condition.
-/
import Derived.Test.YtjfmckhbmdjnpaaGreatMgDecompositionsA
import Derived.Test.YtjfmckhbmdjnpaaGreatNetC
import Derived.Test.YtjfmckhbmdjnpaaGreatNetM
set_option linter.unusedSimpArgs false
set_option linter.unusedVariables false
namespace Go.Proofs.YtjfmckhbmdjnpaaGreat
open Go.RowKit Go.Lift Plain
set_option maxRecDepth 100000
structure StpSz (m n:Nat) (F:List Int):Prop where
 l:F.length=n*2
 n:n≤m
 wf:∀ x∈F,I64 x
def stp (n:Nat) (F:List Int):D:=.sl n (dv F)
attribute [go_sem] stp
section
variable {F : List Int} {n k : Nat}
end
end Go.Proofs.YtjfmckhbmdjnpaaGreat
