/-
 Contracts: networks that are marked. No condition.
-/
import Derived.Test.YtjfmckhbmdjnpaaGreatMgDecompositionsA
import Derived.Test.YtjfmckhbmdjnpaaGreatNetB
import Derived.Test.YtjfmckhbmdjnpaaGreatArrA
set_option linter.unusedSimpArgs false
set_option linter.unusedVariables false
namespace Go.Proofs.YtjfmckhbmdjnpaaGreat
open Go.RowKit Go.Lift Plain
set_option maxRecDepth 100000
def Eu:List Ten→Int→List Ten
 | [],_=>[]
 | t :: l,m=>HJ t m :: Eu l (m+lenT t)
section
variable {ts : List Ten} {m : Int} {k : Nat}
end
def K3 (N:Net) (m:Int):Net:=⟨N.k,N.p,N.n,Eu N.ts m,Bj N.os (m+totT N.ts)⟩
attribute [go_sem] K3
end Go.Proofs.YtjfmckhbmdjnpaaGreat
