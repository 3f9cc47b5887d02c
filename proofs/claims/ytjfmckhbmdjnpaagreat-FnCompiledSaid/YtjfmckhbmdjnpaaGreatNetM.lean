/-
 Contracts: networks that are marked. No condition.
-/
import Derived.Test.YtjfmckhbmdjnpaaGreatMgCompiledA
import Derived.Test.YtjfmckhbmdjnpaaGreatNetB
import Derived.Test.YtjfmckhbmdjnpaaGreatArrA
set_option linter.unusedSimpArgs false
set_option linter.unusedVariables false
namespace Go.Proofs.YtjfmckhbmdjnpaaGreat
open Go.RowKit Go.Lift Plain
set_option maxRecDepth 100000
def Gc:List Ten→Int→List Ten
 | [],_=>[]
 | t :: l,m=>Jv t m :: Gc l (m+lenT t)
section
variable {ts : List Ten} {m : Int} {k : Nat}
end
def LM (N:Net) (m:Int):Net:=⟨N.k,N.p,N.n,Gc N.ts m,CW N.os (m+totT N.ts)⟩
attribute [go_sem] LM
end Go.Proofs.YtjfmckhbmdjnpaaGreat
