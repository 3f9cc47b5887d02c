/-
 Contracts: networks that are marked. No condition.
-/
import Derived.Test.YtneocijmbnhblaaGreatMgEnvironmentsA
import Derived.Test.YtneocijmbnhblaaGreatNetB
import Derived.Test.YtneocijmbnhblaaGreatArrA
set_option linter.unusedSimpArgs false
set_option linter.unusedVariables false
namespace Go.Proofs.YtneocijmbnhblaaGreat
open Go.RowKit Go.Lift Plain
set_option maxRecDepth 100000
def Aj:List Ten→Int→List Ten
 | [],_=>[]
 | t :: l,m=>Df t m :: Aj l (m+lenT t)
section
variable {ts : List Ten} {m : Int} {k : Nat}
end
def Ff (N:Net) (m:Int):Net:=⟨N.k,N.p,N.n,Aj N.ts m,xj N.os (m+totT N.ts)⟩
attribute [go_sem] Ff
end Go.Proofs.YtneocijmbnhblaaGreat
