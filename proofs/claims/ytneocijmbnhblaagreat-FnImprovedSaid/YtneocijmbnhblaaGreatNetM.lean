/-
 Contracts: networks that are marked. No condition.
-/
import Derived.Test.YtneocijmbnhblaaGreatMgImprovedA
import Derived.Test.YtneocijmbnhblaaGreatNetB
import Derived.Test.YtneocijmbnhblaaGreatArrA
set_option linter.unusedSimpArgs false
set_option linter.unusedVariables false
namespace Go.Proofs.YtneocijmbnhblaaGreat
open Go.RowKit Go.Lift Plain
set_option maxRecDepth 100000
def BV:List Ten→Int→List Ten
 | [],_=>[]
 | t :: l,m=>EQ t m :: BV l (m+lenT t)
section
variable {ts : List Ten} {m : Int} {k : Nat}
end
def GY (N:Net) (m:Int):Net:=⟨N.k,N.p,N.n,BV N.ts m,yw N.os (m+totT N.ts)⟩
attribute [go_sem] GY
end Go.Proofs.YtneocijmbnhblaaGreat
