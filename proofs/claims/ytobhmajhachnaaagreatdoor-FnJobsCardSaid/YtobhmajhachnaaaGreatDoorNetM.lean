/-
 Contracts: networks that are marked. No condition.
-/
import Derived.Test.YtobhmajhachnaaaGreatDoorMgJobsA
import Derived.Test.YtobhmajhachnaaaGreatDoorNetB
import Derived.Test.YtobhmajhachnaaaGreatDoorArrA
set_option linter.unusedSimpArgs false
set_option linter.unusedVariables false
namespace Go.Proofs.YtobhmajhachnaaaGreatDoor
open Go.RowKit Go.Lift Plain
set_option maxRecDepth 100000
def HQ:List Ten→Int→List Ten
 | [],_=>[]
 |t :: l,m=>Lg t m :: HQ l (m+lenT t)
section
variable {ts : List Ten} {m : Int} {k : Nat}
end
def Ns(N:Net)(m:Int):Net:=⟨N.k,N.p,N.n,HQ N.ts m,Eu N.os (m+totT N.ts)⟩
attribute [go_sem] Ns
end Go.Proofs.YtobhmajhachnaaaGreatDoor
