/-
 Contracts: steps of orders, as flat lists of ints; plain orders. No condition.
-/
import Derived.Test.YtobhmajhachnaaaGreatDoorMgJobsA
import Derived.Test.YtobhmajhachnaaaGreatDoorNetC
import Derived.Test.YtobhmajhachnaaaGreatDoorNetM
set_option linter.unusedSimpArgs false
set_option linter.unusedVariables false
namespace Go.Proofs.YtobhmajhachnaaaGreatDoor
open Go.RowKit Go.Lift Plain
set_option maxRecDepth 100000
structure StpSz(m n:Nat)(F:List Int):Prop where
 l:F.length=n*2
 n:n≤m
 wf:∀x∈F,I64 x
theorem JB{m n:Nat}{F:List Int}(h:StpSz m n F):F.take (n*2)=F:=zt (by rw[h.l];exact Nat.le_refl _)
def stp(n:Nat)(F:List Int):D:=.sl n (dv F)
attribute [go_sem] stp
section
variable {F : List Int} {n k : Nat}
theorem F4(h:k*2+2≤F.length):(F.drop (k*2)).take 2=[F[k*2]'(by omega),F[k*2+1]'(by omega)]:=by
 rw[List.drop_eq_getElem_cons (i:=k*2) (by omega),List.drop_eq_getElem_cons (i:=k*2+1) (by omega)]
 rfl
theorem Ic{A:List Int}(a b:Int):iv A++[.d (.int a),.d (.int b)]=iv (A++[a,b]):=by simp [iv]
theorem DJ(a b:Int):dv [a,b]=[.int a,.int b]:=rfl
end
end Go.Proofs.YtobhmajhachnaaaGreatDoor
