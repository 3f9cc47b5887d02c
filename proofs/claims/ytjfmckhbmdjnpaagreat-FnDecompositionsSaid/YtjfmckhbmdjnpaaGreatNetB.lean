/-
 Contracts: what the laws' own helpers do with networks. No condition.
-/
import Derived.Test.YtjfmckhbmdjnpaaGreatMgDecompositionsA
import Derived.Test.YtjfmckhbmdjnpaaGreatNetA
import Derived.Test.YtjfmckhbmdjnpaaGreatCoB
set_option linter.unusedSimpArgs false
set_option linter.unusedVariables false
namespace Go.Proofs.YtjfmckhbmdjnpaaGreat
open Go.RowKit Go.Lift Plain
set_option maxRecDepth 100000
structure NSz (m:Nat) (N:Net):Prop where
 k:I64 N.k
 p:I64 N.p
 n:I64 N.n
 l:N.ts.length≤m
 t:∀ t∈N.ts,TSz m t
 o:Sz m N.os
def lenT (t:Ten):Nat:=t.labels.length+t.dims.length+t.data.length
def totT:List Ten→Nat
 | []=>0
 | t :: l=>lenT t+totT l
section
variable {ts : List Ten} {k : Nat}
theorem zP (n:Nat) (z:List AV):Go.Lift.bA (n+1) z=z++Go.Lift.bA n z:=by simp [Go.Lift.bA,List.replicate_succ]
end
theorem x6 (xs:List Int):treL (iv xs)=some (dv xs):=by
 induction xs with
 | nil=>rfl
 | cons x l ih=>simp only[iv,dv,List.map_cons,treL,treD]at ih ⊢;rw[ih]
end Go.Proofs.YtjfmckhbmdjnpaaGreat
namespace Go.Proofs.YtjfmckhbmdjnpaaGreat
open Go.RowKit Go.Lift Go.ChangeShapes Go.WideShapes Plain
set_option maxRecDepth 100000
structure NetIn (w:World) (v:Value) (N:Net):Prop where
 rel:Rel w (topL w) id (at_ []) (netA N) v
 sz:NSz 9223372036854775807 N
section
variable {H : Type} {enc : TypeId × Value → H} {w : World} {base : Nat} {held : Bool} {r : Reach}
end
end Go.Proofs.YtjfmckhbmdjnpaaGreat
