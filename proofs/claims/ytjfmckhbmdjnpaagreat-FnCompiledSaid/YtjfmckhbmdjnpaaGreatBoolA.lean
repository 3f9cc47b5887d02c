/-
 Lists and arrays of Bools as cells; arrays of marked labels. No condition.
-/
import Derived.Test.YtjfmckhbmdjnpaaGreatArrA
set_option linter.unusedSimpArgs false
set_option linter.unusedVariables false
namespace Go.Proofs.YtjfmckhbmdjnpaaGreat
open Go.RowKit Go.Lift Plain
def bv (xs:List Bool):List AV:=xs.map fun x=>.d (.bool x)
section
variable {xs ys : List Bool}
theorem EX (n:Nat) (x:Bool):Go.Lift.bO n [.d (.bool x)]=bv (List.replicate n x):=by
 unfold Go.Lift.bO bv
 induction n with
 | zero=>rfl
 | succ n ih=>rw[List.replicate_succ,List.flatten_cons,ih,List.replicate_succ];rfl
end
attribute [go_sem] EX
def bits (n:Nat) (f:Nat→Bool):List Bool:=(List.range n).map f
end Go.Proofs.YtjfmckhbmdjnpaaGreat
