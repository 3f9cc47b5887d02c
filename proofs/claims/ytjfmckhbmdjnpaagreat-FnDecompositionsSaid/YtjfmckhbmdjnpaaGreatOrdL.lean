/-
 The state of an order as cells: the table of dimensions, the open labels, the tensors that are there, the next number. No condition.
-/
import Derived.Test.YtjfmckhbmdjnpaaGreatPlO
import Derived.Test.YtjfmckhbmdjnpaaGreatEliA
import Derived.Test.YtjfmckhbmdjnpaaGreatCoD
set_option linter.unusedSimpArgs false
set_option linter.unusedVariables false
namespace Go.Proofs.YtjfmckhbmdjnpaaGreat
open Go.RowKit Go.Lift Plain
section
variable {T : List Int} {x y z : AV} {a b c : D}
end
section
variable {f g : Nat → List Int} {l m : List Nat} {k : Nat}
theorem zL:∀ L:List D,cY (L.map .d)=some L
 | []=>rfl
 | x :: l=>by simp only[List.map_cons,cY,qM,zL l]
end
theorem Ew (g:AV→AV) (l m:List AV):mapL g (l++m)=mapL g l++mapL g m:=by rw[dz,dz,dz,List.map_append]
attribute [go_sem] Ew
set_option maxRecDepth 100000
end Go.Proofs.YtjfmckhbmdjnpaaGreat
