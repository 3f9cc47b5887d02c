/-
 Contracts: lists of labels, buckets, eliminations. No condition.
-/
import Derived.Test.YtneocijmbnhblaaGreatMgImprovedA
import Derived.Test.YtneocijmbnhblaaGreatCoB
import Derived.Test.YtneocijmbnhblaaGreatNetC
import Derived.Test.YtneocijmbnhblaaGreatLiftI
set_option linter.unusedSimpArgs false
set_option linter.unusedVariables false
namespace Go.Proofs.YtneocijmbnhblaaGreat
open Go.RowKit Go.Lift Plain
set_option maxRecDepth 100000
def ldv (L:List (List Int)):List D:=L.map ints
def lists (L:List (List Int)):D:=.sl L.length (ldv L)
section
variable {L M : List (List Int)} {l : List Int} {k : Nat}
theorem qB (k e:Nat) (ls:List D) (xs:List Int):mapL (fzG k e ls) (iv xs)=iv xs:=by
 rw[dB,iv,List.map_map]
 exact List.map_congr_left fun x _=>rfl
end
attribute [go_sem] lists qB
theorem xO {xs:List Int} (h:xs.length≤1099511627776):Does Tryz.prog 72 [.d (ints xs)] [] (.d (ints xs)) []:=(cX h).fzI
end Go.Proofs.YtneocijmbnhblaaGreat
