/-
 Contracts: lists of labels, buckets, eliminations. No condition.
-/
import Derived.Test.YtobhmajhachnaaaGreatDoorMgJobsA
import Derived.Test.YtobhmajhachnaaaGreatDoorCoB
import Derived.Test.YtobhmajhachnaaaGreatDoorNetC
import Derived.Test.YtobhmajhachnaaaGreatDoorLiftI
set_option linter.unusedSimpArgs false
set_option linter.unusedVariables false
namespace Go.Proofs.YtobhmajhachnaaaGreatDoor
open Go.RowKit Go.Lift Plain
set_option maxRecDepth 100000
def ldv(L:List (List Int)):List D:=L.map ints
def lists(L:List (List Int)):D:=.sl L.length (ldv L)
section
variable {L M : List (List Int)} {l : List Int} {k : Nat}
theorem x6(k e:Nat)(ls:List D)(xs:List Int):mapL (fzG k e ls) (iv xs)=iv xs:=by
 rw[dh,iv,List.map_map];exact List.map_congr_left fun x _=>rfl
end
attribute [go_sem] lists x6
theorem DV{xs:List Int}(h:xs.length≤1099511627776):Does Tryz.prog 36 [.d (ints xs)] [] (.d (ints xs)) []:=(cj h).fzI
end Go.Proofs.YtobhmajhachnaaaGreatDoor
