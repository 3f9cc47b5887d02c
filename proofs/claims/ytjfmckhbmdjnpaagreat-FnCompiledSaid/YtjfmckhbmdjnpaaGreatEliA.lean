/-
 Contracts: lists of labels, buckets, eliminations. No condition.
-/
import Derived.Test.YtjfmckhbmdjnpaaGreatMgCompiledA
import Derived.Test.YtjfmckhbmdjnpaaGreatCoB
import Derived.Test.YtjfmckhbmdjnpaaGreatNetC
import Derived.Test.YtjfmckhbmdjnpaaGreatLiftI
set_option linter.unusedSimpArgs false
set_option linter.unusedVariables false
namespace Go.Proofs.YtjfmckhbmdjnpaaGreat
open Go.RowKit Go.Lift Plain
set_option maxRecDepth 100000
def ldv (L:List (List Int)):List D:=L.map ints
def lists (L:List (List Int)):D:=.sl L.length (ldv L)
section
variable {L M : List (List Int)} {l : List Int} {k : Nat}
theorem vQ (k e:Nat) (ls:List D) (xs:List Int):mapL (fzG k e ls) (iv xs)=iv xs:=by
 rw[dt,iv,List.map_map]
 exact List.map_congr_left fun x _=>rfl
end
attribute [go_sem] lists vQ
theorem r5 {xs:List Int} (h:xs.length≤1099511627776):Does Tryz.prog 72 [.d (ints xs)] [] (.d (ints xs)) []:=(fW h).fzI
theorem iy {a b:List Int} (ha:a.length≤1048576) (hb:b.length≤1048576):Does Tryz.prog 86 [.d (ints a),.d (ints b)] [] (.d (ints (ao a b))) []:=(iz ha hb).fzI
end Go.Proofs.YtjfmckhbmdjnpaaGreat
