/-
  Contracts: labels fused. No condition.
-/
import Derived.Test.YtmggkcifakbfeaaMgStackTensorsA
import Derived.Test.YtmggkcifakbfeaaConM
import Derived.Test.YtmggkcifakbfeaaPlB
namespace Go.Proofs.Ytmggkcifakbfeaa
open Go.RowKit Go.Lift Plain
set_option linter.unusedSimpArgs false
set_option linter.unusedVariables false
set_option maxRecDepth 100000

def fuL (t : Ten) (L : List Int) (x : Int) : List Int := wol t.labels L ++ [x]
def fuD (t : Ten) (L : List Int) : List Int := permD t (wol t.labels L) ++ [prodI (permD t L)]
structure FuOk (r : Rg) (t : Ten) (L : List Int) (x : Int) (wd n : Nat) : Prop where
  w : width r = wd
  p : PermOk t (wol t.labels L ++ L) wd n
  ok : ∀ x, tensorOk r (fuL t L x) (fuD t L) (permR wd t (wol t.labels L ++ L)).data = decide (tsize (fuL t L x) (fuD t L) ≠ -1)
  pl : prodI (permD t L) ≤ 4096 ∧ 1 ≤ prodI (permD t L)
  dl : ∀ d ∈ permD t L, 1 ≤ d ∧ d ≤ 8
  len : (wol t.labels L).length ≤ 12 ∧ L.length ≤ 12
  dle : ((permR wd t (wol t.labels L ++ L)).data.length) ≤ 24576
end Go.Proofs.Ytmggkcifakbfeaa
