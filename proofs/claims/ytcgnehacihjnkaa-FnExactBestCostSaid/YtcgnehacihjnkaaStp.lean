/-
  Contracts: steps of orders, as flat lists of ints; plain orders. No condition.
-/
import Derived.Test.YtcgnehacihjnkaaMgBestCostA
import Derived.Test.YtcgnehacihjnkaaNetC
import Derived.Test.YtcgnehacihjnkaaNetM
namespace Go.Proofs.Ytcgnehacihjnkaa
open Go.RowKit Go.Lift Plain
set_option linter.unusedSimpArgs false
set_option linter.unusedVariables false
set_option maxRecDepth 100000

structure StpSz (m n : Nat) (F : List Int) : Prop where
  l : F.length = n * 2
  n : n ≤ m
  wf : ∀ x ∈ F, I64 x
theorem StpSz.up {m m' n : Nat} {F : List Int} (h : StpSz m n F) (hm : m ≤ m') : StpSz m' n F := ⟨h.l, Nat.le_trans h.n hm, h.wf⟩
def stp (n : Nat) (F : List Int) : D := .sl n (dv F)
attribute [go_sem] stp
section
variable {F : List Int} {n k : Nat}
end
/-! ### Plain orders -/
end Go.Proofs.Ytcgnehacihjnkaa
