/-
  Contracts: what the contraction of two tensors calls. No condition.
-/
import Derived.Test.YtcgnehacihjnkaaMgBestCostA
import Derived.Test.YtcgnehacihjnkaaTenB
import Derived.Test.YtcgnehacihjnkaaConR
namespace Go.Proofs.Ytcgnehacihjnkaa
open Go.RowKit Go.Lift Plain
set_option linter.unusedSimpArgs false
set_option linter.unusedVariables false
set_option maxRecDepth 100000

/-! ### Labels that are kept -/
/-! ### Tensors of one value -/
/-! ### Strides, by the reference -/
theorem map_set {L : List Int} {f : Int → Int} {k : Nat} {v : Int} (hn : L.Nodup) (hk : k < L.length) : (L.map f).set k v = L.map fun x => if x = L[k] then v else f x := by
  refine List.ext_getElem (by simp) fun i h1 h2 => ?_
  have hi : i < L.length := by simpa using h2
  rw [List.getElem_set, List.getElem_map, List.getElem_map]
  by_cases e : k = i
  · subst e; simp
  · rw [if_neg e, if_neg (fun e2 => e (nodup_at hn hk hi e2.symm))]
end Go.Proofs.Ytcgnehacihjnkaa
