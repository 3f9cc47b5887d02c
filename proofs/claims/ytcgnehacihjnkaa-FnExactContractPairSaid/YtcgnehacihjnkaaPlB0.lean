/-
  Plain lists: labels without some, without doubles. No condition.
-/
import Derived.Test.YtcgnehacihjnkaaPlA
import Derived.Test.YtcgnehacihjnkaaCoS
namespace Go.Proofs.Ytcgnehacihjnkaa
open Go.RowKit Go.Lift Plain
set_option linter.unusedSimpArgs false
set_option linter.unusedVariables false

/-- The labels of a list without those of another. -/
def wol (ls L : List Int) : List Int := ls.filter fun x => !has L x
theorem fits_of {r : Rg} {xs : List Int} (h : ∀ x ∈ xs, 0 ≤ x ∧ x ≤ top r) : fits r xs := fun k hk => h _ (mem_of_get xs k hk)
theorem fits_mem {r : Rg} {xs : List Int} (h : fits r xs) : ∀ x ∈ xs, 0 ≤ x ∧ x ≤ top r := fun x hx => by
  obtain ⟨k, hk, rfl⟩ := List.getElem_of_mem hx
  have := h k hk
  rwa [getD_of hk] at this
set_option maxRecDepth 100000
end Go.Proofs.Ytcgnehacihjnkaa
