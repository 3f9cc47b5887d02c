/-
  Contracts: products of elements, scaled tensors. No condition.
-/
import Derived.Test.YtjncdanegoileaaCoB
import Derived.Test.YtjncdanegoileaaPlA
namespace Go.Proofs.Ytjncdanegoileaa
open Go.RowKit Go.Lift Plain
set_option linter.unusedSimpArgs false
set_option linter.unusedVariables false
set_option maxRecDepth 100000

end Go.Proofs.Ytjncdanegoileaa

/-
  Contracts: scaled tensors. No condition.
-/
namespace Go.Proofs.Ytjncdanegoileaa
open Go.RowKit Go.Lift Plain
set_option linter.unusedSimpArgs false
set_option linter.unusedVariables false
set_option maxRecDepth 100000

theorem fits_cut {r : Rg} {xs : List Int} (h : fits r xs) (a b : Nat) : fits r ((xs.drop a).take b) := by
  intro k hk
  have hk' : k < b ∧ k < xs.length - a := by simpa [Nat.lt_min] using hk
  have := h (a + k) (by omega)
  rw [getD_of hk]
  simp only [List.getElem_take, List.getElem_drop]
  rwa [getD_of (by omega)] at this
theorem mul_step {i n wd : Nat} (h : i < n) : i * wd + wd ≤ n * wd := by
  have : (i + 1) * wd ≤ n * wd := Nat.mul_le_mul_right wd h
  rw [Nat.add_mul, Nat.one_mul] at this
  exact this
end Go.Proofs.Ytjncdanegoileaa
