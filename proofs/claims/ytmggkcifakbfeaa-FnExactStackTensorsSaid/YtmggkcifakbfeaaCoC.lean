/-
  Contracts: products of elements, scaled tensors. No condition.
-/
import Derived.Test.YtmggkcifakbfeaaCoB
import Derived.Test.YtmggkcifakbfeaaPlA
namespace Go.Proofs.Ytmggkcifakbfeaa
open Go.RowKit Go.Lift Plain
set_option linter.unusedSimpArgs false
set_option linter.unusedVariables false
set_option maxRecDepth 100000

end Go.Proofs.Ytmggkcifakbfeaa

/-
  Contracts: scaled tensors. No condition.
-/
namespace Go.Proofs.Ytmggkcifakbfeaa
open Go.RowKit Go.Lift Plain
set_option linter.unusedSimpArgs false
set_option linter.unusedVariables false
set_option maxRecDepth 100000

theorem fits_cut {r : Rg} {xs : List Int} (h : fits r xs) (a b : Nat) : fits r ((xs.drop a).take b) := by
  intro k hk
  have hk' : k < b ∧ k < xs.length - a := by simpa [Nat.lt_min] using hk
  have := h (a + k) (by omega)
  rw [getD_of hk]
  simp only [List.getElem_take, List.getElem_drop]
  rwa [getD_of (by omega)] at this
theorem mul_step {i n wd : Nat} (h : i < n) : i * wd + wd ≤ n * wd := by
  have : (i + 1) * wd ≤ n * wd := Nat.mul_le_mul_right wd h
  rw [Nat.add_mul, Nat.one_mul] at this
  exact this
theorem ten_facts {r : Rg} {t : Ten} (h : tensorOk r t.labels t.dims t.data = true) : ∃ wd n : Nat, width r = wd ∧ prodI t.dims = n ∧ 1 ≤ wd ∧ wd ≤ 6 ∧ 1 ≤ n ∧ n ≤ 4096 ∧ t.data.length = n * wd ∧ fits r t.data ∧ ringOk r = true ∧ axOk t.labels t.dims := by
  obtain ⟨f1, f2, f3, f4, f5, f6⟩ := tensorOk_facts h
  have hw := width_bd f1
  refine ⟨(width r).toNat, (prodI t.dims).toNat, by omega, by omega, by omega, by omega, by omega, by omega, ?_, ?_, f1, f2⟩
  · have : (t.data.length : Int) = ((prodI t.dims).toNat * (width r).toNat : Nat) := by
      rw [f6]; push_cast; rw [Int.toNat_of_nonneg (by omega), Int.toNat_of_nonneg (by omega)]
    omega
  · simp only [tensorOk, Bool.and_eq_true, fitsB, decide_eq_true_eq] at h
    exact h.2
end Go.Proofs.Ytmggkcifakbfeaa
