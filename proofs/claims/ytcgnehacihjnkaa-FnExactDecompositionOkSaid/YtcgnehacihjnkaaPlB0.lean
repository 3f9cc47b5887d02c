/-
  Plain lists: labels without some, without doubles. No condition.
-/
import Derived.Test.YtcgnehacihjnkaaPlA
import Derived.Test.YtcgnehacihjnkaaCoS
namespace Go.Proofs.Ytcgnehacihjnkaa
open Go.RowKit Go.Lift Plain
set_option linter.unusedSimpArgs false
set_option linter.unusedVariables false

set_option maxRecDepth 100000
theorem l01In_d (x a b : Int) : Does Try.prog 62 [.d (.int x), .d (.int a), .d (.int b)] [] (.d (.bool (decide (a ≤ x ∧ x ≤ b)))) [] := by
  (refine spec_of (by kernel_rfl) Try.func62 k_spec_l01In (fnOk (Nat.le_of_ble_eq_true rfl) ?_); unfold C_spec_l01In)
  (simp only [Nat.reduceSub, List.length_cons, List.length_nil, Nat.reduceAdd, ch_init1, ch_init2, ch_init3, ch_init4, ch_init5, ch_init6, ch_init7, ch_init8]; try simp only [ch_rep]); (simp only [go_sem, seval, reduceCtorEq, List.replicate])
  by_cases h1 : a ≤ x <;> by_cases h2 : x ≤ b
  all_goals
    try simp (disch := omega) only [go_sem, seval, reduceCtorEq, h1, h2, and_self, and_false, false_and, and_true, true_and]
    try (refine FnEnd.mk (Nat.le_of_ble_eq_true rfl) rfl (of_decide_eq_true rfl) ?_ ?_ <;> try simp only [go_sem, seval, reduceCtorEq])
end Go.Proofs.Ytcgnehacihjnkaa
