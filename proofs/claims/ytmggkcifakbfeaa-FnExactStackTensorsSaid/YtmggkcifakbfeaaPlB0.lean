/-
  Plain lists: labels without some, without doubles. No condition.
-/
import Derived.Test.YtmggkcifakbfeaaPlA
import Derived.Test.YtmggkcifakbfeaaCoS
namespace Go.Proofs.Ytmggkcifakbfeaa
open Go.RowKit Go.Lift Plain
set_option linter.unusedSimpArgs false
set_option linter.unusedVariables false

def wol (ls L : List Int) : List Int := ls.filter fun x => !has L x
theorem fits_of {r : Rg} {xs : List Int} (h : ∀ x ∈ xs, 0 ≤ x ∧ x ≤ top r) : fits r xs := fun k hk => h _ (mem_of_get xs k hk)
theorem fits_mem {r : Rg} {xs : List Int} (h : fits r xs) : ∀ x ∈ xs, 0 ≤ x ∧ x ≤ top r := fun x hx => by
  obtain ⟨k, hk, rfl⟩ := List.getElem_of_mem hx
  have := h k hk
  rwa [getD_of hk] at this
set_option maxRecDepth 100000
theorem l01In_d (x a b : Int) : Does Try.prog 16 [.d (.int x), .d (.int a), .d (.int b)] [] (.d (.bool (decide (a ≤ x ∧ x ≤ b)))) [] := by
  (refine spec_of (by kernel_rfl) Try.func16 k_spec_l01In (fnOk (Nat.le_of_ble_eq_true rfl) ?_); unfold C_spec_l01In)
  (simp only [Nat.reduceSub, List.length_cons, List.length_nil, Nat.reduceAdd, ch_init1, ch_init2, ch_init3, ch_init4, ch_init5, ch_init6, ch_init7, ch_init8]; try simp only [ch_rep]); (simp only [go_sem, seval, reduceCtorEq, List.replicate])
  by_cases h1 : a ≤ x <;> by_cases h2 : x ≤ b
  all_goals
    try simp (disch := omega) only [go_sem, seval, reduceCtorEq, h1, h2, and_self, and_false, false_and, and_true, true_and]
    try (refine FnEnd.mk (Nat.le_of_ble_eq_true rfl) rfl (of_decide_eq_true rfl) ?_ ?_ <;> try simp only [go_sem, seval, reduceCtorEq])
end Go.Proofs.Ytmggkcifakbfeaa
