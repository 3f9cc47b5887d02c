/-
  Contracts: joined labels and axes, the size of a join. No condition.
-/
import Derived.Test.YtlijfhfhonalgaaCoA
import Derived.Test.YtlijfhfhonalgaaLiftG
namespace Go.Proofs.Ytlijfhfhonalgaa
open Go.RowKit Go.Lift Plain
set_option linter.unusedSimpArgs false
set_option linter.unusedVariables false
set_option maxRecDepth 100000

theorem l05Ints_d {xs : List Int} (h : xs.length ≤ 1099511627776) : Does Try.prog 40 [.d (ints xs)] [] (.own 0 0 xs.length) [some ⟨1, true, iv xs⟩] := by
  (refine spec_of (by kernel_rfl) Try.func40 k_spec_l05Ints (fnOk (Nat.le_of_ble_eq_true rfl) ?_); unfold C_spec_l05Ints)
  (simp only [Nat.reduceSub, List.length_cons, List.length_nil, Nat.reduceAdd, ch_init1, ch_init2, ch_init3, ch_init4, ch_init5, ch_init6, ch_init7, ch_init8]; try simp only [ch_rep]); (simp only [go_sem, seval, reduceCtorEq, List.replicate])
  refine ⟨by omega, ?_⟩
  (refine FnEnd.mk (Nat.le_of_ble_eq_true rfl) rfl (of_decide_eq_true rfl) ?_ ?_ <;> try simp only [go_sem, seval, reduceCtorEq])
end Go.Proofs.Ytlijfhfhonalgaa

/-
  Contracts: copies of tensors, marks that are held, relabelling. No condition.
-/
namespace Go.Proofs.Ytlijfhfhonalgaa
open Go.RowKit Go.Lift Plain
set_option linter.unusedSimpArgs false
set_option linter.unusedVariables false
set_option maxRecDepth 100000

theorem copyTensor_d {t : Ten} (h : TSz 1048576 t) : Does Try.prog 88 [tenA t] [] (ownT 0 t) (stoT t) := by
  (refine spec_of (by kernel_rfl) Try.func88 k_impl_copyTensor (fnOk (Nat.le_of_ble_eq_true rfl) ?_); unfold C_impl_copyTensor)
  (simp only [Nat.reduceSub, List.length_cons, List.length_nil, Nat.reduceAdd, ch_init1, ch_init2, ch_init3, ch_init4, ch_init5, ch_init6, ch_init7, ch_init8]; try simp only [ch_rep]); (simp only [go_sem, seval, reduceCtorEq, List.replicate])
  (refine gi_call (copyInts_d (xs := t.labels) h.l.up.len) ?_ ?_ ?_; (focus (simp only [go_sem, seval, reduceCtorEq]; done)); (first | rfl | (focus (simp only [go_sem]; done))))
  simp only [go_sem, seval, reduceCtorEq]
  (refine gi_call (copyInts_d (xs := t.dims) h.d.up.len) ?_ ?_ ?_; (focus (simp only [go_sem, seval, reduceCtorEq]; done)); (first | rfl | (focus (simp only [go_sem]; done))))
  simp only [go_sem, seval, reduceCtorEq]
  (refine ti_call (copyInts_d (xs := t.data) h.x.up.len) ?_ ?_ ?_; (focus (simp only [go_sem, seval, reduceCtorEq]; done)); (first | rfl | (focus (simp only [go_sem]; done))))
  simp only [go_sem, seval, reduceCtorEq]
  (refine FnEnd.mk (Nat.le_of_ble_eq_true rfl) rfl (of_decide_eq_true rfl) ?_ ?_ <;> try simp only [go_sem, seval, reduceCtorEq])
theorem l05Copy_d {t : Ten} (h : TSz 1048576 t) : Does Try.prog 84 [tenA t] [] (ownT 0 t) (stoT t) := by
  (refine spec_of (by kernel_rfl) Try.func84 k_spec_l05Copy (fnOk (Nat.le_of_ble_eq_true rfl) ?_); unfold C_spec_l05Copy)
  (simp only [Nat.reduceSub, List.length_cons, List.length_nil, Nat.reduceAdd, ch_init1, ch_init2, ch_init3, ch_init4, ch_init5, ch_init6, ch_init7, ch_init8]; try simp only [ch_rep]); (simp only [go_sem, seval, reduceCtorEq, List.replicate])
  (refine gi_call (l05Ints_d (xs := t.labels) h.l.up.len) ?_ ?_ ?_; (focus (simp only [go_sem, seval, reduceCtorEq]; done)); (first | rfl | (focus (simp only [go_sem]; done))))
  simp only [go_sem, seval, reduceCtorEq]
  (refine gi_call (l05Ints_d (xs := t.dims) h.d.up.len) ?_ ?_ ?_; (focus (simp only [go_sem, seval, reduceCtorEq]; done)); (first | rfl | (focus (simp only [go_sem]; done))))
  simp only [go_sem, seval, reduceCtorEq]
  (refine ti_call (l05Ints_d (xs := t.data) h.x.up.len) ?_ ?_ ?_; (focus (simp only [go_sem, seval, reduceCtorEq]; done)); (first | rfl | (focus (simp only [go_sem]; done))))
  simp only [go_sem, seval, reduceCtorEq]
  (refine FnEnd.mk (Nat.le_of_ble_eq_true rfl) rfl (of_decide_eq_true rfl) ?_ ?_ <;> try simp only [go_sem, seval, reduceCtorEq])
/-! ### Relabelling -/
def relL (fs ts ls : List Int) : List Int := ls.map fun l => ren1 l fs ts
theorem relL_len (fs ts ls : List Int) : (relL fs ts ls).length = ls.length := by simp [relL]
theorem iv_nil : iv [] = [] := rfl
attribute [go_sem] iv_nil
theorem relL_take (fs ts ls : List Int) : (relL fs ts ls).take ls.length = relL fs ts ls := List.take_of_length_le (by rw [relL_len]; exact Nat.le_refl _)
attribute [local go_sem] relL_len relL_take
end Go.Proofs.Ytlijfhfhonalgaa

/-
  Contracts: elements of a tensor that are written. No condition.
-/
namespace Go.Proofs.Ytlijfhfhonalgaa
open Go.RowKit Go.Lift Plain
set_option linter.unusedSimpArgs false
set_option linter.unusedVariables false
set_option maxRecDepth 100000

/-! ### An element set -/
end Go.Proofs.Ytlijfhfhonalgaa
