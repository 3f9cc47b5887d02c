/-
  Contracts: joined labels and axes, the size of a join. No condition.
-/
import Derived.Test.YtmggkcifakbfeaaCoA
import Derived.Test.YtmggkcifakbfeaaLiftG
namespace Go.Proofs.Ytmggkcifakbfeaa
open Go.RowKit Go.Lift Plain
set_option linter.unusedSimpArgs false
set_option linter.unusedVariables false
set_option maxRecDepth 100000

theorem l05Ints_d {xs : List Int} (h : xs.length ≤ 1099511627776) : Does Try.prog 18 [.d (ints xs)] [] (.own 0 0 xs.length) [some ⟨1, true, iv xs⟩] := by
  (refine spec_of (by kernel_rfl) Try.func18 k_spec_l05Ints (fnOk (Nat.le_of_ble_eq_true rfl) ?_); unfold C_spec_l05Ints)
  (simp only [Nat.reduceSub, List.length_cons, List.length_nil, Nat.reduceAdd, ch_init1, ch_init2, ch_init3, ch_init4, ch_init5, ch_init6, ch_init7, ch_init8]; try simp only [ch_rep]); (simp only [go_sem, seval, reduceCtorEq, List.replicate])
  refine ⟨by omega, ?_⟩
  (refine FnEnd.mk (Nat.le_of_ble_eq_true rfl) rfl (of_decide_eq_true rfl) ?_ ?_ <;> try simp only [go_sem, seval, reduceCtorEq])
end Go.Proofs.Ytmggkcifakbfeaa

/-
  Contracts: copies of tensors, marks that are held, relabelling. No condition.
-/
namespace Go.Proofs.Ytmggkcifakbfeaa
open Go.RowKit Go.Lift Plain
set_option linter.unusedSimpArgs false
set_option linter.unusedVariables false
set_option maxRecDepth 100000

theorem heldTensor_d {t : Ten} {m : Int} (h : TSz 1048576 t) (h0 : 0 ≤ m ∧ m ≤ 1073741824) : Does Try.prog 13 [tenA (markT t m), .d (.int m)] [] (.d (.int (m + t.labels.length + t.dims.length + t.data.length))) [] := by
  have h1 := h.l.len
  have h2 := h.d.len
  have h3 := h.x.len
  (refine spec_of (by kernel_rfl) Try.func13 k_laws_heldTensor (fnOk (Nat.le_of_ble_eq_true rfl) ?_); unfold C_laws_heldTensor)
  (simp only [Nat.reduceSub, List.length_cons, List.length_nil, Nat.reduceAdd, ch_init1, ch_init2, ch_init3, ch_init4, ch_init5, ch_init6, ch_init7, ch_init8]; try simp only [ch_rep]); (simp only [go_sem, seval, reduceCtorEq, List.replicate])
  have e1 : (markL t.labels m).length = t.labels.length := markL_len _ _
  (refine ti_call (heldIntS_d (xs := markL t.labels m) (m := m) (by rw [markL_len]; omega) (by omega)) ?_ ?_ ?_; (focus (simp only [go_sem, seval, reduceCtorEq]; done)); (first | rfl | (focus (simp only [go_sem]; done))))
  have n1 : ¬ m + (t.labels.length : Int) < 0 := by omega
  simp only [go_sem, seval, reduceCtorEq, heldR_mark, n1]
  (refine ti_call (heldIntS_d (xs := markL t.dims (m + t.labels.length)) (m := m + t.labels.length) (by rw [markL_len]; omega) (by omega)) ?_ ?_ ?_; (focus (simp only [go_sem, seval, reduceCtorEq]; done)); (first | rfl | (focus (simp only [go_sem]; done))))
  have n2 : ¬ m + (t.labels.length : Int) + t.dims.length < 0 := by omega
  simp only [go_sem, seval, reduceCtorEq, heldR_mark, n2]
  (refine ti_call (heldIntS_d (xs := markL t.data (m + t.labels.length + t.dims.length)) (m := m + t.labels.length + t.dims.length) (by rw [markL_len]; omega) (by omega)) ?_ ?_ ?_; (focus (simp only [go_sem, seval, reduceCtorEq]; done)); (first | rfl | (focus (simp only [go_sem]; done))))
  have n3 : ¬ m + (t.labels.length : Int) + t.dims.length + t.data.length < 0 := by omega
  simp only [go_sem, seval, reduceCtorEq, heldR_mark, n3]
  (refine FnEnd.mk (Nat.le_of_ble_eq_true rfl) rfl (of_decide_eq_true rfl) ?_ ?_ <;> try simp only [go_sem, seval, reduceCtorEq])

/-! ### Relabelling -/
def relL (fs ts ls : List Int) : List Int := ls.map fun l => ren1 l fs ts
theorem relL_len (fs ts ls : List Int) : (relL fs ts ls).length = ls.length := by simp [relL]
theorem iv_nil : iv [] = [] := rfl
attribute [go_sem] iv_nil
theorem relL_take (fs ts ls : List Int) : (relL fs ts ls).take ls.length = relL fs ts ls := List.take_of_length_le (by rw [relL_len]; exact Nat.le_refl _)
attribute [local go_sem] relL_len relL_take
theorem tsize_neg {ls ds : List Int} : tsize ls ds < 0 ↔ tsize ls ds = -1 := by
  rcases tsize_cases ls ds with h | ⟨_, _, h, h'⟩ <;> omega
end Go.Proofs.Ytmggkcifakbfeaa

/-
  Contracts: elements of a tensor that are written. No condition.
-/
namespace Go.Proofs.Ytmggkcifakbfeaa
open Go.RowKit Go.Lift Plain
set_option linter.unusedSimpArgs false
set_option linter.unusedVariables false
set_option maxRecDepth 100000

/-! ### An element set -/
end Go.Proofs.Ytmggkcifakbfeaa
