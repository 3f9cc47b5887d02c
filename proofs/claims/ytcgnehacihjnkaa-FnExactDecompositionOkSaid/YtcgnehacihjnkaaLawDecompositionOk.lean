/-
  The law of DecompositionOk: it returns true. No condition.
-/
import Derived.Test.YtcgnehacihjnkaaMgDecompositionOkA
import Derived.Test.YtcgnehacihjnkaaDecC
import Derived.Test.YtcgnehacihjnkaaNetM
import Derived.Test.YtcgnehacihjnkaaOpenD
namespace Go.Proofs.Ytcgnehacihjnkaa
open Go.RowKit Go.Lift Plain
set_option linter.unusedSimpArgs false
set_option linter.unusedVariables false
set_option maxRecDepth 100000

set_option maxHeartbeats 1600000 in
theorem lawDecompositionOk_d {N : Net} {b_D : List (List Int)} {p_D : List Int} (z_N : NSz 9223372036854775807 N) (z_D : DSz 9223372036854775807 b_D p_D) :
    Does Try.prog 8 [netA N, decA b_D p_D] [] (.d (.bool true)) [] := by
  (refine spec_of (by kernel_rfl) Try.func8 k_laws_FnExactDecompositionOk (fnOk (Nat.le_of_ble_eq_true rfl) ?_); unfold C_laws_FnExactDecompositionOk)
  (simp only [Nat.reduceSub, List.length_cons, List.length_nil, Nat.reduceAdd, ch_init1, ch_init2, ch_init3, ch_init4, ch_init5, ch_init6, ch_init7, ch_init8]; try simp only [ch_rep]); (simp only [go_sem, seval, reduceCtorEq, List.replicate])
  (refine ti_call (szNetwork_d (N := N) (left := 1048576) z_N (by omega)) ?_ ?_ ?_; (focus (simp only [go_sem, seval, reduceCtorEq]; done)); (first | rfl | (focus (simp only [go_sem]; done))))
  simp only [go_sem, seval, reduceCtorEq]
  by_cases b1 : szNet N 1048576 < 0
  · simp only [go_sem, seval, reduceCtorEq, b1]
    (refine FnEnd.mk (Nat.le_of_ble_eq_true rfl) rfl (of_decide_eq_true rfl) ?_ ?_ <;> try simp only [go_sem, seval, reduceCtorEq])
  simp only [go_sem, seval, reduceCtorEq, b1]
  obtain ⟨h_N, q1, e1⟩ := szNet_go z_N (by omega) b1
  (refine ti_call (szDecomposition_d (L := b_D) (P := p_D) (left := szNet N 1048576) z_D (by omega)) ?_ ?_ ?_; (focus (simp only [go_sem, seval, reduceCtorEq]; done)); (first | rfl | (focus (simp only [go_sem]; done))))
  simp only [go_sem, seval, reduceCtorEq]
  by_cases b2 : szDec b_D p_D (szNet N 1048576) < 0
  · simp only [go_sem, seval, reduceCtorEq, b2]
    (refine FnEnd.mk (Nat.le_of_ble_eq_true rfl) rfl (of_decide_eq_true rfl) ?_ ?_ <;> try simp only [go_sem, seval, reduceCtorEq])
  simp only [go_sem, seval, reduceCtorEq, b2]
  obtain ⟨h_D, e2⟩ := szDec_go z_D (by omega) b2
  (refine gi_call (toNetwork_d (N := N) h_N) ?_ ?_ ?_; (focus (simp only [go_sem, seval, reduceCtorEq]; done)); (first | rfl | (focus (simp only [go_sem]; done))))
  simp only [go_sem, seval, reduceCtorEq]
  (refine ti_call (toDecomposition_d h_D) ?_ ?_ ?_; (focus (simp only [go_sem, seval, reduceCtorEq]; done)); (first | rfl | (focus (simp only [go_sem]; done))))
  simp only [go_sem, seval, reduceCtorEq]
  (refine ti_call (sDecompositionOk_d h_N h_D) ?_ ?_ ?_; (focus (simp only [go_sem, seval, reduceCtorEq]; done)); (first | rfl | (focus (simp only [go_sem]; done))))
  simp only [go_sem, seval, reduceCtorEq]
  (refine ti_call (toNetwork_d (N := N) h_N) ?_ ?_ ?_; (focus (simp only [go_sem, seval, reduceCtorEq]; done)); (first | rfl | (focus (simp only [go_sem]; done))))
  simp only [go_sem, seval, reduceCtorEq]
  (refine ti_call (toDecomposition_d h_D) ?_ ?_ ?_; (focus (simp only [go_sem, seval, reduceCtorEq]; done)); (first | rfl | (focus (simp only [go_sem]; done))))
  simp only [go_sem, seval, reduceCtorEq]
  (refine ti_call (iDecompositionOk_d h_N h_D) ?_ ?_ ?_; (focus (simp only [go_sem, seval, reduceCtorEq]; done)); (first | rfl | (focus (simp only [go_sem]; done))))
  simp only [go_sem, seval, reduceCtorEq]
  (refine gi_call (toNetwork_d (N := N) h_N) ?_ ?_ ?_; (focus (simp only [go_sem, seval, reduceCtorEq]; done)); (first | rfl | (focus (simp only [go_sem]; done))))
  simp only [go_sem, seval, reduceCtorEq]
  (refine ti_call (eqNetwork_d (N := N) h_N) ?_ ?_ ?_; (focus (simp only [go_sem, seval, reduceCtorEq]; done)); (first | rfl | (focus (simp only [go_sem]; done))))
  simp only [go_sem, seval, reduceCtorEq]
  (refine gi_call (toDecomposition_d h_D) ?_ ?_ ?_; (focus (simp only [go_sem, seval, reduceCtorEq]; done)); (first | rfl | (focus (simp only [go_sem]; done))))
  simp only [go_sem, seval, reduceCtorEq]
  (refine ti_call (eqDecomposition_d h_D) ?_ ?_ ?_; (focus (simp only [go_sem, seval, reduceCtorEq]; done)); (first | rfl | (focus (simp only [go_sem]; done))))
  simp only [go_sem, seval, reduceCtorEq]
  (refine FnEnd.mk (Nat.le_of_ble_eq_true rfl) rfl (of_decide_eq_true rfl) ?_ ?_ <;> try simp only [go_sem, seval, reduceCtorEq])
theorem law_DecompositionOk (W : World) {v0 : Value} {N : Net} {v1 : Value} {b_D : List (List Int)} {p_D : List Int} (w0 : NetIn W v0 N) (w1 : DecIn W v1 b_D p_D) :
    Calls Try.prog 8 #[v0, v1] W (RetV W (.bool true)) := by
  refine Does.calls (lawDecompositionOk_d w0.sz w1.sz) W [_, _] ?_
  simp only [RelL]
  exact ⟨_, _, rfl, w0.rel, _, _, rfl, w1.rel, rfl⟩
end Go.Proofs.Ytcgnehacihjnkaa
