/-
  The law of OrderPeak: it returns true. No condition.
-/
import Derived.Test.YtjncdanegoileaaMgOrderPeakA
import Derived.Test.YtjncdanegoileaaOrdE
import Derived.Test.YtjncdanegoileaaNetM
import Derived.Test.YtjncdanegoileaaOpenP
namespace Go.Proofs.Ytjncdanegoileaa
open Go.RowKit Go.Lift Plain
set_option linter.unusedSimpArgs false
set_option linter.unusedVariables false
set_option maxRecDepth 100000

set_option maxHeartbeats 1600000 in
theorem lawOrderPeak_d {N : Net} {n_F : Nat} {F : List Int} (z_N : NSz 9223372036854775807 N) (z_F : StpSz 9223372036854775807 n_F F) :
    Does Try.prog 6 [netA N, .d (stp n_F F)] [] (.d (.bool true)) [] := by
  (refine spec_of (by kernel_rfl) Try.func6 k_laws_FnExactOrderPeak (fnOk (Nat.le_of_ble_eq_true rfl) ?_); unfold C_laws_FnExactOrderPeak)
  (simp only [Nat.reduceSub, List.length_cons, List.length_nil, Nat.reduceAdd, ch_init1, ch_init2, ch_init3, ch_init4, ch_init5, ch_init6, ch_init7, ch_init8]; try simp only [ch_rep]); (simp only [go_sem, seval, reduceCtorEq, List.replicate])
  (refine ti_call (szNetwork_d (N := N) (left := 1048576) z_N (by omega)) ?_ ?_ ?_; (focus (simp only [go_sem, seval, reduceCtorEq]; done)); (first | rfl | (focus (simp only [go_sem]; done))))
  simp only [go_sem, seval, reduceCtorEq]
  by_cases b1 : szNet N 1048576 < 0
  · simp only [go_sem, seval, reduceCtorEq, b1]
    (refine FnEnd.mk (Nat.le_of_ble_eq_true rfl) rfl (of_decide_eq_true rfl) ?_ ?_ <;> try simp only [go_sem, seval, reduceCtorEq])
  simp only [go_sem, seval, reduceCtorEq, b1]
  obtain ⟨h_N, q1, e1⟩ := szNet_go z_N (by omega) b1
  (refine ti_call (szStepS_d (n := n_F) (F := F) (left := szNet N 1048576) (by have := z_F.n; omega) (by omega)) ?_ ?_ ?_; (focus (simp only [go_sem, seval, reduceCtorEq]; done)); (first | rfl | (focus (simp only [go_sem]; done))))
  simp only [go_sem, seval, reduceCtorEq]
  by_cases b2 : szStp n_F (szNet N 1048576) < 0
  · simp only [go_sem, seval, reduceCtorEq, b2]
    (refine FnEnd.mk (Nat.le_of_ble_eq_true rfl) rfl (of_decide_eq_true rfl) ?_ ?_ <;> try simp only [go_sem, seval, reduceCtorEq])
  simp only [go_sem, seval, reduceCtorEq, b2]
  have q2 : (n_F : Int) ≤ szNet N 1048576 ∧ szStp n_F (szNet N 1048576) = szNet N 1048576 - n_F := by have hb := b2; unfold szStp at hb ⊢; split at hb <;> (first | (exfalso; omega) | (rename_i hc; rw [if_neg hc]; omega))
  have h_F : StpSz 1048576 n_F F := ⟨z_F.l, by omega, z_F.wf⟩
  (refine ti_call (toNetwork_d (N := N) h_N) ?_ ?_ ?_; (focus (simp only [go_sem, seval, reduceCtorEq]; done)); (first | rfl | (focus (simp only [go_sem]; done))))
  simp only [go_sem, seval, reduceCtorEq]
  (refine ti_call (toStepS_d (n := n_F) (F := F) h_F) ?_ ?_ ?_; (focus (simp only [go_sem, seval, reduceCtorEq]; done)); (first | rfl | (focus (simp only [go_sem]; done))))
  simp only [go_sem, seval, reduceCtorEq]
  (refine ti_call (sOrderPeak_d h_N h_F) ?_ ?_ ?_; (focus (simp only [go_sem, seval, reduceCtorEq, stp_all h_F]; done)); (first | rfl | (focus (simp only [go_sem]; done))))
  simp only [go_sem, seval, reduceCtorEq]
  (refine ti_call (toNetwork_d (N := N) h_N) ?_ ?_ ?_; (focus (simp only [go_sem, seval, reduceCtorEq]; done)); (first | rfl | (focus (simp only [go_sem]; done))))
  simp only [go_sem, seval, reduceCtorEq]
  (refine ti_call (toStepS_d (n := n_F) (F := F) h_F) ?_ ?_ ?_; (focus (simp only [go_sem, seval, reduceCtorEq]; done)); (first | rfl | (focus (simp only [go_sem]; done))))
  simp only [go_sem, seval, reduceCtorEq]
  (refine ti_call (iOrderPeak_d h_N h_F) ?_ ?_ ?_; (focus (simp only [go_sem, seval, reduceCtorEq, stp_all h_F]; done)); (first | rfl | (focus (simp only [go_sem]; done))))
  simp only [go_sem, seval, reduceCtorEq]
  (refine gi_call (toNetwork_d (N := N) h_N) ?_ ?_ ?_; (focus (simp only [go_sem, seval, reduceCtorEq]; done)); (first | rfl | (focus (simp only [go_sem]; done))))
  simp only [go_sem, seval, reduceCtorEq]
  (refine ti_call (eqNetwork_d (N := N) h_N) ?_ ?_ ?_; (focus (simp only [go_sem, seval, reduceCtorEq]; done)); (first | rfl | (focus (simp only [go_sem]; done))))
  simp only [go_sem, seval, reduceCtorEq]
  (refine ti_call (toStepS_d (n := n_F) (F := F) h_F) ?_ ?_ ?_; (focus (simp only [go_sem, seval, reduceCtorEq]; done)); (first | rfl | (focus (simp only [go_sem]; done))))
  simp only [go_sem, seval, reduceCtorEq]
  (refine ti_call (eqStepS_d (n := n_F) (F := F) h_F) ?_ ?_ ?_; (focus (simp only [go_sem, seval, reduceCtorEq, stp_all h_F]; done)); (first | rfl | (focus (simp only [go_sem]; done))))
  simp only [go_sem, seval, reduceCtorEq]
  (refine FnEnd.mk (Nat.le_of_ble_eq_true rfl) rfl (of_decide_eq_true rfl) ?_ ?_ <;> try simp only [go_sem, seval, reduceCtorEq])
theorem law_OrderPeak (W : World) {v0 : Value} {N : Net} {v1 : Value} {n_F : Nat} {F : List Int} (w0 : NetIn W v0 N) (w1 : StpIn W v1 n_F F) :
    Calls Try.prog 6 #[v0, v1] W (RetV W (.bool true)) := by
  refine Does.calls (lawOrderPeak_d w0.sz w1.sz) W [_, _] ?_
  simp only [RelL]
  exact ⟨_, _, rfl, w0.rel, _, _, rfl, w1.rel, rfl⟩
end Go.Proofs.Ytjncdanegoileaa
