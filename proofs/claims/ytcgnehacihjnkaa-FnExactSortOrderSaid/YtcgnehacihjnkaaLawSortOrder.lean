/-
  The law of SortOrder: it returns true. No condition.
-/
import Derived.Test.YtcgnehacihjnkaaMgSortOrderA
import Derived.Test.YtcgnehacihjnkaaOrdG
import Derived.Test.YtcgnehacihjnkaaNetM
import Derived.Test.YtcgnehacihjnkaaOpenP
namespace Go.Proofs.Ytcgnehacihjnkaa
open Go.RowKit Go.Lift Plain
set_option linter.unusedSimpArgs false
set_option linter.unusedVariables false
set_option maxRecDepth 100000

set_option maxHeartbeats 1600000 in
theorem lawSortOrder_d {N : Net} {n_F : Nat} {F : List Int} (z_N : NSz 9223372036854775807 N) (z_F : StpSz 9223372036854775807 n_F F) :
    Does Try.prog 11 [netA N, .d (stp n_F F)] [] (.d (.bool true)) [] := by
  (refine spec_of (by kernel_rfl) Try.func11 k_laws_FnExactSortOrder (fnOk (Nat.le_of_ble_eq_true rfl) ?_); unfold C_laws_FnExactSortOrder)
  (simp only [Nat.reduceSub, List.length_cons, List.length_nil, Nat.reduceAdd, ch_init1, ch_init2, ch_init3, ch_init4, ch_init5, ch_init6, ch_init7, ch_init8]; try simp only [ch_rep]); (simp only [go_sem, seval, reduceCtorEq, List.replicate])
  (refine ti_call (szNetwork_d (N := N) (left := 1048576) z_N (by omega)) ?_ ?_ ?_; (focus (simp only [go_sem, seval, reduceCtorEq]; done)); (first | rfl | (focus (simp only [go_sem]; done))))
  simp only [go_sem, seval, reduceCtorEq]
  by_cases b1 : szNet N 1048576 < 0
  · simp only [go_sem, seval, reduceCtorEq, b1]
    (refine FnEnd.mk (Nat.le_of_ble_eq_true rfl) rfl (of_decide_eq_true rfl) ?_ ?_ <;> try simp only [go_sem, seval, reduceCtorEq])
  simp only [go_sem, seval, reduceCtorEq, b1]
  obtain ⟨h_N, q1, e1⟩ := szNet_go z_N (by omega) b1
  (refine ti_call (szStepS_d (n := n_F) (F := F) (left := szNet N 1048576) (by have := z_F.n; omega) (by omega)) ?_ ?_ ?_; (focus (simp only [go_sem, seval, reduceCtorEq]; done)); (first | rfl | (focus (simp only [go_sem]; done))))
  simp only [go_sem, seval, reduceCtorEq]
  by_cases b2 : szStp n_F (szNet N 1048576) < 0
  · simp only [go_sem, seval, reduceCtorEq, b2]
    (refine FnEnd.mk (Nat.le_of_ble_eq_true rfl) rfl (of_decide_eq_true rfl) ?_ ?_ <;> try simp only [go_sem, seval, reduceCtorEq])
  simp only [go_sem, seval, reduceCtorEq, b2]
  have q2 : (n_F : Int) ≤ szNet N 1048576 ∧ szStp n_F (szNet N 1048576) = szNet N 1048576 - n_F := by have hb := b2; unfold szStp at hb ⊢; split at hb <;> (first | (exfalso; omega) | (rename_i hc; rw [if_neg hc]; omega))
  have h_F : StpSz 1048576 n_F F := ⟨z_F.l, by omega, z_F.wf⟩
  have r0 : StpSz 1048576 (sortN N n_F F) (sortF N n_F F) := sortF_sz
  have r0n := r0.n
  have r0l := r0.l
  (refine ti_call (toNetwork_d (N := N) h_N) ?_ ?_ ?_; (focus (simp only [go_sem, seval, reduceCtorEq]; done)); (first | rfl | (focus (simp only [go_sem]; done))))
  simp only [go_sem, seval, reduceCtorEq]
  (refine ti_call (toStepS_d (n := n_F) (F := F) h_F) ?_ ?_ ?_; (focus (simp only [go_sem, seval, reduceCtorEq]; done)); (first | rfl | (focus (simp only [go_sem]; done))))
  simp only [go_sem, seval, reduceCtorEq]
  (refine ti_call (sSortOrder_d h_N h_F) ?_ ?_ ?_; (focus (simp only [go_sem, seval, reduceCtorEq, stp_all h_F]; done)); (first | rfl | (focus (simp only [go_sem]; done))))
  simp only [go_sem, seval, reduceCtorEq]
  (refine ti_call (toNetwork_d (N := N) h_N) ?_ ?_ ?_; (focus (simp only [go_sem, seval, reduceCtorEq]; done)); (first | rfl | (focus (simp only [go_sem]; done))))
  simp only [go_sem, seval, reduceCtorEq]
  (refine ti_call (toStepS_d (n := n_F) (F := F) h_F) ?_ ?_ ?_; (focus (simp only [go_sem, seval, reduceCtorEq]; done)); (first | rfl | (focus (simp only [go_sem]; done))))
  simp only [go_sem, seval, reduceCtorEq]
  (refine ti_call (iSortOrder_d h_N h_F) ?_ ?_ ?_; (focus (simp only [go_sem, seval, reduceCtorEq, stp_all h_F]; done)); (first | rfl | (focus (simp only [go_sem]; done))))
  simp only [go_sem, seval, reduceCtorEq]
  (refine ti_call (eqStepS_d (n := sortN N n_F F) (F := sortF N n_F F) r0) ?_ ?_ ?_; (focus (simp only [go_sem, seval, reduceCtorEq, stp_all r0]; done)); (first | rfl | (focus (simp only [go_sem]; done))))
  simp only [go_sem, seval, reduceCtorEq]
  (refine gi_call (toNetwork_d (N := N) h_N) ?_ ?_ ?_; (focus (simp only [go_sem, seval, reduceCtorEq]; done)); (first | rfl | (focus (simp only [go_sem]; done))))
  simp only [go_sem, seval, reduceCtorEq]
  (refine ti_call (eqNetwork_d (N := N) h_N) ?_ ?_ ?_; (focus (simp only [go_sem, seval, reduceCtorEq]; done)); (first | rfl | (focus (simp only [go_sem]; done))))
  simp only [go_sem, seval, reduceCtorEq]
  (refine ti_call (toStepS_d (n := n_F) (F := F) h_F) ?_ ?_ ?_; (focus (simp only [go_sem, seval, reduceCtorEq]; done)); (first | rfl | (focus (simp only [go_sem]; done))))
  simp only [go_sem, seval, reduceCtorEq]
  (refine ti_call (eqStepS_d (n := n_F) (F := F) h_F) ?_ ?_ ?_; (focus (simp only [go_sem, seval, reduceCtorEq, stp_all h_F]; done)); (first | rfl | (focus (simp only [go_sem]; done))))
  simp only [go_sem, seval, reduceCtorEq]
  (refine ti_callcg [5, 6] [] false (of_decide_eq_true rfl) ?_ _ ?_ (markNetwork_d (N := N) (m := 1) h_N (by omega)) ?_ ?_; (focus (simp only [go_sem, seval, reduceCtorEq]; done)); (focus (simp only [go_sem, seval, reduceCtorEq]; done)); (focus (first | rfl | (simp only [go_sem, seval, reduceCtorEq]; done))))
  have n3 : ¬ ((1 + totT (N).ts + (N).os.length : Int) < 0) := by omega
  simp only [go_sem, seval, reduceCtorEq, heldR_mark, eqTb_self, n3]
  (refine ti_callw [8] false (markStepS_d (n := n_F) (F := F) (m := 1 + totT (N).ts + (N).os.length) h_F (by omega)) (of_decide_eq_true rfl) ?_ ?_ ?_ ?_ (of_decide_eq_true rfl) ?_; (focus (simp only [go_sem, seval, reduceCtorEq, markL_len]; done)); (focus (simp only [go_sem, seval, reduceCtorEq]; done)); (focus (simp only [go_sem, seval, reduceCtorEq, markL_len]; done)); (focus (simp only [go_sem, seval, reduceCtorEq]; done)))
  have n4 : ¬ ((1 + totT (N).ts + (N).os.length + (F).length : Int) < 0) := by omega
  simp only [go_sem, seval, reduceCtorEq, heldR_mark, eqTb_self, n4]
  (refine ti_call (eqStepS_d (n := sortN N n_F F) (F := sortF N n_F F) r0) ?_ ?_ ?_; (focus (simp only [go_sem, seval, reduceCtorEq, stp_all r0]; done)); (first | rfl | (focus (simp only [go_sem]; done))))
  simp only [go_sem, seval, reduceCtorEq]
  (refine ti_callw [9] false (markStepS_d (n := sortN N n_F F) (F := sortF N n_F F) (m := 1) r0 (by omega)) (of_decide_eq_true rfl) ?_ ?_ ?_ ?_ (of_decide_eq_true rfl) ?_; (focus (simp only [go_sem, seval, reduceCtorEq, markL_len]; done)); (focus (simp only [go_sem, seval, reduceCtorEq]; done)); (focus (simp only [go_sem, seval, reduceCtorEq, markL_len]; done)); (focus (simp only [go_sem, seval, reduceCtorEq]; done)))
  have n5 : ¬ ((1 + (sortF N n_F F).length : Int) < 0) := by omega
  simp only [go_sem, seval, reduceCtorEq, heldR_mark, eqTb_self, n5]
  (refine ti_call (heldStepS_d (n := sortN N n_F F) (F := sortF N n_F F) (m := 1) r0 (by omega)) ?_ ?_ ?_; (focus (simp only [go_sem, seval, reduceCtorEq, stp_allM r0]; done)); (first | rfl | (focus (simp only [go_sem]; done))))
  have n6 : ¬ ((1 + (sortF N n_F F).length : Int) < 0) := by omega
  simp only [go_sem, seval, reduceCtorEq, heldR_mark, eqTb_self, n6]
  (refine ti_call (toNetwork_d (N := N) h_N) ?_ ?_ ?_; (focus (simp only [go_sem, seval, reduceCtorEq]; done)); (first | rfl | (focus (simp only [go_sem]; done))))
  simp only [go_sem, seval, reduceCtorEq]
  (refine ti_call (toStepS_d (n := n_F) (F := F) h_F) ?_ ?_ ?_; (focus (simp only [go_sem, seval, reduceCtorEq]; done)); (first | rfl | (focus (simp only [go_sem]; done))))
  simp only [go_sem, seval, reduceCtorEq]
  (refine ti_call (iSortOrder_d h_N h_F) ?_ ?_ ?_; (focus (simp only [go_sem, seval, reduceCtorEq, stp_all h_F]; done)); (first | rfl | (focus (simp only [go_sem]; done))))
  simp only [go_sem, seval, reduceCtorEq]
  (refine ti_call (eqStepS_d (n := sortN N n_F F) (F := sortF N n_F F) r0) ?_ ?_ ?_; (focus (simp only [go_sem, seval, reduceCtorEq, stp_all r0]; done)); (first | rfl | (focus (simp only [go_sem]; done))))
  simp only [go_sem, seval, reduceCtorEq]
  (refine ti_call (heldStepS_d (n := sortN N n_F F) (F := sortF N n_F F) (m := 1) r0 (by omega)) ?_ ?_ ?_; (focus (simp only [go_sem, seval, reduceCtorEq, stp_allM r0]; done)); (first | rfl | (focus (simp only [go_sem]; done))))
  have n7 : ¬ ((1 + (sortF N n_F F).length : Int) < 0) := by omega
  simp only [go_sem, seval, reduceCtorEq, heldR_mark, eqTb_self, n7]
  (refine FnEnd.mk (Nat.le_of_ble_eq_true rfl) rfl (of_decide_eq_true rfl) ?_ ?_ <;> try simp only [go_sem, seval, reduceCtorEq])
theorem law_SortOrder (W : World) {v0 : Value} {N : Net} {v1 : Value} {n_F : Nat} {F : List Int} (w0 : NetIn W v0 N) (w1 : StpIn W v1 n_F F) :
    Calls Try.prog 11 #[v0, v1] W (RetV W (.bool true)) := by
  refine Does.calls (lawSortOrder_d w0.sz w1.sz) W [_, _] ?_
  simp only [RelL]
  exact ⟨_, _, rfl, w0.rel, _, _, rfl, w1.rel, rfl⟩
end Go.Proofs.Ytcgnehacihjnkaa
