/-
  The law of PartsOf: it returns true. No condition.
-/
import Derived.Test.YtjoopfojiiklnaaMgPartsOfA
import Derived.Test.YtjoopfojiiklnaaPrtA
import Derived.Test.YtjoopfojiiklnaaNetM
import Derived.Test.YtjoopfojiiklnaaOpenN
namespace Go.Proofs.Ytjoopfojiiklnaa
open Go.RowKit Go.Lift Plain
set_option linter.unusedSimpArgs false
set_option linter.unusedVariables false
set_option maxRecDepth 100000

set_option maxHeartbeats 1600000 in
theorem lawPartsOf_d {N : Net} (z_N : NSz 9223372036854775807 N) :
    Does Try.prog 12 [netA N] [] (.d (.bool true)) [] := by
  (refine spec_of (by kernel_rfl) Try.func12 k_laws_FnExactPartsOf (fnOk (Nat.le_of_ble_eq_true rfl) ?_); unfold C_laws_FnExactPartsOf)
  (simp only [Nat.reduceSub, List.length_cons, List.length_nil, Nat.reduceAdd, ch_init1, ch_init2, ch_init3, ch_init4, ch_init5, ch_init6, ch_init7, ch_init8]; try simp only [ch_rep]); (simp only [go_sem, seval, reduceCtorEq, List.replicate])
  (refine ti_call (szNetwork_d (N := N) (left := 1048576) z_N (by omega)) ?_ ?_ ?_; (focus (simp only [go_sem, seval, reduceCtorEq]; done)); (first | rfl | (focus (simp only [go_sem]; done))))
  simp only [go_sem, seval, reduceCtorEq]
  by_cases b1 : szNet N 1048576 < 0
  · simp only [go_sem, seval, reduceCtorEq, b1]
    (refine FnEnd.mk (Nat.le_of_ble_eq_true rfl) rfl (of_decide_eq_true rfl) ?_ ?_ <;> try simp only [go_sem, seval, reduceCtorEq])
  simp only [go_sem, seval, reduceCtorEq, b1]
  obtain ⟨h_N, q1, e1⟩ := szNet_go z_N (by omega) b1
  have r0 : LSz 1048576 (partsL N) := parts_sz.1
  have r0t := (parts_sz (N := N)).2
  have r0l := r0.l
  (refine ti_call (toNetwork_d (N := N) h_N) ?_ ?_ ?_; (focus (simp only [go_sem, seval, reduceCtorEq]; done)); (first | rfl | (focus (simp only [go_sem]; done))))
  simp only [go_sem, seval, reduceCtorEq]
  (refine ti_call (sPartsOf_d h_N) ?_ ?_ ?_; (focus (simp only [go_sem, seval, reduceCtorEq]; done)); (first | rfl | (focus (simp only [go_sem]; done))))
  simp only [go_sem, seval, reduceCtorEq]
  (refine ti_call (toNetwork_d (N := N) h_N) ?_ ?_ ?_; (focus (simp only [go_sem, seval, reduceCtorEq]; done)); (first | rfl | (focus (simp only [go_sem]; done))))
  simp only [go_sem, seval, reduceCtorEq]
  (refine ti_call (iPartsOf_d h_N) ?_ ?_ ?_; (focus (simp only [go_sem, seval, reduceCtorEq]; done)); (first | rfl | (focus (simp only [go_sem]; done))))
  simp only [go_sem, seval, reduceCtorEq]
  (refine ti_call (eqIntSS_l (L := partsL N) r0) ?_ ?_ ?_; (focus (simp only [go_sem, seval, reduceCtorEq]; done)); (first | rfl | (focus (simp only [go_sem]; done))))
  simp only [go_sem, seval, reduceCtorEq]
  (refine gi_call (toNetwork_d (N := N) h_N) ?_ ?_ ?_; (focus (simp only [go_sem, seval, reduceCtorEq]; done)); (first | rfl | (focus (simp only [go_sem]; done))))
  simp only [go_sem, seval, reduceCtorEq]
  (refine ti_call (eqNetwork_d (N := N) h_N) ?_ ?_ ?_; (focus (simp only [go_sem, seval, reduceCtorEq]; done)); (first | rfl | (focus (simp only [go_sem]; done))))
  simp only [go_sem, seval, reduceCtorEq]
  (refine ti_callcg [4, 5] [] false (of_decide_eq_true rfl) ?_ _ ?_ (markNetwork_d (N := N) (m := 1) h_N (by omega)) ?_ ?_; (focus (simp only [go_sem, seval, reduceCtorEq]; done)); (focus (simp only [go_sem, seval, reduceCtorEq]; done)); (focus (first | rfl | (simp only [go_sem, seval, reduceCtorEq]; done))))
  have n2 : ¬ ((1 + totT (N).ts + (N).os.length : Int) < 0) := by omega
  simp only [go_sem, seval, reduceCtorEq, heldR_mark, eqTb_self, n2]
  (refine ti_call (eqIntSS_l (L := partsL N) r0) ?_ ?_ ?_; (focus (simp only [go_sem, seval, reduceCtorEq]; done)); (first | rfl | (focus (simp only [go_sem]; done))))
  simp only [go_sem, seval, reduceCtorEq]
  (refine ti_callcg [7] [] false (of_decide_eq_true rfl) ?_ _ ?_ (markIntSS_d (L := partsL N) (m := 1) r0 (by omega)) ?_ ?_; (focus (simp only [go_sem, seval, reduceCtorEq]; done)); (focus (simp only [go_sem, seval, reduceCtorEq]; done)); (focus (first | rfl | (simp only [go_sem, seval, reduceCtorEq]; done))))
  have n3 : ¬ ((1 + totL (partsL N) : Int) < 0) := by omega
  simp only [go_sem, seval, reduceCtorEq, heldR_mark, eqTb_self, n3]
  (refine ti_call (heldIntSS_d (L := partsL N) (m := 1) r0 (by omega)) ?_ ?_ ?_; (focus (simp only [go_sem, seval, reduceCtorEq]; done)); (first | rfl | (focus (simp only [go_sem]; done))))
  have n4 : ¬ ((1 + totL (partsL N) : Int) < 0) := by omega
  simp only [go_sem, seval, reduceCtorEq, heldR_mark, eqTb_self, n4]
  (refine ti_call (toNetwork_d (N := N) h_N) ?_ ?_ ?_; (focus (simp only [go_sem, seval, reduceCtorEq]; done)); (first | rfl | (focus (simp only [go_sem]; done))))
  simp only [go_sem, seval, reduceCtorEq]
  (refine ti_call (iPartsOf_d h_N) ?_ ?_ ?_; (focus (simp only [go_sem, seval, reduceCtorEq]; done)); (first | rfl | (focus (simp only [go_sem]; done))))
  simp only [go_sem, seval, reduceCtorEq]
  (refine ti_call (eqIntSS_l (L := partsL N) r0) ?_ ?_ ?_; (focus (simp only [go_sem, seval, reduceCtorEq]; done)); (first | rfl | (focus (simp only [go_sem]; done))))
  simp only [go_sem, seval, reduceCtorEq]
  (refine ti_call (heldIntSS_d (L := partsL N) (m := 1) r0 (by omega)) ?_ ?_ ?_; (focus (simp only [go_sem, seval, reduceCtorEq]; done)); (first | rfl | (focus (simp only [go_sem]; done))))
  have n5 : ¬ ((1 + totL (partsL N) : Int) < 0) := by omega
  simp only [go_sem, seval, reduceCtorEq, heldR_mark, eqTb_self, n5]
  (refine FnEnd.mk (Nat.le_of_ble_eq_true rfl) rfl (of_decide_eq_true rfl) ?_ ?_ <;> try simp only [go_sem, seval, reduceCtorEq])
theorem law_PartsOf (W : World) {v0 : Value} {N : Net} (w0 : NetIn W v0 N) :
    Calls Try.prog 12 #[v0] W (RetV W (.bool true)) := by
  refine Does.calls (lawPartsOf_d w0.sz) W [_] ?_
  simp only [RelL]
  exact ⟨_, _, rfl, w0.rel, rfl⟩
end Go.Proofs.Ytjoopfojiiklnaa
