/-
  The law of StackTensors: it returns true. No condition.
-/
import Derived.Test.YtmggkcifakbfeaaMgStackTensorsA
import Derived.Test.YtmggkcifakbfeaaStkC
import Derived.Test.YtmggkcifakbfeaaNetM
import Derived.Test.YtmggkcifakbfeaaOpenL
namespace Go.Proofs.Ytmggkcifakbfeaa
open Go.RowKit Go.Lift Plain
set_option linter.unusedSimpArgs false
set_option linter.unusedVariables false
set_option maxRecDepth 100000

set_option maxHeartbeats 1600000 in
theorem lawStackTensors_d {kr pr nr : Int} {ts : List Ten} {x : Int} (z_kr : I64 kr) (z_pr : I64 pr) (z_nr : I64 nr) (z_ts : TsSz 9223372036854775807 ts) (z_x : I64 x) :
    Does Try.prog 3 [ringA kr pr nr, .d (tens ts), .d (.int x)] [] (.d (.bool true)) [] := by
  (refine spec_of (by kernel_rfl) Try.func3 k_laws_FnExactStackTensors (fnOk (Nat.le_of_ble_eq_true rfl) ?_); unfold C_laws_FnExactStackTensors)
  (simp only [Nat.reduceSub, List.length_cons, List.length_nil, Nat.reduceAdd, ch_init1, ch_init2, ch_init3, ch_init4, ch_init5, ch_init6, ch_init7, ch_init8]; try simp only [ch_rep]); (simp only [go_sem, seval, reduceCtorEq, List.replicate])
  (refine ti_call (szTensorS_d (ts := ts) (left := 1048576) z_ts.l z_ts.t (by omega)) ?_ ?_ ?_; (focus (simp only [go_sem, seval, reduceCtorEq]; done)); (first | rfl | (focus (simp only [go_sem]; done))))
  simp only [go_sem, seval, reduceCtorEq]
  by_cases b1 : szTs ts 1048576 < 0
  · simp only [go_sem, seval, reduceCtorEq, b1]
    (refine FnEnd.mk (Nat.le_of_ble_eq_true rfl) rfl (of_decide_eq_true rfl) ?_ ?_ <;> try simp only [go_sem, seval, reduceCtorEq])
  simp only [go_sem, seval, reduceCtorEq, b1]
  obtain ⟨h_ts, q1, e1⟩ := szTs_go z_ts (by omega) b1
  have r0 : TSz 1048576 (stackT ⟨kr, pr, nr⟩ ts x) := stackT_sz h_ts.t z_x
  have r0l := r0.l.len
  have r0d := r0.d.len
  have r0x := r0.x.len
  (refine ti_call (toRing_d kr pr nr) ?_ ?_ ?_; (focus (simp only [go_sem, seval, reduceCtorEq]; done)); (first | rfl | (focus (simp only [go_sem]; done))))
  simp only [go_sem, seval, reduceCtorEq]
  (refine ti_call (toTensorS_d (ts := ts) h_ts.l h_ts.t) ?_ ?_ ?_; (focus (simp only [go_sem, seval, reduceCtorEq]; done)); (first | rfl | (focus (simp only [go_sem]; done))))
  simp only [go_sem, seval, reduceCtorEq]
  (refine ti_call (sStackTensors_d (kk := kr) (pp := pr) (nn := nr) (ts := ts) (x := x) z_kr z_pr z_nr h_ts.l h_ts.t z_x) ?_ ?_ ?_; (focus (simp only [go_sem, seval, reduceCtorEq]; done)); (first | rfl | (focus (simp only [go_sem]; done))))
  simp only [go_sem, seval, reduceCtorEq]
  (refine ti_call (toTensorS_d (ts := ts) h_ts.l h_ts.t) ?_ ?_ ?_; (focus (simp only [go_sem, seval, reduceCtorEq]; done)); (first | rfl | (focus (simp only [go_sem]; done))))
  simp only [go_sem, seval, reduceCtorEq]
  (refine ti_call (toRing_d kr pr nr) ?_ ?_ ?_; (focus (simp only [go_sem, seval, reduceCtorEq]; done)); (first | rfl | (focus (simp only [go_sem]; done))))
  simp only [go_sem, seval, reduceCtorEq]
  (refine ti_call (iStackTensors_d (kk := kr) (pp := pr) (nn := nr) (ts := ts) (x := x) z_kr z_pr z_nr h_ts.l h_ts.t z_x) ?_ ?_ ?_; (focus (simp only [go_sem, seval, reduceCtorEq]; done)); (first | rfl | (focus (simp only [go_sem]; done))))
  simp only [go_sem, seval, reduceCtorEq]
  (refine ti_call (eqTensor_d (t := stackT ⟨kr, pr, nr⟩ ts x) (u := stackT ⟨kr, pr, nr⟩ ts x) r0.up) ?_ ?_ ?_; (focus (simp only [go_sem, seval, reduceCtorEq]; done)); (first | rfl | (focus (simp only [go_sem]; done))))
  simp only [go_sem, seval, reduceCtorEq, eqTb_self]
  (refine ti_call (toTensorS_d (ts := ts) h_ts.l h_ts.t) ?_ ?_ ?_; (focus (simp only [go_sem, seval, reduceCtorEq]; done)); (first | rfl | (focus (simp only [go_sem]; done))))
  simp only [go_sem, seval, reduceCtorEq]
  (refine ti_call (eqTensorS_d (ts := ts) h_ts.l h_ts.t) ?_ ?_ ?_; (focus (simp only [go_sem, seval, reduceCtorEq]; done)); (first | rfl | (focus (simp only [go_sem]; done))))
  simp only [go_sem, seval, reduceCtorEq]
  (refine ti_callcg [6] [] false (of_decide_eq_true rfl) ?_ _ ?_ (markTensorS_d (ts := ts) (m := 1) h_ts.l h_ts.t (by omega)) ?_ ?_; (focus (simp only [go_sem, seval, reduceCtorEq]; done)); (focus (simp only [go_sem, seval, reduceCtorEq]; done)); (focus (first | rfl | (simp only [go_sem, seval, reduceCtorEq]; done))))
  have n2 : ¬ ((1 + totT (ts) : Int) < 0) := by omega
  simp only [go_sem, seval, reduceCtorEq, heldR_mark, eqTb_self, n2]
  (refine ti_call (eqTensor_d (t := stackT ⟨kr, pr, nr⟩ ts x) (u := stackT ⟨kr, pr, nr⟩ ts x) r0.up) ?_ ?_ ?_; (focus (simp only [go_sem, seval, reduceCtorEq]; done)); (first | rfl | (focus (simp only [go_sem]; done))))
  simp only [go_sem, seval, reduceCtorEq, eqTb_self]
  (refine ti_callw [7, 8, 9] false (markTensor_d (t := stackT ⟨kr, pr, nr⟩ ts x) (m := 1) r0 (by omega)) (of_decide_eq_true rfl) ?_ ?_ ?_ ?_ (of_decide_eq_true rfl) ?_; (focus (simp only [go_sem, seval, reduceCtorEq]; done)); (focus (simp only [go_sem, seval, reduceCtorEq]; done)); (focus (simp only [go_sem, seval, reduceCtorEq]; done)); (focus (simp only [go_sem, seval, reduceCtorEq]; done)))
  have n3 : ¬ ((1 + (stackT ⟨kr, pr, nr⟩ ts x).labels.length + (stackT ⟨kr, pr, nr⟩ ts x).dims.length + (stackT ⟨kr, pr, nr⟩ ts x).data.length : Int) < 0) := by omega
  simp only [go_sem, seval, reduceCtorEq, heldR_mark, eqTb_self, n3]
  (refine ti_call (heldTensor_d (t := stackT ⟨kr, pr, nr⟩ ts x) (m := 1) r0 (by omega)) ?_ ?_ ?_; (focus (simp only [go_sem, seval, reduceCtorEq]; done)); (first | rfl | (focus (simp only [go_sem]; done))))
  have n4 : ¬ ((1 + (stackT ⟨kr, pr, nr⟩ ts x).labels.length + (stackT ⟨kr, pr, nr⟩ ts x).dims.length + (stackT ⟨kr, pr, nr⟩ ts x).data.length : Int) < 0) := by omega
  simp only [go_sem, seval, reduceCtorEq, heldR_mark, eqTb_self, n4]
  (refine ti_call (toRing_d kr pr nr) ?_ ?_ ?_; (focus (simp only [go_sem, seval, reduceCtorEq]; done)); (first | rfl | (focus (simp only [go_sem]; done))))
  simp only [go_sem, seval, reduceCtorEq]
  (refine ti_call (toTensorS_d (ts := ts) h_ts.l h_ts.t) ?_ ?_ ?_; (focus (simp only [go_sem, seval, reduceCtorEq]; done)); (first | rfl | (focus (simp only [go_sem]; done))))
  simp only [go_sem, seval, reduceCtorEq]
  (refine ti_call (iStackTensors_d (kk := kr) (pp := pr) (nn := nr) (ts := ts) (x := x) z_kr z_pr z_nr h_ts.l h_ts.t z_x) ?_ ?_ ?_; (focus (simp only [go_sem, seval, reduceCtorEq]; done)); (first | rfl | (focus (simp only [go_sem]; done))))
  simp only [go_sem, seval, reduceCtorEq]
  (refine ti_call (eqTensor_d (t := stackT ⟨kr, pr, nr⟩ ts x) (u := stackT ⟨kr, pr, nr⟩ ts x) r0.up) ?_ ?_ ?_; (focus (simp only [go_sem, seval, reduceCtorEq]; done)); (first | rfl | (focus (simp only [go_sem]; done))))
  simp only [go_sem, seval, reduceCtorEq, eqTb_self]
  (refine ti_call (heldTensor_d (t := stackT ⟨kr, pr, nr⟩ ts x) (m := 1) r0 (by omega)) ?_ ?_ ?_; (focus (simp only [go_sem, seval, reduceCtorEq]; done)); (first | rfl | (focus (simp only [go_sem]; done))))
  have n5 : ¬ ((1 + (stackT ⟨kr, pr, nr⟩ ts x).labels.length + (stackT ⟨kr, pr, nr⟩ ts x).dims.length + (stackT ⟨kr, pr, nr⟩ ts x).data.length : Int) < 0) := by omega
  simp only [go_sem, seval, reduceCtorEq, heldR_mark, eqTb_self, n5]
  (refine FnEnd.mk (Nat.le_of_ble_eq_true rfl) rfl (of_decide_eq_true rfl) ?_ ?_ <;> try simp only [go_sem, seval, reduceCtorEq])
theorem law_StackTensors (W : World) {kr pr nr : Int} {v1 : Value} {ts : List Ten} {x : Int} (wa0 : I64 kr) (wb0 : I64 pr) (wc0 : I64 nr) (w1 : TsIn W v1 ts) (w2 : I64 x) :
    Calls Try.prog 3 #[.agg #[.int .i64 kr, .int .i64 pr, .int .i64 nr], v1, .int .i64 x] W (RetV W (.bool true)) := by
  refine Does.calls (lawStackTensors_d wa0 wb0 wc0 w1.sz w2) W [_, _, _] ?_
  simp only [RelL]
  exact ⟨_, _, rfl, ring_rel kr pr nr, _, _, rfl, w1.rel, _, _, rfl, (rv_int _ _ _ _ _), rfl⟩
end Go.Proofs.Ytmggkcifakbfeaa
