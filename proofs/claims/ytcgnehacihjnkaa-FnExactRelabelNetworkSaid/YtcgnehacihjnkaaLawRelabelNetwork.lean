/-
  The law of RelabelNetwork: it returns true. No condition.
-/
import Derived.Test.YtcgnehacihjnkaaCodeLRelabelNetwork
import Derived.Test.YtcgnehacihjnkaaReN
import Derived.Test.YtcgnehacihjnkaaNetM
import Derived.Test.YtcgnehacihjnkaaOpenN
namespace Go.Proofs.Ytcgnehacihjnkaa
open Go.RowKit Go.Lift Plain
set_option linter.unusedSimpArgs false
set_option linter.unusedVariables false
set_option maxRecDepth 100000

set_option maxHeartbeats 1600000 in
theorem lawRelabelNetwork_d {N : Net} {fs : List Int} {ts : List Int} (z_N : NSz 9223372036854775807 N) (z_fs : Sz 9223372036854775807 fs) (z_ts : Sz 9223372036854775807 ts) :
    Does Try.prog 5 [netA N, .d (ints fs), .d (ints ts)] [] (.d (.bool true)) [] := by
  have z_fs' := z_fs.len
  have z_ts' := z_ts.len
  (refine spec_of (by kernel_rfl) Try.func5 k_laws_FnExactRelabelNetwork (fnOk (Nat.le_of_ble_eq_true rfl) ?_); unfold C_laws_FnExactRelabelNetwork)
  (simp only [Nat.reduceSub, List.length_cons, List.length_nil, Nat.reduceAdd, ch_init1, ch_init2, ch_init3, ch_init4, ch_init5, ch_init6, ch_init7, ch_init8]; try simp only [ch_rep]); (simp only [go_sem, seval, reduceCtorEq, List.replicate])
  by_cases b1 : (fs.length : Int) > 1048576
  · simp only [go_sem, seval, reduceCtorEq, b1]
    (refine FnEnd.mk (Nat.le_of_ble_eq_true rfl) rfl (of_decide_eq_true rfl) ?_ ?_ <;> try simp only [go_sem, seval, reduceCtorEq])
  simp only [go_sem, seval, reduceCtorEq, b1]
  by_cases b2 : (ts.length : Int) > 1048576
  · simp only [go_sem, seval, reduceCtorEq, b2]
    (refine FnEnd.mk (Nat.le_of_ble_eq_true rfl) rfl (of_decide_eq_true rfl) ?_ ?_ <;> try simp only [go_sem, seval, reduceCtorEq])
  simp only [go_sem, seval, reduceCtorEq, b2]
  (refine ti_call (szNetwork_d (N := N) (left := 1048576) z_N (by omega)) ?_ ?_ ?_; (focus (simp only [go_sem, seval, reduceCtorEq]; done)); (first | rfl | (focus (simp only [go_sem]; done))))
  simp only [go_sem, seval, reduceCtorEq]
  by_cases b3 : szNet N 1048576 < 0
  · simp only [go_sem, seval, reduceCtorEq, b3]
    (refine FnEnd.mk (Nat.le_of_ble_eq_true rfl) rfl (of_decide_eq_true rfl) ?_ ?_ <;> try simp only [go_sem, seval, reduceCtorEq])
  simp only [go_sem, seval, reduceCtorEq, b3]
  obtain ⟨h_N, q1, e1⟩ := szNet_go z_N (by omega) b3
  have h_fs : Sz 1048576 fs := ⟨by omega, z_fs.wf⟩
  have h_ts : Sz 1048576 ts := ⟨by omega, z_ts.wf⟩
  have r0 : NSz 1048576 (reN N fs ts) := reN_sz h_N h_ts
  have r0t := reN_tot (fs := fs) h_N h_ts
  have r0o := r0.o.len
  (refine ti_call (toNetwork_d (N := N) h_N) ?_ ?_ ?_; (focus (simp only [go_sem, seval, reduceCtorEq]; done)); (first | rfl | (focus (simp only [go_sem]; done))))
  simp only [go_sem, seval, reduceCtorEq]
  (refine ti_call (toIntS_d (xs := fs) h_fs.up.len) ?_ ?_ ?_; (focus (simp only [go_sem, seval, reduceCtorEq]; done)); (first | rfl | (focus (simp only [go_sem]; done))))
  simp only [go_sem, seval, reduceCtorEq]
  (refine ti_call (toIntS_d (xs := ts) h_ts.up.len) ?_ ?_ ?_; (focus (simp only [go_sem, seval, reduceCtorEq]; done)); (first | rfl | (focus (simp only [go_sem]; done))))
  simp only [go_sem, seval, reduceCtorEq]
  (refine ti_call (sRelabelNetwork_d h_N h_fs h_ts) ?_ ?_ ?_; (focus (simp only [go_sem, seval, reduceCtorEq]; done)); (first | rfl | (focus (simp only [go_sem]; done))))
  simp only [go_sem, seval, reduceCtorEq]
  (refine ti_call (toNetwork_d (N := N) h_N) ?_ ?_ ?_; (focus (simp only [go_sem, seval, reduceCtorEq]; done)); (first | rfl | (focus (simp only [go_sem]; done))))
  simp only [go_sem, seval, reduceCtorEq]
  (refine ti_call (toIntS_d (xs := fs) h_fs.up.len) ?_ ?_ ?_; (focus (simp only [go_sem, seval, reduceCtorEq]; done)); (first | rfl | (focus (simp only [go_sem]; done))))
  simp only [go_sem, seval, reduceCtorEq]
  (refine ti_call (toIntS_d (xs := ts) h_ts.up.len) ?_ ?_ ?_; (focus (simp only [go_sem, seval, reduceCtorEq]; done)); (first | rfl | (focus (simp only [go_sem]; done))))
  simp only [go_sem, seval, reduceCtorEq]
  (refine ti_call (iRelabelNetwork_d h_N h_fs h_ts) ?_ ?_ ?_; (focus (simp only [go_sem, seval, reduceCtorEq]; done)); (first | rfl | (focus (simp only [go_sem]; done))))
  simp only [go_sem, seval, reduceCtorEq]
  (refine ti_call (eqNetwork_d (N := reN N fs ts) r0) ?_ ?_ ?_; (focus (simp only [go_sem, seval, reduceCtorEq]; done)); (first | rfl | (focus (simp only [go_sem]; done))))
  simp only [go_sem, seval, reduceCtorEq]
  (refine gi_call (toNetwork_d (N := N) h_N) ?_ ?_ ?_; (focus (simp only [go_sem, seval, reduceCtorEq]; done)); (first | rfl | (focus (simp only [go_sem]; done))))
  simp only [go_sem, seval, reduceCtorEq]
  (refine ti_call (eqNetwork_d (N := N) h_N) ?_ ?_ ?_; (focus (simp only [go_sem, seval, reduceCtorEq]; done)); (first | rfl | (focus (simp only [go_sem]; done))))
  simp only [go_sem, seval, reduceCtorEq]
  (refine ti_call (toIntS_d (xs := fs) h_fs.up.len) ?_ ?_ ?_; (focus (simp only [go_sem, seval, reduceCtorEq]; done)); (first | rfl | (focus (simp only [go_sem]; done))))
  simp only [go_sem, seval, reduceCtorEq]
  (refine ti_call (eqIntS_d (xs := fs) (ys := fs) h_fs.up.len) ?_ ?_ ?_; (focus (simp only [go_sem, seval, reduceCtorEq]; done)); (first | rfl | (focus (simp only [go_sem]; done))))
  simp only [go_sem, seval, reduceCtorEq]
  (refine ti_call (toIntS_d (xs := ts) h_ts.up.len) ?_ ?_ ?_; (focus (simp only [go_sem, seval, reduceCtorEq]; done)); (first | rfl | (focus (simp only [go_sem]; done))))
  simp only [go_sem, seval, reduceCtorEq]
  (refine ti_call (eqIntS_d (xs := ts) (ys := ts) h_ts.up.len) ?_ ?_ ?_; (focus (simp only [go_sem, seval, reduceCtorEq]; done)); (first | rfl | (focus (simp only [go_sem]; done))))
  simp only [go_sem, seval, reduceCtorEq]
  (refine ti_callcg [8, 9] none false (of_decide_eq_true rfl) ?_ _ ?_ (markNetwork_d (N := N) (m := 1) h_N (by omega)) ?_ ?_; (focus (simp only [go_sem, seval, reduceCtorEq]; done)); (focus (simp only [go_sem, seval, reduceCtorEq]; done)); (focus (first | rfl | (simp only [go_sem, seval, reduceCtorEq]; done))))
  have n2 : ¬ ((1 + totT (N).ts + (N).os.length : Int) < 0) := by omega
  simp only [go_sem, seval, reduceCtorEq, heldR_mark, eqTb_self, n2]
  (refine ti_callw [11] false (markIntS_d (xs := fs) (m := 1 + totT (N).ts + (N).os.length) h_fs.up.len (by omega)) (of_decide_eq_true rfl) ?_ ?_ ?_ ?_ (of_decide_eq_true rfl) ?_; (focus (simp only [go_sem, seval, reduceCtorEq]; done)); (focus (simp only [go_sem, seval, reduceCtorEq]; done)); (focus (simp only [go_sem, seval, reduceCtorEq]; done)); (focus (simp only [go_sem, seval, reduceCtorEq]; done)))
  have n3 : ¬ ((1 + totT (N).ts + (N).os.length + (fs).length : Int) < 0) := by omega
  simp only [go_sem, seval, reduceCtorEq, heldR_mark, eqTb_self, n3]
  (refine ti_callw [12] false (markIntS_d (xs := ts) (m := 1 + totT (N).ts + (N).os.length + (fs).length) h_ts.up.len (by omega)) (of_decide_eq_true rfl) ?_ ?_ ?_ ?_ (of_decide_eq_true rfl) ?_; (focus (simp only [go_sem, seval, reduceCtorEq]; done)); (focus (simp only [go_sem, seval, reduceCtorEq]; done)); (focus (simp only [go_sem, seval, reduceCtorEq]; done)); (focus (simp only [go_sem, seval, reduceCtorEq]; done)))
  have n4 : ¬ ((1 + totT (N).ts + (N).os.length + (fs).length + (ts).length : Int) < 0) := by omega
  simp only [go_sem, seval, reduceCtorEq, heldR_mark, eqTb_self, n4]
  (refine ti_call (eqNetwork_d (N := reN N fs ts) r0) ?_ ?_ ?_; (focus (simp only [go_sem, seval, reduceCtorEq]; done)); (first | rfl | (focus (simp only [go_sem]; done))))
  simp only [go_sem, seval, reduceCtorEq]
  (refine ti_callcg [13, 14] none false (of_decide_eq_true rfl) ?_ _ ?_ (markNetwork_d (N := reN N fs ts) (m := 1) r0 (by omega)) ?_ ?_; (focus (simp only [go_sem, seval, reduceCtorEq]; done)); (focus (simp only [go_sem, seval, reduceCtorEq]; done)); (focus (first | rfl | (simp only [go_sem, seval, reduceCtorEq]; done))))
  have n5 : ¬ ((1 + totT (reN N fs ts).ts + (reN N fs ts).os.length : Int) < 0) := by omega
  simp only [go_sem, seval, reduceCtorEq, heldR_mark, eqTb_self, n5]
  (refine ti_call (heldNetwork_d (N := reN N fs ts) (m := 1) r0 (by omega)) ?_ ?_ ?_; (focus (simp only [go_sem, seval, reduceCtorEq]; done)); (first | rfl | (focus (simp only [go_sem]; done))))
  have n6 : ¬ ((1 + totT (reN N fs ts).ts + (reN N fs ts).os.length : Int) < 0) := by omega
  simp only [go_sem, seval, reduceCtorEq, heldR_mark, eqTb_self, n6]
  (refine ti_call (toNetwork_d (N := N) h_N) ?_ ?_ ?_; (focus (simp only [go_sem, seval, reduceCtorEq]; done)); (first | rfl | (focus (simp only [go_sem]; done))))
  simp only [go_sem, seval, reduceCtorEq]
  (refine ti_call (toIntS_d (xs := fs) h_fs.up.len) ?_ ?_ ?_; (focus (simp only [go_sem, seval, reduceCtorEq]; done)); (first | rfl | (focus (simp only [go_sem]; done))))
  simp only [go_sem, seval, reduceCtorEq]
  (refine ti_call (toIntS_d (xs := ts) h_ts.up.len) ?_ ?_ ?_; (focus (simp only [go_sem, seval, reduceCtorEq]; done)); (first | rfl | (focus (simp only [go_sem]; done))))
  simp only [go_sem, seval, reduceCtorEq]
  (refine ti_call (iRelabelNetwork_d h_N h_fs h_ts) ?_ ?_ ?_; (focus (simp only [go_sem, seval, reduceCtorEq]; done)); (first | rfl | (focus (simp only [go_sem]; done))))
  simp only [go_sem, seval, reduceCtorEq]
  (refine ti_call (eqNetwork_d (N := reN N fs ts) r0) ?_ ?_ ?_; (focus (simp only [go_sem, seval, reduceCtorEq]; done)); (first | rfl | (focus (simp only [go_sem]; done))))
  simp only [go_sem, seval, reduceCtorEq]
  (refine ti_call (heldNetwork_d (N := reN N fs ts) (m := 1) r0 (by omega)) ?_ ?_ ?_; (focus (simp only [go_sem, seval, reduceCtorEq]; done)); (first | rfl | (focus (simp only [go_sem]; done))))
  have n7 : ¬ ((1 + totT (reN N fs ts).ts + (reN N fs ts).os.length : Int) < 0) := by omega
  simp only [go_sem, seval, reduceCtorEq, heldR_mark, eqTb_self, n7]
  (refine FnEnd.mk (Nat.le_of_ble_eq_true rfl) rfl (of_decide_eq_true rfl) ?_ ?_ <;> try simp only [go_sem, seval, reduceCtorEq])
theorem law_RelabelNetwork (W : World) {v0 : Value} {N : Net} {A1 : Option Addr} {n1 c1 : Nat} {fs : List Int} {A2 : Option Addr} {n2 c2 : Nat} {ts : List Int} (w0 : NetIn W v0 N) (w1 : SlIn W A1 n1 c1 fs) (w2 : SlIn W A2 n2 c2 ts) :
    Calls Try.prog 5 #[v0, .slice A1 n1 c1, .slice A2 n2 c2] W (RetV W (.bool true)) := by
  refine Does.calls (lawRelabelNetwork_d w0.sz w1.size w2.size) W [_, _, _] ?_
  simp only [RelL]
  exact ⟨_, _, rfl, w0.rel, _, _, rfl, rel_SlIn w1, _, _, rfl, rel_SlIn w2, rfl⟩
end Go.Proofs.Ytcgnehacihjnkaa
