/-
  The law of DiagonalTensor: it returns true. No condition.
-/
import Derived.Test.YtmgifmgdfldheaaCodeLDiagonalTensor
import Derived.Test.YtmgifmgdfldheaaConQ
namespace Go.Proofs.Ytmgifmgdfldheaa
open Go.RowKit Go.Lift Plain
set_option linter.unusedSimpArgs false
set_option linter.unusedVariables false
set_option maxRecDepth 100000

set_option maxHeartbeats 1600000 in
theorem lawDiagonalTensor_d {kr pr nr : Int} {t : Ten} {x : Int} {y : Int} (z_kr : I64 kr) (z_pr : I64 pr) (z_nr : I64 nr) (z_t : TSz 9223372036854775807 t) (z_x : I64 x) (z_y : I64 y) :
    Does Try.prog 13 [ringA kr pr nr, tenA t, .d (.int x), .d (.int y)] [] (.d (.bool true)) [] := by
  (refine spec_of (by kernel_rfl) Try.func13 k_laws_FnExactDiagonalTensor (fnOk (Nat.le_of_ble_eq_true rfl) ?_); unfold C_laws_FnExactDiagonalTensor)
  (simp only [Nat.reduceSub, List.length_cons, List.length_nil, Nat.reduceAdd, ch_init1, ch_init2, ch_init3, ch_init4, ch_init5, ch_init6, ch_init7, ch_init8]; try simp only [ch_rep]); (simp only [go_sem, seval, reduceCtorEq, List.replicate])
  (refine ti_call ( szTensor_d (left := 1048576) z_t.l.len z_t.d.len z_t.x.len (by omega)) ?_ ?_ ?_; (focus (simp only [go_sem, seval, reduceCtorEq]; done)); (first | rfl | (focus (simp only [go_sem]; done))))
  simp only [go_sem, seval, reduceCtorEq]
  by_cases b1 : szTen t 1048576 < 0
  · simp only [go_sem, seval, reduceCtorEq, b1]
    (refine FnEnd.mk (Nat.le_of_ble_eq_true rfl) rfl (of_decide_eq_true rfl) ?_ ?_ <;> try simp only [go_sem, seval, reduceCtorEq])
  simp only [go_sem, seval, reduceCtorEq, b1]
  have q1 : (t.labels.length + t.dims.length + t.data.length : Int) ≤ 1048576 ∧ szTen t 1048576 = 1048576 - (t.labels.length + t.dims.length + t.data.length) := by have hb := b1; unfold szTen at hb ⊢; split at hb <;> (first | (exfalso; omega) | (split <;> omega))
  have h_t : TSz 1048576 t := ⟨⟨by omega, z_t.l.wf⟩, ⟨by omega, z_t.d.wf⟩, ⟨by omega, z_t.x.wf⟩⟩
  have r0 : TSz 1048576 (diaT ⟨kr, pr, nr⟩ t x y) := diaT_sz h_t
  have r0l := r0.l.len
  have r0d := r0.d.len
  have r0x := r0.x.len
  (refine gi_call (toRing_d kr pr nr) ?_ ?_ ?_; (focus (simp only [go_sem, seval, reduceCtorEq]; done)); (first | rfl | (focus (simp only [go_sem]; done))))
  simp only [go_sem, seval, reduceCtorEq]
  (refine gi_call (toTensor_d (t := t) h_t.up) ?_ ?_ ?_; (focus (simp only [go_sem, seval, reduceCtorEq]; done)); (first | rfl | (focus (simp only [go_sem]; done))))
  simp only [go_sem, seval, reduceCtorEq]
  (refine gi_call (sDiagonalTensor_d (kk := kr) (pp := pr) (nn := nr) (t := t) (x := x) (y := y) z_kr z_pr z_nr h_t) ?_ ?_ ?_; (focus (simp only [go_sem, seval, reduceCtorEq]; done)); (first | rfl | (focus (simp only [go_sem]; done))))
  simp only [go_sem, seval, reduceCtorEq]
  (refine ti_call (toTensor_d (t := t) h_t.up) ?_ ?_ ?_; (focus (simp only [go_sem, seval, reduceCtorEq]; done)); (first | rfl | (focus (simp only [go_sem]; done))))
  simp only [go_sem, seval, reduceCtorEq]
  (refine gi_call (toRing_d kr pr nr) ?_ ?_ ?_; (focus (simp only [go_sem, seval, reduceCtorEq]; done)); (first | rfl | (focus (simp only [go_sem]; done))))
  simp only [go_sem, seval, reduceCtorEq]
  (refine gi_call (iDiagonalTensor_d (kk := kr) (pp := pr) (nn := nr) (t := t) (x := x) (y := y) z_kr z_pr z_nr h_t) ?_ ?_ ?_; (focus (simp only [go_sem, seval, reduceCtorEq]; done)); (first | rfl | (focus (simp only [go_sem]; done))))
  simp only [go_sem, seval, reduceCtorEq]
  (refine ti_call (eqTensor_d (t := diaT ⟨kr, pr, nr⟩ t x y) (u := diaT ⟨kr, pr, nr⟩ t x y) r0.up) ?_ ?_ ?_; (focus (simp only [go_sem, seval, reduceCtorEq]; done)); (first | rfl | (focus (simp only [go_sem]; done))))
  simp only [go_sem, seval, reduceCtorEq, eqTb_self]
  (refine gi_call (toTensor_d (t := t) h_t.up) ?_ ?_ ?_; (focus (simp only [go_sem, seval, reduceCtorEq]; done)); (first | rfl | (focus (simp only [go_sem]; done))))
  simp only [go_sem, seval, reduceCtorEq]
  (refine ti_call (eqTensor_d (t := t) (u := t) h_t.up) ?_ ?_ ?_; (focus (simp only [go_sem, seval, reduceCtorEq]; done)); (first | rfl | (focus (simp only [go_sem]; done))))
  simp only [go_sem, seval, reduceCtorEq, eqTb_self]
  (refine ti_callw [9, 10, 11] false (markTensor_d (t := t) (m := 1) h_t (by omega)) (of_decide_eq_true rfl) ?_ ?_ ?_ ?_ (of_decide_eq_true rfl) ?_; (focus (simp only [go_sem, seval, reduceCtorEq]; done)); (focus (simp only [go_sem, seval, reduceCtorEq]; done)); (focus (simp only [go_sem, seval, reduceCtorEq]; done)); (focus (simp only [go_sem, seval, reduceCtorEq]; done)))
  have n2 : ¬ ((1 + (t).labels.length + (t).dims.length + (t).data.length : Int) < 0) := by omega
  simp only [go_sem, seval, reduceCtorEq, heldR_mark, eqTb_self, n2]
  (refine ti_call (eqTensor_d (t := diaT ⟨kr, pr, nr⟩ t x y) (u := diaT ⟨kr, pr, nr⟩ t x y) r0.up) ?_ ?_ ?_; (focus (simp only [go_sem, seval, reduceCtorEq]; done)); (first | rfl | (focus (simp only [go_sem]; done))))
  simp only [go_sem, seval, reduceCtorEq, eqTb_self]
  (refine ti_callw [13, 14, 15] false (markTensor_d (t := diaT ⟨kr, pr, nr⟩ t x y) (m := 1) r0 (by omega)) (of_decide_eq_true rfl) ?_ ?_ ?_ ?_ (of_decide_eq_true rfl) ?_; (focus (simp only [go_sem, seval, reduceCtorEq]; done)); (focus (simp only [go_sem, seval, reduceCtorEq]; done)); (focus (simp only [go_sem, seval, reduceCtorEq]; done)); (focus (simp only [go_sem, seval, reduceCtorEq]; done)))
  have n3 : ¬ ((1 + (diaT ⟨kr, pr, nr⟩ t x y).labels.length + (diaT ⟨kr, pr, nr⟩ t x y).dims.length + (diaT ⟨kr, pr, nr⟩ t x y).data.length : Int) < 0) := by omega
  simp only [go_sem, seval, reduceCtorEq, heldR_mark, eqTb_self, n3]
  (refine ti_call (heldTensor_d (t := diaT ⟨kr, pr, nr⟩ t x y) (m := 1) r0 (by omega)) ?_ ?_ ?_; (focus (simp only [go_sem, seval, reduceCtorEq]; done)); (first | rfl | (focus (simp only [go_sem]; done))))
  have n4 : ¬ ((1 + (diaT ⟨kr, pr, nr⟩ t x y).labels.length + (diaT ⟨kr, pr, nr⟩ t x y).dims.length + (diaT ⟨kr, pr, nr⟩ t x y).data.length : Int) < 0) := by omega
  simp only [go_sem, seval, reduceCtorEq, heldR_mark, eqTb_self, n4]
  (refine gi_call (toRing_d kr pr nr) ?_ ?_ ?_; (focus (simp only [go_sem, seval, reduceCtorEq]; done)); (first | rfl | (focus (simp only [go_sem]; done))))
  simp only [go_sem, seval, reduceCtorEq]
  (refine gi_call (toTensor_d (t := t) h_t.up) ?_ ?_ ?_; (focus (simp only [go_sem, seval, reduceCtorEq]; done)); (first | rfl | (focus (simp only [go_sem]; done))))
  simp only [go_sem, seval, reduceCtorEq]
  (refine gi_call (iDiagonalTensor_d (kk := kr) (pp := pr) (nn := nr) (t := t) (x := x) (y := y) z_kr z_pr z_nr h_t) ?_ ?_ ?_; (focus (simp only [go_sem, seval, reduceCtorEq]; done)); (first | rfl | (focus (simp only [go_sem]; done))))
  simp only [go_sem, seval, reduceCtorEq]
  (refine ti_call (eqTensor_d (t := diaT ⟨kr, pr, nr⟩ t x y) (u := diaT ⟨kr, pr, nr⟩ t x y) r0.up) ?_ ?_ ?_; (focus (simp only [go_sem, seval, reduceCtorEq]; done)); (first | rfl | (focus (simp only [go_sem]; done))))
  simp only [go_sem, seval, reduceCtorEq, eqTb_self]
  (refine ti_call (heldTensor_d (t := diaT ⟨kr, pr, nr⟩ t x y) (m := 1) r0 (by omega)) ?_ ?_ ?_; (focus (simp only [go_sem, seval, reduceCtorEq]; done)); (first | rfl | (focus (simp only [go_sem]; done))))
  have n5 : ¬ ((1 + (diaT ⟨kr, pr, nr⟩ t x y).labels.length + (diaT ⟨kr, pr, nr⟩ t x y).dims.length + (diaT ⟨kr, pr, nr⟩ t x y).data.length : Int) < 0) := by omega
  simp only [go_sem, seval, reduceCtorEq, heldR_mark, eqTb_self, n5]
  (refine FnEnd.mk (Nat.le_of_ble_eq_true rfl) rfl (of_decide_eq_true rfl) ?_ ?_ <;> try simp only [go_sem, seval, reduceCtorEq])
theorem law_DiagonalTensor (W : World) {kr pr nr : Int} {A10 : Option Addr} {n10 c10 : Nat} {A11 : Option Addr} {n11 c11 : Nat} {A12 : Option Addr} {n12 c12 : Nat} {t : Ten} {x : Int} {y : Int} (wa0 : I64 kr) (wb0 : I64 pr) (wc0 : I64 nr) (w1 : TnIn W A10 n10 c10 A11 n11 c11 A12 n12 c12 t) (w2 : I64 x) (w3 : I64 y) :
    Calls Try.prog 13 #[.agg #[.int .i64 kr, .int .i64 pr, .int .i64 nr], .agg #[.slice A10 n10 c10, .slice A11 n11 c11, .slice A12 n12 c12], .int .i64 x, .int .i64 y] W (RetV W (.bool true)) := by
  refine Does.calls (lawDiagonalTensor_d wa0 wb0 wc0 w1.tsz w2 w3) W [_, _, _, _] ?_
  simp only [RelL]
  exact ⟨_, _, rfl, ring_rel kr pr nr, _, _, rfl, rel_TnIn w1, _, _, rfl, (rv_int _ _ _ _ _), _, _, rfl, (rv_int _ _ _ _ _), rfl⟩
end Go.Proofs.Ytmgifmgdfldheaa
