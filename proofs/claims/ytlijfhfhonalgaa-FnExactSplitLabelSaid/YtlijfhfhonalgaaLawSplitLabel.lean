/-
  The law of SplitLabel: it returns true. No condition.
-/
import Derived.Test.YtlijfhfhonalgaaMgSplitLabelA
import Derived.Test.YtlijfhfhonalgaaSplA
namespace Go.Proofs.Ytlijfhfhonalgaa
open Go.RowKit Go.Lift Plain
set_option linter.unusedSimpArgs false
set_option linter.unusedVariables false
set_option maxRecDepth 100000

set_option maxHeartbeats 1600000 in
theorem lawSplitLabel_d {kr pr nr : Int} {t : Ten} {x : Int} {ls : List Int} {ds : List Int} (z_kr : I64 kr) (z_pr : I64 pr) (z_nr : I64 nr) (z_t : TSz 9223372036854775807 t) (z_x : I64 x) (z_ls : Sz 9223372036854775807 ls) (z_ds : Sz 9223372036854775807 ds) :
    Does Try.prog 3 [ringA kr pr nr, tenA t, .d (.int x), .d (ints ls), .d (ints ds)] [] (.d (.bool true)) [] := by
  have z_ls' := z_ls.len
  have z_ds' := z_ds.len
  (refine spec_of (by kernel_rfl) Try.func3 k_laws_FnExactSplitLabel (fnOk (Nat.le_of_ble_eq_true rfl) ?_); unfold C_laws_FnExactSplitLabel)
  (simp only [Nat.reduceSub, List.length_cons, List.length_nil, Nat.reduceAdd, ch_init1, ch_init2, ch_init3, ch_init4, ch_init5, ch_init6, ch_init7, ch_init8]; try simp only [ch_rep]); (simp only [go_sem, seval, reduceCtorEq, List.replicate])
  by_cases b1 : (ls.length : Int) > 1048576
  · simp only [go_sem, seval, reduceCtorEq, b1]
    (refine FnEnd.mk (Nat.le_of_ble_eq_true rfl) rfl (of_decide_eq_true rfl) ?_ ?_ <;> try simp only [go_sem, seval, reduceCtorEq])
  simp only [go_sem, seval, reduceCtorEq, b1]
  by_cases b2 : (ds.length : Int) > 1048576
  · simp only [go_sem, seval, reduceCtorEq, b2]
    (refine FnEnd.mk (Nat.le_of_ble_eq_true rfl) rfl (of_decide_eq_true rfl) ?_ ?_ <;> try simp only [go_sem, seval, reduceCtorEq])
  simp only [go_sem, seval, reduceCtorEq, b2]
  (refine ti_call ( szTensor_d (left := 1048576) z_t.l.len z_t.d.len z_t.x.len (by omega)) ?_ ?_ ?_; (focus (simp only [go_sem, seval, reduceCtorEq]; done)); (first | rfl | (focus (simp only [go_sem]; done))))
  simp only [go_sem, seval, reduceCtorEq]
  by_cases b3 : szTen t 1048576 < 0
  · simp only [go_sem, seval, reduceCtorEq, b3]
    (refine FnEnd.mk (Nat.le_of_ble_eq_true rfl) rfl (of_decide_eq_true rfl) ?_ ?_ <;> try simp only [go_sem, seval, reduceCtorEq])
  simp only [go_sem, seval, reduceCtorEq, b3]
  have q1 : (t.labels.length + t.dims.length + t.data.length : Int) ≤ 1048576 ∧ szTen t 1048576 = 1048576 - (t.labels.length + t.dims.length + t.data.length) := by have hb := b3; unfold szTen at hb ⊢; split at hb <;> (first | (exfalso; omega) | (split <;> omega))
  have h_t : TSz 1048576 t := ⟨⟨by omega, z_t.l.wf⟩, ⟨by omega, z_t.d.wf⟩, ⟨by omega, z_t.x.wf⟩⟩
  have h_ls : Sz 1048576 ls := ⟨by omega, z_ls.wf⟩
  have h_ds : Sz 1048576 ds := ⟨by omega, z_ds.wf⟩
  have r0 : TSz 1048576 (splitT ⟨kr, pr, nr⟩ t x ls ds) := splitT_sz h_t h_ls
  have r0l := r0.l.len
  have r0d := r0.d.len
  have r0x := r0.x.len
  (refine gi_call (toRing_d kr pr nr) ?_ ?_ ?_; (focus (simp only [go_sem, seval, reduceCtorEq]; done)); (first | rfl | (focus (simp only [go_sem]; done))))
  simp only [go_sem, seval, reduceCtorEq]
  (refine gi_call (toTensor_d (t := t) h_t.up) ?_ ?_ ?_; (focus (simp only [go_sem, seval, reduceCtorEq]; done)); (first | rfl | (focus (simp only [go_sem]; done))))
  simp only [go_sem, seval, reduceCtorEq]
  (refine gi_call (toIntS_d (xs := ls) h_ls.up.len) ?_ ?_ ?_; (focus (simp only [go_sem, seval, reduceCtorEq]; done)); (first | rfl | (focus (simp only [go_sem]; done))))
  simp only [go_sem, seval, reduceCtorEq]
  (refine gi_call (toIntS_d (xs := ds) h_ds.up.len) ?_ ?_ ?_; (focus (simp only [go_sem, seval, reduceCtorEq]; done)); (first | rfl | (focus (simp only [go_sem]; done))))
  simp only [go_sem, seval, reduceCtorEq]
  (refine gi_call (sSplitLabel_d (kk := kr) (pp := pr) (nn := nr) (t := t) (x := x) (L := ls) (D := ds) z_kr z_pr z_nr h_t z_x h_ls h_ds) ?_ ?_ ?_; (focus (simp only [go_sem, seval, reduceCtorEq]; done)); (first | rfl | (focus (simp only [go_sem]; done))))
  simp only [go_sem, seval, reduceCtorEq]
  (refine ti_call (toTensor_d (t := t) h_t.up) ?_ ?_ ?_; (focus (simp only [go_sem, seval, reduceCtorEq]; done)); (first | rfl | (focus (simp only [go_sem]; done))))
  simp only [go_sem, seval, reduceCtorEq]
  (refine ti_call (toIntS_d (xs := ls) h_ls.up.len) ?_ ?_ ?_; (focus (simp only [go_sem, seval, reduceCtorEq]; done)); (first | rfl | (focus (simp only [go_sem]; done))))
  simp only [go_sem, seval, reduceCtorEq]
  (refine ti_call (toIntS_d (xs := ds) h_ds.up.len) ?_ ?_ ?_; (focus (simp only [go_sem, seval, reduceCtorEq]; done)); (first | rfl | (focus (simp only [go_sem]; done))))
  simp only [go_sem, seval, reduceCtorEq]
  (refine gi_call (toRing_d kr pr nr) ?_ ?_ ?_; (focus (simp only [go_sem, seval, reduceCtorEq]; done)); (first | rfl | (focus (simp only [go_sem]; done))))
  simp only [go_sem, seval, reduceCtorEq]
  (refine gi_call (iSplitLabel_d (kk := kr) (pp := pr) (nn := nr) (t := t) (x := x) (L := ls) (D := ds) z_kr z_pr z_nr h_t z_x h_ls h_ds) ?_ ?_ ?_; (focus (simp only [go_sem, seval, reduceCtorEq]; done)); (first | rfl | (focus (simp only [go_sem]; done))))
  simp only [go_sem, seval, reduceCtorEq]
  (refine ti_call (eqTensor_d (t := splitT ⟨kr, pr, nr⟩ t x ls ds) (u := splitT ⟨kr, pr, nr⟩ t x ls ds) r0.up) ?_ ?_ ?_; (focus (simp only [go_sem, seval, reduceCtorEq]; done)); (first | rfl | (focus (simp only [go_sem]; done))))
  simp only [go_sem, seval, reduceCtorEq, eqTb_self]
  (refine gi_call (toTensor_d (t := t) h_t.up) ?_ ?_ ?_; (focus (simp only [go_sem, seval, reduceCtorEq]; done)); (first | rfl | (focus (simp only [go_sem]; done))))
  simp only [go_sem, seval, reduceCtorEq]
  (refine ti_call (eqTensor_d (t := t) (u := t) h_t.up) ?_ ?_ ?_; (focus (simp only [go_sem, seval, reduceCtorEq]; done)); (first | rfl | (focus (simp only [go_sem]; done))))
  simp only [go_sem, seval, reduceCtorEq, eqTb_self]
  (refine ti_call (toIntS_d (xs := ls) h_ls.up.len) ?_ ?_ ?_; (focus (simp only [go_sem, seval, reduceCtorEq]; done)); (first | rfl | (focus (simp only [go_sem]; done))))
  simp only [go_sem, seval, reduceCtorEq]
  (refine ti_call (eqIntS_d (xs := ls) (ys := ls) h_ls.up.len) ?_ ?_ ?_; (focus (simp only [go_sem, seval, reduceCtorEq]; done)); (first | rfl | (focus (simp only [go_sem]; done))))
  simp only [go_sem, seval, reduceCtorEq]
  (refine ti_call (toIntS_d (xs := ds) h_ds.up.len) ?_ ?_ ?_; (focus (simp only [go_sem, seval, reduceCtorEq]; done)); (first | rfl | (focus (simp only [go_sem]; done))))
  simp only [go_sem, seval, reduceCtorEq]
  (refine ti_call (eqIntS_d (xs := ds) (ys := ds) h_ds.up.len) ?_ ?_ ?_; (focus (simp only [go_sem, seval, reduceCtorEq]; done)); (first | rfl | (focus (simp only [go_sem]; done))))
  simp only [go_sem, seval, reduceCtorEq]
  (refine ti_callw [11, 12, 13] false (markTensor_d (t := t) (m := 1) h_t (by omega)) (of_decide_eq_true rfl) ?_ ?_ ?_ ?_ (of_decide_eq_true rfl) ?_; (focus (simp only [go_sem, seval, reduceCtorEq]; done)); (focus (simp only [go_sem, seval, reduceCtorEq]; done)); (focus (simp only [go_sem, seval, reduceCtorEq]; done)); (focus (simp only [go_sem, seval, reduceCtorEq]; done)))
  have n2 : ¬ ((1 + (t).labels.length + (t).dims.length + (t).data.length : Int) < 0) := by omega
  simp only [go_sem, seval, reduceCtorEq, heldR_mark, eqTb_self, n2]
  (refine ti_callw [15] false (markIntS_d (xs := ls) (m := 1 + (t).labels.length + (t).dims.length + (t).data.length) h_ls.up.len (by omega)) (of_decide_eq_true rfl) ?_ ?_ ?_ ?_ (of_decide_eq_true rfl) ?_; (focus (simp only [go_sem, seval, reduceCtorEq]; done)); (focus (simp only [go_sem, seval, reduceCtorEq]; done)); (focus (simp only [go_sem, seval, reduceCtorEq]; done)); (focus (simp only [go_sem, seval, reduceCtorEq]; done)))
  have n3 : ¬ ((1 + (t).labels.length + (t).dims.length + (t).data.length + (ls).length : Int) < 0) := by omega
  simp only [go_sem, seval, reduceCtorEq, heldR_mark, eqTb_self, n3]
  (refine ti_callw [16] false (markIntS_d (xs := ds) (m := 1 + (t).labels.length + (t).dims.length + (t).data.length + (ls).length) h_ds.up.len (by omega)) (of_decide_eq_true rfl) ?_ ?_ ?_ ?_ (of_decide_eq_true rfl) ?_; (focus (simp only [go_sem, seval, reduceCtorEq]; done)); (focus (simp only [go_sem, seval, reduceCtorEq]; done)); (focus (simp only [go_sem, seval, reduceCtorEq]; done)); (focus (simp only [go_sem, seval, reduceCtorEq]; done)))
  have n4 : ¬ ((1 + (t).labels.length + (t).dims.length + (t).data.length + (ls).length + (ds).length : Int) < 0) := by omega
  simp only [go_sem, seval, reduceCtorEq, heldR_mark, eqTb_self, n4]
  (refine ti_call (eqTensor_d (t := splitT ⟨kr, pr, nr⟩ t x ls ds) (u := splitT ⟨kr, pr, nr⟩ t x ls ds) r0.up) ?_ ?_ ?_; (focus (simp only [go_sem, seval, reduceCtorEq]; done)); (first | rfl | (focus (simp only [go_sem]; done))))
  simp only [go_sem, seval, reduceCtorEq, eqTb_self]
  (refine ti_callw [17, 18, 19] false (markTensor_d (t := splitT ⟨kr, pr, nr⟩ t x ls ds) (m := 1) r0 (by omega)) (of_decide_eq_true rfl) ?_ ?_ ?_ ?_ (of_decide_eq_true rfl) ?_; (focus (simp only [go_sem, seval, reduceCtorEq]; done)); (focus (simp only [go_sem, seval, reduceCtorEq]; done)); (focus (simp only [go_sem, seval, reduceCtorEq]; done)); (focus (simp only [go_sem, seval, reduceCtorEq]; done)))
  have n5 : ¬ ((1 + (splitT ⟨kr, pr, nr⟩ t x ls ds).labels.length + (splitT ⟨kr, pr, nr⟩ t x ls ds).dims.length + (splitT ⟨kr, pr, nr⟩ t x ls ds).data.length : Int) < 0) := by omega
  simp only [go_sem, seval, reduceCtorEq, heldR_mark, eqTb_self, n5]
  (refine ti_call (heldTensor_d (t := splitT ⟨kr, pr, nr⟩ t x ls ds) (m := 1) r0 (by omega)) ?_ ?_ ?_; (focus (simp only [go_sem, seval, reduceCtorEq]; done)); (first | rfl | (focus (simp only [go_sem]; done))))
  have n6 : ¬ ((1 + (splitT ⟨kr, pr, nr⟩ t x ls ds).labels.length + (splitT ⟨kr, pr, nr⟩ t x ls ds).dims.length + (splitT ⟨kr, pr, nr⟩ t x ls ds).data.length : Int) < 0) := by omega
  simp only [go_sem, seval, reduceCtorEq, heldR_mark, eqTb_self, n6]
  (refine gi_call (toRing_d kr pr nr) ?_ ?_ ?_; (focus (simp only [go_sem, seval, reduceCtorEq]; done)); (first | rfl | (focus (simp only [go_sem]; done))))
  simp only [go_sem, seval, reduceCtorEq]
  (refine gi_call (toTensor_d (t := t) h_t.up) ?_ ?_ ?_; (focus (simp only [go_sem, seval, reduceCtorEq]; done)); (first | rfl | (focus (simp only [go_sem]; done))))
  simp only [go_sem, seval, reduceCtorEq]
  (refine gi_call (toIntS_d (xs := ls) h_ls.up.len) ?_ ?_ ?_; (focus (simp only [go_sem, seval, reduceCtorEq]; done)); (first | rfl | (focus (simp only [go_sem]; done))))
  simp only [go_sem, seval, reduceCtorEq]
  (refine gi_call (toIntS_d (xs := ds) h_ds.up.len) ?_ ?_ ?_; (focus (simp only [go_sem, seval, reduceCtorEq]; done)); (first | rfl | (focus (simp only [go_sem]; done))))
  simp only [go_sem, seval, reduceCtorEq]
  (refine gi_call (iSplitLabel_d (kk := kr) (pp := pr) (nn := nr) (t := t) (x := x) (L := ls) (D := ds) z_kr z_pr z_nr h_t z_x h_ls h_ds) ?_ ?_ ?_; (focus (simp only [go_sem, seval, reduceCtorEq]; done)); (first | rfl | (focus (simp only [go_sem]; done))))
  simp only [go_sem, seval, reduceCtorEq]
  (refine ti_call (eqTensor_d (t := splitT ⟨kr, pr, nr⟩ t x ls ds) (u := splitT ⟨kr, pr, nr⟩ t x ls ds) r0.up) ?_ ?_ ?_; (focus (simp only [go_sem, seval, reduceCtorEq]; done)); (first | rfl | (focus (simp only [go_sem]; done))))
  simp only [go_sem, seval, reduceCtorEq, eqTb_self]
  (refine ti_call (heldTensor_d (t := splitT ⟨kr, pr, nr⟩ t x ls ds) (m := 1) r0 (by omega)) ?_ ?_ ?_; (focus (simp only [go_sem, seval, reduceCtorEq]; done)); (first | rfl | (focus (simp only [go_sem]; done))))
  have n7 : ¬ ((1 + (splitT ⟨kr, pr, nr⟩ t x ls ds).labels.length + (splitT ⟨kr, pr, nr⟩ t x ls ds).dims.length + (splitT ⟨kr, pr, nr⟩ t x ls ds).data.length : Int) < 0) := by omega
  simp only [go_sem, seval, reduceCtorEq, heldR_mark, eqTb_self, n7]
  (refine FnEnd.mk (Nat.le_of_ble_eq_true rfl) rfl (of_decide_eq_true rfl) ?_ ?_ <;> try simp only [go_sem, seval, reduceCtorEq])
theorem law_SplitLabel (W : World) {kr pr nr : Int} {A10 : Option Addr} {n10 c10 : Nat} {A11 : Option Addr} {n11 c11 : Nat} {A12 : Option Addr} {n12 c12 : Nat} {t : Ten} {x : Int} {A3 : Option Addr} {n3 c3 : Nat} {ls : List Int} {A4 : Option Addr} {n4 c4 : Nat} {ds : List Int} (wa0 : I64 kr) (wb0 : I64 pr) (wc0 : I64 nr) (w1 : TnIn W A10 n10 c10 A11 n11 c11 A12 n12 c12 t) (w2 : I64 x) (w3 : SlIn W A3 n3 c3 ls) (w4 : SlIn W A4 n4 c4 ds) :
    Calls Try.prog 3 #[.agg #[.int .i64 kr, .int .i64 pr, .int .i64 nr], .agg #[.slice A10 n10 c10, .slice A11 n11 c11, .slice A12 n12 c12], .int .i64 x, .slice A3 n3 c3, .slice A4 n4 c4] W (RetV W (.bool true)) := by
  refine Does.calls (lawSplitLabel_d wa0 wb0 wc0 w1.tsz w2 w3.size w4.size) W [_, _, _, _, _] ?_
  simp only [RelL]
  exact ⟨_, _, rfl, ring_rel kr pr nr, _, _, rfl, rel_TnIn w1, _, _, rfl, (rv_int _ _ _ _ _), _, _, rfl, rel_SlIn w3, _, _, rfl, rel_SlIn w4, rfl⟩
end Go.Proofs.Ytlijfhfhonalgaa
