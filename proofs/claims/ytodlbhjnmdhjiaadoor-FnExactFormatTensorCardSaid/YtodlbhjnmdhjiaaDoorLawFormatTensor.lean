/-
  The law of FormatTensor: it returns true. No condition.
-/
import Derived.Test.YtodlbhjnmdhjiaaDoorCodeLFormatTensor
import Derived.Test.YtodlbhjnmdhjiaaDoorFmtB
namespace Go.Proofs.YtodlbhjnmdhjiaaDoor
open Go.RowKit Go.Lift Plain
set_option linter.unusedSimpArgs false
set_option linter.unusedVariables false
set_option maxRecDepth 100000

theorem fmtT_size {r : Rg} {t : Ten} : (fmtT r t).size ≤ 1000000 := by
  unfold fmtT
  split
  · rename_i h
    obtain ⟨wd, n, h1, h2, h3, h4, h5, h6, h7, hf, hr, ha⟩ := fmt_facts h
    rw [h1, h2]
    exact words_size h1 h4 h7 h6 hf hr ha
  · decide
theorem eq_self_b (b : ByteArray) : (b.toList == b.toList) = true := by simp
set_option maxHeartbeats 1600000 in
theorem lawFormatTensor_d {kr pr nr : Int} {t : Ten} (z_kr : I64 kr) (z_pr : I64 pr) (z_nr : I64 nr) (z_t : TSz 9223372036854775807 t) :
    Does Tryd.prog 3 [ringA kr pr nr, tenA t] [] (.d (.bool true)) [] := by
  (refine spec_of (by kernel_rfl) Tryd.func3 k_laws_FnExactFormatTensor (fnOk (Nat.le_of_ble_eq_true rfl) ?_); unfold C_laws_FnExactFormatTensor)
  (simp only [Nat.reduceSub, List.length_cons, List.length_nil, Nat.reduceAdd, ch_init1, ch_init2, ch_init3, ch_init4, ch_init5, ch_init6, ch_init7, ch_init8]; try simp only [ch_rep]); (simp only [go_sem, seval, reduceCtorEq, List.replicate])
  (refine ti_call ( szTensor_d (left := 1048576) z_t.l.len z_t.d.len z_t.x.len (by omega)) ?_ ?_ ?_; (focus (simp only [go_sem, seval, reduceCtorEq]; done)); (first | rfl | (focus (simp only [go_sem]; done))))
  simp only [go_sem, seval, reduceCtorEq]
  by_cases b2 : szTen t 1048576 < 0
  · simp only [go_sem, seval, reduceCtorEq, b2]
    (refine FnEnd.mk (Nat.le_of_ble_eq_true rfl) rfl (of_decide_eq_true rfl) ?_ ?_ <;> try simp only [go_sem, seval, reduceCtorEq])
  simp only [go_sem, seval, reduceCtorEq, b2]
  have q1 : (t.labels.length + t.dims.length + t.data.length : Int) ≤ 1048576 ∧ szTen t 1048576 = 1048576 - (t.labels.length + t.dims.length + t.data.length) := by have hb := b2; unfold szTen at hb ⊢; split at hb <;> (first | (exfalso; omega) | (split <;> omega))
  have h_t : TSz 1048576 t := ⟨⟨by omega, z_t.l.wf⟩, ⟨by omega, z_t.d.wf⟩, ⟨by omega, z_t.x.wf⟩⟩
  have es := eq_self_b (fmtT ⟨kr, pr, nr⟩ t)
  (refine gi_call (toRing_d kr pr nr) ?_ ?_ ?_; (focus (simp only [go_sem, seval, reduceCtorEq]; done)); (first | rfl | (focus (simp only [go_sem]; done))))
  simp only [go_sem, seval, reduceCtorEq]
  (refine ti_call (toTensor_d (t := t) h_t.up) ?_ ?_ ?_; (focus (simp only [go_sem, seval, reduceCtorEq]; done)); (first | rfl | (focus (simp only [go_sem]; done))))
  simp only [go_sem, seval, reduceCtorEq]
  (refine ti_call (sFormatTensor_d (kk := kr) (pp := pr) (nn := nr) (t := t) z_kr z_pr z_nr h_t) ?_ ?_ ?_; (focus (simp only [go_sem, seval, reduceCtorEq]; done)); (first | rfl | (focus (simp only [go_sem]; done))))
  simp only [go_sem, seval, reduceCtorEq]
  (refine ti_call (toTensor_d (t := t) h_t.up) ?_ ?_ ?_; (focus (simp only [go_sem, seval, reduceCtorEq]; done)); (first | rfl | (focus (simp only [go_sem]; done))))
  simp only [go_sem, seval, reduceCtorEq]
  (refine gi_call (toRing_d kr pr nr) ?_ ?_ ?_; (focus (simp only [go_sem, seval, reduceCtorEq]; done)); (first | rfl | (focus (simp only [go_sem]; done))))
  simp only [go_sem, seval, reduceCtorEq]
  (refine ti_call (iFormatTensor_d (kk := kr) (pp := pr) (nn := nr) (t := t) z_kr z_pr z_nr h_t) ?_ ?_ ?_; (focus (simp only [go_sem, seval, reduceCtorEq]; done)); (first | rfl | (focus (simp only [go_sem]; done))))
  simp only [go_sem, seval, reduceCtorEq, es]
  (refine gi_call (toTensor_d (t := t) h_t.up) ?_ ?_ ?_; (focus (simp only [go_sem, seval, reduceCtorEq]; done)); (first | rfl | (focus (simp only [go_sem]; done))))
  simp only [go_sem, seval, reduceCtorEq]
  (refine ti_call (eqTensor_d (t := t) (u := t) h_t.up) ?_ ?_ ?_; (focus (simp only [go_sem, seval, reduceCtorEq]; done)); (first | rfl | (focus (simp only [go_sem]; done))))
  simp only [go_sem, seval, reduceCtorEq, eqTb_self]
  (refine FnEnd.mk (Nat.le_of_ble_eq_true rfl) rfl (of_decide_eq_true rfl) ?_ ?_ <;> try simp only [go_sem, seval, reduceCtorEq])
theorem law_FormatTensor (W : World) (hA : ∀ b l, (b, l) ∈ knownTabs → ∃ cur T f, cur.toList = l ∧ W.heap[b]? = some (.cells cur T f)) {kr pr nr : Int} {A10 : Option Addr} {n10 c10 : Nat} {A11 : Option Addr} {n11 c11 : Nat} {A12 : Option Addr} {n12 c12 : Nat} {t : Ten} (wa0 : I64 kr) (wb0 : I64 pr) (wc0 : I64 nr) (w1 : TnIn W A10 n10 c10 A11 n11 c11 A12 n12 c12 t) :
    Calls Tryd.prog 3 #[.agg #[.int .i64 kr, .int .i64 pr, .int .i64 nr], .agg #[.slice A10 n10 c10, .slice A11 n11 c11, .slice A12 n12 c12]] W (RetV W (.bool true)) := by
  refine Does.callsT (lawFormatTensor_d wa0 wb0 wc0 w1.tsz) W [_, _] hA ?_
  simp only [RelL]
  exact ⟨_, _, rfl, ring_rel kr pr nr, _, _, rfl, rel_TnIn w1, rfl⟩
end Go.Proofs.YtodlbhjnmdhjiaaDoor
