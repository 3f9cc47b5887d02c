/-
  The law of MapTensor: it returns true. No condition.
-/
import Derived.Test.YtjoopfojiiklnaaMgMapTensorA
import Derived.Test.YtjoopfojiiklnaaOpenH
namespace Go.Proofs.Ytjoopfojiiklnaa
open Go.RowKit Go.Lift Plain
set_option linter.unusedSimpArgs false
set_option linter.unusedVariables false
set_option maxRecDepth 100000

set_option maxHeartbeats 1600000 in
theorem lawMapTensor_d {kf pf nf : Int} {kg pg ng : Int} {kh ah : Int} {t : Ten} (z_kf : I64 kf) (z_pf : I64 pf) (z_nf : I64 nf) (z_kg : I64 kg) (z_pg : I64 pg) (z_ng : I64 ng) (z_kh : I64 kh) (z_ah : I64 ah) (z_t : TSz 9223372036854775807 t) :
    Does Try.prog 10 [ringA kf pf nf, ringA kg pg ng, homA kh ah, tenA t] [] (.d (.bool true)) [] := by
  (refine spec_of (by kernel_rfl) Try.func10 k_laws_FnExactMapTensor (fnOk (Nat.le_of_ble_eq_true rfl) ?_); unfold C_laws_FnExactMapTensor)
  (simp only [Nat.reduceSub, List.length_cons, List.length_nil, Nat.reduceAdd, ch_init1, ch_init2, ch_init3, ch_init4, ch_init5, ch_init6, ch_init7, ch_init8]; try simp only [ch_rep]); (simp only [go_sem, seval, reduceCtorEq, List.replicate])
  (refine ti_call ( szTensor_d (left := 1048576) z_t.l.len z_t.d.len z_t.x.len (by omega)) ?_ ?_ ?_; (focus (simp only [go_sem, seval, reduceCtorEq]; done)); (first | rfl | (focus (simp only [go_sem]; done))))
  simp only [go_sem, seval, reduceCtorEq]
  by_cases b1 : szTen t 1048576 < 0
  · simp only [go_sem, seval, reduceCtorEq, b1]
    (refine FnEnd.mk (Nat.le_of_ble_eq_true rfl) rfl (of_decide_eq_true rfl) ?_ ?_ <;> try simp only [go_sem, seval, reduceCtorEq])
  simp only [go_sem, seval, reduceCtorEq, b1]
  have q1 : (t.labels.length + t.dims.length + t.data.length : Int) ≤ 1048576 ∧ szTen t 1048576 = 1048576 - (t.labels.length + t.dims.length + t.data.length) := by have hb := b1; unfold szTen at hb ⊢; split at hb <;> (first | (exfalso; omega) | (split <;> omega))
  have h_t : TSz 1048576 t := ⟨⟨by omega, z_t.l.wf⟩, ⟨by omega, z_t.d.wf⟩, ⟨by omega, z_t.x.wf⟩⟩
  have r0 : TSz 1048576 (mapT kf pf nf kg pg ng kh ah t) := mapT_sz z_pg h_t
  have r0l := r0.l.len
  have r0d := r0.d.len
  have r0x := r0.x.len
  (refine gi_call (toRing_d kf pf nf) ?_ ?_ ?_; (focus (simp only [go_sem, seval, reduceCtorEq]; done)); (first | rfl | (focus (simp only [go_sem]; done))))
  simp only [go_sem, seval, reduceCtorEq]
  (refine gi_call (toRing_d kg pg ng) ?_ ?_ ?_; (focus (simp only [go_sem, seval, reduceCtorEq]; done)); (first | rfl | (focus (simp only [go_sem]; done))))
  simp only [go_sem, seval, reduceCtorEq]
  (refine gi_call (toHom_d kh ah) ?_ ?_ ?_; (focus (simp only [go_sem, seval, reduceCtorEq, homA]; done)); (first | rfl | (focus (simp only [go_sem]; done))))
  simp only [go_sem, seval, reduceCtorEq]
  (refine gi_call (toTensor_d (t := t) h_t.up) ?_ ?_ ?_; (focus (simp only [go_sem, seval, reduceCtorEq]; done)); (first | rfl | (focus (simp only [go_sem]; done))))
  simp only [go_sem, seval, reduceCtorEq]
  (refine gi_call (sMapTensor_d (kf := kf) (pf := pf) (nf := nf) (kt := kg) (pt := pg) (nt := ng) (k := kh) (a := ah) z_kf z_pf z_nf h_t) ?_ ?_ ?_; (focus (simp only [go_sem, seval, reduceCtorEq, homA]; done)); (first | rfl | (focus (simp only [go_sem]; done))))
  simp only [go_sem, seval, reduceCtorEq]
  (refine ti_call (toTensor_d (t := t) h_t.up) ?_ ?_ ?_; (focus (simp only [go_sem, seval, reduceCtorEq]; done)); (first | rfl | (focus (simp only [go_sem]; done))))
  simp only [go_sem, seval, reduceCtorEq]
  (refine gi_call (toRing_d kf pf nf) ?_ ?_ ?_; (focus (simp only [go_sem, seval, reduceCtorEq]; done)); (first | rfl | (focus (simp only [go_sem]; done))))
  simp only [go_sem, seval, reduceCtorEq]
  (refine gi_call (toRing_d kg pg ng) ?_ ?_ ?_; (focus (simp only [go_sem, seval, reduceCtorEq]; done)); (first | rfl | (focus (simp only [go_sem]; done))))
  simp only [go_sem, seval, reduceCtorEq]
  (refine gi_call (toHom_d kh ah) ?_ ?_ ?_; (focus (simp only [go_sem, seval, reduceCtorEq, homA]; done)); (first | rfl | (focus (simp only [go_sem]; done))))
  simp only [go_sem, seval, reduceCtorEq]
  (refine gi_call (iMapTensor_d (kf := kf) (pf := pf) (nf := nf) (kt := kg) (pt := pg) (nt := ng) (k := kh) (a := ah) z_kf z_pf z_nf h_t) ?_ ?_ ?_; (focus (simp only [go_sem, seval, reduceCtorEq, homA]; done)); (first | rfl | (focus (simp only [go_sem]; done))))
  simp only [go_sem, seval, reduceCtorEq]
  (refine ti_call (eqTensor_d (t := mapT kf pf nf kg pg ng kh ah t) (u := mapT kf pf nf kg pg ng kh ah t) r0.up) ?_ ?_ ?_; (focus (simp only [go_sem, seval, reduceCtorEq]; done)); (first | rfl | (focus (simp only [go_sem]; done))))
  simp only [go_sem, seval, reduceCtorEq, eqTb_self]
  (refine gi_call (toTensor_d (t := t) h_t.up) ?_ ?_ ?_; (focus (simp only [go_sem, seval, reduceCtorEq]; done)); (first | rfl | (focus (simp only [go_sem]; done))))
  simp only [go_sem, seval, reduceCtorEq]
  (refine ti_call (eqTensor_d (t := t) (u := t) h_t.up) ?_ ?_ ?_; (focus (simp only [go_sem, seval, reduceCtorEq]; done)); (first | rfl | (focus (simp only [go_sem]; done))))
  simp only [go_sem, seval, reduceCtorEq, eqTb_self]
  (refine ti_callw [11, 12, 13] false (markTensor_d (t := t) (m := 1) h_t (by omega)) (of_decide_eq_true rfl) ?_ ?_ ?_ ?_ (of_decide_eq_true rfl) ?_; (focus (simp only [go_sem, seval, reduceCtorEq]; done)); (focus (simp only [go_sem, seval, reduceCtorEq]; done)); (focus (simp only [go_sem, seval, reduceCtorEq]; done)); (focus (simp only [go_sem, seval, reduceCtorEq]; done)))
  have n2 : ¬ ((1 + (t).labels.length + (t).dims.length + (t).data.length : Int) < 0) := by omega
  simp only [go_sem, seval, reduceCtorEq, heldR_mark, eqTb_self, n2]
  (refine ti_call (eqTensor_d (t := mapT kf pf nf kg pg ng kh ah t) (u := mapT kf pf nf kg pg ng kh ah t) r0.up) ?_ ?_ ?_; (focus (simp only [go_sem, seval, reduceCtorEq]; done)); (first | rfl | (focus (simp only [go_sem]; done))))
  simp only [go_sem, seval, reduceCtorEq, eqTb_self]
  (refine ti_callw [15, 16, 17] false (markTensor_d (t := mapT kf pf nf kg pg ng kh ah t) (m := 1) r0 (by omega)) (of_decide_eq_true rfl) ?_ ?_ ?_ ?_ (of_decide_eq_true rfl) ?_; (focus (simp only [go_sem, seval, reduceCtorEq]; done)); (focus (simp only [go_sem, seval, reduceCtorEq]; done)); (focus (simp only [go_sem, seval, reduceCtorEq]; done)); (focus (simp only [go_sem, seval, reduceCtorEq]; done)))
  have n3 : ¬ ((1 + (mapT kf pf nf kg pg ng kh ah t).labels.length + (mapT kf pf nf kg pg ng kh ah t).dims.length + (mapT kf pf nf kg pg ng kh ah t).data.length : Int) < 0) := by omega
  simp only [go_sem, seval, reduceCtorEq, heldR_mark, eqTb_self, n3]
  (refine ti_call (heldTensor_d (t := mapT kf pf nf kg pg ng kh ah t) (m := 1) r0 (by omega)) ?_ ?_ ?_; (focus (simp only [go_sem, seval, reduceCtorEq]; done)); (first | rfl | (focus (simp only [go_sem]; done))))
  have n4 : ¬ ((1 + (mapT kf pf nf kg pg ng kh ah t).labels.length + (mapT kf pf nf kg pg ng kh ah t).dims.length + (mapT kf pf nf kg pg ng kh ah t).data.length : Int) < 0) := by omega
  simp only [go_sem, seval, reduceCtorEq, heldR_mark, eqTb_self, n4]
  (refine gi_call (toRing_d kf pf nf) ?_ ?_ ?_; (focus (simp only [go_sem, seval, reduceCtorEq]; done)); (first | rfl | (focus (simp only [go_sem]; done))))
  simp only [go_sem, seval, reduceCtorEq]
  (refine gi_call (toRing_d kg pg ng) ?_ ?_ ?_; (focus (simp only [go_sem, seval, reduceCtorEq]; done)); (first | rfl | (focus (simp only [go_sem]; done))))
  simp only [go_sem, seval, reduceCtorEq]
  (refine gi_call (toHom_d kh ah) ?_ ?_ ?_; (focus (simp only [go_sem, seval, reduceCtorEq, homA]; done)); (first | rfl | (focus (simp only [go_sem]; done))))
  simp only [go_sem, seval, reduceCtorEq]
  (refine gi_call (toTensor_d (t := t) h_t.up) ?_ ?_ ?_; (focus (simp only [go_sem, seval, reduceCtorEq]; done)); (first | rfl | (focus (simp only [go_sem]; done))))
  simp only [go_sem, seval, reduceCtorEq]
  (refine gi_call (iMapTensor_d (kf := kf) (pf := pf) (nf := nf) (kt := kg) (pt := pg) (nt := ng) (k := kh) (a := ah) z_kf z_pf z_nf h_t) ?_ ?_ ?_; (focus (simp only [go_sem, seval, reduceCtorEq, homA]; done)); (first | rfl | (focus (simp only [go_sem]; done))))
  simp only [go_sem, seval, reduceCtorEq]
  (refine ti_call (eqTensor_d (t := mapT kf pf nf kg pg ng kh ah t) (u := mapT kf pf nf kg pg ng kh ah t) r0.up) ?_ ?_ ?_; (focus (simp only [go_sem, seval, reduceCtorEq]; done)); (first | rfl | (focus (simp only [go_sem]; done))))
  simp only [go_sem, seval, reduceCtorEq, eqTb_self]
  (refine ti_call (heldTensor_d (t := mapT kf pf nf kg pg ng kh ah t) (m := 1) r0 (by omega)) ?_ ?_ ?_; (focus (simp only [go_sem, seval, reduceCtorEq]; done)); (first | rfl | (focus (simp only [go_sem]; done))))
  have n5 : ¬ ((1 + (mapT kf pf nf kg pg ng kh ah t).labels.length + (mapT kf pf nf kg pg ng kh ah t).dims.length + (mapT kf pf nf kg pg ng kh ah t).data.length : Int) < 0) := by omega
  simp only [go_sem, seval, reduceCtorEq, heldR_mark, eqTb_self, n5]
  (refine FnEnd.mk (Nat.le_of_ble_eq_true rfl) rfl (of_decide_eq_true rfl) ?_ ?_ <;> try simp only [go_sem, seval, reduceCtorEq])
theorem law_MapTensor (W : World) {kf pf nf : Int} {kg pg ng : Int} {kh ah : Int} {A30 : Option Addr} {n30 c30 : Nat} {A31 : Option Addr} {n31 c31 : Nat} {A32 : Option Addr} {n32 c32 : Nat} {t : Ten} (wa0 : I64 kf) (wb0 : I64 pf) (wc0 : I64 nf) (wa1 : I64 kg) (wb1 : I64 pg) (wc1 : I64 ng) (wa2 : I64 kh) (wb2 : I64 ah) (w3 : TnIn W A30 n30 c30 A31 n31 c31 A32 n32 c32 t) :
    Calls Try.prog 10 #[.agg #[.int .i64 kf, .int .i64 pf, .int .i64 nf], .agg #[.int .i64 kg, .int .i64 pg, .int .i64 ng], .agg #[.int .i64 kh, .int .i64 ah], .agg #[.slice A30 n30 c30, .slice A31 n31 c31, .slice A32 n32 c32]] W (RetV W (.bool true)) := by
  refine Does.calls (lawMapTensor_d wa0 wb0 wc0 wa1 wb1 wc1 wa2 wb2 w3.tsz) W [_, _, _, _] ?_
  simp only [RelL]
  exact ⟨_, _, rfl, ring_rel kf pf nf, _, _, rfl, ring_rel kg pg ng, _, _, rfl, hom_rel kh ah, _, _, rfl, rel_TnIn w3, rfl⟩
end Go.Proofs.Ytjoopfojiiklnaa
