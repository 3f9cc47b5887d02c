/-
  The law of ContractPair: it returns true. No condition.
-/
import Derived.Test.YtcgnehacihjnkaaCodeLContractPair
import Derived.Test.YtcgnehacihjnkaaConW
namespace Go.Proofs.Ytcgnehacihjnkaa
open Go.RowKit Go.Lift Plain
set_option linter.unusedSimpArgs false
set_option linter.unusedVariables false
set_option maxRecDepth 100000

set_option maxHeartbeats 1600000 in
theorem lawContractPair_d {ka pa na : Int} {b : Ten} {c : Ten} {ks : List Int} (z_ka : I64 ka) (z_pa : I64 pa) (z_na : I64 na) (z_b : TSz 9223372036854775807 b) (z_c : TSz 9223372036854775807 c) (z_ks : Sz 9223372036854775807 ks) :
    Does Try.prog 13 [ringA ka pa na, tenA b, tenA c, .d (ints ks)] [] (.d (.bool true)) [] := by
  have z_ks' := z_ks.len
  (refine spec_of (by kernel_rfl) Try.func13 k_laws_FnExactContractPair (fnOk (Nat.le_of_ble_eq_true rfl) ?_); unfold C_laws_FnExactContractPair)
  (simp only [Nat.reduceSub, List.length_cons, List.length_nil, Nat.reduceAdd, ch_init1, ch_init2, ch_init3, ch_init4, ch_init5, ch_init6, ch_init7, ch_init8]; try simp only [ch_rep]); (simp only [go_sem, seval, reduceCtorEq, List.replicate])
  by_cases b1 : (ks.length : Int) > 1048576
  · simp only [go_sem, seval, reduceCtorEq, b1]
    (refine FnEnd.mk (Nat.le_of_ble_eq_true rfl) rfl (of_decide_eq_true rfl) ?_ ?_ <;> try simp only [go_sem, seval, reduceCtorEq])
  simp only [go_sem, seval, reduceCtorEq, b1]
  (refine ti_call ( szTensor_d (left := 1048576) z_b.l.len z_b.d.len z_b.x.len (by omega)) ?_ ?_ ?_; (focus (simp only [go_sem, seval, reduceCtorEq]; done)); (first | rfl | (focus (simp only [go_sem]; done))))
  simp only [go_sem, seval, reduceCtorEq]
  by_cases b2 : szTen b 1048576 < 0
  · simp only [go_sem, seval, reduceCtorEq, b2]
    (refine FnEnd.mk (Nat.le_of_ble_eq_true rfl) rfl (of_decide_eq_true rfl) ?_ ?_ <;> try simp only [go_sem, seval, reduceCtorEq])
  simp only [go_sem, seval, reduceCtorEq, b2]
  have q1 : (b.labels.length + b.dims.length + b.data.length : Int) ≤ 1048576 ∧ szTen b 1048576 = 1048576 - (b.labels.length + b.dims.length + b.data.length) := by have hb := b2; unfold szTen at hb ⊢; split at hb <;> (first | (exfalso; omega) | (split <;> omega))
  (refine ti_call ( szTensor_d (left := szTen b 1048576) z_c.l.len z_c.d.len z_c.x.len (by omega)) ?_ ?_ ?_; (focus (simp only [go_sem, seval, reduceCtorEq]; done)); (first | rfl | (focus (simp only [go_sem]; done))))
  simp only [go_sem, seval, reduceCtorEq]
  by_cases b3 : szTen c (szTen b 1048576) < 0
  · simp only [go_sem, seval, reduceCtorEq, b3]
    (refine FnEnd.mk (Nat.le_of_ble_eq_true rfl) rfl (of_decide_eq_true rfl) ?_ ?_ <;> try simp only [go_sem, seval, reduceCtorEq])
  simp only [go_sem, seval, reduceCtorEq, b3]
  have q2 : (c.labels.length + c.dims.length + c.data.length : Int) ≤ szTen b 1048576 ∧ szTen c (szTen b 1048576) = szTen b 1048576 - (c.labels.length + c.dims.length + c.data.length) := by have hb := b3; unfold szTen at hb ⊢; split at hb <;> (first | (exfalso; omega) | (split <;> omega))
  have h_b : TSz 1048576 b := ⟨⟨by omega, z_b.l.wf⟩, ⟨by omega, z_b.d.wf⟩, ⟨by omega, z_b.x.wf⟩⟩
  have h_c : TSz 1048576 c := ⟨⟨by omega, z_c.l.wf⟩, ⟨by omega, z_c.d.wf⟩, ⟨by omega, z_c.x.wf⟩⟩
  have h_ks : Sz 1048576 ks := ⟨by omega, z_ks.wf⟩
  have r0 : TSz 1048576 (conT ⟨ka, pa, na⟩ b c ks) := conT_sz h_b h_c
  have r0l := r0.l.len
  have r0d := r0.d.len
  have r0x := r0.x.len
  (refine gi_call (toRing_d ka pa na) ?_ ?_ ?_; (focus (simp only [go_sem, seval, reduceCtorEq]; done)); (first | rfl | (focus (simp only [go_sem]; done))))
  simp only [go_sem, seval, reduceCtorEq]
  (refine gi_call (toTensor_d (t := b) h_b.up) ?_ ?_ ?_; (focus (simp only [go_sem, seval, reduceCtorEq]; done)); (first | rfl | (focus (simp only [go_sem]; done))))
  simp only [go_sem, seval, reduceCtorEq]
  (refine gi_call (toTensor_d (t := c) h_c.up) ?_ ?_ ?_; (focus (simp only [go_sem, seval, reduceCtorEq]; done)); (first | rfl | (focus (simp only [go_sem]; done))))
  simp only [go_sem, seval, reduceCtorEq]
  (refine gi_call (toIntS_d (xs := ks) h_ks.up.len) ?_ ?_ ?_; (focus (simp only [go_sem, seval, reduceCtorEq]; done)); (first | rfl | (focus (simp only [go_sem]; done))))
  simp only [go_sem, seval, reduceCtorEq]
  (refine gi_call (sContractPair_d z_ka z_pa z_na h_b h_c h_ks) ?_ ?_ ?_; (focus (simp only [go_sem, seval, reduceCtorEq]; done)); (first | rfl | (focus (simp only [go_sem]; done))))
  simp only [go_sem, seval, reduceCtorEq]
  (refine ti_call (toTensor_d (t := b) h_b.up) ?_ ?_ ?_; (focus (simp only [go_sem, seval, reduceCtorEq]; done)); (first | rfl | (focus (simp only [go_sem]; done))))
  simp only [go_sem, seval, reduceCtorEq]
  (refine ti_call (toTensor_d (t := c) h_c.up) ?_ ?_ ?_; (focus (simp only [go_sem, seval, reduceCtorEq]; done)); (first | rfl | (focus (simp only [go_sem]; done))))
  simp only [go_sem, seval, reduceCtorEq]
  (refine ti_call (toIntS_d (xs := ks) h_ks.up.len) ?_ ?_ ?_; (focus (simp only [go_sem, seval, reduceCtorEq]; done)); (first | rfl | (focus (simp only [go_sem]; done))))
  simp only [go_sem, seval, reduceCtorEq]
  (refine gi_call (toRing_d ka pa na) ?_ ?_ ?_; (focus (simp only [go_sem, seval, reduceCtorEq]; done)); (first | rfl | (focus (simp only [go_sem]; done))))
  simp only [go_sem, seval, reduceCtorEq]
  (refine gi_call (iContractPair_d z_ka z_pa z_na h_b h_c h_ks) ?_ ?_ ?_; (focus (simp only [go_sem, seval, reduceCtorEq]; done)); (first | rfl | (focus (simp only [go_sem]; done))))
  simp only [go_sem, seval, reduceCtorEq]
  (refine ti_call (eqTensor_d (t := conT ⟨ka, pa, na⟩ b c ks) (u := conT ⟨ka, pa, na⟩ b c ks) r0.up) ?_ ?_ ?_; (focus (simp only [go_sem, seval, reduceCtorEq]; done)); (first | rfl | (focus (simp only [go_sem]; done))))
  simp only [go_sem, seval, reduceCtorEq, eqTb_self]
  (refine gi_call (toTensor_d (t := b) h_b.up) ?_ ?_ ?_; (focus (simp only [go_sem, seval, reduceCtorEq]; done)); (first | rfl | (focus (simp only [go_sem]; done))))
  simp only [go_sem, seval, reduceCtorEq]
  (refine ti_call (eqTensor_d (t := b) (u := b) h_b.up) ?_ ?_ ?_; (focus (simp only [go_sem, seval, reduceCtorEq]; done)); (first | rfl | (focus (simp only [go_sem]; done))))
  simp only [go_sem, seval, reduceCtorEq, eqTb_self]
  (refine gi_call (toTensor_d (t := c) h_c.up) ?_ ?_ ?_; (focus (simp only [go_sem, seval, reduceCtorEq]; done)); (first | rfl | (focus (simp only [go_sem]; done))))
  simp only [go_sem, seval, reduceCtorEq]
  (refine ti_call (eqTensor_d (t := c) (u := c) h_c.up) ?_ ?_ ?_; (focus (simp only [go_sem, seval, reduceCtorEq]; done)); (first | rfl | (focus (simp only [go_sem]; done))))
  simp only [go_sem, seval, reduceCtorEq, eqTb_self]
  (refine ti_call (toIntS_d (xs := ks) h_ks.up.len) ?_ ?_ ?_; (focus (simp only [go_sem, seval, reduceCtorEq]; done)); (first | rfl | (focus (simp only [go_sem]; done))))
  simp only [go_sem, seval, reduceCtorEq]
  (refine ti_call (eqIntS_d (xs := ks) (ys := ks) h_ks.up.len) ?_ ?_ ?_; (focus (simp only [go_sem, seval, reduceCtorEq]; done)); (first | rfl | (focus (simp only [go_sem]; done))))
  simp only [go_sem, seval, reduceCtorEq]
  (refine ti_callw [14, 15, 16] false (markTensor_d (t := b) (m := 1) h_b (by omega)) (of_decide_eq_true rfl) ?_ ?_ ?_ ?_ (of_decide_eq_true rfl) ?_; (focus (simp only [go_sem, seval, reduceCtorEq]; done)); (focus (simp only [go_sem, seval, reduceCtorEq]; done)); (focus (simp only [go_sem, seval, reduceCtorEq]; done)); (focus (simp only [go_sem, seval, reduceCtorEq]; done)))
  have n3 : ¬ ((1 + (b).labels.length + (b).dims.length + (b).data.length : Int) < 0) := by omega
  simp only [go_sem, seval, reduceCtorEq, heldR_mark, eqTb_self, n3]
  (refine ti_callw [18, 19, 20] false (markTensor_d (t := c) (m := 1 + (b).labels.length + (b).dims.length + (b).data.length) h_c (by omega)) (of_decide_eq_true rfl) ?_ ?_ ?_ ?_ (of_decide_eq_true rfl) ?_; (focus (simp only [go_sem, seval, reduceCtorEq]; done)); (focus (simp only [go_sem, seval, reduceCtorEq]; done)); (focus (simp only [go_sem, seval, reduceCtorEq]; done)); (focus (simp only [go_sem, seval, reduceCtorEq]; done)))
  have n4 : ¬ ((1 + (b).labels.length + (b).dims.length + (b).data.length + (c).labels.length + (c).dims.length + (c).data.length : Int) < 0) := by omega
  simp only [go_sem, seval, reduceCtorEq, heldR_mark, eqTb_self, n4]
  (refine ti_callw [22] false (markIntS_d (xs := ks) (m := 1 + (b).labels.length + (b).dims.length + (b).data.length + (c).labels.length + (c).dims.length + (c).data.length) h_ks.up.len (by omega)) (of_decide_eq_true rfl) ?_ ?_ ?_ ?_ (of_decide_eq_true rfl) ?_; (focus (simp only [go_sem, seval, reduceCtorEq]; done)); (focus (simp only [go_sem, seval, reduceCtorEq]; done)); (focus (simp only [go_sem, seval, reduceCtorEq]; done)); (focus (simp only [go_sem, seval, reduceCtorEq]; done)))
  have n5 : ¬ ((1 + (b).labels.length + (b).dims.length + (b).data.length + (c).labels.length + (c).dims.length + (c).data.length + (ks).length : Int) < 0) := by omega
  simp only [go_sem, seval, reduceCtorEq, heldR_mark, eqTb_self, n5]
  (refine ti_call (eqTensor_d (t := conT ⟨ka, pa, na⟩ b c ks) (u := conT ⟨ka, pa, na⟩ b c ks) r0.up) ?_ ?_ ?_; (focus (simp only [go_sem, seval, reduceCtorEq]; done)); (first | rfl | (focus (simp only [go_sem]; done))))
  simp only [go_sem, seval, reduceCtorEq, eqTb_self]
  (refine ti_callw [23, 24, 25] false (markTensor_d (t := conT ⟨ka, pa, na⟩ b c ks) (m := 1) r0 (by omega)) (of_decide_eq_true rfl) ?_ ?_ ?_ ?_ (of_decide_eq_true rfl) ?_; (focus (simp only [go_sem, seval, reduceCtorEq]; done)); (focus (simp only [go_sem, seval, reduceCtorEq]; done)); (focus (simp only [go_sem, seval, reduceCtorEq]; done)); (focus (simp only [go_sem, seval, reduceCtorEq]; done)))
  have n6 : ¬ ((1 + (conT ⟨ka, pa, na⟩ b c ks).labels.length + (conT ⟨ka, pa, na⟩ b c ks).dims.length + (conT ⟨ka, pa, na⟩ b c ks).data.length : Int) < 0) := by omega
  simp only [go_sem, seval, reduceCtorEq, heldR_mark, eqTb_self, n6]
  (refine ti_call (heldTensor_d (t := conT ⟨ka, pa, na⟩ b c ks) (m := 1) r0 (by omega)) ?_ ?_ ?_; (focus (simp only [go_sem, seval, reduceCtorEq]; done)); (first | rfl | (focus (simp only [go_sem]; done))))
  have n7 : ¬ ((1 + (conT ⟨ka, pa, na⟩ b c ks).labels.length + (conT ⟨ka, pa, na⟩ b c ks).dims.length + (conT ⟨ka, pa, na⟩ b c ks).data.length : Int) < 0) := by omega
  simp only [go_sem, seval, reduceCtorEq, heldR_mark, eqTb_self, n7]
  (refine gi_call (toRing_d ka pa na) ?_ ?_ ?_; (focus (simp only [go_sem, seval, reduceCtorEq]; done)); (first | rfl | (focus (simp only [go_sem]; done))))
  simp only [go_sem, seval, reduceCtorEq]
  (refine gi_call (toTensor_d (t := b) h_b.up) ?_ ?_ ?_; (focus (simp only [go_sem, seval, reduceCtorEq]; done)); (first | rfl | (focus (simp only [go_sem]; done))))
  simp only [go_sem, seval, reduceCtorEq]
  (refine gi_call (toTensor_d (t := c) h_c.up) ?_ ?_ ?_; (focus (simp only [go_sem, seval, reduceCtorEq]; done)); (first | rfl | (focus (simp only [go_sem]; done))))
  simp only [go_sem, seval, reduceCtorEq]
  (refine gi_call (toIntS_d (xs := ks) h_ks.up.len) ?_ ?_ ?_; (focus (simp only [go_sem, seval, reduceCtorEq]; done)); (first | rfl | (focus (simp only [go_sem]; done))))
  simp only [go_sem, seval, reduceCtorEq]
  (refine gi_call (iContractPair_d z_ka z_pa z_na h_b h_c h_ks) ?_ ?_ ?_; (focus (simp only [go_sem, seval, reduceCtorEq]; done)); (first | rfl | (focus (simp only [go_sem]; done))))
  simp only [go_sem, seval, reduceCtorEq]
  (refine ti_call (eqTensor_d (t := conT ⟨ka, pa, na⟩ b c ks) (u := conT ⟨ka, pa, na⟩ b c ks) r0.up) ?_ ?_ ?_; (focus (simp only [go_sem, seval, reduceCtorEq]; done)); (first | rfl | (focus (simp only [go_sem]; done))))
  simp only [go_sem, seval, reduceCtorEq, eqTb_self]
  (refine ti_call (heldTensor_d (t := conT ⟨ka, pa, na⟩ b c ks) (m := 1) r0 (by omega)) ?_ ?_ ?_; (focus (simp only [go_sem, seval, reduceCtorEq]; done)); (first | rfl | (focus (simp only [go_sem]; done))))
  have n8 : ¬ ((1 + (conT ⟨ka, pa, na⟩ b c ks).labels.length + (conT ⟨ka, pa, na⟩ b c ks).dims.length + (conT ⟨ka, pa, na⟩ b c ks).data.length : Int) < 0) := by omega
  simp only [go_sem, seval, reduceCtorEq, heldR_mark, eqTb_self, n8]
  (refine FnEnd.mk (Nat.le_of_ble_eq_true rfl) rfl (of_decide_eq_true rfl) ?_ ?_ <;> try simp only [go_sem, seval, reduceCtorEq])
theorem law_ContractPair (W : World) {ka pa na : Int} {A10 : Option Addr} {n10 c10 : Nat} {A11 : Option Addr} {n11 c11 : Nat} {A12 : Option Addr} {n12 c12 : Nat} {b : Ten} {A20 : Option Addr} {n20 c20 : Nat} {A21 : Option Addr} {n21 c21 : Nat} {A22 : Option Addr} {n22 c22 : Nat} {c : Ten} {A3 : Option Addr} {n3 c3 : Nat} {ks : List Int} (wa0 : I64 ka) (wb0 : I64 pa) (wc0 : I64 na) (w1 : TnIn W A10 n10 c10 A11 n11 c11 A12 n12 c12 b) (w2 : TnIn W A20 n20 c20 A21 n21 c21 A22 n22 c22 c) (w3 : SlIn W A3 n3 c3 ks) :
    Calls Try.prog 13 #[.agg #[.int .i64 ka, .int .i64 pa, .int .i64 na], .agg #[.slice A10 n10 c10, .slice A11 n11 c11, .slice A12 n12 c12], .agg #[.slice A20 n20 c20, .slice A21 n21 c21, .slice A22 n22 c22], .slice A3 n3 c3] W (RetV W (.bool true)) := by
  refine Does.calls (lawContractPair_d wa0 wb0 wc0 w1.tsz w2.tsz w3.size) W [_, _, _, _] ?_
  simp only [RelL]
  exact ⟨_, _, rfl, ring_rel ka pa na, _, _, rfl, rel_TnIn w1, _, _, rfl, rel_TnIn w2, _, _, rfl, rel_SlIn w3, rfl⟩
end Go.Proofs.Ytcgnehacihjnkaa
