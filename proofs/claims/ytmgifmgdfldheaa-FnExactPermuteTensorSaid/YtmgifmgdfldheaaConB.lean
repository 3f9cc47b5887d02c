/-
  Contracts: comparing and marking tensors, an element of a tensor. No condition.
-/
import Derived.Test.YtmgifmgdfldheaaConA
namespace Go.Proofs.Ytmgifmgdfldheaa
open Go.RowKit Go.Lift Plain
set_option linter.unusedSimpArgs false
set_option linter.unusedVariables false

def eqTb (t u : Ten) : Bool := decide (t.labels = u.labels) && decide (t.dims = u.dims) && decide (t.data = u.data)
theorem eqTb_self (t : Ten) : eqTb t t = true := by simp [eqTb]
theorem eqTensor_d {t u : Ten} (h : TSz 1099511627776 t) : Does Try.prog 19 [tenA t, tenA u] [] (.d (.bool (eqTb t u))) [] := by
  refine spec_of (by kernel_rfl) Try.func19 k_laws_eqTensor (fnOk (Nat.le_of_ble_eq_true rfl) ?_)
  unfold C_laws_eqTensor
  simp only [go_sem, seval, List.replicate]
  (refine ti_call (eqIntS_d (ys := u.labels) h.l.len) ?_ ?_ ?_; (focus (simp only [go_sem, seval, reduceCtorEq]; done)); (first | rfl | (focus (simp only [go_sem]; done))))
  by_cases e1 : t.labels = u.labels
  · simp only [go_sem, seval, e1, decide_true]
    (refine ti_call (eqIntS_d (ys := u.dims) h.d.len) ?_ ?_ ?_; (focus (simp only [go_sem, seval, reduceCtorEq]; done)); (first | rfl | (focus (simp only [go_sem]; done))))
    by_cases e2 : t.dims = u.dims
    · simp only [go_sem, seval, e2, decide_true]
      (refine ti_call (eqIntS_d (ys := u.data) h.x.len) ?_ ?_ ?_; (focus (simp only [go_sem, seval, reduceCtorEq]; done)); (first | rfl | (focus (simp only [go_sem]; done))))
      by_cases e3 : t.data = u.data
      · have e : eqTb t u = true := by simp [eqTb, e1, e2, e3]
        rw [e]
        simp only [go_sem, seval, e3, decide_true]
        (refine FnEnd.mk (Nat.le_of_ble_eq_true rfl) rfl (of_decide_eq_true rfl) ?_ ?_ <;> try simp only [go_sem, seval, reduceCtorEq])
      · have e : eqTb t u = false := by simp [eqTb, e3]
        rw [e]
        simp only [go_sem, seval, e3, decide_false]
        (refine FnEnd.mk (Nat.le_of_ble_eq_true rfl) rfl (of_decide_eq_true rfl) ?_ ?_ <;> try simp only [go_sem, seval, reduceCtorEq])
    · have e : eqTb t u = false := by simp [eqTb, e2]
      rw [e]
      simp only [go_sem, seval, e2, decide_false]
      (refine FnEnd.mk (Nat.le_of_ble_eq_true rfl) rfl (of_decide_eq_true rfl) ?_ ?_ <;> try simp only [go_sem, seval, reduceCtorEq])
  · have e : eqTb t u = false := by simp [eqTb, e1]
    rw [e]
    simp only [go_sem, seval, e1, decide_false]
    (refine FnEnd.mk (Nat.le_of_ble_eq_true rfl) rfl (of_decide_eq_true rfl) ?_ ?_ <;> try simp only [go_sem, seval, reduceCtorEq])
theorem markTensor_d {t : Ten} {m : Int} (h : TSz 1048576 t) (h0 : 0 ≤ m ∧ m ≤ 1048576) : Does Try.prog 26 [ownT 0 t, .d (.int m)] (stoF t) (.d (.int (m + t.labels.length + t.dims.length + t.data.length))) (stoF (markT t m)) := by
  have h1 := h.l.len
  have h2 := h.d.len
  have h3 := h.x.len
  refine spec_of (by kernel_rfl) Try.func26 k_laws_markTensor (fnOk (Nat.le_of_ble_eq_true rfl) ?_)
  unfold C_laws_markTensor ownT stoF
  simp only [go_sem, seval, List.replicate]
  (refine ti_callw [0] false (markIntS_d (xs := t.labels) (m := m) (by omega) (by omega)) (of_decide_eq_true rfl) ?_ ?_ ?_ ?_ (of_decide_eq_true rfl) ?_; (focus (simp only [go_sem, seval, reduceCtorEq]; done)); (focus (simp only [go_sem, seval, reduceCtorEq]; done)); (focus (simp only [go_sem, seval, reduceCtorEq]; done)); (focus (simp only [go_sem, seval, reduceCtorEq]; done)))
  simp only [go_sem, seval]
  (refine ti_callw [1] false (markIntS_d (xs := t.dims) (m := m + t.labels.length) (by omega) (by omega)) (of_decide_eq_true rfl) ?_ ?_ ?_ ?_ (of_decide_eq_true rfl) ?_; (focus (simp only [go_sem, seval, reduceCtorEq]; done)); (focus (simp only [go_sem, seval, reduceCtorEq]; done)); (focus (simp only [go_sem, seval, reduceCtorEq]; done)); (focus (simp only [go_sem, seval, reduceCtorEq]; done)))
  simp only [go_sem, seval]
  (refine ti_callw [2] false (markIntS_d (xs := t.data) (m := m + t.labels.length + t.dims.length) (by omega) (by omega)) (of_decide_eq_true rfl) ?_ ?_ ?_ ?_ (of_decide_eq_true rfl) ?_; (focus (simp only [go_sem, seval, reduceCtorEq]; done)); (focus (simp only [go_sem, seval, reduceCtorEq]; done)); (focus (simp only [go_sem, seval, reduceCtorEq]; done)); (focus (simp only [go_sem, seval, reduceCtorEq]; done)))
  simp only [go_sem, seval]
  (refine FnEnd.mk (Nat.le_of_ble_eq_true rfl) rfl (of_decide_eq_true rfl) ?_ ?_ <;> try simp only [go_sem, seval, reduceCtorEq])

theorem copyInts_d {xs : List Int} (h : xs.length ≤ 1099511627776) : Does Try.prog 69 [.d (ints xs)] [] (.own 0 0 xs.length) [some ⟨1, true, iv xs⟩] := by
  refine spec_of (by kernel_rfl) Try.func69 k_impl_copyInts (fnOk (Nat.le_of_ble_eq_true rfl) ?_)
  unfold C_impl_copyInts ints
  simp only [go_sem, seval, iv_len, List.replicate]
  refine ⟨by omega, ?_⟩
  (refine FnEnd.mk (Nat.le_of_ble_eq_true rfl) rfl (of_decide_eq_true rfl) ?_ ?_ <;> try simp only [go_sem, seval, reduceCtorEq])
theorem cut_len {x wd : Nat} {l : List Int} (hx : x * wd + wd ≤ l.length) : ((l.drop (x * wd)).take wd).length = wd := by simp; omega
theorem rawElem_d {x wd : Nat} {kk pp nn : Int} {t : Ten} (hw : width ⟨kk, pp, nn⟩ = (wd : Int)) (h1 : wd ≤ 6) (hx : x * wd + wd ≤ t.data.length) (hx2 : x ≤ 1099511627776) (h : t.data.length ≤ 1099511627776) :
    Does Try.prog 70 [ringA kk pp nn, tenA t, .d (.int x)] [] (.d (ints ((t.data.drop (x * wd)).take wd))) [] := by
  refine spec_of (by kernel_rfl) Try.func70 k_impl_rawElem (fnOk (Nat.le_of_ble_eq_true rfl) ?_)
  unfold C_impl_rawElem
  simp only [go_sem, seval, iv_len, List.replicate]
  (refine ti_call (rawWidth_d kk pp nn) ?_ ?_ ?_; (focus (simp only [go_sem, seval, reduceCtorEq]; done)); (first | rfl | (focus (simp only [go_sem]; done))))
  have e1 : (x : Int) * wd = (x * wd : Nat) := by push_cast; rfl
  have e2 : ((x : Int) + 1) * wd = (x * wd + wd : Nat) := by push_cast; rw [Int.add_mul, Int.one_mul]
  have e3 : (((x * wd + wd : Nat) : Int) - (x * wd : Nat)).toNat = wd := by omega
  simp (disch := omega) only [go_sem, seval, iv_len, hw, e1, e2, e3]
  refine ⟨⟨by omega, by omega⟩, ?_⟩
  refine FnEnd.mk (Nat.le_of_ble_eq_true rfl) rfl (of_decide_eq_true rfl) ?_ rfl
  simp only [go_sem, seval, reduceCtorEq, cut_len hx]
theorem l05Get_d {x wd : Nat} {kk pp nn : Int} {t : Ten} (hw : width ⟨kk, pp, nn⟩ = (wd : Int)) (h1 : wd ≤ 6) (hx : x * wd + wd ≤ t.data.length) (hx2 : x ≤ 1099511627776) (h : t.data.length ≤ 1099511627776) :
    Does Try.prog 68 [ringA kk pp nn, tenA t, .d (.int x)] [] (.own 0 0 wd) [some ⟨1, true, iv ((t.data.drop (x * wd)).take wd)⟩] := by
  refine spec_of (by kernel_rfl) Try.func68 k_spec_l05Get (fnOk (Nat.le_of_ble_eq_true rfl) ?_)
  unfold C_spec_l05Get
  simp only [go_sem, seval, iv_len, List.replicate]
  (refine ti_call (l02Width_d kk pp nn) ?_ ?_ ?_; (focus (simp only [go_sem, seval, reduceCtorEq]; done)); (first | rfl | (focus (simp only [go_sem]; done))))
  have e1 : (x : Int) * wd = (x * wd : Nat) := by push_cast; rfl
  have e2 : ((x * wd : Nat) : Int) + wd = (x * wd + wd : Nat) := by push_cast; rfl
  have e3 : (((x * wd + wd : Nat) : Int) - (x * wd : Nat)).toNat = wd := by omega
  simp (disch := omega) only [go_sem, seval, iv_len, hw, e1, e2, e3, cut_len hx]
  refine ⟨by omega, by omega, ?_⟩
  (refine FnEnd.mk (Nat.le_of_ble_eq_true rfl) rfl (of_decide_eq_true rfl) ?_ ?_ <;> try simp only [go_sem, seval, reduceCtorEq])
  rw [List.take_take, Nat.min_self]
theorem tensorOk_facts {r : Rg} {ls ds xs : List Int} (h : tensorOk r ls ds xs = true) : ringOk r = true ∧ axOk ls ds ∧ prodI ds ≤ 4096 ∧ 1 ≤ prodI ds ∧ tsize ls ds = prodI ds ∧ (xs.length : Int) = prodI ds * width r := by
  simp only [tensorOk, Bool.and_eq_true, decide_eq_true_eq] at h
  obtain ⟨⟨h1, h2, h3⟩, h4⟩ := h
  rcases tsize_cases ls ds with h5 | ⟨h5, h6, h7, h8⟩
  · exact absurd h5 h2
  · exact ⟨h1, h5, h6, h8, h7, by rw [h3, h7]⟩
def elemAt (r : Rg) (t : Ten) (is : List Int) : List Int :=
  if tensorOk r t.labels t.dims t.data = true ∧ idxB t.dims is = true then (t.data.drop ((offs t.dims is).toNat * (width r).toNat)).take (width r).toNat else []
/-- The numbers of an element that is there. -/
theorem elem_facts {r : Rg} {t : Ten} {is : List Int} (h : tensorOk r t.labels t.dims t.data = true) (hi : idxB t.dims is = true) : ∃ x wd : Nat, offs t.dims is = x ∧ width r = wd ∧ 1 ≤ wd ∧ wd ≤ 6 ∧ x ≤ 4096 ∧ x * wd + wd ≤ t.data.length ∧
    elemAt r t is = (t.data.drop (x * wd)).take wd ∧ (elemAt r t is).length = wd := by
  obtain ⟨h1, h2, h3, h4, h5, h6⟩ := tensorOk_facts h
  have hb := offs_bd t.labels t.dims is h2 (by simpa [idxB] using hi)
  have hw := width_bd h1
  have hx : (offs t.dims is).toNat * (width r).toNat + (width r).toNat ≤ t.data.length := by
    have : ((offs t.dims is).toNat : Int) + 1 ≤ prodI t.dims := by omega
    have h7 := Int.mul_le_mul_of_nonneg_right this (show 0 ≤ width r by omega)
    rw [Int.add_mul, Int.one_mul, ← h6] at h7
    have h8 : ((offs t.dims is).toNat * (width r).toNat + (width r).toNat : Nat) = ((offs t.dims is).toNat : Int) * width r + width r := by
      push_cast
      rw [Int.toNat_of_nonneg (show 0 ≤ width r by omega)]
    omega
  have he : elemAt r t is = (t.data.drop ((offs t.dims is).toNat * (width r).toNat)).take (width r).toNat := if_pos ⟨h, hi⟩
  exact ⟨(offs t.dims is).toNat, (width r).toNat, by omega, by omega, by omega, by omega, by omega, hx, he, by rw [he]; exact cut_len hx⟩
theorem iElemAt_d {kk pp nn : Int} {t : Ten} {is : List Int} (a : I64 kk) (b : I64 pp) (c : I64 nn) (h : TSz 1099511627776 t) (hi : Sz 1099511627776 is) :
    Does Try.prog 35 [ringA kk pp nn, tenA t, .d (ints is)] [] (.own 0 0 (elemAt ⟨kk, pp, nn⟩ t is).length) [some ⟨1, true, iv (elemAt ⟨kk, pp, nn⟩ t is)⟩] := by
  by_cases h1 : tensorOk ⟨kk, pp, nn⟩ t.labels t.dims t.data = true
  · by_cases h2 : idxB t.dims is = true
    · obtain ⟨x, wd, e1, e2, e3, e4, e5, e6, e7, e8⟩ := elem_facts h1 h2
      obtain ⟨f1, f2, f3, f4, f5, f6⟩ := tensorOk_facts h1
      refine spec_of (by kernel_rfl) Try.func35 k_impl_ElemAt (fnOk (Nat.le_of_ble_eq_true rfl) ?_)
      unfold C_impl_ElemAt
      simp only [go_sem, seval, List.replicate]
      (refine ti_call (iTensorOk_d a b c h) ?_ ?_ ?_; (focus (simp only [go_sem, seval, reduceCtorEq]; done)); (first | rfl | (focus (simp only [go_sem]; done))))
      simp only [go_sem, seval, h1]
      (refine ti_call (indexOk_d h.d hi) ?_ ?_ ?_; (focus (simp only [go_sem, seval, reduceCtorEq]; done)); (first | rfl | (focus (simp only [go_sem]; done))))
      simp only [go_sem, seval, h1, h2]
      (refine gi_call (offsetIn_d h.d hi (by simpa [idxB] using h2) f2.dim f3) ?_ ?_ ?_; (focus (simp only [go_sem, seval, reduceCtorEq]; done)); (first | rfl | (focus (simp only [go_sem]; done))))
      simp only [go_sem, seval, h1, h2, e1]
      (refine ti_call (rawElem_d (kk := kk) (pp := pp) (nn := nn) (t := t) (x := x) e2 e4 e6 (by omega) h.x.len) ?_ ?_ ?_; (focus (simp only [go_sem, seval, reduceCtorEq]; done)); (first | rfl | (focus (simp only [go_sem]; done))))
      simp only [go_sem, seval, ← e7]
      (refine ti_call (copyInts_d (xs := elemAt ⟨kk, pp, nn⟩ t is) (by omega)) ?_ ?_ ?_; (focus (simp only [go_sem, seval, reduceCtorEq]; done)); (first | rfl | (focus (simp only [go_sem]; done))))
      simp only [go_sem, seval]
      (refine FnEnd.mk (Nat.le_of_ble_eq_true rfl) rfl (of_decide_eq_true rfl) ?_ ?_ <;> try simp only [go_sem, seval, reduceCtorEq])
    · rw [show elemAt ⟨kk, pp, nn⟩ t is = [] from if_neg fun h => h2 h.2]
      refine Does.nil_own 1 true (spec_of (by kernel_rfl) Try.func35 k_impl_ElemAt (fnOk (Nat.le_of_ble_eq_true rfl) ?_))
      unfold C_impl_ElemAt
      simp only [go_sem, seval, List.replicate]
      (refine ti_call (iTensorOk_d a b c h) ?_ ?_ ?_; (focus (simp only [go_sem, seval, reduceCtorEq]; done)); (first | rfl | (focus (simp only [go_sem]; done))))
      simp only [go_sem, seval, h1]
      (refine ti_call (indexOk_d h.d hi) ?_ ?_ ?_; (focus (simp only [go_sem, seval, reduceCtorEq]; done)); (first | rfl | (focus (simp only [go_sem]; done))))
      simp only [go_sem, seval, h1, h2]
      (refine FnEnd.mk (Nat.le_of_ble_eq_true rfl) rfl (of_decide_eq_true rfl) ?_ ?_ <;> try simp only [go_sem, seval, reduceCtorEq])
  · rw [show elemAt ⟨kk, pp, nn⟩ t is = [] from if_neg fun h => h1 h.1]
    refine Does.nil_own 1 true (spec_of (by kernel_rfl) Try.func35 k_impl_ElemAt (fnOk (Nat.le_of_ble_eq_true rfl) ?_))
    unfold C_impl_ElemAt
    simp only [go_sem, seval, List.replicate]
    (refine ti_call (iTensorOk_d a b c h) ?_ ?_ ?_; (focus (simp only [go_sem, seval, reduceCtorEq]; done)); (first | rfl | (focus (simp only [go_sem]; done))))
    simp only [go_sem, seval, h1]
    (refine FnEnd.mk (Nat.le_of_ble_eq_true rfl) rfl (of_decide_eq_true rfl) ?_ ?_ <;> try simp only [go_sem, seval, reduceCtorEq])
theorem sElemAt_d {kk pp nn : Int} {t : Ten} {is : List Int} (a : I64 kk) (b : I64 pp) (c : I64 nn) (h : TSz 1099511627776 t) (hi : Sz 1099511627776 is) :
    Does Try.prog 34 [ringA kk pp nn, tenA t, .d (ints is)] [] (.own 0 0 (elemAt ⟨kk, pp, nn⟩ t is).length) [some ⟨1, true, iv (elemAt ⟨kk, pp, nn⟩ t is)⟩] := by
  by_cases h0 : offsetOf t.labels t.dims is < 0
  · have e0 : elemAt ⟨kk, pp, nn⟩ t is = [] := if_neg fun ⟨h1, h2⟩ => by
      obtain ⟨f1, f2, f3, f4, f5, f6⟩ := tensorOk_facts h1
      have h2' : idxOk t.dims is := by simpa [idxB] using h2
      have := offs_bd t.labels t.dims is f2 h2'
      rw [offsetOf, if_pos ⟨by omega, h2'⟩] at h0
      omega
    rw [e0]
    refine Does.nil_own 1 true (spec_of (by kernel_rfl) Try.func34 k_spec_ElemAt (fnOk (Nat.le_of_ble_eq_true rfl) ?_))
    unfold C_spec_ElemAt
    simp only [go_sem, seval, List.replicate]
    (refine ti_call (sOffsetOf_d h hi) ?_ ?_ ?_; (focus (simp only [go_sem, seval, reduceCtorEq]; done)); (first | rfl | (focus (simp only [go_sem]; done))))
    simp only [go_sem, seval, h0]
    (refine FnEnd.mk (Nat.le_of_ble_eq_true rfl) rfl (of_decide_eq_true rfl) ?_ ?_ <;> try simp only [go_sem, seval, reduceCtorEq])
  · by_cases h1 : tensorOk ⟨kk, pp, nn⟩ t.labels t.dims t.data = true
    · have h2 : idxB t.dims is = true := by
        by_cases h2 : idxOk t.dims is
        · exact decide_eq_true h2
        · rw [offsetOf, if_neg (fun h => h2 h.2)] at h0
          omega
      have h2' : idxOk t.dims is := by simpa [idxB] using h2
      obtain ⟨x, wd, e1, e2, e3, e4, e5, e6, e7, e8⟩ := elem_facts h1 h2
      obtain ⟨f1, f2, f3, f4, f5, f6⟩ := tensorOk_facts h1
      have e0 : offsetOf t.labels t.dims is = x := by rw [offsetOf, if_pos ⟨by omega, h2'⟩, e1]
      have h0' : ¬ (x : Int) < 0 := by omega
      refine spec_of (by kernel_rfl) Try.func34 k_spec_ElemAt (fnOk (Nat.le_of_ble_eq_true rfl) ?_)
      unfold C_spec_ElemAt
      simp only [go_sem, seval, List.replicate]
      (refine ti_call (sOffsetOf_d h hi) ?_ ?_ ?_; (focus (simp only [go_sem, seval, reduceCtorEq]; done)); (first | rfl | (focus (simp only [go_sem]; done))))
      simp only [go_sem, seval, e0, h0', decide_false]
      (refine ti_call (sTensorOk_d a b c h) ?_ ?_ ?_; (focus (simp only [go_sem, seval, reduceCtorEq]; done)); (first | rfl | (focus (simp only [go_sem]; done))))
      simp only [go_sem, seval, h1]
      (refine ti_call (l05Get_d (kk := kk) (pp := pp) (nn := nn) (t := t) (x := x) e2 e4 e6 (by omega) h.x.len) ?_ ?_ ?_; (focus (simp only [go_sem, seval, reduceCtorEq]; done)); (first | rfl | (focus (simp only [go_sem]; done))))
      simp only [go_sem, seval, ← e7, e8]
      (refine FnEnd.mk (Nat.le_of_ble_eq_true rfl) rfl (of_decide_eq_true rfl) ?_ ?_ <;> try simp only [go_sem, seval, reduceCtorEq])
    · rw [show elemAt ⟨kk, pp, nn⟩ t is = [] from if_neg fun h => h1 h.1]
      refine Does.nil_own 1 true (spec_of (by kernel_rfl) Try.func34 k_spec_ElemAt (fnOk (Nat.le_of_ble_eq_true rfl) ?_))
      unfold C_spec_ElemAt
      simp only [go_sem, seval, List.replicate]
      (refine ti_call (sOffsetOf_d h hi) ?_ ?_ ?_; (focus (simp only [go_sem, seval, reduceCtorEq]; done)); (first | rfl | (focus (simp only [go_sem]; done))))
      simp only [go_sem, seval, h0, decide_false]
      (refine ti_call (sTensorOk_d a b c h) ?_ ?_ ?_; (focus (simp only [go_sem, seval, reduceCtorEq]; done)); (first | rfl | (focus (simp only [go_sem]; done))))
      simp only [go_sem, seval, h1]
      (refine FnEnd.mk (Nat.le_of_ble_eq_true rfl) rfl (of_decide_eq_true rfl) ?_ ?_ <;> try simp only [go_sem, seval, reduceCtorEq])
end Go.Proofs.Ytmgifmgdfldheaa
