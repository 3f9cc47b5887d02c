/-
  Contracts of the helpers of the laws: copies, sizes, comparisons, marks. No condition.
-/
import Derived.Test.YtodlbhjnmdhjiaaDoorCodeR
import Derived.Test.YtodlbhjnmdhjiaaDoorLift29
import Derived.Test.YtodlbhjnmdhjiaaDoorPlA
namespace Go.Proofs.YtodlbhjnmdhjiaaDoor
open Go.RowKit Go.Lift Plain
set_option linter.unusedSimpArgs false
set_option linter.unusedVariables false

theorem toIntS_d {xs : List Int} (h : xs.length ≤ 1099511627776) : Does Tryd.prog 17 [.d (ints xs)] [] (.own 0 0 xs.length) [some ⟨1, true, iv xs⟩] := by
  (refine spec_of (by kernel_rfl) Tryd.func17 k_laws_toIntS (fnOk (Nat.le_of_ble_eq_true rfl) ?_); unfold C_laws_toIntS)
  simp (disch := omega) only [go_sem, seval, reduceCtorEq, List.replicate]
  refine ⟨by omega, ?_⟩
  refine wpN_upto xs.length (fun k => (ch (.d (ints xs)) (.any) (.nil) (.own 0 0 xs.length) (.d (.int k)) (.any) (.any) (.any) (.any) (.any) (.any) (.any) (.any) (.any) (.any) (.any) [.any, .any, .any, .any, .any, .any])) (fun k => [some ⟨1, true, iv (mix xs (List.replicate xs.length 0) k)⟩]) (Wk.kept' [0, 2, 3, 4] 1 (Nat.zero_le _) rfl (by simp only [go_sem, seval, reduceCtorEq, mix_zero])) fun k hk => ?_
  unfold L0_laws_toIntS
  by_cases hlt : k < xs.length
  · have h1 : (k : Int) < xs.length := by omega
    have hx : xs[k]? = some xs[k] := List.getElem?_eq_getElem hlt
    simp (disch := omega) only [go_sem, seval, reduceCtorEq, h1, hx]
    refine ⟨by rw [mix_len (by simp)]; omega, Next.mk hlt (Wk.kept' [0, 2, 3, 4] 1 (Nat.zero_le _) rfl ?_)⟩
    simp only [go_sem, seval, reduceCtorEq, mix_next (show xs.length = (List.replicate xs.length (0 : Int)).length by simp) hx]
  · have h1 : ¬ (k : Int) < xs.length := by omega
    simp (disch := omega) only [go_sem, seval, reduceCtorEq, h1]
    (refine FnEnd.mk (Nat.le_of_ble_eq_true rfl) rfl (of_decide_eq_true rfl) ?_ ?_ <;> try simp only [go_sem, seval, reduceCtorEq])
    rw [mix_full (by simp; omega) (by omega)]
theorem toRing_d (k p n : Int) : Does Tryd.prog 6 [ringA k p n] [] (ringA k p n) [] := by
  refine spec_of (by kernel_rfl) Tryd.func6 k_laws_toRing (fnOk (Nat.le_of_ble_eq_true rfl) ?_)
  unfold C_laws_toRing
  simp only [go_sem, seval, List.replicate]
  (refine FnEnd.mk (Nat.le_of_ble_eq_true rfl) rfl (of_decide_eq_true rfl) ?_ ?_ <;> try simp only [go_sem, seval, reduceCtorEq])
theorem toTensor_d {t : Ten} (h : TSz 1099511627776 t) : Does Tryd.prog 7 [tenA t] [] (ownT 0 t) (stoT t) := by
  refine spec_of (by kernel_rfl) Tryd.func7 k_laws_toTensor (fnOk (Nat.le_of_ble_eq_true rfl) ?_)
  unfold C_laws_toTensor
  simp only [go_sem, seval, List.replicate]
  (refine ti_call (toIntS_d h.l.len) ?_ ?_ ?_; (focus (simp only [go_sem, seval, reduceCtorEq]; done)); (first | rfl | (focus (simp only [go_sem]; done))))
  simp only [go_sem, seval]
  (refine ti_call (toIntS_d h.d.len) ?_ ?_ ?_; (focus (simp only [go_sem, seval, reduceCtorEq]; done)); (first | rfl | (focus (simp only [go_sem]; done))))
  simp only [go_sem, seval]
  (refine ti_call (toIntS_d h.x.len) ?_ ?_ ?_; (focus (simp only [go_sem, seval, reduceCtorEq]; done)); (first | rfl | (focus (simp only [go_sem]; done))))
  simp only [go_sem, seval]
  (refine FnEnd.mk (Nat.le_of_ble_eq_true rfl) rfl (of_decide_eq_true rfl) ?_ ?_ <;> try simp only [go_sem, seval, reduceCtorEq])
theorem szIntS_d {xs : List Int} {left : Int} (h : xs.length ≤ 9223372036854775807) (h0 : 0 ≤ left ∧ left ≤ 1099511627776) : Does Tryd.prog 10 [.d (ints xs), .d (.int left)] [] (.d (.int (if left < xs.length then -1 else left - xs.length))) [] := by
  refine spec_of (by kernel_rfl) Tryd.func10 k_laws_szIntS (fnOk (Nat.le_of_ble_eq_true rfl) ?_)
  unfold C_laws_szIntS ints
  by_cases hl : left < xs.length
  · have h1 : left - xs.length < 0 := by omega
    simp (disch := omega) only [go_sem, seval, List.replicate, h1, hl]
    (refine FnEnd.mk (Nat.le_of_ble_eq_true rfl) rfl (of_decide_eq_true rfl) ?_ ?_ <;> try simp only [go_sem, seval, reduceCtorEq])
  · have h1 : ¬ left - xs.length < 0 := by omega
    simp (disch := omega) only [go_sem, seval, List.replicate, h1, hl]
    (refine FnEnd.mk (Nat.le_of_ble_eq_true rfl) rfl (of_decide_eq_true rfl) ?_ ?_ <;> try simp only [go_sem, seval, reduceCtorEq])
def szTen (t : Ten) (left : Int) : Int := if left < t.labels.length + t.dims.length + t.data.length then -1 else left - (t.labels.length + t.dims.length + t.data.length)
theorem szTensor_d {t : Ten} {left : Int} (h1 : t.labels.length ≤ 9223372036854775807) (h2 : t.dims.length ≤ 9223372036854775807) (h3 : t.data.length ≤ 9223372036854775807) (h0 : 0 ≤ left ∧ left ≤ 1099511627776) :
    Does Tryd.prog 4 [tenA t, .d (.int left)] [] (.d (.int (szTen t left))) [] := by
  refine spec_of (by kernel_rfl) Tryd.func4 k_laws_szTensor (fnOk (Nat.le_of_ble_eq_true rfl) ?_)
  unfold C_laws_szTensor
  simp only [go_sem, seval, List.replicate]
  (refine ti_call (szIntS_d h1 h0) ?_ ?_ ?_; (focus (simp only [go_sem, seval, reduceCtorEq]; done)); (first | rfl | (focus (simp only [go_sem]; done))))
  by_cases a1 : left < t.labels.length
  · have e : szTen t left = -1 := by unfold szTen; rw [if_pos (by omega)]
    rw [e]
    simp only [go_sem, seval, a1, Int.reduceLT]
    (refine FnEnd.mk (Nat.le_of_ble_eq_true rfl) rfl (of_decide_eq_true rfl) ?_ ?_ <;> try simp only [go_sem, seval, reduceCtorEq])
  · have b1 : ¬ left - (t.labels.length : Int) < 0 := by omega
    simp only [go_sem, seval, a1, b1]
    (refine ti_call (szIntS_d (left := left - t.labels.length) h2 (by omega)) ?_ ?_ ?_; (focus (simp only [go_sem, seval, reduceCtorEq]; done)); (first | rfl | (focus (simp only [go_sem]; done))))
    by_cases a2 : left - t.labels.length < t.dims.length
    · have e : szTen t left = -1 := by unfold szTen; rw [if_pos (by omega)]
      rw [e]
      simp only [go_sem, seval, a2, Int.reduceLT]
      (refine FnEnd.mk (Nat.le_of_ble_eq_true rfl) rfl (of_decide_eq_true rfl) ?_ ?_ <;> try simp only [go_sem, seval, reduceCtorEq])
    · have b2 : ¬ left - (t.labels.length : Int) - t.dims.length < 0 := by omega
      simp only [go_sem, seval, a2, b2]
      (refine ti_call (szIntS_d (left := left - t.labels.length - t.dims.length) h3 (by omega)) ?_ ?_ ?_; (focus (simp only [go_sem, seval, reduceCtorEq]; done)); (first | rfl | (focus (simp only [go_sem]; done))))
      by_cases a3 : left - t.labels.length - t.dims.length < t.data.length
      · have e : szTen t left = -1 := by unfold szTen; rw [if_pos (by omega)]
        rw [e]
        simp only [go_sem, seval, a3, Int.reduceLT]
        (refine FnEnd.mk (Nat.le_of_ble_eq_true rfl) rfl (of_decide_eq_true rfl) ?_ ?_ <;> try simp only [go_sem, seval, reduceCtorEq])
      · have e : szTen t left = left - t.labels.length - t.dims.length - t.data.length := by unfold szTen; rw [if_neg (by omega)]; omega
        have b3 : ¬ left - (t.labels.length : Int) - t.dims.length - t.data.length < 0 := by omega
        rw [e]
        simp only [go_sem, seval, a3, b3]
        (refine FnEnd.mk (Nat.le_of_ble_eq_true rfl) rfl (of_decide_eq_true rfl) ?_ ?_ <;> try simp only [go_sem, seval, reduceCtorEq])
theorem eqIntS_d {xs ys : List Int} (h : xs.length ≤ 1099511627776) : Does Tryd.prog 24 [.d (ints xs), .d (ints ys)] [] (.d (.bool (decide (xs = ys)))) [] := by
  refine spec_of (by kernel_rfl) Tryd.func24 k_laws_eqIntS (fnOk (Nat.le_of_ble_eq_true rfl) ?_)
  unfold C_laws_eqIntS ints
  by_cases hl : xs.length = ys.length
  · have hl' : ((xs.length : Int) != ys.length) = false := by simp [hl]
    simp only [go_sem, seval, List.replicate, hl']
    refine wpN_uptoI xs.length (fun k => xs.take k = ys.take k) (fun k => (ch (.d (.sl xs.length (dv xs))) (.d (.sl ys.length (dv ys))) (.any) (.any) (.any) (.d (.int k)) (.any) (.any) (.any) (.any) (.any) (.any) (.any) (.any) (.any) (.any) [.any, .any, .any, .any, .any, .any, .any, .any, .any, .any])) (fun _ => []) rfl (Wk.kept' [0, 1, 5] 0 (Nat.zero_le _) rfl rfl) fun k hk hi => ?_
    unfold L0_laws_eqIntS
    by_cases hlt : k < xs.length
    · have h1 : (k : Int) < xs.length := by omega
      have h2 : (k : Int) < ys.length := by omega
      have hlt' : k < ys.length := by omega
      have hx : xs[k]? = some xs[k] := List.getElem?_eq_getElem hlt
      have hy : ys[k]? = some ys[k] := List.getElem?_eq_getElem hlt'
      by_cases he : xs[k] = ys[k]
      · have he' : (xs[k] != ys[k]) = false := by simp [he]
        simp (disch := omega) only [go_sem, seval, iv_len, h1, h2, hx, hy, he']
        refine NextI.mk hlt ?_ (Wk.kept' [0, 1, 5] 0 (Nat.zero_le _) rfl rfl)
        rw [List.take_succ_eq_append_getElem hlt, List.take_succ_eq_append_getElem hlt', hi, he]
      · have he' : (xs[k] != ys[k]) = true := by simp [he]
        have e : decide (xs = ys) = false := decide_eq_false fun e => he (by subst e; rfl)
        rw [e]
        simp (disch := omega) only [go_sem, seval, iv_len, h1, h2, hx, hy, he']
        (refine FnEnd.mk (Nat.le_of_ble_eq_true rfl) rfl (of_decide_eq_true rfl) ?_ ?_ <;> try simp only [go_sem, seval, reduceCtorEq])
    · have h1 : ¬ (k : Int) < xs.length := by omega
      have e : decide (xs = ys) = true := decide_eq_true (by rw [List.take_of_length_le (by omega), List.take_of_length_le (by omega)] at hi; exact hi)
      rw [e]
      simp (disch := omega) only [go_sem, seval, iv_len, h1]
      (refine FnEnd.mk (Nat.le_of_ble_eq_true rfl) rfl (of_decide_eq_true rfl) ?_ ?_ <;> try simp only [go_sem, seval, reduceCtorEq])
  · have hl' : ((xs.length : Int) != ys.length) = true := by simp; omega
    have e : decide (xs = ys) = false := decide_eq_false fun e => hl (by rw [e])
    rw [e]
    simp only [go_sem, seval, List.replicate, hl']
    (refine FnEnd.mk (Nat.le_of_ble_eq_true rfl) rfl (of_decide_eq_true rfl) ?_ ?_ <;> try simp only [go_sem, seval, reduceCtorEq])
end Go.Proofs.YtodlbhjnmdhjiaaDoor

/-
  Contracts: comparing and marking tensors, an element of a tensor. No condition.
-/
namespace Go.Proofs.YtodlbhjnmdhjiaaDoor
open Go.RowKit Go.Lift Plain
set_option linter.unusedSimpArgs false
set_option linter.unusedVariables false

def eqTb (t u : Ten) : Bool := decide (t.labels = u.labels) && decide (t.dims = u.dims) && decide (t.data = u.data)
theorem eqTb_self (t : Ten) : eqTb t t = true := by simp [eqTb]
theorem eqTensor_d {t u : Ten} (h : TSz 1099511627776 t) : Does Tryd.prog 9 [tenA t, tenA u] [] (.d (.bool (eqTb t u))) [] := by
  refine spec_of (by kernel_rfl) Tryd.func9 k_laws_eqTensor (fnOk (Nat.le_of_ble_eq_true rfl) ?_)
  unfold C_laws_eqTensor
  simp only [go_sem, seval, List.replicate]
  (refine ti_call (eqIntS_d (ys := u.labels) h.l.len) ?_ ?_ ?_; (focus (simp only [go_sem, seval, reduceCtorEq]; done)); (first | rfl | (focus (simp only [go_sem]; done))))
  by_cases e1 : t.labels = u.labels
  · simp only [go_sem, seval, e1, decide_true]
    (refine ti_call (eqIntS_d (ys := u.dims) h.d.len) ?_ ?_ ?_; (focus (simp only [go_sem, seval, reduceCtorEq]; done)); (first | rfl | (focus (simp only [go_sem]; done))))
    by_cases e2 : t.dims = u.dims
    · simp only [go_sem, seval, e2, decide_true]
      (refine ti_call (eqIntS_d (ys := u.data) h.x.len) ?_ ?_ ?_; (focus (simp only [go_sem, seval, reduceCtorEq]; done)); (first | rfl | (focus (simp only [go_sem]; done))))
      by_cases e3 : t.data = u.data
      · have e : eqTb t u = true := by simp [eqTb, e1, e2, e3]
        rw [e]
        simp only [go_sem, seval, e3, decide_true]
        (refine FnEnd.mk (Nat.le_of_ble_eq_true rfl) rfl (of_decide_eq_true rfl) ?_ ?_ <;> try simp only [go_sem, seval, reduceCtorEq])
      · have e : eqTb t u = false := by simp [eqTb, e3]
        rw [e]
        simp only [go_sem, seval, e3, decide_false]
        (refine FnEnd.mk (Nat.le_of_ble_eq_true rfl) rfl (of_decide_eq_true rfl) ?_ ?_ <;> try simp only [go_sem, seval, reduceCtorEq])
    · have e : eqTb t u = false := by simp [eqTb, e2]
      rw [e]
      simp only [go_sem, seval, e2, decide_false]
      (refine FnEnd.mk (Nat.le_of_ble_eq_true rfl) rfl (of_decide_eq_true rfl) ?_ ?_ <;> try simp only [go_sem, seval, reduceCtorEq])
  · have e : eqTb t u = false := by simp [eqTb, e1]
    rw [e]
    simp only [go_sem, seval, e1, decide_false]
    (refine FnEnd.mk (Nat.le_of_ble_eq_true rfl) rfl (of_decide_eq_true rfl) ?_ ?_ <;> try simp only [go_sem, seval, reduceCtorEq])
theorem cut_len {x wd : Nat} {l : List Int} (hx : x * wd + wd ≤ l.length) : ((l.drop (x * wd)).take wd).length = wd := by simp; omega
theorem rawElem_d {x wd : Nat} {kk pp nn : Int} {t : Ten} (hw : width ⟨kk, pp, nn⟩ = (wd : Int)) (h1 : wd ≤ 6) (hx : x * wd + wd ≤ t.data.length) (hx2 : x ≤ 1099511627776) (h : t.data.length ≤ 1099511627776) :
    Does Tryd.prog 22 [ringA kk pp nn, tenA t, .d (.int x)] [] (.d (ints ((t.data.drop (x * wd)).take wd))) [] := by
  refine spec_of (by kernel_rfl) Tryd.func22 k_impl_rawElem (fnOk (Nat.le_of_ble_eq_true rfl) ?_)
  unfold C_impl_rawElem
  simp only [go_sem, seval, iv_len, List.replicate]
  (refine ti_call (rawWidth_d kk pp nn) ?_ ?_ ?_; (focus (simp only [go_sem, seval, reduceCtorEq]; done)); (first | rfl | (focus (simp only [go_sem]; done))))
  have e1 : (x : Int) * wd = (x * wd : Nat) := by push_cast; rfl
  have e2 : ((x : Int) + 1) * wd = (x * wd + wd : Nat) := by push_cast; rw [Int.add_mul, Int.one_mul]
  have e3 : (((x * wd + wd : Nat) : Int) - (x * wd : Nat)).toNat = wd := by omega
  simp (disch := omega) only [go_sem, seval, iv_len, hw, e1, e2, e3]
  refine ⟨⟨by omega, by omega⟩, ?_⟩
  refine FnEnd.mk (Nat.le_of_ble_eq_true rfl) rfl (of_decide_eq_true rfl) ?_ rfl
  simp only [go_sem, seval, reduceCtorEq, cut_len hx]
theorem l05Get_d {x wd : Nat} {kk pp nn : Int} {t : Ten} (hw : width ⟨kk, pp, nn⟩ = (wd : Int)) (h1 : wd ≤ 6) (hx : x * wd + wd ≤ t.data.length) (hx2 : x ≤ 1099511627776) (h : t.data.length ≤ 1099511627776) :
    Does Tryd.prog 15 [ringA kk pp nn, tenA t, .d (.int x)] [] (.own 0 0 wd) [some ⟨1, true, iv ((t.data.drop (x * wd)).take wd)⟩] := by
  refine spec_of (by kernel_rfl) Tryd.func15 k_spec_l05Get (fnOk (Nat.le_of_ble_eq_true rfl) ?_)
  unfold C_spec_l05Get
  simp only [go_sem, seval, iv_len, List.replicate]
  (refine ti_call (l02Width_d kk pp nn) ?_ ?_ ?_; (focus (simp only [go_sem, seval, reduceCtorEq]; done)); (first | rfl | (focus (simp only [go_sem]; done))))
  have e1 : (x : Int) * wd = (x * wd : Nat) := by push_cast; rfl
  have e2 : ((x * wd : Nat) : Int) + wd = (x * wd + wd : Nat) := by push_cast; rfl
  have e3 : (((x * wd + wd : Nat) : Int) - (x * wd : Nat)).toNat = wd := by omega
  simp (disch := omega) only [go_sem, seval, iv_len, hw, e1, e2, e3, cut_len hx]
  refine ⟨by omega, by omega, ?_⟩
  (refine FnEnd.mk (Nat.le_of_ble_eq_true rfl) rfl (of_decide_eq_true rfl) ?_ ?_ <;> try simp only [go_sem, seval, reduceCtorEq])
  rw [List.take_take, Nat.min_self]
theorem tensorOk_facts {r : Rg} {ls ds xs : List Int} (h : tensorOk r ls ds xs = true) : ringOk r = true ∧ axOk ls ds ∧ prodI ds ≤ 4096 ∧ 1 ≤ prodI ds ∧ tsize ls ds = prodI ds ∧ (xs.length : Int) = prodI ds * width r := by
  simp only [tensorOk, Bool.and_eq_true, decide_eq_true_eq] at h
  obtain ⟨⟨h1, h2, h3⟩, h4⟩ := h
  rcases tsize_cases ls ds with h5 | ⟨h5, h6, h7, h8⟩
  · exact absurd h5 h2
  · exact ⟨h1, h5, h6, h8, h7, by rw [h3, h7]⟩
def elemAt (r : Rg) (t : Ten) (is : List Int) : List Int :=
  if tensorOk r t.labels t.dims t.data = true ∧ idxB t.dims is = true then (t.data.drop ((offs t.dims is).toNat * (width r).toNat)).take (width r).toNat else []
/-- The numbers of an element that is there. -/
theorem elem_facts {r : Rg} {t : Ten} {is : List Int} (h : tensorOk r t.labels t.dims t.data = true) (hi : idxB t.dims is = true) : ∃ x wd : Nat, offs t.dims is = x ∧ width r = wd ∧ 1 ≤ wd ∧ wd ≤ 6 ∧ x ≤ 4096 ∧ x * wd + wd ≤ t.data.length ∧
    elemAt r t is = (t.data.drop (x * wd)).take wd ∧ (elemAt r t is).length = wd := by
  obtain ⟨h1, h2, h3, h4, h5, h6⟩ := tensorOk_facts h
  have hb := offs_bd t.labels t.dims is h2 (by simpa [idxB] using hi)
  have hw := width_bd h1
  have hx : (offs t.dims is).toNat * (width r).toNat + (width r).toNat ≤ t.data.length := by
    have : ((offs t.dims is).toNat : Int) + 1 ≤ prodI t.dims := by omega
    have h7 := Int.mul_le_mul_of_nonneg_right this (show 0 ≤ width r by omega)
    rw [Int.add_mul, Int.one_mul, ← h6] at h7
    have h8 : ((offs t.dims is).toNat * (width r).toNat + (width r).toNat : Nat) = ((offs t.dims is).toNat : Int) * width r + width r := by
      push_cast
      rw [Int.toNat_of_nonneg (show 0 ≤ width r by omega)]
    omega
  have he : elemAt r t is = (t.data.drop ((offs t.dims is).toNat * (width r).toNat)).take (width r).toNat := if_pos ⟨h, hi⟩
  exact ⟨(offs t.dims is).toNat, (width r).toNat, by omega, by omega, by omega, by omega, by omega, hx, he, by rw [he]; exact cut_len hx⟩
end Go.Proofs.YtodlbhjnmdhjiaaDoor

/-
  Contracts of the helpers: members, places, products. No condition.
-/
namespace Go.Proofs.YtodlbhjnmdhjiaaDoor
open Go.RowKit Go.Lift Plain
set_option linter.unusedSimpArgs false
set_option linter.unusedVariables false
set_option maxRecDepth 100000

theorem hasInt_d {xs : List Int} {x : Int} (h : xs.length ≤ 1099511627776) : Does Tryd.prog 41 [.d (ints xs), .d (.int x)] [] (.d (.bool (has xs x))) [] := by
  (refine spec_of (by kernel_rfl) Tryd.func41 k_impl_hasInt (fnOk (Nat.le_of_ble_eq_true rfl) ?_); unfold C_impl_hasInt)
  (simp only [Nat.reduceSub, List.length_cons, List.length_nil, Nat.reduceAdd, ch_init1, ch_init2, ch_init3, ch_init4, ch_init5, ch_init6, ch_init7, ch_init8]; try simp only [ch_rep]); (simp only [go_sem, seval, reduceCtorEq, List.replicate])
  refine wpN_uptoI (xs.length) (fun k => x ∉ xs.take k) (fun k => (ch (.any) (.d (.int x)) (.any) (.any) (.any) (.any) (.any) (.d (ints xs)) (.d (.int xs.length)) (.d (.int k)) (.any) (.any) (.any) (.any) (.any) (.any) [.any])) (fun k => []) (by simp) (Wk.kept' [1, 7, 8, 9] 0 (Nat.le_of_ble_eq_true rfl) (by first | rfl | simp only [go_sem, seval, reduceCtorEq, keepE, keepF_ch, keepG_ch, keepF, keepG, cut, List.contains_cons, List.contains_nil, Nat.reduceBEq, Int.natCast_zero, Int.natCast_add, Int.natCast_one]) (by first | rfl | simp only [go_sem, seval, reduceCtorEq, keepE, keepF_ch, keepG_ch, keepF, keepG, cut, List.contains_cons, List.contains_nil, Nat.reduceBEq, Int.natCast_zero, Int.natCast_add, Int.natCast_one])) fun k hk hi => ?_
  unfold L0_impl_hasInt
  by_cases hlt : k < xs.length
  · have h1 : (k : Int) < xs.length := by omega
    have hx : xs[k]? = some xs[k] := List.getElem?_eq_getElem hlt
    by_cases he : x = xs[k]
    · have he' : (x == xs[k]) = true := by simp [he]
      have e : has xs x = true := has_true.2 (by rw [he]; exact List.getElem_mem _)
      simp (disch := omega) only [go_sem, seval, reduceCtorEq, h1, hx, he', e]
      (refine FnEnd.mk (Nat.le_of_ble_eq_true rfl) rfl (of_decide_eq_true rfl) ?_ ?_ <;> try simp only [go_sem, seval, reduceCtorEq])
    · have he' : (x == xs[k]) = false := by simp [he]
      simp (disch := omega) only [go_sem, seval, reduceCtorEq, h1, hx, he']
      (refine NextI.mk hlt (not_mem_take hlt hi he) (Wk.kept' [1, 7, 8, 9] 0 (Nat.le_of_ble_eq_true rfl) ?_ ?_) <;> first | rfl | (simp only [go_sem, seval, reduceCtorEq, keepE, keepF_ch, keepG_ch, keepF, keepG, cut, List.contains_cons, List.contains_nil, Nat.reduceBEq, Int.natCast_zero, Int.natCast_add, Int.natCast_one]; done) | skip)
  · have h1 : ¬ (k : Int) < xs.length := by omega
    have e : has xs x = false := has_false.2 (by rw [List.take_of_length_le (by omega)] at hi; exact hi)
    simp (disch := omega) only [go_sem, seval, reduceCtorEq, h1, e]
    (refine FnEnd.mk (Nat.le_of_ble_eq_true rfl) rfl (of_decide_eq_true rfl) ?_ ?_ <;> try simp only [go_sem, seval, reduceCtorEq])

theorem l05Find_d {xs : List Int} {x : Int} (h : xs.length ≤ 1099511627776) : Does Tryd.prog 47 [.d (ints xs), .d (.int x)] [] (.d (.int (place xs x))) [] := by
  (refine spec_of (by kernel_rfl) Tryd.func47 k_spec_l05Find (fnOk (Nat.le_of_ble_eq_true rfl) ?_); unfold C_spec_l05Find)
  (simp only [Nat.reduceSub, List.length_cons, List.length_nil, Nat.reduceAdd, ch_init1, ch_init2, ch_init3, ch_init4, ch_init5, ch_init6, ch_init7, ch_init8]; try simp only [ch_rep]); (simp only [go_sem, seval, reduceCtorEq, List.replicate])
  refine wpN_uptoI (xs.length) (fun k => x ∉ xs.take k) (fun k => (ch (.any) (.d (.int x)) (.any) (.any) (.any) (.any) (.any) (.d (ints xs)) (.d (.int xs.length)) (.d (.int k)) (.any) (.any) (.any) (.any) (.any) (.any) [.any, .any, .any])) (fun k => []) (by simp) (Wk.kept' [1, 7, 8, 9] 0 (Nat.le_of_ble_eq_true rfl) (by first | rfl | simp only [go_sem, seval, reduceCtorEq, keepE, keepF_ch, keepG_ch, keepF, keepG, cut, List.contains_cons, List.contains_nil, Nat.reduceBEq, Int.natCast_zero, Int.natCast_add, Int.natCast_one]) (by first | rfl | simp only [go_sem, seval, reduceCtorEq, keepE, keepF_ch, keepG_ch, keepF, keepG, cut, List.contains_cons, List.contains_nil, Nat.reduceBEq, Int.natCast_zero, Int.natCast_add, Int.natCast_one])) fun k hk hi => ?_
  unfold L0_spec_l05Find
  by_cases hlt : k < xs.length
  · have h1 : (k : Int) < xs.length := by omega
    have hx : xs[k]? = some xs[k] := List.getElem?_eq_getElem hlt
    by_cases he : xs[k] = x
    · have he' : (xs[k] == x) = true := by simp [he]
      have e : place xs x = k := by rw [← he]; exact place_at hlt (by rw [he]; exact hi)
      simp (disch := omega) only [go_sem, seval, reduceCtorEq, h1, hx, he', e]
      (refine FnEnd.mk (Nat.le_of_ble_eq_true rfl) rfl (of_decide_eq_true rfl) ?_ ?_ <;> try simp only [go_sem, seval, reduceCtorEq])
    · have he' : (xs[k] == x) = false := by simp [he]
      simp (disch := omega) only [go_sem, seval, reduceCtorEq, h1, hx, he']
      (refine NextI.mk hlt (not_mem_take hlt hi (fun e => he e.symm)) (Wk.kept' [1, 7, 8, 9] 0 (Nat.le_of_ble_eq_true rfl) ?_ ?_) <;> first | rfl | (simp only [go_sem, seval, reduceCtorEq, keepE, keepF_ch, keepG_ch, keepF, keepG, cut, List.contains_cons, List.contains_nil, Nat.reduceBEq, Int.natCast_zero, Int.natCast_add, Int.natCast_one]; done) | skip)
  · have h1 : ¬ (k : Int) < xs.length := by omega
    have e : place xs x = -1 := place_no (by rw [List.take_of_length_le (by omega)] at hi; exact hi)
    simp (disch := omega) only [go_sem, seval, reduceCtorEq, h1, e]
    (refine FnEnd.mk (Nat.le_of_ble_eq_true rfl) rfl (of_decide_eq_true rfl) ?_ ?_ <;> try simp only [go_sem, seval, reduceCtorEq])
def ren1 (x : Int) (fs ts : List Int) : Int := if x ∈ fs then ts.getD (place fs x).toNat 0 else x
theorem productOf_d {ds : List Int} (h : ds.length ≤ 1099511627776) (hd : ∀ d ∈ ds, 1 ≤ d) (hp : prodI ds ≤ 1152921504606846976) : Does Tryd.prog 20 [.d (ints ds)] [] (.d (.int (prodI ds))) [] := by
  (refine spec_of (by kernel_rfl) Tryd.func20 k_impl_productOf (fnOk (Nat.le_of_ble_eq_true rfl) ?_); unfold C_impl_productOf)
  (simp only [Nat.reduceSub, List.length_cons, List.length_nil, Nat.reduceAdd, ch_init1, ch_init2, ch_init3, ch_init4, ch_init5, ch_init6, ch_init7, ch_init8]; try simp only [ch_rep]); (simp only [go_sem, seval, reduceCtorEq, List.replicate])
  refine wpN_upto (ds.length) (fun k => (ch (.any) (.any) (.any) (.d (.int (prodI (ds.take k)))) (.any) (.any) (.d (ints ds)) (.d (.int ds.length)) (.d (.int k)) (.any) (.any) (.any) (.any) (.any) (.any) (.any) [.any])) (fun k => []) (Wk.kept' [3, 6, 7, 8] 0 (Nat.le_of_ble_eq_true rfl) (by first | rfl | simp only [go_sem, seval, reduceCtorEq, keepE, keepF_ch, keepG_ch, keepF, keepG, cut, List.contains_cons, List.contains_nil, Nat.reduceBEq, Int.natCast_zero, Int.natCast_add, Int.natCast_one]) (by first | rfl | simp only [go_sem, seval, reduceCtorEq, keepE, keepF_ch, keepG_ch, keepF, keepG, cut, List.contains_cons, List.contains_nil, Nat.reduceBEq, Int.natCast_zero, Int.natCast_add, Int.natCast_one])) fun k hk => ?_
  unfold L0_impl_productOf
  by_cases hlt : k < ds.length
  · have h1 : (k : Int) < ds.length := by omega
    have hx : ds[k]? = some ds[k] := List.getElem?_eq_getElem hlt
    have e := prodI_take_succ ds k hlt
    rw [getD_of hlt] at e
    have b1 := prodI_pos (ds.take (k + 1)) (fun d hd' => hd d (List.mem_of_mem_take hd'))
    have b2 := prodI_take_le ds (k + 1) hd
    simp (disch := omega) only [go_sem, seval, reduceCtorEq, h1, hx, ← e]
    (refine Next.mk hlt (Wk.kept' [3, 6, 7, 8] 0 (Nat.le_of_ble_eq_true rfl) ?_ ?_) <;> first | rfl | (simp only [go_sem, seval, reduceCtorEq, keepE, keepF_ch, keepG_ch, keepF, keepG, cut, List.contains_cons, List.contains_nil, Nat.reduceBEq, Int.natCast_zero, Int.natCast_add, Int.natCast_one]; done) | skip)
  · have h1 : ¬ (k : Int) < ds.length := by omega
    simp (disch := omega) only [go_sem, seval, reduceCtorEq, h1]
    (refine FnEnd.mk (Nat.le_of_ble_eq_true rfl) rfl (of_decide_eq_true rfl) ?_ ?_ <;> try simp only [go_sem, seval, reduceCtorEq])
    rw [List.take_of_length_le (by omega)]
theorem l05Product_d {ds : List Int} {lim : Int} (h : ds.length ≤ 1099511627776) (hd : ∀ d ∈ ds, 1 ≤ d ∧ d ≤ 100) (hl : 1 ≤ lim ∧ lim ≤ 1000000000) : Does Tryd.prog 13 [.d (ints ds), .d (.int lim)] [] (.d (.int (min (prodI ds) (lim + 1)))) [] := by
  (refine spec_of (by kernel_rfl) Tryd.func13 k_spec_l05Product (fnOk (Nat.le_of_ble_eq_true rfl) ?_); unfold C_spec_l05Product)
  (simp only [Nat.reduceSub, List.length_cons, List.length_nil, Nat.reduceAdd, ch_init1, ch_init2, ch_init3, ch_init4, ch_init5, ch_init6, ch_init7, ch_init8]; try simp only [ch_rep]); (simp only [go_sem, seval, reduceCtorEq, List.replicate])
  have e0 : min (prodI []) (lim + 1) = 1 := by rw [prodI_nil]; omega
  refine wpN_upto (ds.length) (fun k => (ch (.any) (.d (.int lim)) (.any) (.any) (.any) (.d (.int (min (prodI (ds.take k)) (lim + 1)))) (.any) (.any) (.d (ints ds)) (.d (.int ds.length)) (.d (.int k)) (.any) (.any) (.any) (.any) (.any) [.any, .any, .any, .any, .any, .any])) (fun k => []) (Wk.kept' [1, 5, 8, 9, 10] 0 (Nat.le_of_ble_eq_true rfl) (by first | rfl | simp only [go_sem, seval, reduceCtorEq, keepE, keepF_ch, keepG_ch, keepF, keepG, cut, List.contains_cons, List.contains_nil, Nat.reduceBEq, Int.natCast_zero, Int.natCast_add, Int.natCast_one, e0]) (by first | rfl | simp only [go_sem, seval, reduceCtorEq, keepE, keepF_ch, keepG_ch, keepF, keepG, cut, List.contains_cons, List.contains_nil, Nat.reduceBEq, Int.natCast_zero, Int.natCast_add, Int.natCast_one, e0])) fun k hk => ?_
  unfold L0_spec_l05Product
  by_cases hlt : k < ds.length
  · have h1 : (k : Int) < ds.length := by omega
    have hx : ds[k]? = some ds[k] := List.getElem?_eq_getElem hlt
    have e := prodI_take_succ ds k hlt
    rw [getD_of hlt] at e
    have hb := hd ds[k] (List.getElem_mem _)
    have b1 := prodI_pos (ds.take k) (fun d hd' => (hd d (List.mem_of_mem_take hd')).1)
    have e2 := min_mul (prodI (ds.take k)) ds[k] (lim + 1) hb.1 (by omega)
    rw [← e] at e2
    have b3 : 0 ≤ min (prodI (ds.take k)) (lim + 1) * ds[k] := Int.mul_nonneg (by omega) (by omega)
    have b4 : min (prodI (ds.take k)) (lim + 1) * ds[k] ≤ (lim + 1) * 100 := Int.mul_le_mul (by omega) hb.2 (by omega) (by omega)
    simp (disch := omega) only [go_sem, seval, reduceCtorEq, h1, hx]
    (refine Next.mk hlt (Wk.kept' [1, 5, 8, 9, 10] 0 (Nat.le_of_ble_eq_true rfl) ?_ ?_) <;> first | rfl | (simp only [go_sem, seval, reduceCtorEq, keepE, keepF_ch, keepG_ch, keepF, keepG, cut, List.contains_cons, List.contains_nil, Nat.reduceBEq, Int.natCast_zero, Int.natCast_add, Int.natCast_one, e2]; done) | skip)
  · have h1 : ¬ (k : Int) < ds.length := by omega
    simp (disch := omega) only [go_sem, seval, reduceCtorEq, h1]
    (refine FnEnd.mk (Nat.le_of_ble_eq_true rfl) rfl (of_decide_eq_true rfl) ?_ ?_ <;> try simp only [go_sem, seval, reduceCtorEq])
    rw [List.take_of_length_le (by omega)]
end Go.Proofs.YtodlbhjnmdhjiaaDoor
