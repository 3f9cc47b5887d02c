/-
  Contracts of the helpers of the laws: copies, sizes, comparisons, marks. No condition.
-/
import Derived.Test.YtmgifmgdfldheaaCodeA
import Derived.Test.YtmgifmgdfldheaaLift29
import Derived.Test.YtmgifmgdfldheaaMix
namespace Go.Proofs.Ytmgifmgdfldheaa
open Go.RowKit Go.Lift Plain
set_option linter.unusedSimpArgs false
set_option linter.unusedVariables false

theorem toIntS_d {xs : List Int} (h : xs.length ≤ 1099511627776) : Does Try.prog 21 [.d (ints xs)] [] (.own 0 0 xs.length) [some ⟨1, true, iv xs⟩] := by
  (refine spec_of (by kernel_rfl) Try.func21 k_laws_toIntS (fnOk (Nat.le_of_ble_eq_true rfl) ?_); unfold C_laws_toIntS)
  simp (disch := omega) only [go_sem, seval, reduceCtorEq, List.replicate]
  refine ⟨by omega, ?_⟩
  refine wpN_upto xs.length (fun k => (ch (.d (ints xs)) (.any) (.nil) (.own 0 0 xs.length) (.d (.int k)) (.any) (.any) (.any) (.any) (.any) (.any) (.any) (.any) (.any) (.any) (.any) [.any, .any, .any, .any, .any, .any])) (fun k => [some ⟨1, true, iv (mix xs (List.replicate xs.length 0) k)⟩]) (Wk.kept' [0, 2, 3, 4] 1 (Nat.zero_le _) rfl (by simp only [go_sem, seval, reduceCtorEq, mix_zero])) fun k hk => ?_
  unfold L0_laws_toIntS
  by_cases hlt : k < xs.length
  · have h1 : (k : Int) < xs.length := by omega
    have hx : xs[k]? = some xs[k] := List.getElem?_eq_getElem hlt
    simp (disch := omega) only [go_sem, seval, reduceCtorEq, h1, hx]
    refine ⟨by rw [mix_len (by simp)]; omega, Next.mk hlt (Wk.kept' [0, 2, 3, 4] 1 (Nat.zero_le _) rfl ?_)⟩
    simp only [go_sem, seval, reduceCtorEq, mix_next (show xs.length = (List.replicate xs.length (0 : Int)).length by simp) hx]
  · have h1 : ¬ (k : Int) < xs.length := by omega
    simp (disch := omega) only [go_sem, seval, reduceCtorEq, h1]
    (refine FnEnd.mk (Nat.le_of_ble_eq_true rfl) rfl (of_decide_eq_true rfl) ?_ ?_ <;> try simp only [go_sem, seval, reduceCtorEq])
    rw [mix_full (by simp; omega) (by omega)]
theorem toRing_d (k p n : Int) : Does Try.prog 32 [ringA k p n] [] (ringA k p n) [] := by
  refine spec_of (by kernel_rfl) Try.func32 k_laws_toRing (fnOk (Nat.le_of_ble_eq_true rfl) ?_)
  unfold C_laws_toRing
  simp only [go_sem, seval, List.replicate]
  (refine FnEnd.mk (Nat.le_of_ble_eq_true rfl) rfl (of_decide_eq_true rfl) ?_ ?_ <;> try simp only [go_sem, seval, reduceCtorEq])
theorem toTensor_d {t : Ten} (h : TSz 1099511627776 t) : Does Try.prog 17 [tenA t] [] (ownT 0 t) (stoT t) := by
  refine spec_of (by kernel_rfl) Try.func17 k_laws_toTensor (fnOk (Nat.le_of_ble_eq_true rfl) ?_)
  unfold C_laws_toTensor
  simp only [go_sem, seval, List.replicate]
  (refine ti_call (toIntS_d h.l.len) ?_ ?_ ?_; (focus (simp only [go_sem, seval, reduceCtorEq]; done)); (first | rfl | (focus (simp only [go_sem]; done))))
  simp only [go_sem, seval]
  (refine ti_call (toIntS_d h.d.len) ?_ ?_ ?_; (focus (simp only [go_sem, seval, reduceCtorEq]; done)); (first | rfl | (focus (simp only [go_sem]; done))))
  simp only [go_sem, seval]
  (refine ti_call (toIntS_d h.x.len) ?_ ?_ ?_; (focus (simp only [go_sem, seval, reduceCtorEq]; done)); (first | rfl | (focus (simp only [go_sem]; done))))
  simp only [go_sem, seval]
  (refine FnEnd.mk (Nat.le_of_ble_eq_true rfl) rfl (of_decide_eq_true rfl) ?_ ?_ <;> try simp only [go_sem, seval, reduceCtorEq])
theorem szIntS_d {xs : List Int} {left : Int} (h : xs.length ≤ 9223372036854775807) (h0 : 0 ≤ left ∧ left ≤ 1099511627776) : Does Try.prog 49 [.d (ints xs), .d (.int left)] [] (.d (.int (if left < xs.length then -1 else left - xs.length))) [] := by
  refine spec_of (by kernel_rfl) Try.func49 k_laws_szIntS (fnOk (Nat.le_of_ble_eq_true rfl) ?_)
  unfold C_laws_szIntS ints
  by_cases hl : left < xs.length
  · have h1 : left - xs.length < 0 := by omega
    simp (disch := omega) only [go_sem, seval, List.replicate, h1, hl]
    (refine FnEnd.mk (Nat.le_of_ble_eq_true rfl) rfl (of_decide_eq_true rfl) ?_ ?_ <;> try simp only [go_sem, seval, reduceCtorEq])
  · have h1 : ¬ left - xs.length < 0 := by omega
    simp (disch := omega) only [go_sem, seval, List.replicate, h1, hl]
    (refine FnEnd.mk (Nat.le_of_ble_eq_true rfl) rfl (of_decide_eq_true rfl) ?_ ?_ <;> try simp only [go_sem, seval, reduceCtorEq])
def szTen (t : Ten) (left : Int) : Int := if left < t.labels.length + t.dims.length + t.data.length then -1 else left - (t.labels.length + t.dims.length + t.data.length)
theorem szTensor_d {t : Ten} {left : Int} (h1 : t.labels.length ≤ 9223372036854775807) (h2 : t.dims.length ≤ 9223372036854775807) (h3 : t.data.length ≤ 9223372036854775807) (h0 : 0 ≤ left ∧ left ≤ 1099511627776) :
    Does Try.prog 15 [tenA t, .d (.int left)] [] (.d (.int (szTen t left))) [] := by
  refine spec_of (by kernel_rfl) Try.func15 k_laws_szTensor (fnOk (Nat.le_of_ble_eq_true rfl) ?_)
  unfold C_laws_szTensor
  simp only [go_sem, seval, List.replicate]
  (refine ti_call (szIntS_d h1 h0) ?_ ?_ ?_; (focus (simp only [go_sem, seval, reduceCtorEq]; done)); (first | rfl | (focus (simp only [go_sem]; done))))
  by_cases a1 : left < t.labels.length
  · have e : szTen t left = -1 := by unfold szTen; rw [if_pos (by omega)]
    rw [e]
    simp only [go_sem, seval, a1, Int.reduceLT]
    (refine FnEnd.mk (Nat.le_of_ble_eq_true rfl) rfl (of_decide_eq_true rfl) ?_ ?_ <;> try simp only [go_sem, seval, reduceCtorEq])
  · have b1 : ¬ left - (t.labels.length : Int) < 0 := by omega
    simp only [go_sem, seval, a1, b1]
    (refine ti_call (szIntS_d (left := left - t.labels.length) h2 (by omega)) ?_ ?_ ?_; (focus (simp only [go_sem, seval, reduceCtorEq]; done)); (first | rfl | (focus (simp only [go_sem]; done))))
    by_cases a2 : left - t.labels.length < t.dims.length
    · have e : szTen t left = -1 := by unfold szTen; rw [if_pos (by omega)]
      rw [e]
      simp only [go_sem, seval, a2, Int.reduceLT]
      (refine FnEnd.mk (Nat.le_of_ble_eq_true rfl) rfl (of_decide_eq_true rfl) ?_ ?_ <;> try simp only [go_sem, seval, reduceCtorEq])
    · have b2 : ¬ left - (t.labels.length : Int) - t.dims.length < 0 := by omega
      simp only [go_sem, seval, a2, b2]
      (refine ti_call (szIntS_d (left := left - t.labels.length - t.dims.length) h3 (by omega)) ?_ ?_ ?_; (focus (simp only [go_sem, seval, reduceCtorEq]; done)); (first | rfl | (focus (simp only [go_sem]; done))))
      by_cases a3 : left - t.labels.length - t.dims.length < t.data.length
      · have e : szTen t left = -1 := by unfold szTen; rw [if_pos (by omega)]
        rw [e]
        simp only [go_sem, seval, a3, Int.reduceLT]
        (refine FnEnd.mk (Nat.le_of_ble_eq_true rfl) rfl (of_decide_eq_true rfl) ?_ ?_ <;> try simp only [go_sem, seval, reduceCtorEq])
      · have e : szTen t left = left - t.labels.length - t.dims.length - t.data.length := by unfold szTen; rw [if_neg (by omega)]; omega
        have b3 : ¬ left - (t.labels.length : Int) - t.dims.length - t.data.length < 0 := by omega
        rw [e]
        simp only [go_sem, seval, a3, b3]
        (refine FnEnd.mk (Nat.le_of_ble_eq_true rfl) rfl (of_decide_eq_true rfl) ?_ ?_ <;> try simp only [go_sem, seval, reduceCtorEq])
theorem eqIntS_d {xs ys : List Int} (h : xs.length ≤ 1099511627776) : Does Try.prog 23 [.d (ints xs), .d (ints ys)] [] (.d (.bool (decide (xs = ys)))) [] := by
  refine spec_of (by kernel_rfl) Try.func23 k_laws_eqIntS (fnOk (Nat.le_of_ble_eq_true rfl) ?_)
  unfold C_laws_eqIntS ints
  by_cases hl : xs.length = ys.length
  · have hl' : ((xs.length : Int) != ys.length) = false := by simp [hl]
    simp only [go_sem, seval, List.replicate, hl']
    refine wpN_uptoI xs.length (fun k => xs.take k = ys.take k) (fun k => (ch (.d (.sl xs.length (dv xs))) (.d (.sl ys.length (dv ys))) (.any) (.any) (.any) (.d (.int k)) (.any) (.any) (.any) (.any) (.any) (.any) (.any) (.any) (.any) (.any) [.any, .any, .any, .any, .any, .any, .any, .any, .any, .any])) (fun _ => []) rfl (Wk.kept' [0, 1, 5] 0 (Nat.zero_le _) rfl rfl) fun k hk hi => ?_
    unfold L0_laws_eqIntS
    by_cases hlt : k < xs.length
    · have h1 : (k : Int) < xs.length := by omega
      have h2 : (k : Int) < ys.length := by omega
      have hlt' : k < ys.length := by omega
      have hx : xs[k]? = some xs[k] := List.getElem?_eq_getElem hlt
      have hy : ys[k]? = some ys[k] := List.getElem?_eq_getElem hlt'
      by_cases he : xs[k] = ys[k]
      · have he' : (xs[k] != ys[k]) = false := by simp [he]
        simp (disch := omega) only [go_sem, seval, iv_len, h1, h2, hx, hy, he']
        refine NextI.mk hlt ?_ (Wk.kept' [0, 1, 5] 0 (Nat.zero_le _) rfl rfl)
        rw [List.take_succ_eq_append_getElem hlt, List.take_succ_eq_append_getElem hlt', hi, he]
      · have he' : (xs[k] != ys[k]) = true := by simp [he]
        have e : decide (xs = ys) = false := decide_eq_false fun e => he (by subst e; rfl)
        rw [e]
        simp (disch := omega) only [go_sem, seval, iv_len, h1, h2, hx, hy, he']
        (refine FnEnd.mk (Nat.le_of_ble_eq_true rfl) rfl (of_decide_eq_true rfl) ?_ ?_ <;> try simp only [go_sem, seval, reduceCtorEq])
    · have h1 : ¬ (k : Int) < xs.length := by omega
      have e : decide (xs = ys) = true := decide_eq_true (by rw [List.take_of_length_le (by omega), List.take_of_length_le (by omega)] at hi; exact hi)
      rw [e]
      simp (disch := omega) only [go_sem, seval, iv_len, h1]
      (refine FnEnd.mk (Nat.le_of_ble_eq_true rfl) rfl (of_decide_eq_true rfl) ?_ ?_ <;> try simp only [go_sem, seval, reduceCtorEq])
  · have hl' : ((xs.length : Int) != ys.length) = true := by simp; omega
    have e : decide (xs = ys) = false := decide_eq_false fun e => hl (by rw [e])
    rw [e]
    simp only [go_sem, seval, List.replicate, hl']
    (refine FnEnd.mk (Nat.le_of_ble_eq_true rfl) rfl (of_decide_eq_true rfl) ?_ ?_ <;> try simp only [go_sem, seval, reduceCtorEq])
theorem markIntS_d {xs : List Int} {m : Int} (h : xs.length ≤ 1099511627776) (h0 : 0 ≤ m ∧ m ≤ 1099511627776) : Does Try.prog 27 [.own 0 0 xs.length, .d (.int m)] [some ⟨1, false, iv xs⟩] (.d (.int (m + xs.length))) [some ⟨1, false, iv (markL xs m)⟩] := by
  (refine spec_of (by kernel_rfl) Try.func27 k_laws_markIntS (fnOk (Nat.le_of_ble_eq_true rfl) ?_); unfold C_laws_markIntS)
  simp only [go_sem, seval, reduceCtorEq, List.replicate]
  refine wpN_upto xs.length (fun k => (ch (.own 0 0 xs.length) (.d (.int (m + k))) (.any) (.any) (.any) (.d (.int k)) (.any) (.any) (.any) (.any) (.any) (.any) (.any) (.any) (.any) (.any) [.any, .any, .any])) (fun k => [some ⟨1, false, iv (mix (markL xs m) xs k)⟩]) (Wk.kept' [0, 1, 5] 1 (Nat.le_refl _) ?_ (by simp only [go_sem, seval, reduceCtorEq, mix_zero])) fun k hk => ?_
  · rw [Int.natCast_zero, Int.add_zero]; rfl
  unfold L0_laws_markIntS
  have hl := markL_len xs m
  by_cases hlt : k < xs.length
  · have h1 : (k : Int) < xs.length := by omega
    simp (disch := omega) only [go_sem, seval, reduceCtorEq, h1]
    refine ⟨by rw [mix_len hl]; omega, Next.mk hlt (Wk.kept' [0, 1, 5] 1 (Nat.le_refl _) ?_ ?_)⟩
    · rw [Int.natCast_add, ← Int.add_assoc]; rfl
    · simp only [go_sem, seval, reduceCtorEq, mix_next hl (markL_get hlt)]
  · have h1 : ¬ (k : Int) < xs.length := by omega
    obtain rfl : k = xs.length := by omega
    simp (disch := omega) only [go_sem, seval, reduceCtorEq, h1]
    (refine FnEnd.mk (Nat.le_of_ble_eq_true rfl) rfl (of_decide_eq_true rfl) ?_ ?_ <;> try simp only [go_sem, seval, reduceCtorEq])
    rw [mix_full (by omega) (by omega)]
theorem heldIntS_d {xs : List Int} {m : Int} (h : xs.length ≤ 1099511627776) (h0 : 0 ≤ m ∧ m ≤ 1099511627776) : Does Try.prog 28 [.d (ints xs), .d (.int m)] [] (.d (.int (heldR xs m))) [] := by
  refine spec_of (by kernel_rfl) Try.func28 k_laws_heldIntS (fnOk (Nat.le_of_ble_eq_true rfl) ?_)
  unfold C_laws_heldIntS ints
  simp only [go_sem, seval, List.replicate]
  have hl := markL_len xs m
  refine wpN_uptoI xs.length (fun k => xs.take k = (markL xs m).take k) (fun k => (ch (.d (.sl xs.length (dv xs))) (.d (.int (m + k))) (.any) (.any) (.any) (.d (.int k)) (.any) (.any) (.any) (.any) (.any) (.any) (.any) (.any) (.any) (.any) [.any, .any, .any, .any, .any])) (fun _ => []) rfl (Wk.kept' [0, 1, 5] 0 (Nat.zero_le _) ?_ rfl) fun k hk hi => ?_
  · rw [Int.natCast_zero, Int.add_zero]; rfl
  unfold L0_laws_heldIntS
  by_cases hlt : k < xs.length
  · have h1 : (k : Int) < xs.length := by omega
    have hx : xs[k]? = some xs[k] := List.getElem?_eq_getElem hlt
    have hk : (markL xs m)[k]'(by omega) = m + k := by simp [markL]
    by_cases he : xs[k] = m + k
    · have he' : (xs[k] != m + k) = false := by simp [he]
      simp (disch := omega) only [go_sem, seval, iv_len, h1, hx, he']
      refine NextI.mk hlt ?_ (Wk.kept' [0, 1, 5] 0 (Nat.zero_le _) ?_ rfl)
      · rw [List.take_succ_eq_append_getElem hlt, List.take_succ_eq_append_getElem (by omega), hi, he, hk]
      · rw [Int.natCast_add, ← Int.add_assoc]; rfl
    · have he' : (xs[k] != m + k) = true := by simp [he]
      have e : heldR xs m = -1 := if_neg fun e => he (by rw [← hk]; congr 1)
      rw [e]
      simp (disch := omega) only [go_sem, seval, iv_len, h1, hx, he']
      (refine FnEnd.mk (Nat.le_of_ble_eq_true rfl) rfl (of_decide_eq_true rfl) ?_ ?_ <;> try simp only [go_sem, seval, reduceCtorEq])
  · have h1 : ¬ (k : Int) < xs.length := by omega
    obtain rfl : k = xs.length := by omega
    have e : heldR xs m = m + xs.length := if_pos (by rw [List.take_of_length_le (by omega), List.take_of_length_le (by omega)] at hi; exact hi)
    rw [e]
    simp (disch := omega) only [go_sem, seval, iv_len, h1]
    (refine FnEnd.mk (Nat.le_of_ble_eq_true rfl) rfl (of_decide_eq_true rfl) ?_ ?_ <;> try simp only [go_sem, seval, reduceCtorEq])
end Go.Proofs.Ytmgifmgdfldheaa
