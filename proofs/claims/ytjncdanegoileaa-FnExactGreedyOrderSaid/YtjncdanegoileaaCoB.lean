/-
  Contracts: joined labels and axes, the size of a join. No condition.
-/
import Derived.Test.YtjncdanegoileaaCoA
import Derived.Test.YtjncdanegoileaaLiftG
namespace Go.Proofs.Ytjncdanegoileaa
open Go.RowKit Go.Lift Plain
set_option linter.unusedSimpArgs false
set_option linter.unusedVariables false
set_option maxRecDepth 100000

theorem l05Ints_d {xs : List Int} (h : xs.length ≤ 1099511627776) : Does Try.prog 89 [.d (ints xs)] [] (.own 0 0 xs.length) [some ⟨1, true, iv xs⟩] := by
  (refine spec_of (by kernel_rfl) Try.func89 k_spec_l05Ints (fnOk (Nat.le_of_ble_eq_true rfl) ?_); unfold C_spec_l05Ints)
  (simp only [Nat.reduceSub, List.length_cons, List.length_nil, Nat.reduceAdd, ch_init1, ch_init2, ch_init3, ch_init4, ch_init5, ch_init6, ch_init7, ch_init8]; try simp only [ch_rep]); (simp only [go_sem, seval, reduceCtorEq, List.replicate])
  refine ⟨by omega, ?_⟩
  (refine FnEnd.mk (Nat.le_of_ble_eq_true rfl) rfl (of_decide_eq_true rfl) ?_ ?_ <;> try simp only [go_sem, seval, reduceCtorEq])
theorem joinLabels_d {a b : List Int} (ha : a.length ≤ 1048576) (hb : b.length ≤ 1048576) : Does Try.prog 103 [.d (ints a), .d (ints b)] [] (.own 0 0 (joinL a b).length) [some ⟨1, true, iv (joinL a b)⟩] := by
  (refine spec_of (by kernel_rfl) Try.func103 k_impl_joinLabels (fnOk (Nat.le_of_ble_eq_true rfl) ?_); unfold C_impl_joinLabels)
  (simp only [Nat.reduceSub, List.length_cons, List.length_nil, Nat.reduceAdd, ch_init1, ch_init2, ch_init3, ch_init4, ch_init5, ch_init6, ch_init7, ch_init8]; try simp only [ch_rep]); (simp only [go_sem, seval, reduceCtorEq, List.replicate])
  (refine ti_call (copyInts_d (xs := a) (by omega)) ?_ ?_ ?_; (focus (simp only [go_sem, seval, reduceCtorEq]; done)); (first | rfl | (focus (simp only [go_sem]; done))))
  simp only [go_sem, seval, reduceCtorEq]
  refine wpN_upto (b.length) (fun k => (ch (.d (ints a)) (.any) (.any) (.any) (.any) (.own 0 0 (a ++ (b.take k).filter fun x => !has a x).length) (.any) (.any) (.any) (.any) (.d (ints b)) (.d (.int b.length)) (.d (.int k)) (.any) (.any) (.any) [.any, .any, .any, .any, .any, .any, .any, .any, .any, .any])) (fun k => [some ⟨1, true, iv (a ++ (b.take k).filter fun x => !has a x)⟩]) (Wk.kept' [0, 5, 10, 11, 12] 1 (Nat.le_of_ble_eq_true rfl) (by first | rfl | simp only [go_sem, seval, reduceCtorEq, keepE, keepF_ch, keepG_ch, keepF, keepG, cut, List.contains_cons, List.contains_nil, Nat.reduceBEq, Int.natCast_zero, Int.natCast_add, Int.natCast_one, List.take_zero, List.filter_nil, List.append_nil]) (by first | rfl | simp only [go_sem, seval, reduceCtorEq, keepE, keepF_ch, keepG_ch, keepF, keepG, cut, List.contains_cons, List.contains_nil, Nat.reduceBEq, Int.natCast_zero, Int.natCast_add, Int.natCast_one, List.take_zero, List.filter_nil, List.append_nil])) fun k hk => ?_
  unfold L0_impl_joinLabels
  by_cases hlt : k < b.length
  · have h1 : (k : Int) < b.length := by omega
    have hx : b[k]? = some b[k] := List.getElem?_eq_getElem hlt
    have hf := filter_len b k fun x => !has a x
    simp (disch := omega) only [go_sem, seval, reduceCtorEq, h1, hx]
    (refine ti_call (hasInt_d (xs := a) (x := b[k]) (by omega)) ?_ ?_ ?_; (focus (simp only [go_sem, seval, reduceCtorEq]; done)); (first | rfl | (focus (simp only [go_sem]; done))))
    cases he : has a b[k]
    · simp (disch := omega) only [go_sem, seval, reduceCtorEq, he]
      refine ⟨by rw [List.length_append]; omega, ?_⟩
      (refine Next.mk hlt (Wk.kept' [0, 5, 10, 11, 12] 1 (Nat.le_of_ble_eq_true rfl) ?_ ?_) <;> first | rfl | (simp only [go_sem, seval, reduceCtorEq, keepE, keepF_ch, keepG_ch, keepF, keepG, cut, List.contains_cons, List.contains_nil, Nat.reduceBEq, Int.natCast_zero, Int.natCast_add, Int.natCast_one, filter_yes (p := fun x => !has a x) hlt (by rw [he]; rfl), List.length_append, List.append_assoc, Nat.add_assoc]; done) | skip)
    · simp (disch := omega) only [go_sem, seval, reduceCtorEq, he]
      (refine Next.mk hlt (Wk.kept' [0, 5, 10, 11, 12] 1 (Nat.le_of_ble_eq_true rfl) ?_ ?_) <;> first | rfl | (simp only [go_sem, seval, reduceCtorEq, keepE, keepF_ch, keepG_ch, keepF, keepG, cut, List.contains_cons, List.contains_nil, Nat.reduceBEq, Int.natCast_zero, Int.natCast_add, Int.natCast_one, filter_no (p := fun x => !has a x) hlt (by rw [he]; rfl)]; done) | skip)
  · have h1 : ¬ (k : Int) < b.length := by omega
    simp (disch := omega) only [go_sem, seval, reduceCtorEq, h1]
    (refine FnEnd.mk (Nat.le_of_ble_eq_true rfl) rfl (of_decide_eq_true rfl) ?_ ?_ <;> try simp only [go_sem, seval, reduceCtorEq])
    all_goals rw [List.take_of_length_le (by omega)]; rfl

end Go.Proofs.Ytjncdanegoileaa

/-
  Contracts: copies of tensors, marks that are held, relabelling. No condition.
-/
namespace Go.Proofs.Ytjncdanegoileaa
open Go.RowKit Go.Lift Plain
set_option linter.unusedSimpArgs false
set_option linter.unusedVariables false
set_option maxRecDepth 100000

/-! ### Relabelling -/
def relL (fs ts ls : List Int) : List Int := ls.map fun l => ren1 l fs ts
theorem relL_len (fs ts ls : List Int) : (relL fs ts ls).length = ls.length := by simp [relL]
theorem iv_nil : iv [] = [] := rfl
attribute [go_sem] iv_nil
theorem relL_take (fs ts ls : List Int) : (relL fs ts ls).take ls.length = relL fs ts ls := List.take_of_length_le (by rw [relL_len]; exact Nat.le_refl _)
attribute [local go_sem] relL_len relL_take
end Go.Proofs.Ytjncdanegoileaa

/-
  Contracts: elements of a tensor that are written. No condition.
-/
namespace Go.Proofs.Ytjncdanegoileaa
open Go.RowKit Go.Lift Plain
set_option linter.unusedSimpArgs false
set_option linter.unusedVariables false
set_option maxRecDepth 100000

/-! ### An element set -/
end Go.Proofs.Ytjncdanegoileaa
