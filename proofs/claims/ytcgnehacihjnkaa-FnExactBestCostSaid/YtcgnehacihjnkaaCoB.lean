/-
  Contracts: joined labels and axes, the size of a join. No condition.
-/
import Derived.Test.YtcgnehacihjnkaaCoA
import Derived.Test.YtcgnehacihjnkaaLiftG
namespace Go.Proofs.Ytcgnehacihjnkaa
open Go.RowKit Go.Lift Plain
set_option linter.unusedSimpArgs false
set_option linter.unusedVariables false
set_option maxRecDepth 100000

theorem l05Ints_d {xs : List Int} (h : xs.length ≤ 1099511627776) : Does Try.prog 150 [.d (ints xs)] [] (.own 0 0 xs.length) [some ⟨1, true, iv xs⟩] := by
  (refine spec_of (by kernel_rfl) Try.func150 k_spec_l05Ints (fnOk (Nat.le_of_ble_eq_true rfl) ?_); unfold C_spec_l05Ints)
  (simp only [Nat.reduceSub, List.length_cons, List.length_nil, Nat.reduceAdd, ch_init1, ch_init2, ch_init3, ch_init4, ch_init5, ch_init6, ch_init7, ch_init8]; try simp only [ch_rep]); (simp only [go_sem, seval, reduceCtorEq, List.replicate])
  refine ⟨by omega, ?_⟩
  (refine FnEnd.mk (Nat.le_of_ble_eq_true rfl) rfl (of_decide_eq_true rfl) ?_ ?_ <;> try simp only [go_sem, seval, reduceCtorEq])
theorem joinLabels_d {a b : List Int} (ha : a.length ≤ 1048576) (hb : b.length ≤ 1048576) : Does Try.prog 149 [.d (ints a), .d (ints b)] [] (.own 0 0 (joinL a b).length) [some ⟨1, true, iv (joinL a b)⟩] := by
  (refine spec_of (by kernel_rfl) Try.func149 k_impl_joinLabels (fnOk (Nat.le_of_ble_eq_true rfl) ?_); unfold C_impl_joinLabels)
  (simp only [Nat.reduceSub, List.length_cons, List.length_nil, Nat.reduceAdd, ch_init1, ch_init2, ch_init3, ch_init4, ch_init5, ch_init6, ch_init7, ch_init8]; try simp only [ch_rep]); (simp only [go_sem, seval, reduceCtorEq, List.replicate])
  (refine ti_call (copyInts_d (xs := a) (by omega)) ?_ ?_ ?_; (focus (simp only [go_sem, seval, reduceCtorEq]; done)); (first | rfl | (focus (simp only [go_sem]; done))))
  simp only [go_sem, seval, reduceCtorEq]
  refine wpN_upto (b.length) (fun k => (ch (.d (ints a)) (.any) (.any) (.any) (.any) (.own 0 0 (a ++ (b.take k).filter fun x => !has a x).length) (.any) (.any) (.any) (.any) (.d (ints b)) (.d (.int b.length)) (.d (.int k)) (.any) (.any) (.any) [.any, .any, .any, .any, .any, .any, .any, .any, .any, .any])) (fun k => [some ⟨1, true, iv (a ++ (b.take k).filter fun x => !has a x)⟩]) (Wk.kept' [0, 5, 10, 11, 12] 1 (Nat.le_of_ble_eq_true rfl) (by first | rfl | simp only [go_sem, seval, reduceCtorEq, keepE, keepF_ch, keepG_ch, keepF, keepG, cut, List.contains_cons, List.contains_nil, Nat.reduceBEq, Int.natCast_zero, Int.natCast_add, Int.natCast_one, List.take_zero, List.filter_nil, List.append_nil]) (by first | rfl | simp only [go_sem, seval, reduceCtorEq, keepE, keepF_ch, keepG_ch, keepF, keepG, cut, List.contains_cons, List.contains_nil, Nat.reduceBEq, Int.natCast_zero, Int.natCast_add, Int.natCast_one, List.take_zero, List.filter_nil, List.append_nil])) fun k hk => ?_
  unfold L0_impl_joinLabels
  by_cases hlt : k < b.length
  · have h1 : (k : Int) < b.length := by omega
    have hx : b[k]? = some b[k] := List.getElem?_eq_getElem hlt
    have hf := filter_len b k fun x => !has a x
    simp (disch := omega) only [go_sem, seval, reduceCtorEq, h1, hx]
    (refine ti_call (hasInt_d (xs := a) (x := b[k]) (by omega)) ?_ ?_ ?_; (focus (simp only [go_sem, seval, reduceCtorEq]; done)); (first | rfl | (focus (simp only [go_sem]; done))))
    cases he : has a b[k]
    · simp (disch := omega) only [go_sem, seval, reduceCtorEq, he]
      refine ⟨by rw [List.length_append]; omega, ?_⟩
      (refine Next.mk hlt (Wk.kept' [0, 5, 10, 11, 12] 1 (Nat.le_of_ble_eq_true rfl) ?_ ?_) <;> first | rfl | (simp only [go_sem, seval, reduceCtorEq, keepE, keepF_ch, keepG_ch, keepF, keepG, cut, List.contains_cons, List.contains_nil, Nat.reduceBEq, Int.natCast_zero, Int.natCast_add, Int.natCast_one, filter_yes (p := fun x => !has a x) hlt (by rw [he]; rfl), List.length_append, List.append_assoc, Nat.add_assoc]; done) | skip)
    · simp (disch := omega) only [go_sem, seval, reduceCtorEq, he]
      (refine Next.mk hlt (Wk.kept' [0, 5, 10, 11, 12] 1 (Nat.le_of_ble_eq_true rfl) ?_ ?_) <;> first | rfl | (simp only [go_sem, seval, reduceCtorEq, keepE, keepF_ch, keepG_ch, keepF, keepG, cut, List.contains_cons, List.contains_nil, Nat.reduceBEq, Int.natCast_zero, Int.natCast_add, Int.natCast_one, filter_no (p := fun x => !has a x) hlt (by rw [he]; rfl)]; done) | skip)
  · have h1 : ¬ (k : Int) < b.length := by omega
    simp (disch := omega) only [go_sem, seval, reduceCtorEq, h1]
    (refine FnEnd.mk (Nat.le_of_ble_eq_true rfl) rfl (of_decide_eq_true rfl) ?_ ?_ <;> try simp only [go_sem, seval, reduceCtorEq])
    all_goals rw [List.take_of_length_le (by omega)]; rfl

end Go.Proofs.Ytcgnehacihjnkaa

/-
  Contracts: copies of tensors, marks that are held, relabelling. No condition.
-/
namespace Go.Proofs.Ytcgnehacihjnkaa
open Go.RowKit Go.Lift Plain
set_option linter.unusedSimpArgs false
set_option linter.unusedVariables false
set_option maxRecDepth 100000

theorem l05Copy_d {t : Ten} (h : TSz 1048576 t) : Does Try.prog 139 [tenA t] [] (ownT 0 t) (stoT t) := by
  (refine spec_of (by kernel_rfl) Try.func139 k_spec_l05Copy (fnOk (Nat.le_of_ble_eq_true rfl) ?_); unfold C_spec_l05Copy)
  (simp only [Nat.reduceSub, List.length_cons, List.length_nil, Nat.reduceAdd, ch_init1, ch_init2, ch_init3, ch_init4, ch_init5, ch_init6, ch_init7, ch_init8]; try simp only [ch_rep]); (simp only [go_sem, seval, reduceCtorEq, List.replicate])
  (refine gi_call (l05Ints_d (xs := t.labels) h.l.up.len) ?_ ?_ ?_; (focus (simp only [go_sem, seval, reduceCtorEq]; done)); (first | rfl | (focus (simp only [go_sem]; done))))
  simp only [go_sem, seval, reduceCtorEq]
  (refine gi_call (l05Ints_d (xs := t.dims) h.d.up.len) ?_ ?_ ?_; (focus (simp only [go_sem, seval, reduceCtorEq]; done)); (first | rfl | (focus (simp only [go_sem]; done))))
  simp only [go_sem, seval, reduceCtorEq]
  (refine ti_call (l05Ints_d (xs := t.data) h.x.up.len) ?_ ?_ ?_; (focus (simp only [go_sem, seval, reduceCtorEq]; done)); (first | rfl | (focus (simp only [go_sem]; done))))
  simp only [go_sem, seval, reduceCtorEq]
  (refine FnEnd.mk (Nat.le_of_ble_eq_true rfl) rfl (of_decide_eq_true rfl) ?_ ?_ <;> try simp only [go_sem, seval, reduceCtorEq])
/-! ### Relabelling -/
def relL (fs ts ls : List Int) : List Int := ls.map fun l => ren1 l fs ts
theorem relL_len (fs ts ls : List Int) : (relL fs ts ls).length = ls.length := by simp [relL]
theorem iv_nil : iv [] = [] := rfl
attribute [go_sem] iv_nil
theorem relL_take (fs ts ls : List Int) : (relL fs ts ls).take ls.length = relL fs ts ls := List.take_of_length_le (by rw [relL_len]; exact Nat.le_refl _)
attribute [local go_sem] relL_len relL_take
end Go.Proofs.Ytcgnehacihjnkaa

/-
  Contracts: elements of a tensor that are written. No condition.
-/
namespace Go.Proofs.Ytcgnehacihjnkaa
open Go.RowKit Go.Lift Plain
set_option linter.unusedSimpArgs false
set_option linter.unusedVariables false
set_option maxRecDepth 100000

def putE (xs : List Int) (off : Nat) (ys : List Int) : List Int := xs.take off ++ ys ++ xs.drop (off + ys.length)
theorem putE_len {xs ys : List Int} {off : Nat} (h : off + ys.length ≤ xs.length) : (putE xs off ys).length = xs.length := by simp [putE]; omega
theorem putE_get {xs ys : List Int} {off i : Nat} (h : off + ys.length ≤ xs.length) : (putE xs off ys)[i]? = if off ≤ i ∧ i < off + ys.length then ys[i - off]? else xs[i]? := by
  unfold putE
  by_cases h1 : i < off
  · rw [if_neg (by omega), List.append_assoc, List.getElem?_append_left (by simp; omega), List.getElem?_take, if_pos h1]
  · by_cases h2 : i < off + ys.length
    · rw [if_pos (by omega), List.getElem?_append_left (by simp; omega), List.getElem?_append_right (by simp; omega)]
      congr 1
      simp; omega
    · rw [if_neg (by omega), List.getElem?_append_right (by simp; omega), List.getElem?_drop]
      congr 1
      simp; omega
theorem putE_next {xs ys : List Int} {off k : Nat} (h : off + ys.length ≤ xs.length) (hk : k < ys.length) :
    (putE xs off (ys.take k)).take (off + k) ++ [ys[k]] ++ (putE xs off (ys.take k)).drop (off + k + 1) = putE xs off (ys.take (k + 1)) := by
  have hl : (ys.take k).length = k := by simp; omega
  rw [put_set (by rw [putE_len (by omega)]; omega)]
  refine List.ext_getElem? fun i => ?_
  rw [List.getElem?_set, putE_get (by omega), putE_get (by simp; omega), putE_len (by omega)]
  have hl2 : (ys.take (k + 1)).length = k + 1 := by simp; omega
  rw [hl, hl2]
  by_cases h1 : off + k = i
  · subst h1
    rw [if_pos rfl, if_pos (by omega), if_pos (by omega), List.getElem?_take, if_pos (by omega), show off + k - off = k by omega, List.getElem?_eq_getElem hk]
  · rw [if_neg h1]
    by_cases h2 : off ≤ i ∧ i < off + k
    · rw [if_pos h2, if_pos (by omega), List.getElem?_take, List.getElem?_take, if_pos (by omega), if_pos (by omega)]
    · rw [if_neg h2, if_neg (by omega)]
theorem putE_zero (xs : List Int) (off : Nat) : putE xs off [] = xs := by simp [putE]
theorem l05Copy_f {t : Ten} (h : TSz 1048576 t) : Does Try.prog 139 [tenA t] [] (ownT 0 t) (stoF t) := (l05Copy_d h).nog [0, 1, 2] rfl
theorem l05Put_d {x wd : Nat} {kk pp nn : Int} {t : Ten} {ys : List Int} (hw : width ⟨kk, pp, nn⟩ = (wd : Int)) (hy : ys.length = wd) (h1 : 1 ≤ wd ∧ wd ≤ 6) (hx : x * wd + wd ≤ t.data.length) (hx2 : x ≤ 1099511627776) (h : t.data.length ≤ 1099511627776) :
    Does Try.prog 155 [ringA kk pp nn, ownT 0 t, .d (.int x), .d (ints ys)] (stoF t) (.tup []) (stoF ⟨t.labels, t.dims, putE t.data (x * wd) ys⟩) := by
  (refine spec_of (by kernel_rfl) Try.func155 k_spec_l05Put (fnOk (Nat.le_of_ble_eq_true rfl) ?_); unfold C_spec_l05Put)
  (simp only [Nat.reduceSub, List.length_cons, List.length_nil, Nat.reduceAdd, ch_init1, ch_init2, ch_init3, ch_init4, ch_init5, ch_init6, ch_init7, ch_init8]; try simp only [ch_rep]); (simp only [go_sem, seval, reduceCtorEq, List.replicate])
  (refine ti_call (l02Width_d kk pp nn) ?_ ?_ ?_; (focus (simp only [go_sem, seval, reduceCtorEq]; done)); (first | rfl | (focus (simp only [go_sem]; done))))
  simp only [go_sem, seval, reduceCtorEq, hw]
  refine wpN_upto (ys.length) (fun k => (ch (.any) (.any) (.d (.int x)) (.d (ints ys)) (.any) (.ptr 4 0) (.any) (.any) (.d (.int wd)) (.any) (.any) (.any) (.any) (.d (.int ys.length)) (.d (.int k)) (.any) [.any, .any, .any, .any, .any, .any, .any, .any, .any, .any, .any, .any, .any, .any])) (fun k => [some ⟨1, false, iv t.labels⟩, some ⟨1, false, iv t.dims⟩, some ⟨1, false, iv (putE t.data (x * wd) (ys.take k))⟩, some ⟨0, false, [.d (.int kk), .d (.int pp), .d (.int nn)]⟩, some ⟨0, false, [.own 0 0 t.labels.length, .own 1 0 t.dims.length, .own 2 0 t.data.length]⟩]) (Wk.kept' [2, 3, 5, 8, 13, 14] 5 (Nat.le_of_ble_eq_true rfl) (by first | rfl | simp only [go_sem, seval, reduceCtorEq, keepE, keepF_ch, keepG_ch, keepF, keepG, cut, List.contains_cons, List.contains_nil, Nat.reduceBEq, Int.natCast_zero, Int.natCast_add, Int.natCast_one, List.take_zero, putE_zero]) (by first | rfl | simp only [go_sem, seval, reduceCtorEq, keepE, keepF_ch, keepG_ch, keepF, keepG, cut, List.contains_cons, List.contains_nil, Nat.reduceBEq, Int.natCast_zero, Int.natCast_add, Int.natCast_one, List.take_zero, putE_zero])) fun k hk => ?_
  unfold L0_spec_l05Put
  by_cases hlt : k < ys.length
  · have h1 : (k : Int) < ys.length := by omega
    have hx : ys[k]? = some ys[k] := List.getElem?_eq_getElem hlt
    have e1 : (x : Int) * wd = (x * wd : Nat) := by push_cast; rfl
    have e2 : ((x * wd : Nat) : Int) + k = (x * wd + k : Nat) := by push_cast; rfl
    have hlk : (ys.take k).length = k := by simp; omega
    have hpl : (putE t.data (x * wd) (ys.take k)).length = t.data.length := putE_len (by omega)
    have hn := putE_next (xs := t.data) (ys := ys) (off := x * wd) (k := k) (by omega) hlt
    simp (disch := omega) only [go_sem, seval, reduceCtorEq, h1, hx, e1, e2]
    refine ⟨by omega, by rw [hpl]; omega, ?_⟩
    (refine Next.mk hlt (Wk.kept' [2, 3, 5, 8, 13, 14] 5 (Nat.le_of_ble_eq_true rfl) ?_ ?_) <;> first | rfl | (simp only [go_sem, seval, reduceCtorEq, keepE, keepF_ch, keepG_ch, keepF, keepG, cut, List.contains_cons, List.contains_nil, Nat.reduceBEq, Int.natCast_zero, Int.natCast_add, Int.natCast_one, hn]; done) | skip)
  · have h1 : ¬ (k : Int) < ys.length := by omega
    simp (disch := omega) only [go_sem, seval, reduceCtorEq, h1]
    (refine FnEnd.mk (Nat.le_of_ble_eq_true rfl) rfl (of_decide_eq_true rfl) ?_ ?_ <;> try simp only [go_sem, seval, reduceCtorEq])
    all_goals rw [List.take_of_length_le (by omega)]

/-! ### An element set -/
end Go.Proofs.Ytcgnehacihjnkaa
