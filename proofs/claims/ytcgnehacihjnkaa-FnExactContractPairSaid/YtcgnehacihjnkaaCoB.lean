/-
  Contracts: joined labels and axes, the size of a join. No condition.
-/
import Derived.Test.YtcgnehacihjnkaaCoA
import Derived.Test.YtcgnehacihjnkaaLiftG
namespace Go.Proofs.Ytcgnehacihjnkaa
open Go.RowKit Go.Lift Plain
set_option linter.unusedSimpArgs false
set_option linter.unusedVariables false
set_option maxRecDepth 100000

theorem l05Ints_d {xs : List Int} (h : xs.length ≤ 1099511627776) : Does Try.prog 150 [.d (ints xs)] [] (.own 0 0 xs.length) [some ⟨1, true, iv xs⟩] := by
  (refine spec_of (by kernel_rfl) Try.func150 k_spec_l05Ints (fnOk (Nat.le_of_ble_eq_true rfl) ?_); unfold C_spec_l05Ints)
  (simp only [Nat.reduceSub, List.length_cons, List.length_nil, Nat.reduceAdd, ch_init1, ch_init2, ch_init3, ch_init4, ch_init5, ch_init6, ch_init7, ch_init8]; try simp only [ch_rep]); (simp only [go_sem, seval, reduceCtorEq, List.replicate])
  refine ⟨by omega, ?_⟩
  (refine FnEnd.mk (Nat.le_of_ble_eq_true rfl) rfl (of_decide_eq_true rfl) ?_ ?_ <;> try simp only [go_sem, seval, reduceCtorEq])
theorem joinLabels_d {a b : List Int} (ha : a.length ≤ 1048576) (hb : b.length ≤ 1048576) : Does Try.prog 149 [.d (ints a), .d (ints b)] [] (.own 0 0 (joinL a b).length) [some ⟨1, true, iv (joinL a b)⟩] := by
  (refine spec_of (by kernel_rfl) Try.func149 k_impl_joinLabels (fnOk (Nat.le_of_ble_eq_true rfl) ?_); unfold C_impl_joinLabels)
  (simp only [Nat.reduceSub, List.length_cons, List.length_nil, Nat.reduceAdd, ch_init1, ch_init2, ch_init3, ch_init4, ch_init5, ch_init6, ch_init7, ch_init8]; try simp only [ch_rep]); (simp only [go_sem, seval, reduceCtorEq, List.replicate])
  (refine ti_call (copyInts_d (xs := a) (by omega)) ?_ ?_ ?_; (focus (simp only [go_sem, seval, reduceCtorEq]; done)); (first | rfl | (focus (simp only [go_sem]; done))))
  simp only [go_sem, seval, reduceCtorEq]
  refine wpN_upto (b.length) (fun k => (ch (.d (ints a)) (.any) (.any) (.any) (.any) (.own 0 0 (a ++ (b.take k).filter fun x => !has a x).length) (.any) (.any) (.any) (.any) (.d (ints b)) (.d (.int b.length)) (.d (.int k)) (.any) (.any) (.any) [.any, .any, .any, .any, .any, .any, .any, .any, .any, .any])) (fun k => [some ⟨1, true, iv (a ++ (b.take k).filter fun x => !has a x)⟩]) (Wk.kept' [0, 5, 10, 11, 12] 1 (Nat.le_of_ble_eq_true rfl) (by first | rfl | simp only [go_sem, seval, reduceCtorEq, keepE, keepF_ch, keepG_ch, keepF, keepG, cut, List.contains_cons, List.contains_nil, Nat.reduceBEq, Int.natCast_zero, Int.natCast_add, Int.natCast_one, List.take_zero, List.filter_nil, List.append_nil]) (by first | rfl | simp only [go_sem, seval, reduceCtorEq, keepE, keepF_ch, keepG_ch, keepF, keepG, cut, List.contains_cons, List.contains_nil, Nat.reduceBEq, Int.natCast_zero, Int.natCast_add, Int.natCast_one, List.take_zero, List.filter_nil, List.append_nil])) fun k hk => ?_
  unfold L0_impl_joinLabels
  by_cases hlt : k < b.length
  · have h1 : (k : Int) < b.length := by omega
    have hx : b[k]? = some b[k] := List.getElem?_eq_getElem hlt
    have hf := filter_len b k fun x => !has a x
    simp (disch := omega) only [go_sem, seval, reduceCtorEq, h1, hx]
    (refine ti_call (hasInt_d (xs := a) (x := b[k]) (by omega)) ?_ ?_ ?_; (focus (simp only [go_sem, seval, reduceCtorEq]; done)); (first | rfl | (focus (simp only [go_sem]; done))))
    cases he : has a b[k]
    · simp (disch := omega) only [go_sem, seval, reduceCtorEq, he]
      refine ⟨by rw [List.length_append]; omega, ?_⟩
      (refine Next.mk hlt (Wk.kept' [0, 5, 10, 11, 12] 1 (Nat.le_of_ble_eq_true rfl) ?_ ?_) <;> first | rfl | (simp only [go_sem, seval, reduceCtorEq, keepE, keepF_ch, keepG_ch, keepF, keepG, cut, List.contains_cons, List.contains_nil, Nat.reduceBEq, Int.natCast_zero, Int.natCast_add, Int.natCast_one, filter_yes (p := fun x => !has a x) hlt (by rw [he]; rfl), List.length_append, List.append_assoc, Nat.add_assoc]; done) | skip)
    · simp (disch := omega) only [go_sem, seval, reduceCtorEq, he]
      (refine Next.mk hlt (Wk.kept' [0, 5, 10, 11, 12] 1 (Nat.le_of_ble_eq_true rfl) ?_ ?_) <;> first | rfl | (simp only [go_sem, seval, reduceCtorEq, keepE, keepF_ch, keepG_ch, keepF, keepG, cut, List.contains_cons, List.contains_nil, Nat.reduceBEq, Int.natCast_zero, Int.natCast_add, Int.natCast_one, filter_no (p := fun x => !has a x) hlt (by rw [he]; rfl)]; done) | skip)
  · have h1 : ¬ (k : Int) < b.length := by omega
    simp (disch := omega) only [go_sem, seval, reduceCtorEq, h1]
    (refine FnEnd.mk (Nat.le_of_ble_eq_true rfl) rfl (of_decide_eq_true rfl) ?_ ?_ <;> try simp only [go_sem, seval, reduceCtorEq])
    all_goals rw [List.take_of_length_le (by omega)]; rfl

theorem joinD_len (a b : Ten) : (joinD a b).length = (joinL a.labels b.labels).length := by simp [joinD]
theorem joinD_get {a b : Ten} {k : Nat} (h : k < (joinL a.labels b.labels).length) : (joinD a b)[k]? = some (if has a.labels (joinL a.labels b.labels)[k] = true then dimAt a (joinL a.labels b.labels)[k] else dimAt b (joinL a.labels b.labels)[k]) := by
  simp [joinD, h]
theorem joinAxes_d {a b : Ten} (ha : axOk a.labels a.dims) (hb : axOk b.labels b.dims) (h : joinOk a b = true) :
    Does Try.prog 126 [tenA a, tenA b] [] (.tup [.own 0 0 (joinL a.labels b.labels).length, .own 1 0 (joinL a.labels b.labels).length, .d (.bool true)]) [some ⟨1, true, iv (joinL a.labels b.labels)⟩, some ⟨1, true, iv (joinD a b)⟩] := by
  have la := ha.1
  have lb := hb.1
  have lj := joinL_len a.labels b.labels
  have ld := joinD_len a b
  have lda := ha.len
  have ldb := hb.len
  (refine spec_of (by kernel_rfl) Try.func126 k_impl_joinAxes (fnOk (Nat.le_of_ble_eq_true rfl) ?_); unfold C_impl_joinAxes)
  (simp only [Nat.reduceSub, List.length_cons, List.length_nil, Nat.reduceAdd, ch_init1, ch_init2, ch_init3, ch_init4, ch_init5, ch_init6, ch_init7, ch_init8]; try simp only [ch_rep]); (simp only [go_sem, seval, reduceCtorEq, List.replicate])
  (refine ti_call (joinLabels_d (a := a.labels) (b := b.labels) (by omega) (by omega)) ?_ ?_ ?_; (focus (simp only [go_sem, seval, reduceCtorEq]; done)); (first | rfl | (focus (simp only [go_sem]; done))))
  simp (disch := omega) only [go_sem, seval, reduceCtorEq]
  refine ⟨by omega, ?_⟩
  refine wpN_upto ((joinL a.labels b.labels).length) (fun k => (ch (.any) (.any) (.ptr 0 0) (.ptr 1 0) (.any) (.any) (.any) (.own 2 0 (joinL a.labels b.labels).length) (.own 3 0 (joinL a.labels b.labels).length) (.any) (.any) (.any) (.any) (.any) (.any) (.any) (ch (.any) (.any) (.any) (.any) (.any) (.own 2 0 (joinL a.labels b.labels).length) (.d (.int (joinL a.labels b.labels).length)) (.d (.int k)) (.any) (.any) (.any) (.any) (.any) (.any) (.any) (.any) (ch (.any) (.any) (.any) (.any) (.any) (.any) (.any) (.any) (.any) (.any) (.any) (.any) (.any) (.any) (.any) (.any) (ch (.any) (.any) (.any) (.any) (.any) (.any) (.any) (.any) (.any) (.any) (.any) (.any) (.any) (.any) (.any) (.any) [.any, .any, .any, .any, .any, .any, .any, .any, .any, .any]))))) (fun k => [some ⟨0, false, [.d (ints a.labels), .d (ints a.dims), .d (ints a.data)]⟩, some ⟨0, false, [.d (ints b.labels), .d (ints b.dims), .d (ints b.data)]⟩, some ⟨1, true, iv (joinL a.labels b.labels)⟩, some ⟨1, true, iv (mix (joinD a b) (List.replicate (joinL a.labels b.labels).length 0) k)⟩]) (Wk.kept' [2, 3, 7, 8, 21, 22, 23] 4 (Nat.le_of_ble_eq_true rfl) (by first | rfl | simp only [go_sem, seval, reduceCtorEq, keepE, keepF_ch, keepG_ch, keepF, keepG, cut, List.contains_cons, List.contains_nil, Nat.reduceBEq, Int.natCast_zero, Int.natCast_add, Int.natCast_one, mix_zero]) (by first | rfl | simp only [go_sem, seval, reduceCtorEq, keepE, keepF_ch, keepG_ch, keepF, keepG, cut, List.contains_cons, List.contains_nil, Nat.reduceBEq, Int.natCast_zero, Int.natCast_add, Int.natCast_one, mix_zero])) fun k hk => ?_
  unfold L0_impl_joinAxes
  by_cases hlt : k < (joinL a.labels b.labels).length
  · have h1 : (k : Int) < (joinL a.labels b.labels).length := by omega
    have hx : (joinL a.labels b.labels)[k]? = some (joinL a.labels b.labels)[k] := List.getElem?_eq_getElem hlt
    have hm := mem_joinL.1 (List.getElem_mem hlt)
    have hg := joinD_get (a := a) (b := b) hlt
    generalize hl : (joinL a.labels b.labels)[k] = l at *
    simp (disch := omega) only [go_sem, seval, reduceCtorEq, h1, hx]
    (refine gi_call (axisOf_d (t := a) (x := l) (by omega)) ?_ ?_ ?_; (focus (simp only [go_sem, seval, reduceCtorEq]; done)); (first | rfl | (focus (simp only [go_sem]; done))))
    simp only [go_sem, seval, reduceCtorEq]
    (refine ti_call (axisOf_d (t := b) (x := l) (by omega)) ?_ ?_ ?_; (focus (simp only [go_sem, seval, reduceCtorEq]; done)); (first | rfl | (focus (simp only [go_sem]; done))))
    have hlen : (mix (joinD a b) (List.replicate (joinL a.labels b.labels).length 0) k).length = (joinL a.labels b.labels).length := by rw [mix_len (by simp [ld]), ld]
    have hmn := mix_next (l := joinD a b) (r := List.replicate (joinL a.labels b.labels).length 0) (k := k) (by simp [ld]) hg
    by_cases hma : l ∈ a.labels
    · obtain ⟨i, hi1, hi2, hi3, hi4⟩ := dimAt_get lda hma
      have c1 : (i : Int) ≥ 0 := by omega
      have c2 : (i : Int) < a.dims.length := by omega
      rw [if_pos (has_true.2 hma)] at hg hmn
      by_cases hmb : l ∈ b.labels
      · obtain ⟨j, hj1, hj2, hj3, hj4⟩ := dimAt_get ldb hmb
        have c3 : (j : Int) ≥ 0 := by omega
        have c4 : (j : Int) < b.dims.length := by omega
        have e := joinOk_get h hma hmb
        have he : (dimAt a l != dimAt b l) = false := by simp [e]
        simp (disch := omega) only [go_sem, seval, reduceCtorEq, hi3, hj3, c1, c2, c3, c4, hi4, hj4, he, h1]
        refine ⟨by rw [hlen]; omega, ?_⟩
        (refine Next.mk hlt (Wk.kept' [2, 3, 7, 8, 21, 22, 23] 4 (Nat.le_of_ble_eq_true rfl) ?_ ?_) <;> first | rfl | (simp only [go_sem, seval, reduceCtorEq, keepE, keepF_ch, keepG_ch, keepF, keepG, cut, List.contains_cons, List.contains_nil, Nat.reduceBEq, Int.natCast_zero, Int.natCast_add, Int.natCast_one, hmn]; done) | skip)
      · have hj3 := place_no hmb
        simp (disch := omega) only [go_sem, seval, reduceCtorEq, hi3, hj3, c1, c2, hi4, h1]
        refine ⟨by rw [hlen]; omega, ?_⟩
        (refine Next.mk hlt (Wk.kept' [2, 3, 7, 8, 21, 22, 23] 4 (Nat.le_of_ble_eq_true rfl) ?_ ?_) <;> first | rfl | (simp only [go_sem, seval, reduceCtorEq, keepE, keepF_ch, keepG_ch, keepF, keepG, cut, List.contains_cons, List.contains_nil, Nat.reduceBEq, Int.natCast_zero, Int.natCast_add, Int.natCast_one, hmn]; done) | skip)
    · have hi3 := place_no hma
      have hmb := hm.resolve_left hma
      obtain ⟨j, hj1, hj2, hj3, hj4⟩ := dimAt_get ldb hmb
      have c3 : (j : Int) ≥ 0 := by omega
      have c4 : (j : Int) < b.dims.length := by omega
      rw [if_neg (fun e => hma (has_true.1 e))] at hg hmn
      simp (disch := omega) only [go_sem, seval, reduceCtorEq, hi3, hj3, c3, c4, hj4, h1]
      refine ⟨by rw [hlen]; omega, ?_⟩
      (refine Next.mk hlt (Wk.kept' [2, 3, 7, 8, 21, 22, 23] 4 (Nat.le_of_ble_eq_true rfl) ?_ ?_) <;> first | rfl | (simp only [go_sem, seval, reduceCtorEq, keepE, keepF_ch, keepG_ch, keepF, keepG, cut, List.contains_cons, List.contains_nil, Nat.reduceBEq, Int.natCast_zero, Int.natCast_add, Int.natCast_one, hmn]; done) | skip)
  · have h1 : ¬ (k : Int) < (joinL a.labels b.labels).length := by omega
    simp (disch := omega) only [go_sem, seval, reduceCtorEq, h1]
    (refine FnEnd.mk (Nat.le_of_ble_eq_true rfl) rfl (of_decide_eq_true rfl) ?_ ?_ <;> try simp only [go_sem, seval, reduceCtorEq])
    rw [mix_full (by simp; omega) (by omega)]

theorem joinAxes_no {a b : Ten} (ha : axOk a.labels a.dims) (hb : axOk b.labels b.dims) (h : joinOk a b = false) :
    Does Try.prog 126 [tenA a, tenA b] [] (.tup [.nil, .nil, .d (.bool false)]) [] := by
  have la := ha.1
  have lb := hb.1
  have lj := joinL_len a.labels b.labels
  have ld := joinD_len a b
  have lda := ha.len
  have ldb := hb.len
  (refine spec_of (by kernel_rfl) Try.func126 k_impl_joinAxes (fnOk (Nat.le_of_ble_eq_true rfl) ?_); unfold C_impl_joinAxes)
  (simp only [Nat.reduceSub, List.length_cons, List.length_nil, Nat.reduceAdd, ch_init1, ch_init2, ch_init3, ch_init4, ch_init5, ch_init6, ch_init7, ch_init8]; try simp only [ch_rep]); (simp only [go_sem, seval, reduceCtorEq, List.replicate])
  (refine ti_call (joinLabels_d (a := a.labels) (b := b.labels) (by omega) (by omega)) ?_ ?_ ?_; (focus (simp only [go_sem, seval, reduceCtorEq]; done)); (first | rfl | (focus (simp only [go_sem]; done))))
  simp (disch := omega) only [go_sem, seval, reduceCtorEq]
  refine ⟨by omega, ?_⟩
  refine wpN_uptoI ((joinL a.labels b.labels).length) (fun k => ∀ l ∈ (joinL a.labels b.labels).take k, l ∈ a.labels → l ∈ b.labels → dimAt a l = dimAt b l) (fun k => (ch (.any) (.any) (.ptr 0 0) (.ptr 1 0) (.any) (.any) (.any) (.own 2 0 (joinL a.labels b.labels).length) (.own 3 0 (joinL a.labels b.labels).length) (.any) (.any) (.any) (.any) (.any) (.any) (.any) (ch (.any) (.any) (.any) (.any) (.any) (.own 2 0 (joinL a.labels b.labels).length) (.d (.int (joinL a.labels b.labels).length)) (.d (.int k)) (.any) (.any) (.any) (.any) (.any) (.any) (.any) (.any) (ch (.any) (.any) (.any) (.any) (.any) (.any) (.any) (.any) (.any) (.any) (.any) (.any) (.any) (.any) (.any) (.any) (ch (.any) (.any) (.any) (.any) (.any) (.any) (.any) (.any) (.any) (.any) (.any) (.any) (.any) (.any) (.any) (.any) [.any, .any, .any, .any, .any, .any, .any, .any, .any, .any]))))) (fun k => [some ⟨0, false, [.d (ints a.labels), .d (ints a.dims), .d (ints a.data)]⟩, some ⟨0, false, [.d (ints b.labels), .d (ints b.dims), .d (ints b.data)]⟩, some ⟨1, true, iv (joinL a.labels b.labels)⟩, some ⟨1, true, iv (mix (joinD a b) (List.replicate (joinL a.labels b.labels).length 0) k)⟩]) (by simp) (Wk.kept' [2, 3, 7, 8, 21, 22, 23] 4 (Nat.le_of_ble_eq_true rfl) (by first | rfl | simp only [go_sem, seval, reduceCtorEq, keepE, keepF_ch, keepG_ch, keepF, keepG, cut, List.contains_cons, List.contains_nil, Nat.reduceBEq, Int.natCast_zero, Int.natCast_add, Int.natCast_one, mix_zero]) (by first | rfl | simp only [go_sem, seval, reduceCtorEq, keepE, keepF_ch, keepG_ch, keepF, keepG, cut, List.contains_cons, List.contains_nil, Nat.reduceBEq, Int.natCast_zero, Int.natCast_add, Int.natCast_one, mix_zero])) fun k hk hi => ?_
  unfold L0_impl_joinAxes
  by_cases hlt : k < (joinL a.labels b.labels).length
  · have h1 : (k : Int) < (joinL a.labels b.labels).length := by omega
    have hx : (joinL a.labels b.labels)[k]? = some (joinL a.labels b.labels)[k] := List.getElem?_eq_getElem hlt
    have hm := mem_joinL.1 (List.getElem_mem hlt)
    have hg := joinD_get (a := a) (b := b) hlt
    have hi' : ∀ (P : Prop), (P → P) → ((joinL a.labels b.labels)[k] ∈ a.labels → (joinL a.labels b.labels)[k] ∈ b.labels → dimAt a (joinL a.labels b.labels)[k] = dimAt b (joinL a.labels b.labels)[k]) → ∀ l ∈ (joinL a.labels b.labels).take (k + 1), l ∈ a.labels → l ∈ b.labels → dimAt a l = dimAt b l := by
      intro _ _ hh l hl
      rw [take_ss hlt, List.mem_append] at hl
      rcases hl with hl | hl
      · exact hi l hl
      · simp only [List.mem_singleton] at hl
        rw [hl]; exact hh
    replace hi' := hi' True id
    generalize hl : (joinL a.labels b.labels)[k] = l at *
    simp (disch := omega) only [go_sem, seval, reduceCtorEq, h1, hx]
    (refine gi_call (axisOf_d (t := a) (x := l) (by omega)) ?_ ?_ ?_; (focus (simp only [go_sem, seval, reduceCtorEq]; done)); (first | rfl | (focus (simp only [go_sem]; done))))
    simp only [go_sem, seval, reduceCtorEq]
    (refine ti_call (axisOf_d (t := b) (x := l) (by omega)) ?_ ?_ ?_; (focus (simp only [go_sem, seval, reduceCtorEq]; done)); (first | rfl | (focus (simp only [go_sem]; done))))
    have hlen : (mix (joinD a b) (List.replicate (joinL a.labels b.labels).length 0) k).length = (joinL a.labels b.labels).length := by rw [mix_len (by simp [ld]), ld]
    have hmn := mix_next (l := joinD a b) (r := List.replicate (joinL a.labels b.labels).length 0) (k := k) (by simp [ld]) hg
    by_cases hma : l ∈ a.labels
    · obtain ⟨i, hi1, hi2, hi3, hi4⟩ := dimAt_get lda hma
      have c1 : (i : Int) ≥ 0 := by omega
      have c2 : (i : Int) < a.dims.length := by omega
      rw [if_pos (has_true.2 hma)] at hg hmn
      by_cases hmb : l ∈ b.labels
      · obtain ⟨j, hj1, hj2, hj3, hj4⟩ := dimAt_get ldb hmb
        have c3 : (j : Int) ≥ 0 := by omega
        have c4 : (j : Int) < b.dims.length := by omega
        by_cases e : dimAt a l = dimAt b l
        · have he : (dimAt a l != dimAt b l) = false := by simp [e]
          simp (disch := omega) only [go_sem, seval, reduceCtorEq, hi3, hj3, c1, c2, c3, c4, hi4, hj4, he, h1]
          refine ⟨by rw [hlen]; omega, ?_⟩
          (refine NextI.mk hlt (hi' (fun _ _ => e)) (Wk.kept' [2, 3, 7, 8, 21, 22, 23] 4 (Nat.le_of_ble_eq_true rfl) ?_ ?_) <;> first | rfl | (simp only [go_sem, seval, reduceCtorEq, keepE, keepF_ch, keepG_ch, keepF, keepG, cut, List.contains_cons, List.contains_nil, Nat.reduceBEq, Int.natCast_zero, Int.natCast_add, Int.natCast_one, hmn]; done) | skip)
        · have he : (dimAt a l != dimAt b l) = true := by simp [e]
          simp (disch := omega) only [go_sem, seval, reduceCtorEq, hi3, hj3, c1, c2, c3, c4, hi4, hj4, he, h1]
          (refine FnEnd.mk (Nat.le_of_ble_eq_true rfl) rfl (of_decide_eq_true rfl) ?_ ?_ <;> try simp only [go_sem, seval, reduceCtorEq])
      · have hj3 := place_no hmb
        simp (disch := omega) only [go_sem, seval, reduceCtorEq, hi3, hj3, c1, c2, hi4, h1]
        refine ⟨by rw [hlen]; omega, ?_⟩
        (refine NextI.mk hlt (hi' (fun _ h => absurd h hmb)) (Wk.kept' [2, 3, 7, 8, 21, 22, 23] 4 (Nat.le_of_ble_eq_true rfl) ?_ ?_) <;> first | rfl | (simp only [go_sem, seval, reduceCtorEq, keepE, keepF_ch, keepG_ch, keepF, keepG, cut, List.contains_cons, List.contains_nil, Nat.reduceBEq, Int.natCast_zero, Int.natCast_add, Int.natCast_one, hmn]; done) | skip)
    · have hi3 := place_no hma
      have hmb := hm.resolve_left hma
      obtain ⟨j, hj1, hj2, hj3, hj4⟩ := dimAt_get ldb hmb
      have c3 : (j : Int) ≥ 0 := by omega
      have c4 : (j : Int) < b.dims.length := by omega
      rw [if_neg (fun e => hma (has_true.1 e))] at hg hmn
      simp (disch := omega) only [go_sem, seval, reduceCtorEq, hi3, hj3, c3, c4, hj4, h1]
      refine ⟨by rw [hlen]; omega, ?_⟩
      (refine NextI.mk hlt (hi' (fun h => absurd h hma)) (Wk.kept' [2, 3, 7, 8, 21, 22, 23] 4 (Nat.le_of_ble_eq_true rfl) ?_ ?_) <;> first | rfl | (simp only [go_sem, seval, reduceCtorEq, keepE, keepF_ch, keepG_ch, keepF, keepG, cut, List.contains_cons, List.contains_nil, Nat.reduceBEq, Int.natCast_zero, Int.natCast_add, Int.natCast_one, hmn]; done) | skip)
  · rw [List.take_of_length_le (by omega)] at hi
    rw [joinOk_yes fun l hl hl' => hi l (mem_joinL.2 (.inl hl)) hl hl'] at h
    cases h

theorem l08Join_d {a b : Ten} (ha : axOk a.labels a.dims) (hb : axOk b.labels b.dims) (h : joinOk a b = true) :
    Does Try.prog 145 [tenA a, tenA b] [] (.tup [.own 0 0 (joinL a.labels b.labels).length, .own 1 0 (joinD a b).length, .d (.bool true)]) [some ⟨1, true, iv (joinL a.labels b.labels)⟩, some ⟨1, true, iv (joinD a b)⟩] := by
  have la := ha.1
  have lb := hb.1
  have lda := ha.len
  have ldb := hb.len
  (refine spec_of (by kernel_rfl) Try.func145 k_spec_l08Join (fnOk (Nat.le_of_ble_eq_true rfl) ?_); unfold C_spec_l08Join)
  (simp only [Nat.reduceSub, List.length_cons, List.length_nil, Nat.reduceAdd, ch_init1, ch_init2, ch_init3, ch_init4, ch_init5, ch_init6, ch_init7, ch_init8]; try simp only [ch_rep]); (simp only [go_sem, seval, reduceCtorEq, List.replicate])
  (refine ti_call (l05Ints_d (xs := a.labels) (by omega)) ?_ ?_ ?_; (focus (simp only [go_sem, seval, reduceCtorEq]; done)); (first | rfl | (focus (simp only [go_sem]; done))))
  simp only [go_sem, seval, reduceCtorEq]
  (refine ti_call (l05Ints_d (xs := a.dims) (by omega)) ?_ ?_ ?_; (focus (simp only [go_sem, seval, reduceCtorEq]; done)); (first | rfl | (focus (simp only [go_sem]; done))))
  simp only [go_sem, seval, reduceCtorEq]
  refine wpN_upto (b.labels.length) (fun k => (ch (.any) (.any) (.any) (.ptr 1 0) (.any) (.any) (.any) (.own 2 0 (joinLT a.labels b.labels k).length) (.own 3 0 (joinTo a b k).length) (.any) (.any) (.any) (.any) (.any) (.any) (.any) (ch (.any) (.any) (.any) (.d (ints b.labels)) (.d (.int b.labels.length)) (.d (.int k)) (.any) (.any) (.any) (.any) (.any) (.any) (.any) (.any) (.any) (.any) (ch (.any) (.any) (.any) (.any) (.any) (.any) (.any) (.any) (.any) (.any) (.any) (.any) (.any) (.any) (.any) (.any) [.any, .any, .any, .any, .any, .any, .any, .any, .any, .any, .any, .any])))) (fun k => [some ⟨0, false, [.d (ints a.labels), .d (ints a.dims), .d (ints a.data)]⟩, some ⟨0, false, [.d (ints b.labels), .d (ints b.dims), .d (ints b.data)]⟩, some ⟨1, true, iv (joinLT a.labels b.labels k)⟩, some ⟨1, true, iv (joinTo a b k)⟩]) (Wk.kept' [3, 7, 8, 19, 20, 21] 4 (Nat.le_of_ble_eq_true rfl) (by first | rfl | simp only [go_sem, seval, reduceCtorEq, keepE, keepF_ch, keepG_ch, keepF, keepG, cut, List.contains_cons, List.contains_nil, Nat.reduceBEq, Int.natCast_zero, Int.natCast_add, Int.natCast_one, joinLT_zero, joinTo_zero]) (by first | rfl | simp only [go_sem, seval, reduceCtorEq, keepE, keepF_ch, keepG_ch, keepF, keepG, cut, List.contains_cons, List.contains_nil, Nat.reduceBEq, Int.natCast_zero, Int.natCast_add, Int.natCast_one, joinLT_zero, joinTo_zero])) fun k hk => ?_
  unfold L0_spec_l08Join
  by_cases hlt : k < b.labels.length
  · have h1 : (k : Int) < b.labels.length := by omega
    have hx : b.labels[k]? = some b.labels[k] := List.getElem?_eq_getElem hlt
    have hf := hb.fresh hlt
    have hlt' : k < b.dims.length := by omega
    have hda := dimAt_at hb hlt hlt'
    have hdx : b.dims[k]? = some b.dims[k] := List.getElem?_eq_getElem hlt'
    have h2 : (k : Int) < b.dims.length := by omega
    have n1 := joinLT_len a.labels b.labels k
    have n2 := joinTo_len a b k
    simp (disch := omega) only [go_sem, seval, reduceCtorEq, h1, hx]
    (refine ti_call (l05Find_d (xs := joinLT a.labels b.labels k) (x := b.labels[k]) (by omega)) ?_ ?_ ?_; (focus (simp only [go_sem, seval, reduceCtorEq]; done)); (first | rfl | (focus (simp only [go_sem]; done))))
    by_cases hma : b.labels[k] ∈ a.labels
    · obtain ⟨i, hi1, hi2, hi3, hi4⟩ := dimAt_get lda hma
      have hp : place (joinLT a.labels b.labels k) b.labels[k] = i := by rw [joinLT, place_app hma]; exact hi3
      have c1 : (i : Int) ≥ 0 := by omega
      have c0 : ¬ (i : Int) < 0 := by omega
      have c2 : (i : Int) < (joinTo a b k).length := by simp only [joinTo, List.length_append]; omega
      have hi5 := joinTo_get (b := b) (k := k) hi2
      rw [hi4] at hi5
      have e := joinOk_get h hma (List.getElem_mem hlt)
      have he : (dimAt a b.labels[k] != b.dims[k]) = false := by rw [← hda]; simp [e]
      simp (disch := omega) only [go_sem, seval, reduceCtorEq, hp, c0, c1, c2, hi5, h1, h2, hdx, he]
      (refine Next.mk hlt (Wk.kept' [3, 7, 8, 19, 20, 21] 4 (Nat.le_of_ble_eq_true rfl) ?_ ?_) <;> first | rfl | (simp only [go_sem, seval, reduceCtorEq, keepE, keepF_ch, keepG_ch, keepF, keepG, cut, List.contains_cons, List.contains_nil, Nat.reduceBEq, Int.natCast_zero, Int.natCast_add, Int.natCast_one, joinLT_yes hlt hma, joinTo_yes hlt hma]; done) | skip)
    · have hp := place_no (joinLT_fresh hlt hf hma)
      simp (disch := omega) only [go_sem, seval, reduceCtorEq, hp, h1, h2, hdx]
      refine ⟨by omega, ?_⟩
      try simp (disch := omega) only [go_sem, seval, reduceCtorEq, h1, h2, hdx]
      refine ⟨by omega, ?_⟩
      (refine Next.mk hlt (Wk.kept' [3, 7, 8, 19, 20, 21] 4 (Nat.le_of_ble_eq_true rfl) ?_ ?_) <;> first | rfl | (simp only [go_sem, seval, reduceCtorEq, keepE, keepF_ch, keepG_ch, keepF, keepG, cut, List.contains_cons, List.contains_nil, Nat.reduceBEq, Int.natCast_zero, Int.natCast_add, Int.natCast_one, joinLT_no hlt hma, joinTo_no hlt hma, hda, List.length_append]; done) | skip)
  · have h1 : ¬ (k : Int) < b.labels.length := by omega
    have hk' : k = b.labels.length := by omega
    subst hk'
    simp (disch := omega) only [go_sem, seval, reduceCtorEq, h1, joinLT_all, ← joinD_eq ha]
    (refine FnEnd.mk (Nat.le_of_ble_eq_true rfl) rfl (of_decide_eq_true rfl) ?_ ?_ <;> try simp only [go_sem, seval, reduceCtorEq])
theorem l08Join_no {a b : Ten} (ha : axOk a.labels a.dims) (hb : axOk b.labels b.dims) (h : joinOk a b = false) :
    Does Try.prog 145 [tenA a, tenA b] [] (.tup [.nil, .nil, .d (.bool false)]) [] := by
  have la := ha.1
  have lb := hb.1
  have lda := ha.len
  have ldb := hb.len
  (refine spec_of (by kernel_rfl) Try.func145 k_spec_l08Join (fnOk (Nat.le_of_ble_eq_true rfl) ?_); unfold C_spec_l08Join)
  (simp only [Nat.reduceSub, List.length_cons, List.length_nil, Nat.reduceAdd, ch_init1, ch_init2, ch_init3, ch_init4, ch_init5, ch_init6, ch_init7, ch_init8]; try simp only [ch_rep]); (simp only [go_sem, seval, reduceCtorEq, List.replicate])
  (refine ti_call (l05Ints_d (xs := a.labels) (by omega)) ?_ ?_ ?_; (focus (simp only [go_sem, seval, reduceCtorEq]; done)); (first | rfl | (focus (simp only [go_sem]; done))))
  simp only [go_sem, seval, reduceCtorEq]
  (refine ti_call (l05Ints_d (xs := a.dims) (by omega)) ?_ ?_ ?_; (focus (simp only [go_sem, seval, reduceCtorEq]; done)); (first | rfl | (focus (simp only [go_sem]; done))))
  simp only [go_sem, seval, reduceCtorEq]
  refine wpN_uptoI (b.labels.length) (fun k => ∀ l ∈ b.labels.take k, l ∈ a.labels → dimAt a l = dimAt b l) (fun k => (ch (.any) (.any) (.any) (.ptr 1 0) (.any) (.any) (.any) (.own 2 0 (joinLT a.labels b.labels k).length) (.own 3 0 (joinTo a b k).length) (.any) (.any) (.any) (.any) (.any) (.any) (.any) (ch (.any) (.any) (.any) (.d (ints b.labels)) (.d (.int b.labels.length)) (.d (.int k)) (.any) (.any) (.any) (.any) (.any) (.any) (.any) (.any) (.any) (.any) (ch (.any) (.any) (.any) (.any) (.any) (.any) (.any) (.any) (.any) (.any) (.any) (.any) (.any) (.any) (.any) (.any) [.any, .any, .any, .any, .any, .any, .any, .any, .any, .any, .any, .any])))) (fun k => [some ⟨0, false, [.d (ints a.labels), .d (ints a.dims), .d (ints a.data)]⟩, some ⟨0, false, [.d (ints b.labels), .d (ints b.dims), .d (ints b.data)]⟩, some ⟨1, true, iv (joinLT a.labels b.labels k)⟩, some ⟨1, true, iv (joinTo a b k)⟩]) (by simp) (Wk.kept' [3, 7, 8, 19, 20, 21] 4 (Nat.le_of_ble_eq_true rfl) (by first | rfl | simp only [go_sem, seval, reduceCtorEq, keepE, keepF_ch, keepG_ch, keepF, keepG, cut, List.contains_cons, List.contains_nil, Nat.reduceBEq, Int.natCast_zero, Int.natCast_add, Int.natCast_one, joinLT_zero, joinTo_zero]) (by first | rfl | simp only [go_sem, seval, reduceCtorEq, keepE, keepF_ch, keepG_ch, keepF, keepG, cut, List.contains_cons, List.contains_nil, Nat.reduceBEq, Int.natCast_zero, Int.natCast_add, Int.natCast_one, joinLT_zero, joinTo_zero])) fun k hk hi => ?_
  unfold L0_spec_l08Join
  by_cases hlt : k < b.labels.length
  · have h1 : (k : Int) < b.labels.length := by omega
    have hx : b.labels[k]? = some b.labels[k] := List.getElem?_eq_getElem hlt
    have hf := hb.fresh hlt
    have hlt' : k < b.dims.length := by omega
    have hda := dimAt_at hb hlt hlt'
    have hdx : b.dims[k]? = some b.dims[k] := List.getElem?_eq_getElem hlt'
    have h2 : (k : Int) < b.dims.length := by omega
    have hi' : (b.labels[k] ∈ a.labels → dimAt a b.labels[k] = dimAt b b.labels[k]) → ∀ l ∈ b.labels.take (k + 1), l ∈ a.labels → dimAt a l = dimAt b l := by
      intro hh l hl
      rw [take_ss hlt, List.mem_append] at hl
      rcases hl with hl | hl
      · exact hi l hl
      · simp only [List.mem_singleton] at hl
        rw [hl]; exact hh
    have n1 := joinLT_len a.labels b.labels k
    have n2 := joinTo_len a b k
    simp (disch := omega) only [go_sem, seval, reduceCtorEq, h1, hx]
    (refine ti_call (l05Find_d (xs := joinLT a.labels b.labels k) (x := b.labels[k]) (by omega)) ?_ ?_ ?_; (focus (simp only [go_sem, seval, reduceCtorEq]; done)); (first | rfl | (focus (simp only [go_sem]; done))))
    by_cases hma : b.labels[k] ∈ a.labels
    · obtain ⟨i, hi1, hi2, hi3, hi4⟩ := dimAt_get lda hma
      have hp : place (joinLT a.labels b.labels k) b.labels[k] = i := by rw [joinLT, place_app hma]; exact hi3
      have c1 : (i : Int) ≥ 0 := by omega
      have c0 : ¬ (i : Int) < 0 := by omega
      have c2 : (i : Int) < (joinTo a b k).length := by simp only [joinTo, List.length_append]; omega
      have hi5 := joinTo_get (b := b) (k := k) hi2
      rw [hi4] at hi5
      by_cases e : dimAt a b.labels[k] = dimAt b b.labels[k]
      · have he : (dimAt a b.labels[k] != b.dims[k]) = false := by rw [← hda]; simp [e]
        simp (disch := omega) only [go_sem, seval, reduceCtorEq, hp, c0, c1, c2, hi5, h1, h2, hdx, he]
        (refine NextI.mk hlt (hi' (fun _ => e)) (Wk.kept' [3, 7, 8, 19, 20, 21] 4 (Nat.le_of_ble_eq_true rfl) ?_ ?_) <;> first | rfl | (simp only [go_sem, seval, reduceCtorEq, keepE, keepF_ch, keepG_ch, keepF, keepG, cut, List.contains_cons, List.contains_nil, Nat.reduceBEq, Int.natCast_zero, Int.natCast_add, Int.natCast_one, joinLT_yes hlt hma, joinTo_yes hlt hma]; done) | skip)
      · have he : (dimAt a b.labels[k] != b.dims[k]) = true := by rw [← hda]; simp [e]
        simp (disch := omega) only [go_sem, seval, reduceCtorEq, hp, c0, c1, c2, hi5, h1, h2, hdx, he]
        (refine FnEnd.mk (Nat.le_of_ble_eq_true rfl) rfl (of_decide_eq_true rfl) ?_ ?_ <;> try simp only [go_sem, seval, reduceCtorEq])
    · have hp := place_no (joinLT_fresh hlt hf hma)
      simp (disch := omega) only [go_sem, seval, reduceCtorEq, hp, h1, h2, hdx]
      refine ⟨by omega, ?_⟩
      try simp (disch := omega) only [go_sem, seval, reduceCtorEq, h1, h2, hdx]
      refine ⟨by omega, ?_⟩
      (refine NextI.mk hlt (hi' (fun h => absurd h hma)) (Wk.kept' [3, 7, 8, 19, 20, 21] 4 (Nat.le_of_ble_eq_true rfl) ?_ ?_) <;> first | rfl | (simp only [go_sem, seval, reduceCtorEq, keepE, keepF_ch, keepG_ch, keepF, keepG, cut, List.contains_cons, List.contains_nil, Nat.reduceBEq, Int.natCast_zero, Int.natCast_add, Int.natCast_one, joinLT_no hlt hma, joinTo_no hlt hma, hda, List.length_append]; done) | skip)
  · rw [List.take_of_length_le (by omega)] at hi
    rw [joinOk_yes fun l hl hl' => hi l hl' hl] at h
    cases h

end Go.Proofs.Ytcgnehacihjnkaa

/-
  Contracts: copies of tensors, marks that are held, relabelling. No condition.
-/
namespace Go.Proofs.Ytcgnehacihjnkaa
open Go.RowKit Go.Lift Plain
set_option linter.unusedSimpArgs false
set_option linter.unusedVariables false
set_option maxRecDepth 100000

theorem l05Copy_d {t : Ten} (h : TSz 1048576 t) : Does Try.prog 139 [tenA t] [] (ownT 0 t) (stoT t) := by
  (refine spec_of (by kernel_rfl) Try.func139 k_spec_l05Copy (fnOk (Nat.le_of_ble_eq_true rfl) ?_); unfold C_spec_l05Copy)
  (simp only [Nat.reduceSub, List.length_cons, List.length_nil, Nat.reduceAdd, ch_init1, ch_init2, ch_init3, ch_init4, ch_init5, ch_init6, ch_init7, ch_init8]; try simp only [ch_rep]); (simp only [go_sem, seval, reduceCtorEq, List.replicate])
  (refine gi_call (l05Ints_d (xs := t.labels) h.l.up.len) ?_ ?_ ?_; (focus (simp only [go_sem, seval, reduceCtorEq]; done)); (first | rfl | (focus (simp only [go_sem]; done))))
  simp only [go_sem, seval, reduceCtorEq]
  (refine gi_call (l05Ints_d (xs := t.dims) h.d.up.len) ?_ ?_ ?_; (focus (simp only [go_sem, seval, reduceCtorEq]; done)); (first | rfl | (focus (simp only [go_sem]; done))))
  simp only [go_sem, seval, reduceCtorEq]
  (refine ti_call (l05Ints_d (xs := t.data) h.x.up.len) ?_ ?_ ?_; (focus (simp only [go_sem, seval, reduceCtorEq]; done)); (first | rfl | (focus (simp only [go_sem]; done))))
  simp only [go_sem, seval, reduceCtorEq]
  (refine FnEnd.mk (Nat.le_of_ble_eq_true rfl) rfl (of_decide_eq_true rfl) ?_ ?_ <;> try simp only [go_sem, seval, reduceCtorEq])
theorem heldTensor_d {t : Ten} {m : Int} (h : TSz 1048576 t) (h0 : 0 ≤ m ∧ m ≤ 1073741824) : Does Try.prog 35 [tenA (markT t m), .d (.int m)] [] (.d (.int (m + t.labels.length + t.dims.length + t.data.length))) [] := by
  have h1 := h.l.len
  have h2 := h.d.len
  have h3 := h.x.len
  (refine spec_of (by kernel_rfl) Try.func35 k_laws_heldTensor (fnOk (Nat.le_of_ble_eq_true rfl) ?_); unfold C_laws_heldTensor)
  (simp only [Nat.reduceSub, List.length_cons, List.length_nil, Nat.reduceAdd, ch_init1, ch_init2, ch_init3, ch_init4, ch_init5, ch_init6, ch_init7, ch_init8]; try simp only [ch_rep]); (simp only [go_sem, seval, reduceCtorEq, List.replicate])
  have e1 : (markL t.labels m).length = t.labels.length := markL_len _ _
  (refine ti_call (heldIntS_d (xs := markL t.labels m) (m := m) (by rw [markL_len]; omega) (by omega)) ?_ ?_ ?_; (focus (simp only [go_sem, seval, reduceCtorEq]; done)); (first | rfl | (focus (simp only [go_sem]; done))))
  have n1 : ¬ m + (t.labels.length : Int) < 0 := by omega
  simp only [go_sem, seval, reduceCtorEq, heldR_mark, n1]
  (refine ti_call (heldIntS_d (xs := markL t.dims (m + t.labels.length)) (m := m + t.labels.length) (by rw [markL_len]; omega) (by omega)) ?_ ?_ ?_; (focus (simp only [go_sem, seval, reduceCtorEq]; done)); (first | rfl | (focus (simp only [go_sem]; done))))
  have n2 : ¬ m + (t.labels.length : Int) + t.dims.length < 0 := by omega
  simp only [go_sem, seval, reduceCtorEq, heldR_mark, n2]
  (refine ti_call (heldIntS_d (xs := markL t.data (m + t.labels.length + t.dims.length)) (m := m + t.labels.length + t.dims.length) (by rw [markL_len]; omega) (by omega)) ?_ ?_ ?_; (focus (simp only [go_sem, seval, reduceCtorEq]; done)); (first | rfl | (focus (simp only [go_sem]; done))))
  have n3 : ¬ m + (t.labels.length : Int) + t.dims.length + t.data.length < 0 := by omega
  simp only [go_sem, seval, reduceCtorEq, heldR_mark, n3]
  (refine FnEnd.mk (Nat.le_of_ble_eq_true rfl) rfl (of_decide_eq_true rfl) ?_ ?_ <;> try simp only [go_sem, seval, reduceCtorEq])

/-! ### Relabelling -/
def relL (fs ts ls : List Int) : List Int := ls.map fun l => ren1 l fs ts
theorem relL_len (fs ts ls : List Int) : (relL fs ts ls).length = ls.length := by simp [relL]
theorem iv_nil : iv [] = [] := rfl
attribute [go_sem] iv_nil
theorem relL_take (fs ts ls : List Int) : (relL fs ts ls).take ls.length = relL fs ts ls := List.take_of_length_le (by rw [relL_len]; exact Nat.le_refl _)
attribute [local go_sem] relL_len relL_take
end Go.Proofs.Ytcgnehacihjnkaa

/-
  Contracts: elements of a tensor that are written. No condition.
-/
namespace Go.Proofs.Ytcgnehacihjnkaa
open Go.RowKit Go.Lift Plain
set_option linter.unusedSimpArgs false
set_option linter.unusedVariables false
set_option maxRecDepth 100000

/-- ys written over xs from off on. -/
def putE (xs : List Int) (off : Nat) (ys : List Int) : List Int := xs.take off ++ ys ++ xs.drop (off + ys.length)
theorem putE_len {xs ys : List Int} {off : Nat} (h : off + ys.length ≤ xs.length) : (putE xs off ys).length = xs.length := by simp [putE]; omega
theorem putE_get {xs ys : List Int} {off i : Nat} (h : off + ys.length ≤ xs.length) : (putE xs off ys)[i]? = if off ≤ i ∧ i < off + ys.length then ys[i - off]? else xs[i]? := by
  unfold putE
  by_cases h1 : i < off
  · rw [if_neg (by omega), List.append_assoc, List.getElem?_append_left (by simp; omega), List.getElem?_take, if_pos h1]
  · by_cases h2 : i < off + ys.length
    · rw [if_pos (by omega), List.getElem?_append_left (by simp; omega), List.getElem?_append_right (by simp; omega)]
      congr 1
      simp; omega
    · rw [if_neg (by omega), List.getElem?_append_right (by simp; omega), List.getElem?_drop]
      congr 1
      simp; omega
/-- One more written. -/
theorem putE_next {xs ys : List Int} {off k : Nat} (h : off + ys.length ≤ xs.length) (hk : k < ys.length) :
    (putE xs off (ys.take k)).take (off + k) ++ [ys[k]] ++ (putE xs off (ys.take k)).drop (off + k + 1) = putE xs off (ys.take (k + 1)) := by
  have hl : (ys.take k).length = k := by simp; omega
  rw [put_set (by rw [putE_len (by omega)]; omega)]
  refine List.ext_getElem? fun i => ?_
  rw [List.getElem?_set, putE_get (by omega), putE_get (by simp; omega), putE_len (by omega)]
  have hl2 : (ys.take (k + 1)).length = k + 1 := by simp; omega
  rw [hl, hl2]
  by_cases h1 : off + k = i
  · subst h1
    rw [if_pos rfl, if_pos (by omega), if_pos (by omega), List.getElem?_take, if_pos (by omega), show off + k - off = k by omega, List.getElem?_eq_getElem hk]
  · rw [if_neg h1]
    by_cases h2 : off ≤ i ∧ i < off + k
    · rw [if_pos h2, if_pos (by omega), List.getElem?_take, List.getElem?_take, if_pos (by omega), if_pos (by omega)]
    · rw [if_neg h2, if_neg (by omega)]
theorem putE_zero (xs : List Int) (off : Nat) : putE xs off [] = xs := by simp [putE]
theorem l05Copy_f {t : Ten} (h : TSz 1048576 t) : Does Try.prog 139 [tenA t] [] (ownT 0 t) (stoF t) := (l05Copy_d h).nog [0, 1, 2] rfl
theorem l05Put_d {x wd : Nat} {kk pp nn : Int} {t : Ten} {ys : List Int} (hw : width ⟨kk, pp, nn⟩ = (wd : Int)) (hy : ys.length = wd) (h1 : 1 ≤ wd ∧ wd ≤ 6) (hx : x * wd + wd ≤ t.data.length) (hx2 : x ≤ 1099511627776) (h : t.data.length ≤ 1099511627776) :
    Does Try.prog 155 [ringA kk pp nn, ownT 0 t, .d (.int x), .d (ints ys)] (stoF t) (.tup []) (stoF ⟨t.labels, t.dims, putE t.data (x * wd) ys⟩) := by
  (refine spec_of (by kernel_rfl) Try.func155 k_spec_l05Put (fnOk (Nat.le_of_ble_eq_true rfl) ?_); unfold C_spec_l05Put)
  (simp only [Nat.reduceSub, List.length_cons, List.length_nil, Nat.reduceAdd, ch_init1, ch_init2, ch_init3, ch_init4, ch_init5, ch_init6, ch_init7, ch_init8]; try simp only [ch_rep]); (simp only [go_sem, seval, reduceCtorEq, List.replicate])
  (refine ti_call (l02Width_d kk pp nn) ?_ ?_ ?_; (focus (simp only [go_sem, seval, reduceCtorEq]; done)); (first | rfl | (focus (simp only [go_sem]; done))))
  simp only [go_sem, seval, reduceCtorEq, hw]
  refine wpN_upto (ys.length) (fun k => (ch (.any) (.any) (.d (.int x)) (.d (ints ys)) (.any) (.ptr 4 0) (.any) (.any) (.d (.int wd)) (.any) (.any) (.any) (.any) (.d (.int ys.length)) (.d (.int k)) (.any) [.any, .any, .any, .any, .any, .any, .any, .any, .any, .any, .any, .any, .any, .any])) (fun k => [some ⟨1, false, iv t.labels⟩, some ⟨1, false, iv t.dims⟩, some ⟨1, false, iv (putE t.data (x * wd) (ys.take k))⟩, some ⟨0, false, [.d (.int kk), .d (.int pp), .d (.int nn)]⟩, some ⟨0, false, [.own 0 0 t.labels.length, .own 1 0 t.dims.length, .own 2 0 t.data.length]⟩]) (Wk.kept' [2, 3, 5, 8, 13, 14] 5 (Nat.le_of_ble_eq_true rfl) (by first | rfl | simp only [go_sem, seval, reduceCtorEq, keepE, keepF_ch, keepG_ch, keepF, keepG, cut, List.contains_cons, List.contains_nil, Nat.reduceBEq, Int.natCast_zero, Int.natCast_add, Int.natCast_one, List.take_zero, putE_zero]) (by first | rfl | simp only [go_sem, seval, reduceCtorEq, keepE, keepF_ch, keepG_ch, keepF, keepG, cut, List.contains_cons, List.contains_nil, Nat.reduceBEq, Int.natCast_zero, Int.natCast_add, Int.natCast_one, List.take_zero, putE_zero])) fun k hk => ?_
  unfold L0_spec_l05Put
  by_cases hlt : k < ys.length
  · have h1 : (k : Int) < ys.length := by omega
    have hx : ys[k]? = some ys[k] := List.getElem?_eq_getElem hlt
    have e1 : (x : Int) * wd = (x * wd : Nat) := by push_cast; rfl
    have e2 : ((x * wd : Nat) : Int) + k = (x * wd + k : Nat) := by push_cast; rfl
    have hlk : (ys.take k).length = k := by simp; omega
    have hpl : (putE t.data (x * wd) (ys.take k)).length = t.data.length := putE_len (by omega)
    have hn := putE_next (xs := t.data) (ys := ys) (off := x * wd) (k := k) (by omega) hlt
    simp (disch := omega) only [go_sem, seval, reduceCtorEq, h1, hx, e1, e2]
    refine ⟨by omega, by rw [hpl]; omega, ?_⟩
    (refine Next.mk hlt (Wk.kept' [2, 3, 5, 8, 13, 14] 5 (Nat.le_of_ble_eq_true rfl) ?_ ?_) <;> first | rfl | (simp only [go_sem, seval, reduceCtorEq, keepE, keepF_ch, keepG_ch, keepF, keepG, cut, List.contains_cons, List.contains_nil, Nat.reduceBEq, Int.natCast_zero, Int.natCast_add, Int.natCast_one, hn]; done) | skip)
  · have h1 : ¬ (k : Int) < ys.length := by omega
    simp (disch := omega) only [go_sem, seval, reduceCtorEq, h1]
    (refine FnEnd.mk (Nat.le_of_ble_eq_true rfl) rfl (of_decide_eq_true rfl) ?_ ?_ <;> try simp only [go_sem, seval, reduceCtorEq])
    all_goals rw [List.take_of_length_le (by omega)]

/-! ### An element set -/
end Go.Proofs.Ytcgnehacihjnkaa
