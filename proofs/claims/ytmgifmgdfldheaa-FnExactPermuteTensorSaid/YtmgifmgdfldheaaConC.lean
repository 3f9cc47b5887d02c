/-
  Contracts of the helpers: members, places, products. No condition.
-/
import Derived.Test.YtmgifmgdfldheaaCodeB
import Derived.Test.YtmgifmgdfldheaaConB
import Derived.Test.YtmgifmgdfldheaaPl1
namespace Go.Proofs.Ytmgifmgdfldheaa
open Go.RowKit Go.Lift Plain
set_option linter.unusedSimpArgs false
set_option linter.unusedVariables false
set_option maxRecDepth 100000

theorem hasInt_d {xs : List Int} {x : Int} (h : xs.length ≤ 1099511627776) : Does Try.prog 52 [.d (ints xs), .d (.int x)] [] (.d (.bool (has xs x))) [] := by
  (refine spec_of (by kernel_rfl) Try.func52 k_impl_hasInt (fnOk (Nat.le_of_ble_eq_true rfl) ?_); unfold C_impl_hasInt)
  (simp only [Nat.reduceSub, List.length_cons, List.length_nil, Nat.reduceAdd, ch_init1, ch_init2, ch_init3, ch_init4, ch_init5, ch_init6, ch_init7, ch_init8]; try simp only [ch_rep]); (simp only [go_sem, seval, reduceCtorEq, List.replicate])
  refine wpN_uptoI (xs.length) (fun k => x ∉ xs.take k) (fun k => (ch (.any) (.d (.int x)) (.any) (.any) (.any) (.any) (.any) (.d (ints xs)) (.d (.int xs.length)) (.d (.int k)) (.any) (.any) (.any) (.any) (.any) (.any) [.any])) (fun k => []) (by simp) (Wk.kept' [1, 7, 8, 9] 0 (Nat.le_of_ble_eq_true rfl) (by first | rfl | simp only [go_sem, seval, reduceCtorEq, keepE, keepF_ch, keepG_ch, keepF, keepG, cut, List.contains_cons, List.contains_nil, Nat.reduceBEq, Int.natCast_zero, Int.natCast_add, Int.natCast_one]) (by first | rfl | simp only [go_sem, seval, reduceCtorEq, keepE, keepF_ch, keepG_ch, keepF, keepG, cut, List.contains_cons, List.contains_nil, Nat.reduceBEq, Int.natCast_zero, Int.natCast_add, Int.natCast_one])) fun k hk hi => ?_
  unfold L0_impl_hasInt
  by_cases hlt : k < xs.length
  · have h1 : (k : Int) < xs.length := by omega
    have hx : xs[k]? = some xs[k] := List.getElem?_eq_getElem hlt
    by_cases he : x = xs[k]
    · have he' : (x == xs[k]) = true := by simp [he]
      have e : has xs x = true := has_true.2 (by rw [he]; exact List.getElem_mem _)
      simp (disch := omega) only [go_sem, seval, reduceCtorEq, h1, hx, he', e]
      (refine FnEnd.mk (Nat.le_of_ble_eq_true rfl) rfl (of_decide_eq_true rfl) ?_ ?_ <;> try simp only [go_sem, seval, reduceCtorEq])
    · have he' : (x == xs[k]) = false := by simp [he]
      simp (disch := omega) only [go_sem, seval, reduceCtorEq, h1, hx, he']
      (refine NextI.mk hlt (not_mem_take hlt hi he) (Wk.kept' [1, 7, 8, 9] 0 (Nat.le_of_ble_eq_true rfl) ?_ ?_) <;> first | rfl | (simp only [go_sem, seval, reduceCtorEq, keepE, keepF_ch, keepG_ch, keepF, keepG, cut, List.contains_cons, List.contains_nil, Nat.reduceBEq, Int.natCast_zero, Int.natCast_add, Int.natCast_one]; done) | skip)
  · have h1 : ¬ (k : Int) < xs.length := by omega
    have e : has xs x = false := has_false.2 (by rw [List.take_of_length_le (by omega)] at hi; exact hi)
    simp (disch := omega) only [go_sem, seval, reduceCtorEq, h1, e]
    (refine FnEnd.mk (Nat.le_of_ble_eq_true rfl) rfl (of_decide_eq_true rfl) ?_ ?_ <;> try simp only [go_sem, seval, reduceCtorEq])

theorem axisOf_d {t : Ten} {x : Int} (h : t.labels.length ≤ 1099511627776) : Does Try.prog 80 [tenA t, .d (.int x)] [] (.d (.int (place t.labels x))) [] := by
  (refine spec_of (by kernel_rfl) Try.func80 k_impl_axisOf (fnOk (Nat.le_of_ble_eq_true rfl) ?_); unfold C_impl_axisOf)
  (simp only [Nat.reduceSub, List.length_cons, List.length_nil, Nat.reduceAdd, ch_init1, ch_init2, ch_init3, ch_init4, ch_init5, ch_init6, ch_init7, ch_init8]; try simp only [ch_rep]); (simp only [go_sem, seval, reduceCtorEq, List.replicate])
  refine wpN_uptoI (t.labels.length) (fun k => x ∉ t.labels.take k) (fun k => (ch (.any) (.d (.int x)) (.any) (.any) (.any) (.any) (.any) (.any) (.d (ints t.labels)) (.d (.int t.labels.length)) (.d (.int k)) (.any) (.any) (.any) (.any) (.any) [.any, .any, .any, .any])) (fun k => []) (by simp) (Wk.kept' [1, 8, 9, 10] 0 (Nat.le_of_ble_eq_true rfl) (by first | rfl | simp only [go_sem, seval, reduceCtorEq, keepE, keepF_ch, keepG_ch, keepF, keepG, cut, List.contains_cons, List.contains_nil, Nat.reduceBEq, Int.natCast_zero, Int.natCast_add, Int.natCast_one]) (by first | rfl | simp only [go_sem, seval, reduceCtorEq, keepE, keepF_ch, keepG_ch, keepF, keepG, cut, List.contains_cons, List.contains_nil, Nat.reduceBEq, Int.natCast_zero, Int.natCast_add, Int.natCast_one])) fun k hk hi => ?_
  unfold L0_impl_axisOf
  by_cases hlt : k < t.labels.length
  · have h1 : (k : Int) < t.labels.length := by omega
    have hx : t.labels[k]? = some t.labels[k] := List.getElem?_eq_getElem hlt
    by_cases he : t.labels[k] = x
    · have he' : (t.labels[k] == x) = true := by simp [he]
      have e : place t.labels x = k := by rw [← he]; exact place_at hlt (by rw [he]; exact hi)
      simp (disch := omega) only [go_sem, seval, reduceCtorEq, h1, hx, he', e]
      (refine FnEnd.mk (Nat.le_of_ble_eq_true rfl) rfl (of_decide_eq_true rfl) ?_ ?_ <;> try simp only [go_sem, seval, reduceCtorEq])
    · have he' : (t.labels[k] == x) = false := by simp [he]
      simp (disch := omega) only [go_sem, seval, reduceCtorEq, h1, hx, he']
      (refine NextI.mk hlt (not_mem_take hlt hi (fun e => he e.symm)) (Wk.kept' [1, 8, 9, 10] 0 (Nat.le_of_ble_eq_true rfl) ?_ ?_) <;> first | rfl | (simp only [go_sem, seval, reduceCtorEq, keepE, keepF_ch, keepG_ch, keepF, keepG, cut, List.contains_cons, List.contains_nil, Nat.reduceBEq, Int.natCast_zero, Int.natCast_add, Int.natCast_one]; done) | skip)
  · have h1 : ¬ (k : Int) < t.labels.length := by omega
    have e : place t.labels x = -1 := place_no (by rw [List.take_of_length_le (by omega)] at hi; exact hi)
    simp (disch := omega) only [go_sem, seval, reduceCtorEq, h1, e]
    (refine FnEnd.mk (Nat.le_of_ble_eq_true rfl) rfl (of_decide_eq_true rfl) ?_ ?_ <;> try simp only [go_sem, seval, reduceCtorEq])
theorem l05Find_d {xs : List Int} {x : Int} (h : xs.length ≤ 1099511627776) : Does Try.prog 78 [.d (ints xs), .d (.int x)] [] (.d (.int (place xs x))) [] := by
  (refine spec_of (by kernel_rfl) Try.func78 k_spec_l05Find (fnOk (Nat.le_of_ble_eq_true rfl) ?_); unfold C_spec_l05Find)
  (simp only [Nat.reduceSub, List.length_cons, List.length_nil, Nat.reduceAdd, ch_init1, ch_init2, ch_init3, ch_init4, ch_init5, ch_init6, ch_init7, ch_init8]; try simp only [ch_rep]); (simp only [go_sem, seval, reduceCtorEq, List.replicate])
  refine wpN_uptoI (xs.length) (fun k => x ∉ xs.take k) (fun k => (ch (.any) (.d (.int x)) (.any) (.any) (.any) (.any) (.any) (.d (ints xs)) (.d (.int xs.length)) (.d (.int k)) (.any) (.any) (.any) (.any) (.any) (.any) [.any, .any, .any])) (fun k => []) (by simp) (Wk.kept' [1, 7, 8, 9] 0 (Nat.le_of_ble_eq_true rfl) (by first | rfl | simp only [go_sem, seval, reduceCtorEq, keepE, keepF_ch, keepG_ch, keepF, keepG, cut, List.contains_cons, List.contains_nil, Nat.reduceBEq, Int.natCast_zero, Int.natCast_add, Int.natCast_one]) (by first | rfl | simp only [go_sem, seval, reduceCtorEq, keepE, keepF_ch, keepG_ch, keepF, keepG, cut, List.contains_cons, List.contains_nil, Nat.reduceBEq, Int.natCast_zero, Int.natCast_add, Int.natCast_one])) fun k hk hi => ?_
  unfold L0_spec_l05Find
  by_cases hlt : k < xs.length
  · have h1 : (k : Int) < xs.length := by omega
    have hx : xs[k]? = some xs[k] := List.getElem?_eq_getElem hlt
    by_cases he : xs[k] = x
    · have he' : (xs[k] == x) = true := by simp [he]
      have e : place xs x = k := by rw [← he]; exact place_at hlt (by rw [he]; exact hi)
      simp (disch := omega) only [go_sem, seval, reduceCtorEq, h1, hx, he', e]
      (refine FnEnd.mk (Nat.le_of_ble_eq_true rfl) rfl (of_decide_eq_true rfl) ?_ ?_ <;> try simp only [go_sem, seval, reduceCtorEq])
    · have he' : (xs[k] == x) = false := by simp [he]
      simp (disch := omega) only [go_sem, seval, reduceCtorEq, h1, hx, he']
      (refine NextI.mk hlt (not_mem_take hlt hi (fun e => he e.symm)) (Wk.kept' [1, 7, 8, 9] 0 (Nat.le_of_ble_eq_true rfl) ?_ ?_) <;> first | rfl | (simp only [go_sem, seval, reduceCtorEq, keepE, keepF_ch, keepG_ch, keepF, keepG, cut, List.contains_cons, List.contains_nil, Nat.reduceBEq, Int.natCast_zero, Int.natCast_add, Int.natCast_one]; done) | skip)
  · have h1 : ¬ (k : Int) < xs.length := by omega
    have e : place xs x = -1 := place_no (by rw [List.take_of_length_le (by omega)] at hi; exact hi)
    simp (disch := omega) only [go_sem, seval, reduceCtorEq, h1, e]
    (refine FnEnd.mk (Nat.le_of_ble_eq_true rfl) rfl (of_decide_eq_true rfl) ?_ ?_ <;> try simp only [go_sem, seval, reduceCtorEq])
def ren1 (x : Int) (fs ts : List Int) : Int := if x ∈ fs then ts.getD (place fs x).toNat 0 else x
theorem renamed_d {x : Int} {fs ts : List Int} (h : fs.length ≤ 1099511627776) (hl : fs.length = ts.length) : Does Try.prog 74 [.d (.int x), .d (ints fs), .d (ints ts)] [] (.d (.int (ren1 x fs ts))) [] := by
  (refine spec_of (by kernel_rfl) Try.func74 k_impl_renamed (fnOk (Nat.le_of_ble_eq_true rfl) ?_); unfold C_impl_renamed)
  (simp only [Nat.reduceSub, List.length_cons, List.length_nil, Nat.reduceAdd, ch_init1, ch_init2, ch_init3, ch_init4, ch_init5, ch_init6, ch_init7, ch_init8]; try simp only [ch_rep]); (simp only [go_sem, seval, reduceCtorEq, List.replicate])
  refine wpN_uptoI (fs.length) (fun k => x ∉ fs.take k) (fun k => (ch (.d (.int x)) (.any) (.d (ints ts)) (.any) (.any) (.any) (.any) (.any) (.any) (.d (ints fs)) (.d (.int fs.length)) (.d (.int k)) (.any) (.any) (.any) (.any) [.any, .any, .any, .any, .any, .any, .any, .any, .any])) (fun k => []) (by simp) (Wk.kept' [0, 2, 9, 10, 11] 0 (Nat.le_of_ble_eq_true rfl) (by first | rfl | simp only [go_sem, seval, reduceCtorEq, keepE, keepF_ch, keepG_ch, keepF, keepG, cut, List.contains_cons, List.contains_nil, Nat.reduceBEq, Int.natCast_zero, Int.natCast_add, Int.natCast_one]) (by first | rfl | simp only [go_sem, seval, reduceCtorEq, keepE, keepF_ch, keepG_ch, keepF, keepG, cut, List.contains_cons, List.contains_nil, Nat.reduceBEq, Int.natCast_zero, Int.natCast_add, Int.natCast_one])) fun k hk hi => ?_
  unfold L0_impl_renamed
  by_cases hlt : k < fs.length
  · have h1 : (k : Int) < fs.length := by omega
    have h2 : (k : Int) < ts.length := by omega
    have hlt' : k < ts.length := by omega
    have hx : fs[k]? = some fs[k] := List.getElem?_eq_getElem hlt
    have hy : ts[k]? = some ts[k] := List.getElem?_eq_getElem hlt'
    by_cases he : fs[k] = x
    · have he' : (fs[k] == x) = true := by simp [he]
      have e : ren1 x fs ts = ts[k] := by
        rw [ren1, if_pos (by rw [← he]; exact List.getElem_mem _), ← he, place_at hlt (by rw [he]; exact hi)]
        simp [hlt']
      simp (disch := omega) only [go_sem, seval, reduceCtorEq, h1, h2, hx, hy, he', e]
      (refine FnEnd.mk (Nat.le_of_ble_eq_true rfl) rfl (of_decide_eq_true rfl) ?_ ?_ <;> try simp only [go_sem, seval, reduceCtorEq])
    · have he' : (fs[k] == x) = false := by simp [he]
      simp (disch := omega) only [go_sem, seval, reduceCtorEq, h1, hx, he']
      (refine NextI.mk hlt (not_mem_take hlt hi (fun e => he e.symm)) (Wk.kept' [0, 2, 9, 10, 11] 0 (Nat.le_of_ble_eq_true rfl) ?_ ?_) <;> first | rfl | (simp only [go_sem, seval, reduceCtorEq, keepE, keepF_ch, keepG_ch, keepF, keepG, cut, List.contains_cons, List.contains_nil, Nat.reduceBEq, Int.natCast_zero, Int.natCast_add, Int.natCast_one]; done) | skip)
  · have h1 : ¬ (k : Int) < fs.length := by omega
    have e : ren1 x fs ts = x := if_neg (by rw [List.take_of_length_le (by omega)] at hi; exact hi)
    simp (disch := omega) only [go_sem, seval, reduceCtorEq, h1, e]
    (refine FnEnd.mk (Nat.le_of_ble_eq_true rfl) rfl (of_decide_eq_true rfl) ?_ ?_ <;> try simp only [go_sem, seval, reduceCtorEq])
theorem productOf_d {ds : List Int} (h : ds.length ≤ 1099511627776) (hd : ∀ d ∈ ds, 1 ≤ d) (hp : prodI ds ≤ 1152921504606846976) : Does Try.prog 61 [.d (ints ds)] [] (.d (.int (prodI ds))) [] := by
  (refine spec_of (by kernel_rfl) Try.func61 k_impl_productOf (fnOk (Nat.le_of_ble_eq_true rfl) ?_); unfold C_impl_productOf)
  (simp only [Nat.reduceSub, List.length_cons, List.length_nil, Nat.reduceAdd, ch_init1, ch_init2, ch_init3, ch_init4, ch_init5, ch_init6, ch_init7, ch_init8]; try simp only [ch_rep]); (simp only [go_sem, seval, reduceCtorEq, List.replicate])
  refine wpN_upto (ds.length) (fun k => (ch (.any) (.any) (.any) (.d (.int (prodI (ds.take k)))) (.any) (.any) (.d (ints ds)) (.d (.int ds.length)) (.d (.int k)) (.any) (.any) (.any) (.any) (.any) (.any) (.any) [.any])) (fun k => []) (Wk.kept' [3, 6, 7, 8] 0 (Nat.le_of_ble_eq_true rfl) (by first | rfl | simp only [go_sem, seval, reduceCtorEq, keepE, keepF_ch, keepG_ch, keepF, keepG, cut, List.contains_cons, List.contains_nil, Nat.reduceBEq, Int.natCast_zero, Int.natCast_add, Int.natCast_one]) (by first | rfl | simp only [go_sem, seval, reduceCtorEq, keepE, keepF_ch, keepG_ch, keepF, keepG, cut, List.contains_cons, List.contains_nil, Nat.reduceBEq, Int.natCast_zero, Int.natCast_add, Int.natCast_one])) fun k hk => ?_
  unfold L0_impl_productOf
  by_cases hlt : k < ds.length
  · have h1 : (k : Int) < ds.length := by omega
    have hx : ds[k]? = some ds[k] := List.getElem?_eq_getElem hlt
    have e := prodI_take_succ ds k hlt
    rw [getD_of hlt] at e
    have b1 := prodI_pos (ds.take (k + 1)) (fun d hd' => hd d (List.mem_of_mem_take hd'))
    have b2 := prodI_take_le ds (k + 1) hd
    simp (disch := omega) only [go_sem, seval, reduceCtorEq, h1, hx, ← e]
    (refine Next.mk hlt (Wk.kept' [3, 6, 7, 8] 0 (Nat.le_of_ble_eq_true rfl) ?_ ?_) <;> first | rfl | (simp only [go_sem, seval, reduceCtorEq, keepE, keepF_ch, keepG_ch, keepF, keepG, cut, List.contains_cons, List.contains_nil, Nat.reduceBEq, Int.natCast_zero, Int.natCast_add, Int.natCast_one]; done) | skip)
  · have h1 : ¬ (k : Int) < ds.length := by omega
    simp (disch := omega) only [go_sem, seval, reduceCtorEq, h1]
    (refine FnEnd.mk (Nat.le_of_ble_eq_true rfl) rfl (of_decide_eq_true rfl) ?_ ?_ <;> try simp only [go_sem, seval, reduceCtorEq])
    rw [List.take_of_length_le (by omega)]
theorem l05Product_d {ds : List Int} {lim : Int} (h : ds.length ≤ 1099511627776) (hd : ∀ d ∈ ds, 1 ≤ d ∧ d ≤ 100) (hl : 1 ≤ lim ∧ lim ≤ 1000000000) : Does Try.prog 51 [.d (ints ds), .d (.int lim)] [] (.d (.int (min (prodI ds) (lim + 1)))) [] := by
  (refine spec_of (by kernel_rfl) Try.func51 k_spec_l05Product (fnOk (Nat.le_of_ble_eq_true rfl) ?_); unfold C_spec_l05Product)
  (simp only [Nat.reduceSub, List.length_cons, List.length_nil, Nat.reduceAdd, ch_init1, ch_init2, ch_init3, ch_init4, ch_init5, ch_init6, ch_init7, ch_init8]; try simp only [ch_rep]); (simp only [go_sem, seval, reduceCtorEq, List.replicate])
  have e0 : min (prodI []) (lim + 1) = 1 := by rw [prodI_nil]; omega
  refine wpN_upto (ds.length) (fun k => (ch (.any) (.d (.int lim)) (.any) (.any) (.any) (.d (.int (min (prodI (ds.take k)) (lim + 1)))) (.any) (.any) (.d (ints ds)) (.d (.int ds.length)) (.d (.int k)) (.any) (.any) (.any) (.any) (.any) [.any, .any, .any, .any, .any, .any])) (fun k => []) (Wk.kept' [1, 5, 8, 9, 10] 0 (Nat.le_of_ble_eq_true rfl) (by first | rfl | simp only [go_sem, seval, reduceCtorEq, keepE, keepF_ch, keepG_ch, keepF, keepG, cut, List.contains_cons, List.contains_nil, Nat.reduceBEq, Int.natCast_zero, Int.natCast_add, Int.natCast_one, e0]) (by first | rfl | simp only [go_sem, seval, reduceCtorEq, keepE, keepF_ch, keepG_ch, keepF, keepG, cut, List.contains_cons, List.contains_nil, Nat.reduceBEq, Int.natCast_zero, Int.natCast_add, Int.natCast_one, e0])) fun k hk => ?_
  unfold L0_spec_l05Product
  by_cases hlt : k < ds.length
  · have h1 : (k : Int) < ds.length := by omega
    have hx : ds[k]? = some ds[k] := List.getElem?_eq_getElem hlt
    have e := prodI_take_succ ds k hlt
    rw [getD_of hlt] at e
    have hb := hd ds[k] (List.getElem_mem _)
    have b1 := prodI_pos (ds.take k) (fun d hd' => (hd d (List.mem_of_mem_take hd')).1)
    have e2 := min_mul (prodI (ds.take k)) ds[k] (lim + 1) hb.1 (by omega)
    rw [← e] at e2
    have b3 : 0 ≤ min (prodI (ds.take k)) (lim + 1) * ds[k] := Int.mul_nonneg (by omega) (by omega)
    have b4 : min (prodI (ds.take k)) (lim + 1) * ds[k] ≤ (lim + 1) * 100 := Int.mul_le_mul (by omega) hb.2 (by omega) (by omega)
    simp (disch := omega) only [go_sem, seval, reduceCtorEq, h1, hx]
    (refine Next.mk hlt (Wk.kept' [1, 5, 8, 9, 10] 0 (Nat.le_of_ble_eq_true rfl) ?_ ?_) <;> first | rfl | (simp only [go_sem, seval, reduceCtorEq, keepE, keepF_ch, keepG_ch, keepF, keepG, cut, List.contains_cons, List.contains_nil, Nat.reduceBEq, Int.natCast_zero, Int.natCast_add, Int.natCast_one, e2]; done) | skip)
  · have h1 : ¬ (k : Int) < ds.length := by omega
    simp (disch := omega) only [go_sem, seval, reduceCtorEq, h1]
    (refine FnEnd.mk (Nat.le_of_ble_eq_true rfl) rfl (of_decide_eq_true rfl) ?_ ?_ <;> try simp only [go_sem, seval, reduceCtorEq])
    rw [List.take_of_length_le (by omega)]
theorem withoutInt_d {xs : List Int} {x : Int} (h : xs.length ≤ 1099511627776) : Does Try.prog 81 [.d (ints xs), .d (.int x)] [] (.own 0 0 (xs.filter (· != x)).length) [some ⟨1, true, iv (xs.filter (· != x))⟩] := by
  (refine spec_of (by kernel_rfl) Try.func81 k_impl_withoutInt (fnOk (Nat.le_of_ble_eq_true rfl) ?_); unfold C_impl_withoutInt)
  (simp only [Nat.reduceSub, List.length_cons, List.length_nil, Nat.reduceAdd, ch_init1, ch_init2, ch_init3, ch_init4, ch_init5, ch_init6, ch_init7, ch_init8]; try simp only [ch_rep]); (simp only [go_sem, seval, reduceCtorEq, List.replicate])
  refine wpN_upto (xs.length) (fun k => (ch (.any) (.d (.int x)) (.any) (.any) (.any) (.own 0 0 ((xs.take k).filter (· != x)).length) (.any) (.any) (.d (ints xs)) (.d (.int xs.length)) (.d (.int k)) (.any) (.any) (.any) (.any) (.any) [.any, .any, .any, .any, .any, .any, .any])) (fun k => [some ⟨1, true, iv ((xs.take k).filter (· != x))⟩]) (Wk.trans (Wk.nilE 5 1 _ _ rfl) (Wk.kept' [1, 5, 8, 9, 10] 1 (Nat.le_of_ble_eq_true rfl) (by first | rfl | simp only [go_sem, seval, reduceCtorEq, keepE, keepF_ch, keepG_ch, keepF, keepG, cut, List.contains_cons, List.contains_nil, Nat.reduceBEq, Int.natCast_zero, Int.natCast_add, Int.natCast_one]) (by first | rfl | simp only [go_sem, seval, reduceCtorEq, keepE, keepF_ch, keepG_ch, keepF, keepG, cut, List.contains_cons, List.contains_nil, Nat.reduceBEq, Int.natCast_zero, Int.natCast_add, Int.natCast_one]))) fun k hk => ?_
  unfold L0_impl_withoutInt
  by_cases hlt : k < xs.length
  · have h1 : (k : Int) < xs.length := by omega
    have hx : xs[k]? = some xs[k] := List.getElem?_eq_getElem hlt
    have hf := filter_len xs k (· != x)
    by_cases he : xs[k] = x
    · have he' : (xs[k] != x) = false := by simp [he]
      simp (disch := omega) only [go_sem, seval, reduceCtorEq, h1, hx, he']
      (refine Next.mk hlt (Wk.kept' [1, 5, 8, 9, 10] 1 (Nat.le_of_ble_eq_true rfl) ?_ ?_) <;> first | rfl | (simp only [go_sem, seval, reduceCtorEq, keepE, keepF_ch, keepG_ch, keepF, keepG, cut, List.contains_cons, List.contains_nil, Nat.reduceBEq, Int.natCast_zero, Int.natCast_add, Int.natCast_one, filter_no (p := (· != x)) hlt he']; done) | skip)
    · have he' : (xs[k] != x) = true := by simp [he]
      simp (disch := omega) only [go_sem, seval, reduceCtorEq, h1, hx, he']
      refine ⟨by omega, ?_⟩
      (refine Next.mk hlt (Wk.kept' [1, 5, 8, 9, 10] 1 (Nat.le_of_ble_eq_true rfl) ?_ ?_) <;> first | rfl | (simp only [go_sem, seval, reduceCtorEq, keepE, keepF_ch, keepG_ch, keepF, keepG, cut, List.contains_cons, List.contains_nil, Nat.reduceBEq, Int.natCast_zero, Int.natCast_add, Int.natCast_one, filter_yes (p := (· != x)) hlt he', List.length_append]; done) | skip)
  · have h1 : ¬ (k : Int) < xs.length := by omega
    simp (disch := omega) only [go_sem, seval, reduceCtorEq, h1]
    (refine FnEnd.mk (Nat.le_of_ble_eq_true rfl) rfl (of_decide_eq_true rfl) ?_ ?_ <;> try simp only [go_sem, seval, reduceCtorEq])
    all_goals rw [List.take_of_length_le (by omega)]
end Go.Proofs.Ytmgifmgdfldheaa
