/-
 Contracts: lists searched, products, sizes of tensors, tensors that are right. No condition.
-/
import Derived.Test.YtndmbmmnbocmhaaRng
import Derived.Test.YtndmbmmnbocmhaaPlA
set_option linter.unusedSimpArgs false
set_option linter.unusedVariables false
namespace Go.Proofs.Ytndmbmmnbocmhaa
open Go.RowKit Go.Lift Plain
set_option maxRecDepth 100000
theorem hasInt_d {xs : List Int} {x : Int} (h : xs.length ≤ 1099511627776) : Does Try.prog 32 [.d (ints xs), .d (.int x)] [] (.d (.bool (has xs x))) [] := by
 (refine spec_of (by kernel_rfl) Try.func32 k_impl_hasInt (fnOk (nb rfl) ?_); unfold C_impl_hasInt)
 (simp only [Nat.reduceSub, List.length_cons, List.length_nil, Nat.reduceAdd, ch_init1, ch_init2, ch_init3, ch_init4, ch_init5, ch_init6, ch_init7, ch_init8]; try simp only [ch_rep]); (simp only [go_sem, seval, reduceCtorEq, List.replicate])
 refine wpN_uptoI (xs.length) (fun k => x ∉ xs.take k) (fun k => (ch (.any) (.d (.int x)) (.any) (.any) (.any) (.any) (.any) (.d (ints xs)) (.d (.int xs.length)) (.d (.int k)) (.any) (.any) (.any) (.any) (.any) (.any) [.any])) (fun k => []) (by simp) (Wk.kept' [1, 7, 8, 9] 0 (nb rfl) (by first | rfl | simp only [go_sem, seval, reduceCtorEq, keepE, keepF_ch, keepG_ch, keepF, keepG, cut, List.contains_cons, List.contains_nil, Nat.reduceBEq, Int.natCast_zero, Int.natCast_add, Int.natCast_one]) (by first | rfl | simp only [go_sem, seval, reduceCtorEq, keepE, keepF_ch, keepG_ch, keepF, keepG, cut, List.contains_cons, List.contains_nil, Nat.reduceBEq, Int.natCast_zero, Int.natCast_add, Int.natCast_one])) fun k hk hi => ?_
 unfold L0_impl_hasInt
 by_cases hlt : k < xs.length
 ·have h1 : (k : Int) < xs.length := by omega
  have hx : xs[k]? = some xs[k] := List.getElem?_eq_getElem hlt
  by_cases he : x = xs[k]
  ·have he' : (x == xs[k]) = true := by simp [he]
   have e : has xs x = true := has_true.2 (by rw [he]; exact List.getElem_mem _)
   simp (disch := omega) only [go_sem, seval, reduceCtorEq, h1, hx, he', e]
   (refine FnEnd.mk (nb rfl) rfl (of_decide_eq_true rfl) ?_ ?_ <;> try simp only [go_sem, seval, reduceCtorEq])
  ·have he' : (x == xs[k]) = false := by simp [he]
   simp (disch := omega) only [go_sem, seval, reduceCtorEq, h1, hx, he']
   (refine NextI.mk hlt (not_mem_take hlt hi he) (Wk.kept' [1, 7, 8, 9] 0 (nb rfl) ?_ ?_) <;> first | rfl | (simp only [go_sem, seval, reduceCtorEq, keepE, keepF_ch, keepG_ch, keepF, keepG, cut, List.contains_cons, List.contains_nil, Nat.reduceBEq, Int.natCast_zero, Int.natCast_add, Int.natCast_one]; done) | skip)
 ·have h1 : ¬ (k : Int) < xs.length := by omega
  have e : has xs x = false := has_false.2 (by rw [List.take_of_length_le (by omega)] at hi; exact hi)
  simp (disch := omega) only [go_sem, seval, reduceCtorEq, h1, e]
  (refine FnEnd.mk (nb rfl) rfl (of_decide_eq_true rfl) ?_ ?_ <;> try simp only [go_sem, seval, reduceCtorEq])
theorem l05Find_d {xs : List Int} {x : Int} (h : xs.length ≤ 1099511627776) : Does Try.prog 37 [.d (ints xs), .d (.int x)] [] (.d (.int (place xs x))) [] := by
 (refine spec_of (by kernel_rfl) Try.func37 k_spec_l05Find (fnOk (nb rfl) ?_); unfold C_spec_l05Find)
 (simp only [Nat.reduceSub, List.length_cons, List.length_nil, Nat.reduceAdd, ch_init1, ch_init2, ch_init3, ch_init4, ch_init5, ch_init6, ch_init7, ch_init8]; try simp only [ch_rep]); (simp only [go_sem, seval, reduceCtorEq, List.replicate])
 refine wpN_uptoI (xs.length) (fun k => x ∉ xs.take k) (fun k => (ch (.any) (.d (.int x)) (.any) (.any) (.any) (.any) (.any) (.d (ints xs)) (.d (.int xs.length)) (.d (.int k)) (.any) (.any) (.any) (.any) (.any) (.any) [.any, .any, .any])) (fun k => []) (by simp) (Wk.kept' [1, 7, 8, 9] 0 (nb rfl) (by first | rfl | simp only [go_sem, seval, reduceCtorEq, keepE, keepF_ch, keepG_ch, keepF, keepG, cut, List.contains_cons, List.contains_nil, Nat.reduceBEq, Int.natCast_zero, Int.natCast_add, Int.natCast_one]) (by first | rfl | simp only [go_sem, seval, reduceCtorEq, keepE, keepF_ch, keepG_ch, keepF, keepG, cut, List.contains_cons, List.contains_nil, Nat.reduceBEq, Int.natCast_zero, Int.natCast_add, Int.natCast_one])) fun k hk hi => ?_
 unfold L0_spec_l05Find
 by_cases hlt : k < xs.length
 ·have h1 : (k : Int) < xs.length := by omega
  have hx : xs[k]? = some xs[k] := List.getElem?_eq_getElem hlt
  by_cases he : xs[k] = x
  ·have he' : (xs[k] == x) = true := by simp [he]
   have e : place xs x = k := by rw [← he]; exact place_at hlt (by rw [he]; exact hi)
   simp (disch := omega) only [go_sem, seval, reduceCtorEq, h1, hx, he', e]
   (refine FnEnd.mk (nb rfl) rfl (of_decide_eq_true rfl) ?_ ?_ <;> try simp only [go_sem, seval, reduceCtorEq])
  ·have he' : (xs[k] == x) = false := by simp [he]
   simp (disch := omega) only [go_sem, seval, reduceCtorEq, h1, hx, he']
   (refine NextI.mk hlt (not_mem_take hlt hi (fun e => he e.symm)) (Wk.kept' [1, 7, 8, 9] 0 (nb rfl) ?_ ?_) <;> first | rfl | (simp only [go_sem, seval, reduceCtorEq, keepE, keepF_ch, keepG_ch, keepF, keepG, cut, List.contains_cons, List.contains_nil, Nat.reduceBEq, Int.natCast_zero, Int.natCast_add, Int.natCast_one]; done) | skip)
 ·have h1 : ¬ (k : Int) < xs.length := by omega
  have e : place xs x = -1 := place_no (by rw [List.take_of_length_le (by omega)] at hi; exact hi)
  simp (disch := omega) only [go_sem, seval, reduceCtorEq, h1, e]
  (refine FnEnd.mk (nb rfl) rfl (of_decide_eq_true rfl) ?_ ?_ <;> try simp only [go_sem, seval, reduceCtorEq])
theorem l05Product_d {ds : List Int} {lim : Int} (h : ds.length ≤ 1099511627776) (hd : ∀ d ∈ ds, 1 ≤ d ∧ d ≤ 100) (hl : 1 ≤ lim ∧ lim ≤ 1000000000) : Does Try.prog 75 [.d (ints ds), .d (.int lim)] [] (.d (.int (min (prodI ds) (lim + 1)))) [] := by
 (refine spec_of (by kernel_rfl) Try.func75 k_spec_l05Product (fnOk (nb rfl) ?_); unfold C_spec_l05Product)
 (simp only [Nat.reduceSub, List.length_cons, List.length_nil, Nat.reduceAdd, ch_init1, ch_init2, ch_init3, ch_init4, ch_init5, ch_init6, ch_init7, ch_init8]; try simp only [ch_rep]); (simp only [go_sem, seval, reduceCtorEq, List.replicate])
 have e0 : min (prodI []) (lim + 1) = 1 := by rw [prodI_nil]; omega
 refine wpN_upto (ds.length) (fun k => (ch (.any) (.d (.int lim)) (.any) (.any) (.any) (.d (.int (min (prodI (ds.take k)) (lim + 1)))) (.any) (.any) (.d (ints ds)) (.d (.int ds.length)) (.d (.int k)) (.any) (.any) (.any) (.any) (.any) [.any, .any, .any, .any, .any, .any])) (fun k => []) (Wk.kept' [1, 5, 8, 9, 10] 0 (nb rfl) (by first | rfl | simp only [go_sem, seval, reduceCtorEq, keepE, keepF_ch, keepG_ch, keepF, keepG, cut, List.contains_cons, List.contains_nil, Nat.reduceBEq, Int.natCast_zero, Int.natCast_add, Int.natCast_one, e0]) (by first | rfl | simp only [go_sem, seval, reduceCtorEq, keepE, keepF_ch, keepG_ch, keepF, keepG, cut, List.contains_cons, List.contains_nil, Nat.reduceBEq, Int.natCast_zero, Int.natCast_add, Int.natCast_one, e0])) fun k hk => ?_
 unfold L0_spec_l05Product
 by_cases hlt : k < ds.length
 ·have h1 : (k : Int) < ds.length := by omega
  have hx : ds[k]? = some ds[k] := List.getElem?_eq_getElem hlt
  have e := prodI_take_succ ds k hlt
  rw [getD_of hlt] at e
  have hb := hd ds[k] (List.getElem_mem _)
  have b1 := prodI_pos (ds.take k) (fun d hd' => (hd d (List.mem_of_mem_take hd')).1)
  have e2 := min_mul (prodI (ds.take k)) ds[k] (lim + 1) hb.1 (by omega)
  rw [← e] at e2
  have b3 : 0 ≤ min (prodI (ds.take k)) (lim + 1) * ds[k] := Int.mul_nonneg (by omega) (by omega)
  have b4 : min (prodI (ds.take k)) (lim + 1) * ds[k] ≤ (lim + 1) * 100 := Int.mul_le_mul (by omega) hb.2 (by omega) (by omega)
  simp (disch := omega) only [go_sem, seval, reduceCtorEq, h1, hx]
  (refine Next.mk hlt (Wk.kept' [1, 5, 8, 9, 10] 0 (nb rfl) ?_ ?_) <;> first | rfl | (simp only [go_sem, seval, reduceCtorEq, keepE, keepF_ch, keepG_ch, keepF, keepG, cut, List.contains_cons, List.contains_nil, Nat.reduceBEq, Int.natCast_zero, Int.natCast_add, Int.natCast_one, e2]; done) | skip)
 ·have h1 : ¬ (k : Int) < ds.length := by omega
  simp (disch := omega) only [go_sem, seval, reduceCtorEq, h1]
  (refine FnEnd.mk (nb rfl) rfl (of_decide_eq_true rfl) ?_ ?_ <;> try simp only [go_sem, seval, reduceCtorEq])
  rw [List.take_of_length_le (by omega)]
theorem axAt_no {ls ds : List Int} {k : Nat} (h1 : k < ls.length) (h2 : k < ds.length) (h : ¬ (0 ≤ ls[k] ∧ ls[k] ≤ 99 ∧ 1 ≤ ds[k] ∧ ds[k] ≤ 8 ∧ ls[k] ∉ ls.take k)) : ¬ axAt ls ds k := by
 unfold axAt
 rw [getD_of h1, getD_of h2]
 exact h
set_option maxHeartbeats 1600000 in
theorem iTensorSize_d {t : Ten} (h : TSz 1099511627776 t) : Does Try.prog 64 [tenA t] [] (.d (.int (tsize t.labels t.dims))) [] := by
 obtain ⟨ls, ds, xs⟩ := t
 generalize hT : tsize ls ds = T
 (refine spec_of (by kernel_rfl) Try.func64 k_impl_TensorSize (fnOk (nb rfl) ?_); unfold C_impl_TensorSize)
 unfold tenA
 simp only
 (simp only [Nat.reduceSub, List.length_cons, List.length_nil, Nat.reduceAdd, ch_init1, ch_init2, ch_init3, ch_init4, ch_init5, ch_init6, ch_init7, ch_init8]; try simp only [ch_rep]); (simp only [go_sem, seval, reduceCtorEq, List.replicate])
 by_cases a1 : (ls.length : Int) > 12
 ·have e := tsize_len1 (ls := ls) (ds := ds) (by omega)
  rw [hT] at e
  simp only [go_sem, seval, reduceCtorEq, a1, e]
  (refine FnEnd.mk (nb rfl) rfl (of_decide_eq_true rfl) ?_ ?_ <;> try simp only [go_sem, seval, reduceCtorEq])
 by_cases a2 : ls.length = ds.length
 rotate_left
 ·have e := tsize_len2 a2
  rw [hT] at e
  have c : ((ls.length : Int) != ds.length) = true := by simp; omega
  simp only [go_sem, seval, reduceCtorEq, a1, c, e]
  (refine FnEnd.mk (nb rfl) rfl (of_decide_eq_true rfl) ?_ ?_ <;> try simp only [go_sem, seval, reduceCtorEq])
 have c : ((ls.length : Int) != ds.length) = false := by simp; omega
 simp only [go_sem, seval, reduceCtorEq, a1, c]
 have p0 : prodI (ds.take 0) = 1 := rfl
 have hI0 : (∀ j, j < 0 → axAt ls ds j) ∧ prodI (ds.take 0) ≤ 4096 ∧ 1 ≤ prodI (ds.take 0) := ⟨fun j hj => absurd hj (Nat.not_lt_zero j), by rw [p0]; omega, by rw [p0]; omega⟩
 refine wpN_lpI (ls.length) (mkB 64 9223372036837998708) (fun k => (∀ j, j < k → axAt ls ds j) ∧ prodI (ds.take k) ≤ 4096 ∧ 1 ≤ prodI (ds.take k)) (fun k => [(3, .d (.int (prodI (ds.take k)))), (23, .d (.int k))]) (fun k => []) (hi := hI0) (h1 := by first | (simp only [go_sem, seval, reduceCtorEq, nz, na, n1, p0]; first | done | rfl) | rfl) (h2 := by first | (simp only [go_sem, seval, reduceCtorEq, nz, na, n1, p0]; first | done | rfl) | rfl) (hr := fun k hk hi => ?_)
 unfold L0_impl_TensorSize
 obtain ⟨i1, i2, i3⟩ := hi
 by_cases hlt : k < ls.length
 ·have d1 : (k : Int) < ls.length := by omega
  have hk : k < ds.length := by omega
  have g1 : ls[k]? = some ls[k] := List.getElem?_eq_getElem hlt
  have g2 : ds[k]? = some ds[k] := List.getElem?_eq_getElem hk
  have htk : (ls.take k).length = k := by rw [List.length_take]; omega
  have bad : ¬ (0 ≤ ls[k] ∧ ls[k] ≤ 99 ∧ 1 ≤ ds[k] ∧ ds[k] ≤ 8 ∧ ls[k] ∉ ls.take k) → T = -1 := fun hb => by rw [← hT]; exact tsize_ax k hlt (axAt_no hlt hk hb)
  simp (disch := omega) only [go_sem, seval, reduceCtorEq, d1, g1, Option.map_some]
  by_cases b1 : ls[k] < 0
  ·simp only [go_sem, seval, reduceCtorEq, b1, bad (by omega)]
   (refine FnEnd.mk (nb rfl) rfl (of_decide_eq_true rfl) ?_ ?_ <;> try simp only [go_sem, seval, reduceCtorEq])
  by_cases b2 : ls[k] > 99
  ·simp only [go_sem, seval, reduceCtorEq, b1, b2, bad (by omega)]
   (refine FnEnd.mk (nb rfl) rfl (of_decide_eq_true rfl) ?_ ?_ <;> try simp only [go_sem, seval, reduceCtorEq])
  simp (disch := omega) only [go_sem, seval, reduceCtorEq, b1, b2]
  (repeat (refine And.intro (by omega) ?_))
  (refine ti_call (hasInt_d (xs := ls.take k) (x := ls[k]) (by omega)) ?_ ?_ ?_; (focus (simp only [go_sem, seval, reduceCtorEq, htk, Int.sub_zero]; done)); (first | rfl | (focus (simp only [go_sem]; done))))
  cases b3 : has (ls.take k) ls[k]
  rotate_left
  ·simp only [go_sem, seval, reduceCtorEq, b3, bad (fun h => h.2.2.2.2 (has_true.1 b3))]
   (refine FnEnd.mk (nb rfl) rfl (of_decide_eq_true rfl) ?_ ?_ <;> try simp only [go_sem, seval, reduceCtorEq])
  simp (disch := omega) only [go_sem, seval, reduceCtorEq, b3, g2, Option.map_some]
  (repeat (refine And.intro (by omega) ?_))
  by_cases b4 : ds[k] < 1
  ·simp (disch := omega) only [go_sem, seval, reduceCtorEq, b4, bad (by omega)]
   (refine FnEnd.mk (nb rfl) rfl (of_decide_eq_true rfl) ?_ ?_ <;> try simp only [go_sem, seval, reduceCtorEq])
  by_cases b5 : ds[k] > 8
  ·simp (disch := omega) only [go_sem, seval, reduceCtorEq, b4, b5, bad (by omega)]
   (refine FnEnd.mk (nb rfl) rfl (of_decide_eq_true rfl) ?_ ?_ <;> try simp only [go_sem, seval, reduceCtorEq])
  have hpb : 1 * 1 ≤ prodI (ds.take k) * ds[k] := Int.mul_le_mul i3 (by omega) (by omega) (by omega)
  have hpc : prodI (ds.take k) * ds[k] ≤ 4096 * 8 := Int.mul_le_mul i2 (by omega) (by omega) (by omega)
  have hw : IntKind.i64.wrap (prodI (ds.take k) * ds[k]) = prodI (ds.take k) * ds[k] := IntWalk.i64_in _ (by omega)
  have hps : prodI (ds.take (k + 1)) = prodI (ds.take k) * ds[k] := by rw [prodI_take_succ ds k hk, getD_of hk]
  by_cases b6 : prodI (ds.take k) * ds[k] > 4096
  ·have e : T = -1 := by rw [← hT]; exact tsize_big k hlt a2 (by rw [getD_of hk]; omega)
   simp (disch := omega) only [go_sem, seval, reduceCtorEq, b4, b5, hw, b6, e]
   (refine FnEnd.mk (nb rfl) rfl (of_decide_eq_true rfl) ?_ ?_ <;> try simp only [go_sem, seval, reduceCtorEq])
  ·have hI : (∀ j, j < k + 1 → axAt ls ds j) ∧ prodI (ds.take (k + 1)) ≤ 4096 ∧ 1 ≤ prodI (ds.take (k + 1)) := by
    refine ⟨fun j hj => ?_, by rw [hps]; omega, by rw [hps]; omega⟩
    by_cases e : j = k
    ·subst e
     unfold axAt
     rw [getD_of hlt, getD_of hk]
     exact ⟨by omega, by omega, by omega, by omega, has_false.1 b3⟩
    ·exact i1 j (by omega)
   simp (disch := omega) only [go_sem, seval, reduceCtorEq, b4, b5, hw, b6]
   (refine NextI.drop (mkB 64 9223372036837998708) (by omega) (hI) (h1 := ?_) (h2 := ?_) <;> first | (simp only [go_sem, seval, reduceCtorEq, nz, na, n1, hps]; first | done | rfl) | rfl | skip)
 ·have d1 : ¬ (k : Int) < ls.length := by omega
  obtain rfl : k = ls.length := by omega
  have htl : ds.take ls.length = ds := List.take_of_length_le (by omega)
  rw [htl] at i2
  have e := tsize_good (by omega) a2 i1 i2
  rw [hT] at e
  simp (disch := omega) only [go_sem, seval, reduceCtorEq, d1, htl, e]
  (refine FnEnd.mk (nb rfl) rfl (of_decide_eq_true rfl) ?_ ?_ <;> try simp only [go_sem, seval, reduceCtorEq])
theorem l05Axes_d {ls ds : List Int} (h : ls.length ≤ 1099511627776) (h2 : ds.length ≤ 1099511627776) : Does Try.prog 92 [.d (ints ls), .d (ints ds)] [] (.d (.bool (decide (axOk ls ds)))) [] := by
 generalize hT : decide (axOk ls ds) = T
 (refine spec_of (by kernel_rfl) Try.func92 k_spec_l05Axes (fnOk (nb rfl) ?_); unfold C_spec_l05Axes)
 (simp only [Nat.reduceSub, List.length_cons, List.length_nil, Nat.reduceAdd, ch_init1, ch_init2, ch_init3, ch_init4, ch_init5, ch_init6, ch_init7, ch_init8]; try simp only [ch_rep]); (simp only [go_sem, seval, reduceCtorEq, List.replicate])
 by_cases a1 : (ls.length : Int) > 12
 ·have e : T = false := by rw [← hT]; exact decide_eq_false fun h => by have := h.1; omega
  simp only [go_sem, seval, reduceCtorEq, a1, e]
  (refine FnEnd.mk (nb rfl) rfl (of_decide_eq_true rfl) ?_ ?_ <;> try simp only [go_sem, seval, reduceCtorEq])
 by_cases a2 : ls.length = ds.length
 rotate_left
 ·have e : T = false := by rw [← hT]; exact decide_eq_false fun h => a2 h.2.1
  have c : ((ls.length : Int) != ds.length) = true := by simp; omega
  simp only [go_sem, seval, reduceCtorEq, a1, c, e]
  (refine FnEnd.mk (nb rfl) rfl (of_decide_eq_true rfl) ?_ ?_ <;> try simp only [go_sem, seval, reduceCtorEq])
 have c : ((ls.length : Int) != ds.length) = false := by simp; omega
 simp only [go_sem, seval, reduceCtorEq, a1, c]
 refine wpN_lpI (ls.length) (mkB 44 17592184995952) (fun k => ∀ j, j < k → axAt ls ds j) (fun k => [(19, .d (.int k))]) (fun k => []) (hi := fun j hj => absurd hj (Nat.not_lt_zero j)) (h1 := by first | (simp only [go_sem, seval, reduceCtorEq, nz, na, n1]; first | done | rfl) | rfl) (h2 := by first | (simp only [go_sem, seval, reduceCtorEq, nz, na, n1]; first | done | rfl) | rfl) (hr := fun k hk hi => ?_)
 unfold L0_spec_l05Axes
 by_cases hlt : k < ls.length
 ·have d1 : (k : Int) < ls.length := by omega
  have hk : k < ds.length := by omega
  have g1 : ls[k]? = some ls[k] := List.getElem?_eq_getElem hlt
  have g2 : ds[k]? = some ds[k] := List.getElem?_eq_getElem hk
  have htk : (ls.take k).length = k := by rw [List.length_take]; omega
  have bad : ¬ (0 ≤ ls[k] ∧ ls[k] ≤ 99 ∧ 1 ≤ ds[k] ∧ ds[k] ≤ 8 ∧ ls[k] ∉ ls.take k) → T = false := fun hb => by rw [← hT]; exact decide_eq_false fun h => axAt_no hlt hk hb (h.2.2 k hlt)
  simp (disch := omega) only [go_sem, seval, reduceCtorEq, d1, g1, Option.map_some]
  (refine ti_call (l01In_d ls[k] 0 99) ?_ ?_ ?_; (focus (simp only [go_sem, seval, reduceCtorEq]; done)); (first | rfl | (focus (simp only [go_sem]; done))))
  cases b1 : decide (0 ≤ ls[k] ∧ ls[k] ≤ 99)
  ·simp (disch := omega) only [go_sem, seval, reduceCtorEq, b1, bad (fun h => of_decide_eq_false b1 ⟨h.1, h.2.1⟩)]
   (refine FnEnd.mk (nb rfl) rfl (of_decide_eq_true rfl) ?_ ?_ <;> try simp only [go_sem, seval, reduceCtorEq])
  simp (disch := omega) only [go_sem, seval, reduceCtorEq, b1, g2, Option.map_some]
  (repeat (refine And.intro (by omega) ?_))
  (refine ti_call (l01In_d ds[k] 1 8) ?_ ?_ ?_; (focus (simp only [go_sem, seval, reduceCtorEq]; done)); (first | rfl | (focus (simp only [go_sem]; done))))
  cases b2 : decide (1 ≤ ds[k] ∧ ds[k] ≤ 8)
  ·simp (disch := omega) only [go_sem, seval, reduceCtorEq, b2, bad (fun h => of_decide_eq_false b2 ⟨h.2.2.1, h.2.2.2.1⟩)]
   (refine FnEnd.mk (nb rfl) rfl (of_decide_eq_true rfl) ?_ ?_ <;> try simp only [go_sem, seval, reduceCtorEq])
  simp (disch := omega) only [go_sem, seval, reduceCtorEq, b2]
  (repeat (refine And.intro (by omega) ?_))
  (refine ti_call (l05Find_d (xs := ls.take k) (x := ls[k]) (by omega)) ?_ ?_ ?_; (focus (simp only [go_sem, seval, reduceCtorEq, htk, Int.sub_zero]; done)); (first | rfl | (focus (simp only [go_sem]; done))))
  by_cases b3 : ls[k] ∈ ls.take k
  ·have c3 : place (ls.take k) ls[k] ≥ 0 := Int.not_lt.1 fun h => place_neg.1 h b3
   simp only [go_sem, seval, reduceCtorEq, c3, bad (fun h => h.2.2.2.2 b3)]
   (refine FnEnd.mk (nb rfl) rfl (of_decide_eq_true rfl) ?_ ?_ <;> try simp only [go_sem, seval, reduceCtorEq])
  ·have c3 : ¬ place (ls.take k) ls[k] ≥ 0 := Int.not_le.2 (place_neg.2 b3)
   have hI : ∀ j, j < k + 1 → axAt ls ds j := fun j hj => by
    by_cases e : j = k
    ·subst e
     unfold axAt
     rw [getD_of hlt, getD_of hk]
     have q1 := of_decide_eq_true b1
     have q2 := of_decide_eq_true b2
     exact ⟨q1.1, q1.2, q2.1, q2.2, b3⟩
    ·exact hi j (by omega)
   simp (disch := omega) only [go_sem, seval, reduceCtorEq, c3]
   (refine NextI.drop (mkB 44 17592184995952) (by omega) (hI) (h1 := ?_) (h2 := ?_) <;> first | (simp only [go_sem, seval, reduceCtorEq, nz, na, n1]; first | done | rfl) | rfl | skip)
 ·have d1 : ¬ (k : Int) < ls.length := by omega
  obtain rfl : k = ls.length := by omega
  have e : T = true := by rw [← hT]; exact decide_eq_true ⟨by omega, a2, hi⟩
  simp (disch := omega) only [go_sem, seval, reduceCtorEq, d1, e]
  (refine FnEnd.mk (nb rfl) rfl (of_decide_eq_true rfl) ?_ ?_ <;> try simp only [go_sem, seval, reduceCtorEq])
theorem sTensorSize_d {t : Ten} (h : TSz 1099511627776 t) : Does Try.prog 72 [tenA t] [] (.d (.int (tsize t.labels t.dims))) [] := by
 have hl := h.l.len
 have hd := h.d.len
 obtain ⟨ls, ds, xs⟩ := t
 simp only at hl hd ⊢
 generalize hT : tsize ls ds = T
 (refine spec_of (by kernel_rfl) Try.func72 k_spec_TensorSize (fnOk (nb rfl) ?_); unfold C_spec_TensorSize)
 unfold tenA
 simp only
 (simp only [Nat.reduceSub, List.length_cons, List.length_nil, Nat.reduceAdd, ch_init1, ch_init2, ch_init3, ch_init4, ch_init5, ch_init6, ch_init7, ch_init8]; try simp only [ch_rep]); (simp only [go_sem, seval, reduceCtorEq, List.replicate])
 (refine ti_call (l05Axes_d (ls := ls) (ds := ds) hl hd) ?_ ?_ ?_; (focus (simp only [go_sem, seval, reduceCtorEq]; done)); (first | rfl | (focus (simp only [go_sem]; done))))
 cases a1 : decide (axOk ls ds)
 ·have e : T = -1 := by rw [← hT]; exact if_neg fun h => of_decide_eq_false a1 h.1
  simp only [go_sem, seval, reduceCtorEq, a1, e]
  (refine FnEnd.mk (nb rfl) rfl (of_decide_eq_true rfl) ?_ ?_ <;> try simp only [go_sem, seval, reduceCtorEq])
 have ax := of_decide_eq_true a1
 simp only [go_sem, seval, reduceCtorEq, a1]
 (refine ti_call (l05Product_d (ds := ds) (lim := 4096) hd (fun d hd => by have := ax.dim d hd; omega) (by omega)) ?_ ?_ ?_; (focus (simp only [go_sem, seval, reduceCtorEq]; done)); (first | rfl | (focus (simp only [go_sem]; done))))
 by_cases b : min (prodI ds) (4097) > 4096
 ·have e : T = -1 := by rw [← hT]; exact if_neg fun h => by have := h.2; omega
  simp only [go_sem, seval, reduceCtorEq, b, e]
  (refine FnEnd.mk (nb rfl) rfl (of_decide_eq_true rfl) ?_ ?_ <;> try simp only [go_sem, seval, reduceCtorEq])
 ·have e : T = min (prodI ds) (4097) := by rw [← hT, tsize, if_pos ⟨ax, by omega⟩]; omega
  simp only [go_sem, seval, reduceCtorEq, b, e]
  (refine FnEnd.mk (nb rfl) rfl (of_decide_eq_true rfl) ?_ ?_ <;> try simp only [go_sem, seval, reduceCtorEq])
end Go.Proofs.Ytndmbmmnbocmhaa
