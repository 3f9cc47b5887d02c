/-
 Contracts: what fits a ring; tensors that are right. No condition.
-/
import Derived.Test.YtndmbmmnbocmhaaRngB
set_option linter.unusedSimpArgs false
set_option linter.unusedVariables false
namespace Go.Proofs.Ytndmbmmnbocmhaa
open Go.RowKit Go.Lift Plain
set_option maxRecDepth 100000
theorem fitsTo {r : Rg} {xs : List Int} {k : Nat} (hk : k < xs.length) (h : ∀ j, j < k → 0 ≤ xs.getD j 0 ∧ xs.getD j 0 ≤ top r) (h2 : 0 ≤ xs[k] ∧ xs[k] ≤ top r) : ∀ j, j < k + 1 → 0 ≤ xs.getD j 0 ∧ xs.getD j 0 ≤ top r := fun j hj => by
 by_cases e : j = k
 ·subst e; rw [getD_of hk]; exact h2
 ·exact h j (by omega)
theorem inRing_d {k p n : Int} {xs : List Int} (hr : ringOk ⟨k, p, n⟩ = true) (h : Sz 1099511627776 xs) : Does Try.prog 84 [ringA k p n, .d (ints xs)] [] (.d (.bool (fitsB ⟨k, p, n⟩ xs))) [] := by
 have hl := h.len
 generalize hT : fitsB ⟨k, p, n⟩ xs = T
 (refine spec_of (by kernel_rfl) Try.func84 k_impl_inRing (fnOk (nb rfl) ?_); unfold C_impl_inRing)
 (simp only [Nat.reduceSub, List.length_cons, List.length_nil, Nat.reduceAdd, ch_init1, ch_init2, ch_init3, ch_init4, ch_init5, ch_init6, ch_init7, ch_init8]; try simp only [ch_rep]); (simp only [go_sem, seval, reduceCtorEq, List.replicate])
 (refine ti_call (rawTop_d k p n hr) ?_ ?_ ?_; (focus (simp only [go_sem, seval, reduceCtorEq]; done)); (first | rfl | (focus (simp only [go_sem]; done))))
 simp only [go_sem, seval, reduceCtorEq]
 refine wpN_lpI (xs.length) (mkB 24 16769168) (fun q => ∀ j, j < q → 0 ≤ xs.getD j 0 ∧ xs.getD j 0 ≤ top ⟨k, p, n⟩) (fun q => [(12, .d (.int q))]) (fun q => []) (hi := fun j hj => absurd hj (Nat.not_lt_zero j)) (h1 := by first | (simp only [go_sem, seval, reduceCtorEq, nz, na, n1]; first | done | rfl) | rfl) (h2 := by first | (simp only [go_sem, seval, reduceCtorEq, nz, na, n1]; first | done | rfl) | rfl) (hr := fun q hq hiq => ?_)
 unfold L0_impl_inRing
 by_cases hlt : q < xs.length
 ·have d1 : (q : Int) < xs.length := by omega
  have g1 : xs[q]? = some xs[q] := List.getElem?_eq_getElem hlt
  have gd := getD_of hlt
  simp (disch := omega) only [go_sem, seval, reduceCtorEq, d1, g1, Option.map_some]
  by_cases b1 : xs[q] < 0
  ·have e : T = false := by rw [← hT]; exact fitsB_no q hlt (by rw [gd]; omega)
   simp only [go_sem, seval, reduceCtorEq, b1, e]
   (refine FnEnd.mk (nb rfl) rfl (of_decide_eq_true rfl) ?_ ?_ <;> try simp only [go_sem, seval, reduceCtorEq])
  by_cases b2 : xs[q] > top ⟨k, p, n⟩
  ·have e : T = false := by rw [← hT]; exact fitsB_no q hlt (by rw [gd]; omega)
   simp only [go_sem, seval, reduceCtorEq, b1, b2, e]
   (refine FnEnd.mk (nb rfl) rfl (of_decide_eq_true rfl) ?_ ?_ <;> try simp only [go_sem, seval, reduceCtorEq])
  simp (disch := omega) only [go_sem, seval, reduceCtorEq, b1, b2]
  (refine NextI.drop (mkB 24 16769168) (by omega) (fitsTo hlt hiq ⟨by omega, by omega⟩) (h1 := ?_) (h2 := ?_) <;> first | (simp only [go_sem, seval, reduceCtorEq, nz, na, n1]; first | done | rfl) | rfl | skip)
 ·have d1 : ¬ (q : Int) < xs.length := by omega
  obtain rfl : q = xs.length := by omega
  have e : T = true := by rw [← hT]; exact fitsB_yes hiq
  simp (disch := omega) only [go_sem, seval, reduceCtorEq, d1, e]
  (refine FnEnd.mk (nb rfl) rfl (of_decide_eq_true rfl) ?_ ?_ <;> try simp only [go_sem, seval, reduceCtorEq])
theorem iTensorOk_d {k p n : Int} {t : Ten} (a : I64 k) (b : I64 p) (c : I64 n) (h : TSz 1099511627776 t) : Does Try.prog 63 [ringA k p n, tenA t] [] (.d (.bool (tensorOk ⟨k, p, n⟩ t.labels t.dims t.data))) [] := by
 have hx := h.x
 have hxl := hx.len
 have hsz := iTensorSize_d h
 have htc := tsize_cases t.labels t.dims
 generalize hT : tensorOk ⟨k, p, n⟩ t.labels t.dims t.data = T
 unfold tensorOk at hT
 (refine spec_of (by kernel_rfl) Try.func63 k_impl_TensorOk (fnOk (nb rfl) ?_); unfold C_impl_TensorOk)
 unfold tenA at hsz ⊢
 (simp only [Nat.reduceSub, List.length_cons, List.length_nil, Nat.reduceAdd, ch_init1, ch_init2, ch_init3, ch_init4, ch_init5, ch_init6, ch_init7, ch_init8]; try simp only [ch_rep]); (simp only [go_sem, seval, reduceCtorEq, List.replicate])
 (refine ti_call (iRingOk_d k p n) ?_ ?_ ?_; (focus (simp only [go_sem, seval, reduceCtorEq]; done)); (first | rfl | (focus (simp only [go_sem]; done))))
 cases hr : ringOk ⟨k, p, n⟩
 ·have e : T = false := by rw [← hT, hr]; rfl
  simp only [go_sem, seval, reduceCtorEq, hr, e]
  (refine FnEnd.mk (nb rfl) rfl (of_decide_eq_true rfl) ?_ ?_ <;> try simp only [go_sem, seval, reduceCtorEq])
 have hw := width_bd hr
 simp only [go_sem, seval, reduceCtorEq, hr]
 (refine ti_call (hsz) ?_ ?_ ?_; (focus (simp only [go_sem, seval, reduceCtorEq]; done)); (first | rfl | (focus (simp only [go_sem]; done))))
 simp only [go_sem, seval, reduceCtorEq]
 by_cases h1 : tsize t.labels t.dims = -1
 ·have e : T = false := by rw [← hT, hr, decide_eq_false fun h => h.1 h1]; rfl
  have c1 : (tsize t.labels t.dims != -1) = false := by simp [h1]
  simp only [go_sem, seval, reduceCtorEq, c1, e]
  (refine FnEnd.mk (nb rfl) rfl (of_decide_eq_true rfl) ?_ ?_ <;> try simp only [go_sem, seval, reduceCtorEq])
 have c1 : (tsize t.labels t.dims != -1) = true := by simp [h1]
 have hb : 1 ≤ tsize t.labels t.dims ∧ tsize t.labels t.dims ≤ 4096 := by rcases htc with e | e; exact absurd e h1; omega
 have hm1 : 1 * 1 ≤ tsize t.labels t.dims * width ⟨k, p, n⟩ := Int.mul_le_mul hb.1 hw.1 (by omega) (by omega)
 have hm2 : tsize t.labels t.dims * width ⟨k, p, n⟩ ≤ 4096 * 6 := Int.mul_le_mul hb.2 hw.2 (by omega) (by omega)
 have hwr : IntKind.i64.wrap (tsize t.labels t.dims * width ⟨k, p, n⟩) = tsize t.labels t.dims * width ⟨k, p, n⟩ := IntWalk.i64_in _ (by omega)
 simp only [go_sem, seval, reduceCtorEq, c1]
 (refine gi_call (rawWidth_d k p n) ?_ ?_ ?_; (focus (simp only [go_sem, seval, reduceCtorEq]; done)); (first | rfl | (focus (simp only [go_sem]; done))))
 by_cases h2 : (t.data.length : Int) = tsize t.labels t.dims * width ⟨k, p, n⟩
 ·have c2 : ((t.data.length : Int) == tsize t.labels t.dims * width ⟨k, p, n⟩) = true := by simp [h2]
  have e : T = fitsB ⟨k, p, n⟩ t.data := by rw [← hT, hr, decide_eq_true ⟨h1, h2⟩]; rfl
  simp only [go_sem, seval, reduceCtorEq, hwr, c2]
  (refine ti_call (inRing_d (xs := t.data) hr hx) ?_ ?_ ?_; (focus (simp only [go_sem, seval, reduceCtorEq]; done)); (first | rfl | (focus (simp only [go_sem]; done))))
  simp only [go_sem, seval, reduceCtorEq, ← e]
  (refine FnEnd.mk (nb rfl) rfl (of_decide_eq_true rfl) ?_ ?_ <;> try simp only [go_sem, seval, reduceCtorEq])
 ·have c2 : ((t.data.length : Int) == tsize t.labels t.dims * width ⟨k, p, n⟩) = false := by simp [h2]
  have e : T = false := by rw [← hT, hr, decide_eq_false fun h => h2 h.2]; rfl
  simp only [go_sem, seval, reduceCtorEq, hwr, c2, e]
  (refine FnEnd.mk (nb rfl) rfl (of_decide_eq_true rfl) ?_ ?_ <;> try simp only [go_sem, seval, reduceCtorEq])
theorem sTensorOk_d {k p n : Int} {t : Ten} (a : I64 k) (b : I64 p) (c : I64 n) (h : TSz 1099511627776 t) : Does Try.prog 71 [ringA k p n, tenA t] [] (.d (.bool (tensorOk ⟨k, p, n⟩ t.labels t.dims t.data))) [] := by
 have hx := h.x
 have hxl := hx.len
 have hsz := sTensorSize_d h
 have htc := tsize_cases t.labels t.dims
 generalize hT : tensorOk ⟨k, p, n⟩ t.labels t.dims t.data = T
 unfold tensorOk at hT
 (refine spec_of (by kernel_rfl) Try.func71 k_spec_TensorOk (fnOk (nb rfl) ?_); unfold C_spec_TensorOk)
 unfold tenA at hsz ⊢
 (simp only [Nat.reduceSub, List.length_cons, List.length_nil, Nat.reduceAdd, ch_init1, ch_init2, ch_init3, ch_init4, ch_init5, ch_init6, ch_init7, ch_init8]; try simp only [ch_rep]); (simp only [go_sem, seval, reduceCtorEq, List.replicate])
 (refine ti_call (hsz) ?_ ?_ ?_; (focus (simp only [go_sem, seval, reduceCtorEq]; done)); (first | rfl | (focus (simp only [go_sem]; done))))
 simp only [go_sem, seval, reduceCtorEq]
 (refine gi_call (sRingOk_d k p n) ?_ ?_ ?_; (focus (simp only [go_sem, seval, reduceCtorEq]; done)); (first | rfl | (focus (simp only [go_sem]; done))))
 cases hr : ringOk ⟨k, p, n⟩
 ·have e : T = false := by rw [← hT, hr]; rfl
  simp only [go_sem, seval, reduceCtorEq, hr, e]
  (refine FnEnd.mk (nb rfl) rfl (of_decide_eq_true rfl) ?_ ?_ <;> try simp only [go_sem, seval, reduceCtorEq])
 have hw := width_bd hr
 simp only [go_sem, seval, reduceCtorEq, hr]
 by_cases h1 : tsize t.labels t.dims = -1
 ·have e : T = false := by rw [← hT, hr, decide_eq_false fun h => h.1 h1]; rfl
  have c1 : tsize t.labels t.dims < 0 := by omega
  simp only [go_sem, seval, reduceCtorEq, c1, e]
  (refine FnEnd.mk (nb rfl) rfl (of_decide_eq_true rfl) ?_ ?_ <;> try simp only [go_sem, seval, reduceCtorEq])
 have hb : 1 ≤ tsize t.labels t.dims ∧ tsize t.labels t.dims ≤ 4096 := by rcases htc with e | e; exact absurd e h1; omega
 have c1 : ¬ tsize t.labels t.dims < 0 := by omega
 have hm1 : 1 * 1 ≤ tsize t.labels t.dims * width ⟨k, p, n⟩ := Int.mul_le_mul hb.1 hw.1 (by omega) (by omega)
 have hm2 : tsize t.labels t.dims * width ⟨k, p, n⟩ ≤ 4096 * 6 := Int.mul_le_mul hb.2 hw.2 (by omega) (by omega)
 have hwr : IntKind.i64.wrap (tsize t.labels t.dims * width ⟨k, p, n⟩) = tsize t.labels t.dims * width ⟨k, p, n⟩ := IntWalk.i64_in _ (by omega)
 simp only [go_sem, seval, reduceCtorEq, c1]
 (refine gi_call (l02Width_d k p n) ?_ ?_ ?_; (focus (simp only [go_sem, seval, reduceCtorEq]; done)); (first | rfl | (focus (simp only [go_sem]; done))))
 by_cases h2 : (t.data.length : Int) = tsize t.labels t.dims * width ⟨k, p, n⟩
 ·have c2 : ((t.data.length : Int) != tsize t.labels t.dims * width ⟨k, p, n⟩) = false := by simp [h2]
  have e : T = fitsB ⟨k, p, n⟩ t.data := by rw [← hT, hr, decide_eq_true ⟨h1, h2⟩]; rfl
  simp only [go_sem, seval, reduceCtorEq, hwr, c2]
  refine wpN_lpI (t.data.length) (mkB 40 1097364144272) (fun q => ∀ j, j < q → 0 ≤ t.data.getD j 0 ∧ t.data.getD j 0 ≤ top ⟨k, p, n⟩) (fun q => [(30, .d (.int q))]) (fun q => []) (hi := fun j hj => absurd hj (Nat.not_lt_zero j)) (h1 := by first | (simp only [go_sem, seval, reduceCtorEq, nz, na, n1]; first | done | rfl) | rfl) (h2 := by first | (simp only [go_sem, seval, reduceCtorEq, nz, na, n1]; first | done | rfl) | rfl) (hr := fun q hq hiq => ?_)
  unfold L0_spec_TensorOk
  by_cases hlt : q < t.data.length
  ·have d1 : (q : Int) < t.data.length := by omega
   have g1 : t.data[q]? = some t.data[q] := List.getElem?_eq_getElem hlt
   have gd := getD_of hlt
   simp (disch := omega) only [go_sem, seval, reduceCtorEq, d1, g1, Option.map_some]
   (refine ti_call (l02Top_d k p n hr) ?_ ?_ ?_; (focus (simp only [go_sem, seval, reduceCtorEq]; done)); (first | rfl | (focus (simp only [go_sem]; done))))
   simp (disch := omega) only [go_sem, seval, reduceCtorEq]
   (refine ti_call (l01In_d t.data[q] 0 (top ⟨k, p, n⟩)) ?_ ?_ ?_; (focus (simp only [go_sem, seval, reduceCtorEq]; done)); (first | rfl | (focus (simp only [go_sem]; done))))
   cases b1 : decide (0 ≤ t.data[q] ∧ t.data[q] ≤ top ⟨k, p, n⟩)
   ·have e2 : T = false := by rw [e]; exact fitsB_no q hlt (by rw [gd]; exact of_decide_eq_false b1)
    simp only [go_sem, seval, reduceCtorEq, b1, e2]
    (refine FnEnd.mk (nb rfl) rfl (of_decide_eq_true rfl) ?_ ?_ <;> try simp only [go_sem, seval, reduceCtorEq])
   ·simp (disch := omega) only [go_sem, seval, reduceCtorEq, b1]
    (refine NextI.drop (mkB 40 1097364144272) (by omega) (fitsTo hlt hiq (of_decide_eq_true b1)) (h1 := ?_) (h2 := ?_) <;> first | (simp only [go_sem, seval, reduceCtorEq, nz, na, n1]; first | done | rfl) | rfl | skip)
  ·have d1 : ¬ (q : Int) < t.data.length := by omega
   obtain rfl : q = t.data.length := by omega
   have e2 : T = true := by rw [e]; exact fitsB_yes hiq
   simp (disch := omega) only [go_sem, seval, reduceCtorEq, d1, e2]
   (refine FnEnd.mk (nb rfl) rfl (of_decide_eq_true rfl) ?_ ?_ <;> try simp only [go_sem, seval, reduceCtorEq])
 ·have c2 : ((t.data.length : Int) != tsize t.labels t.dims * width ⟨k, p, n⟩) = true := by simp [h2]
  have e : T = false := by rw [← hT, hr, decide_eq_false fun h => h2 h.2]; rfl
  simp only [go_sem, seval, reduceCtorEq, hwr, c2, e]
  (refine FnEnd.mk (nb rfl) rfl (of_decide_eq_true rfl) ?_ ?_ <;> try simp only [go_sem, seval, reduceCtorEq])
theorem copyInts_d {xs : List Int} (h : xs.length ≤ 1099511627776) : Does Try.prog 33 [.d (ints xs)] [] (.own 0 0 xs.length) [some ⟨1, true, iv xs⟩] := by
 refine spec_of (by kernel_rfl) Try.func33 k_impl_copyInts (fnOk (nb rfl) ?_)
 unfold C_impl_copyInts ints
 simp only [go_sem, seval, iv_len, List.replicate]
 refine ⟨by omega, ?_⟩
 (refine FnEnd.mk (nb rfl) rfl (of_decide_eq_true rfl) ?_ ?_ <;> try simp only [go_sem, seval, reduceCtorEq])
theorem cut_len {x wd : Nat} {l : List Int} (hx : x * wd + wd ≤ l.length) : ((l.drop (x * wd)).take wd).length = wd := by simp; omega
theorem rawElem_d {x wd : Nat} {kk pp nn : Int} {t : Ten} (hw : width ⟨kk, pp, nn⟩ = (wd : Int)) (h1 : wd ≤ 6) (hx : x * wd + wd ≤ t.data.length) (hx2 : x ≤ 1099511627776) (h : t.data.length ≤ 1099511627776) :
  Does Try.prog 98 [ringA kk pp nn, tenA t, .d (.int x)] [] (.d (ints ((t.data.drop (x * wd)).take wd))) [] := by
 refine spec_of (by kernel_rfl) Try.func98 k_impl_rawElem (fnOk (nb rfl) ?_)
 unfold C_impl_rawElem
 simp only [go_sem, seval, iv_len, List.replicate]
 (refine ti_call (rawWidth_d kk pp nn) ?_ ?_ ?_; (focus (simp only [go_sem, seval, reduceCtorEq]; done)); (first | rfl | (focus (simp only [go_sem]; done))))
 have e1 : (x : Int) * wd = (x * wd : Nat) := by push_cast; rfl
 have e2 : ((x : Int) + 1) * wd = (x * wd + wd : Nat) := by push_cast; rw [Int.add_mul, Int.one_mul]
 have e3 : (((x * wd + wd : Nat) : Int) - (x * wd : Nat)).toNat = wd := by omega
 simp (disch := omega) only [go_sem, seval, iv_len, hw, e1, e2, e3]
 refine ⟨⟨by omega, by omega⟩, ?_⟩
 refine FnEnd.mk (nb rfl) rfl (of_decide_eq_true rfl) ?_ rfl
 simp only [go_sem, seval, reduceCtorEq, cut_len hx]
theorem l05Get_d {x wd : Nat} {kk pp nn : Int} {t : Ten} (hw : width ⟨kk, pp, nn⟩ = (wd : Int)) (h1 : wd ≤ 6) (hx : x * wd + wd ≤ t.data.length) (hx2 : x ≤ 1099511627776) (h : t.data.length ≤ 1099511627776) :
  Does Try.prog 108 [ringA kk pp nn, tenA t, .d (.int x)] [] (.own 0 0 wd) [some ⟨1, true, iv ((t.data.drop (x * wd)).take wd)⟩] := by
 refine spec_of (by kernel_rfl) Try.func108 k_spec_l05Get (fnOk (nb rfl) ?_)
 unfold C_spec_l05Get
 simp only [go_sem, seval, iv_len, List.replicate]
 (refine ti_call (l02Width_d kk pp nn) ?_ ?_ ?_; (focus (simp only [go_sem, seval, reduceCtorEq]; done)); (first | rfl | (focus (simp only [go_sem]; done))))
 have e1 : (x : Int) * wd = (x * wd : Nat) := by push_cast; rfl
 have e2 : ((x * wd : Nat) : Int) + wd = (x * wd + wd : Nat) := by push_cast; rfl
 have e3 : (((x * wd + wd : Nat) : Int) - (x * wd : Nat)).toNat = wd := by omega
 simp (disch := omega) only [go_sem, seval, iv_len, hw, e1, e2, e3, cut_len hx]
 refine ⟨by omega, by omega, ?_⟩
 (refine FnEnd.mk (nb rfl) rfl (of_decide_eq_true rfl) ?_ ?_ <;> try simp only [go_sem, seval, reduceCtorEq])
 rw [List.take_take, Nat.min_self]
theorem tensorOk_facts {r : Rg} {ls ds xs : List Int} (h : tensorOk r ls ds xs = true) : ringOk r = true ∧ axOk ls ds ∧ prodI ds ≤ 4096 ∧ 1 ≤ prodI ds ∧ tsize ls ds = prodI ds ∧ (xs.length : Int) = prodI ds * width r := by
 simp only [tensorOk, Bool.and_eq_true, decide_eq_true_eq] at h
 obtain ⟨⟨h1, h2, h3⟩, h4⟩ := h
 rcases tsize_cases ls ds with h5 | ⟨h5, h6, h7, h8⟩
 ·exact absurd h5 h2
 ·exact ⟨h1, h5, h6, h8, h7, by rw [h3, h7]⟩
set_option maxRecDepth 100000
theorem axisOf_d {t : Ten} {x : Int} (h : t.labels.length ≤ 1099511627776) : Does Try.prog 80 [tenA t, .d (.int x)] [] (.d (.int (place t.labels x))) [] := by
 (refine spec_of (by kernel_rfl) Try.func80 k_impl_axisOf (fnOk (nb rfl) ?_); unfold C_impl_axisOf)
 (simp only [Nat.reduceSub, List.length_cons, List.length_nil, Nat.reduceAdd, ch_init1, ch_init2, ch_init3, ch_init4, ch_init5, ch_init6, ch_init7, ch_init8]; try simp only [ch_rep]); (simp only [go_sem, seval, reduceCtorEq, List.replicate])
 refine wpN_uptoI (t.labels.length) (fun k => x ∉ t.labels.take k) (fun k => (ch (.any) (.d (.int x)) (.any) (.any) (.any) (.any) (.any) (.any) (.d (ints t.labels)) (.d (.int t.labels.length)) (.d (.int k)) (.any) (.any) (.any) (.any) (.any) [.any, .any, .any, .any])) (fun k => []) (by simp) (Wk.kept' [1, 8, 9, 10] 0 (nb rfl) (by first | rfl | simp only [go_sem, seval, reduceCtorEq, keepE, keepF_ch, keepG_ch, keepF, keepG, cut, List.contains_cons, List.contains_nil, Nat.reduceBEq, Int.natCast_zero, Int.natCast_add, Int.natCast_one]) (by first | rfl | simp only [go_sem, seval, reduceCtorEq, keepE, keepF_ch, keepG_ch, keepF, keepG, cut, List.contains_cons, List.contains_nil, Nat.reduceBEq, Int.natCast_zero, Int.natCast_add, Int.natCast_one])) fun k hk hi => ?_
 unfold L0_impl_axisOf
 by_cases hlt : k < t.labels.length
 ·have h1 : (k : Int) < t.labels.length := by omega
  have hx : t.labels[k]? = some t.labels[k] := List.getElem?_eq_getElem hlt
  by_cases he : t.labels[k] = x
  ·have he' : (t.labels[k] == x) = true := by simp [he]
   have e : place t.labels x = k := by rw [← he]; exact place_at hlt (by rw [he]; exact hi)
   simp (disch := omega) only [go_sem, seval, reduceCtorEq, h1, hx, he', e]
   (refine FnEnd.mk (nb rfl) rfl (of_decide_eq_true rfl) ?_ ?_ <;> try simp only [go_sem, seval, reduceCtorEq])
  ·have he' : (t.labels[k] == x) = false := by simp [he]
   simp (disch := omega) only [go_sem, seval, reduceCtorEq, h1, hx, he']
   (refine NextI.mk hlt (not_mem_take hlt hi (fun e => he e.symm)) (Wk.kept' [1, 8, 9, 10] 0 (nb rfl) ?_ ?_) <;> first | rfl | (simp only [go_sem, seval, reduceCtorEq, keepE, keepF_ch, keepG_ch, keepF, keepG, cut, List.contains_cons, List.contains_nil, Nat.reduceBEq, Int.natCast_zero, Int.natCast_add, Int.natCast_one]; done) | skip)
 ·have h1 : ¬ (k : Int) < t.labels.length := by omega
  have e : place t.labels x = -1 := place_no (by rw [List.take_of_length_le (by omega)] at hi; exact hi)
  simp (disch := omega) only [go_sem, seval, reduceCtorEq, h1, e]
  (refine FnEnd.mk (nb rfl) rfl (of_decide_eq_true rfl) ?_ ?_ <;> try simp only [go_sem, seval, reduceCtorEq])
theorem productOf_d {ds : List Int} (h : ds.length ≤ 1099511627776) (hd : ∀ d ∈ ds, 1 ≤ d) (hp : prodI ds ≤ 1152921504606846976) : Does Try.prog 42 [.d (ints ds)] [] (.d (.int (prodI ds))) [] := by
 (refine spec_of (by kernel_rfl) Try.func42 k_impl_productOf (fnOk (nb rfl) ?_); unfold C_impl_productOf)
 (simp only [Nat.reduceSub, List.length_cons, List.length_nil, Nat.reduceAdd, ch_init1, ch_init2, ch_init3, ch_init4, ch_init5, ch_init6, ch_init7, ch_init8]; try simp only [ch_rep]); (simp only [go_sem, seval, reduceCtorEq, List.replicate])
 refine wpN_upto (ds.length) (fun k => (ch (.any) (.any) (.any) (.d (.int (prodI (ds.take k)))) (.any) (.any) (.d (ints ds)) (.d (.int ds.length)) (.d (.int k)) (.any) (.any) (.any) (.any) (.any) (.any) (.any) [.any])) (fun k => []) (Wk.kept' [3, 6, 7, 8] 0 (nb rfl) (by first | rfl | simp only [go_sem, seval, reduceCtorEq, keepE, keepF_ch, keepG_ch, keepF, keepG, cut, List.contains_cons, List.contains_nil, Nat.reduceBEq, Int.natCast_zero, Int.natCast_add, Int.natCast_one]) (by first | rfl | simp only [go_sem, seval, reduceCtorEq, keepE, keepF_ch, keepG_ch, keepF, keepG, cut, List.contains_cons, List.contains_nil, Nat.reduceBEq, Int.natCast_zero, Int.natCast_add, Int.natCast_one])) fun k hk => ?_
 unfold L0_impl_productOf
 by_cases hlt : k < ds.length
 ·have h1 : (k : Int) < ds.length := by omega
  have hx : ds[k]? = some ds[k] := List.getElem?_eq_getElem hlt
  have e := prodI_take_succ ds k hlt
  rw [getD_of hlt] at e
  have b1 := prodI_pos (ds.take (k + 1)) (fun d hd' => hd d (List.mem_of_mem_take hd'))
  have b2 := prodI_take_le ds (k + 1) hd
  simp (disch := omega) only [go_sem, seval, reduceCtorEq, h1, hx, ← e]
  (refine Next.mk hlt (Wk.kept' [3, 6, 7, 8] 0 (nb rfl) ?_ ?_) <;> first | rfl | (simp only [go_sem, seval, reduceCtorEq, keepE, keepF_ch, keepG_ch, keepF, keepG, cut, List.contains_cons, List.contains_nil, Nat.reduceBEq, Int.natCast_zero, Int.natCast_add, Int.natCast_one]; done) | skip)
 ·have h1 : ¬ (k : Int) < ds.length := by omega
  simp (disch := omega) only [go_sem, seval, reduceCtorEq, h1]
  (refine FnEnd.mk (nb rfl) rfl (of_decide_eq_true rfl) ?_ ?_ <;> try simp only [go_sem, seval, reduceCtorEq])
  rw [List.take_of_length_le (by omega)]
theorem withoutInt_d {xs : List Int} {x : Int} (h : xs.length ≤ 1099511627776) : Does Try.prog 78 [.d (ints xs), .d (.int x)] [] (.own 0 0 (xs.filter (· != x)).length) [some ⟨1, true, iv (xs.filter (· != x))⟩] := by
 (refine spec_of (by kernel_rfl) Try.func78 k_impl_withoutInt (fnOk (nb rfl) ?_); unfold C_impl_withoutInt)
 (simp only [Nat.reduceSub, List.length_cons, List.length_nil, Nat.reduceAdd, ch_init1, ch_init2, ch_init3, ch_init4, ch_init5, ch_init6, ch_init7, ch_init8]; try simp only [ch_rep]); (simp only [go_sem, seval, reduceCtorEq, List.replicate])
 refine wpN_upto (xs.length) (fun k => (ch (.any) (.d (.int x)) (.any) (.any) (.any) (.own 0 0 ((xs.take k).filter (· != x)).length) (.any) (.any) (.d (ints xs)) (.d (.int xs.length)) (.d (.int k)) (.any) (.any) (.any) (.any) (.any) [.any, .any, .any, .any, .any, .any, .any])) (fun k => [some ⟨1, true, iv ((xs.take k).filter (· != x))⟩]) (Wk.trans (Wk.nilE 5 1 _ _ rfl) (Wk.kept' [1, 5, 8, 9, 10] 1 (nb rfl) (by first | rfl | simp only [go_sem, seval, reduceCtorEq, keepE, keepF_ch, keepG_ch, keepF, keepG, cut, List.contains_cons, List.contains_nil, Nat.reduceBEq, Int.natCast_zero, Int.natCast_add, Int.natCast_one]) (by first | rfl | simp only [go_sem, seval, reduceCtorEq, keepE, keepF_ch, keepG_ch, keepF, keepG, cut, List.contains_cons, List.contains_nil, Nat.reduceBEq, Int.natCast_zero, Int.natCast_add, Int.natCast_one]))) fun k hk => ?_
 unfold L0_impl_withoutInt
 by_cases hlt : k < xs.length
 ·have h1 : (k : Int) < xs.length := by omega
  have hx : xs[k]? = some xs[k] := List.getElem?_eq_getElem hlt
  have hf := filter_len xs k (· != x)
  by_cases he : xs[k] = x
  ·have he' : (xs[k] != x) = false := by simp [he]
   simp (disch := omega) only [go_sem, seval, reduceCtorEq, h1, hx, he']
   (refine Next.mk hlt (Wk.kept' [1, 5, 8, 9, 10] 1 (nb rfl) ?_ ?_) <;> first | rfl | (simp only [go_sem, seval, reduceCtorEq, keepE, keepF_ch, keepG_ch, keepF, keepG, cut, List.contains_cons, List.contains_nil, Nat.reduceBEq, Int.natCast_zero, Int.natCast_add, Int.natCast_one, filter_no (p := (· != x)) hlt he']; done) | skip)
  ·have he' : (xs[k] != x) = true := by simp [he]
   simp (disch := omega) only [go_sem, seval, reduceCtorEq, h1, hx, he']
   refine ⟨by omega, ?_⟩
   (refine Next.mk hlt (Wk.kept' [1, 5, 8, 9, 10] 1 (nb rfl) ?_ ?_) <;> first | rfl | (simp only [go_sem, seval, reduceCtorEq, keepE, keepF_ch, keepG_ch, keepF, keepG, cut, List.contains_cons, List.contains_nil, Nat.reduceBEq, Int.natCast_zero, Int.natCast_add, Int.natCast_one, filter_yes (p := (· != x)) hlt he', List.length_append]; done) | skip)
 ·have h1 : ¬ (k : Int) < xs.length := by omega
  simp (disch := omega) only [go_sem, seval, reduceCtorEq, h1]
  (refine FnEnd.mk (nb rfl) rfl (of_decide_eq_true rfl) ?_ ?_ <;> try simp only [go_sem, seval, reduceCtorEq])
  all_goals rw [List.take_of_length_le (by omega)]
end Go.Proofs.Ytndmbmmnbocmhaa
