/-
 Contracts: what fits a ring; tensors that are right. No condition.
-/
import Derived.Test.YtmkdphmjgfbjaaaRngB
set_option linter.unusedSimpArgs false
set_option linter.unusedVariables false
namespace Go.Proofs.Ytmkdphmjgfbjaaa
open Go.RowKit Go.Lift Plain
set_option maxRecDepth 100000
theorem fitsTo {r : Rg} {xs : List Int} {k : Nat} (hk : k < xs.length) (h : ∀ j, j < k → 0 ≤ xs.getD j 0 ∧ xs.getD j 0 ≤ top r) (h2 : 0 ≤ xs[k] ∧ xs[k] ≤ top r) : ∀ j, j < k + 1 → 0 ≤ xs.getD j 0 ∧ xs.getD j 0 ≤ top r := fun j hj => by
 by_cases e : j = k
 ·subst e; rw [getD_of hk]; exact h2
 ·exact h j (by omega)
theorem inRing_d {k p n : Int} {xs : List Int} (hr : ringOk ⟨k, p, n⟩ = true) (h : Sz 1099511627776 xs) : Does Try.prog 57 [ringA k p n, .d (ints xs)] [] (.d (.bool (fitsB ⟨k, p, n⟩ xs))) [] := by
 have hl := h.len
 generalize hT : fitsB ⟨k, p, n⟩ xs = T
 (refine spec_of (by kernel_rfl) Try.func57 k_impl_inRing (fnOk (nb rfl) ?_); unfold C_impl_inRing)
 (simp only [Nat.reduceSub, List.length_cons, List.length_nil, Nat.reduceAdd, ch_init1, ch_init2, ch_init3, ch_init4, ch_init5, ch_init6, ch_init7, ch_init8]; try simp only [ch_rep]); (simp only [go_sem, seval, reduceCtorEq, List.replicate])
 (refine ti_call (rawTop_d k p n hr) ?_ ?_ ?_; (focus (simp only [go_sem, seval, reduceCtorEq]; done)); (first | rfl | (focus (simp only [go_sem]; done))))
 simp only [go_sem, seval, reduceCtorEq]
 refine wpN_lpI (xs.length) (mkB 24 16769168) (fun q => ∀ j, j < q → 0 ≤ xs.getD j 0 ∧ xs.getD j 0 ≤ top ⟨k, p, n⟩) (fun q => [(12, .d (.int q))]) (fun q => []) (hi := fun j hj => absurd hj (Nat.not_lt_zero j)) (h1 := by first | (simp only [go_sem, seval, reduceCtorEq, nz, na, n1]; first | done | rfl) | rfl) (h2 := by first | (simp only [go_sem, seval, reduceCtorEq, nz, na, n1]; first | done | rfl) | rfl) (hr := fun q hq hiq => ?_)
 unfold L0_impl_inRing
 by_cases hlt : q < xs.length
 ·have d1 : (q : Int) < xs.length := by omega
  have g1 : xs[q]? = some xs[q] := List.getElem?_eq_getElem hlt
  have gd := getD_of hlt
  simp (disch := omega) only [go_sem, seval, reduceCtorEq, d1, g1, Option.map_some]
  by_cases b1 : xs[q] < 0
  ·have e : T = false := by rw [← hT]; exact fitsB_no q hlt (by rw [gd]; omega)
   simp only [go_sem, seval, reduceCtorEq, b1, e]
   (refine FnEnd.mk (nb rfl) rfl (of_decide_eq_true rfl) ?_ ?_ <;> try simp only [go_sem, seval, reduceCtorEq])
  by_cases b2 : xs[q] > top ⟨k, p, n⟩
  ·have e : T = false := by rw [← hT]; exact fitsB_no q hlt (by rw [gd]; omega)
   simp only [go_sem, seval, reduceCtorEq, b1, b2, e]
   (refine FnEnd.mk (nb rfl) rfl (of_decide_eq_true rfl) ?_ ?_ <;> try simp only [go_sem, seval, reduceCtorEq])
  simp (disch := omega) only [go_sem, seval, reduceCtorEq, b1, b2]
  (refine NextI.drop (mkB 24 16769168) (by omega) (fitsTo hlt hiq ⟨by omega, by omega⟩) (h1 := ?_) (h2 := ?_) <;> first | (simp only [go_sem, seval, reduceCtorEq, nz, na, n1]; first | done | rfl) | rfl | skip)
 ·have d1 : ¬ (q : Int) < xs.length := by omega
  obtain rfl : q = xs.length := by omega
  have e : T = true := by rw [← hT]; exact fitsB_yes hiq
  simp (disch := omega) only [go_sem, seval, reduceCtorEq, d1, e]
  (refine FnEnd.mk (nb rfl) rfl (of_decide_eq_true rfl) ?_ ?_ <;> try simp only [go_sem, seval, reduceCtorEq])
theorem iTensorOk_d {k p n : Int} {t : Ten} (a : I64 k) (b : I64 p) (c : I64 n) (h : TSz 1099511627776 t) : Does Try.prog 42 [ringA k p n, tenA t] [] (.d (.bool (tensorOk ⟨k, p, n⟩ t.labels t.dims t.data))) [] := by
 have hx := h.x
 have hxl := hx.len
 have hsz := iTensorSize_d h
 have htc := tsize_cases t.labels t.dims
 generalize hT : tensorOk ⟨k, p, n⟩ t.labels t.dims t.data = T
 unfold tensorOk at hT
 (refine spec_of (by kernel_rfl) Try.func42 k_impl_TensorOk (fnOk (nb rfl) ?_); unfold C_impl_TensorOk)
 unfold tenA at hsz ⊢
 (simp only [Nat.reduceSub, List.length_cons, List.length_nil, Nat.reduceAdd, ch_init1, ch_init2, ch_init3, ch_init4, ch_init5, ch_init6, ch_init7, ch_init8]; try simp only [ch_rep]); (simp only [go_sem, seval, reduceCtorEq, List.replicate])
 (refine ti_call (iRingOk_d k p n) ?_ ?_ ?_; (focus (simp only [go_sem, seval, reduceCtorEq]; done)); (first | rfl | (focus (simp only [go_sem]; done))))
 cases hr : ringOk ⟨k, p, n⟩
 ·have e : T = false := by rw [← hT, hr]; rfl
  simp only [go_sem, seval, reduceCtorEq, hr, e]
  (refine FnEnd.mk (nb rfl) rfl (of_decide_eq_true rfl) ?_ ?_ <;> try simp only [go_sem, seval, reduceCtorEq])
 have hw := width_bd hr
 simp only [go_sem, seval, reduceCtorEq, hr]
 (refine ti_call (hsz) ?_ ?_ ?_; (focus (simp only [go_sem, seval, reduceCtorEq]; done)); (first | rfl | (focus (simp only [go_sem]; done))))
 simp only [go_sem, seval, reduceCtorEq]
 by_cases h1 : tsize t.labels t.dims = -1
 ·have e : T = false := by rw [← hT, hr, decide_eq_false fun h => h.1 h1]; rfl
  have c1 : (tsize t.labels t.dims != -1) = false := by simp [h1]
  simp only [go_sem, seval, reduceCtorEq, c1, e]
  (refine FnEnd.mk (nb rfl) rfl (of_decide_eq_true rfl) ?_ ?_ <;> try simp only [go_sem, seval, reduceCtorEq])
 have c1 : (tsize t.labels t.dims != -1) = true := by simp [h1]
 have hb : 1 ≤ tsize t.labels t.dims ∧ tsize t.labels t.dims ≤ 4096 := by rcases htc with e | e; exact absurd e h1; omega
 have hm1 : 1 * 1 ≤ tsize t.labels t.dims * width ⟨k, p, n⟩ := Int.mul_le_mul hb.1 hw.1 (by omega) (by omega)
 have hm2 : tsize t.labels t.dims * width ⟨k, p, n⟩ ≤ 4096 * 6 := Int.mul_le_mul hb.2 hw.2 (by omega) (by omega)
 have hwr : IntKind.i64.wrap (tsize t.labels t.dims * width ⟨k, p, n⟩) = tsize t.labels t.dims * width ⟨k, p, n⟩ := IntWalk.i64_in _ (by omega)
 simp only [go_sem, seval, reduceCtorEq, c1]
 (refine gi_call (rawWidth_d k p n) ?_ ?_ ?_; (focus (simp only [go_sem, seval, reduceCtorEq]; done)); (first | rfl | (focus (simp only [go_sem]; done))))
 by_cases h2 : (t.data.length : Int) = tsize t.labels t.dims * width ⟨k, p, n⟩
 ·have c2 : ((t.data.length : Int) == tsize t.labels t.dims * width ⟨k, p, n⟩) = true := by simp [h2]
  have e : T = fitsB ⟨k, p, n⟩ t.data := by rw [← hT, hr, decide_eq_true ⟨h1, h2⟩]; rfl
  simp only [go_sem, seval, reduceCtorEq, hwr, c2]
  (refine ti_call (inRing_d (xs := t.data) hr hx) ?_ ?_ ?_; (focus (simp only [go_sem, seval, reduceCtorEq]; done)); (first | rfl | (focus (simp only [go_sem]; done))))
  simp only [go_sem, seval, reduceCtorEq, ← e]
  (refine FnEnd.mk (nb rfl) rfl (of_decide_eq_true rfl) ?_ ?_ <;> try simp only [go_sem, seval, reduceCtorEq])
 ·have c2 : ((t.data.length : Int) == tsize t.labels t.dims * width ⟨k, p, n⟩) = false := by simp [h2]
  have e : T = false := by rw [← hT, hr, decide_eq_false fun h => h2 h.2]; rfl
  simp only [go_sem, seval, reduceCtorEq, hwr, c2, e]
  (refine FnEnd.mk (nb rfl) rfl (of_decide_eq_true rfl) ?_ ?_ <;> try simp only [go_sem, seval, reduceCtorEq])
theorem copyInts_d {xs : List Int} (h : xs.length ≤ 1099511627776) : Does Try.prog 46 [.d (ints xs)] [] (.own 0 0 xs.length) [some ⟨1, true, iv xs⟩] := by
 refine spec_of (by kernel_rfl) Try.func46 k_impl_copyInts (fnOk (nb rfl) ?_)
 unfold C_impl_copyInts ints
 simp only [go_sem, seval, iv_len, List.replicate]
 refine ⟨by omega, ?_⟩
 (refine FnEnd.mk (nb rfl) rfl (of_decide_eq_true rfl) ?_ ?_ <;> try simp only [go_sem, seval, reduceCtorEq])
theorem tensorOk_facts {r : Rg} {ls ds xs : List Int} (h : tensorOk r ls ds xs = true) : ringOk r = true ∧ axOk ls ds ∧ prodI ds ≤ 4096 ∧ 1 ≤ prodI ds ∧ tsize ls ds = prodI ds ∧ (xs.length : Int) = prodI ds * width r := by
 simp only [tensorOk, Bool.and_eq_true, decide_eq_true_eq] at h
 obtain ⟨⟨h1, h2, h3⟩, h4⟩ := h
 rcases tsize_cases ls ds with h5 | ⟨h5, h6, h7, h8⟩
 ·exact absurd h5 h2
 ·exact ⟨h1, h5, h6, h8, h7, by rw [h3, h7]⟩
set_option maxRecDepth 100000
end Go.Proofs.Ytmkdphmjgfbjaaa
