/-
 Contracts: the dimension of a label; the bound of a network's cost. No condition.
-/
import Derived.Test.YtndmbmmnbocmhaaMgSliceLimitA
import Derived.Test.YtndmbmmnbocmhaaNetC
set_option linter.unusedSimpArgs false
set_option linter.unusedVariables false
namespace Go.Proofs.Ytndmbmmnbocmhaa
open Go.RowKit Go.Lift Plain
set_option maxRecDepth 100000
noncomputable def netDim (N : Net) (x : Int) : Int := if netOk N = true then dimN N.ts x else 0
theorem netDim_no {N : Net} {x : Int} (h : netOk N = false) : netDim N x = 0 := by simp [netDim, h]
theorem netDim_yes {N : Net} {x : Int} (h : netOk N = true) : netDim N x = dimN N.ts x := by simp [netDim, h]
theorem iDimOf_d {N : Net} {x : Int} (h : NSz 1048576 N) : Does Try.prog 77 [netA N, .d (.int x)] [] (.d (.int (netDim N x))) [] := by
 (refine spec_of (by kernel_rfl) Try.func77 k_impl_DimOf (fnOk (nb rfl) ?_); unfold C_impl_DimOf)
 (simp only [Nat.reduceSub, List.length_cons, List.length_nil, Nat.reduceAdd, ch_init1, ch_init2, ch_init3, ch_init4, ch_init5, ch_init6, ch_init7, ch_init8]; try simp only [ch_rep]); (simp only [go_sem, seval, reduceCtorEq, List.replicate])
 (refine ti_call (iNetworkOk_d h) ?_ ?_ ?_; (focus (simp only [go_sem, seval, reduceCtorEq]; done)); (first | rfl | (focus (simp only [go_sem]; done))))
 cases h1 : netOk N
 ·have e := netDim_no (x := x) h1
  simp only [go_sem, seval, reduceCtorEq, h1, e]
  (refine FnEnd.mk (nb rfl) rfl (of_decide_eq_true rfl) ?_ ?_ <;> try simp only [go_sem, seval, reduceCtorEq])
 have e := netDim_yes (x := x) h1
 have hax := netOk_ax h1
 have hok := (dimsR_ok hax).1.2 (netOk_iff.1 h1).2.2.2.1
 have hat := (dimsR_ok hax).2 hok
 have hRl := dimsR_len N.ts
 have hdr : List.drop 100 (repI 100 0) = [] := List.drop_of_length_le (by rw [repI_len]; exact Nat.le_refl _)
 by_cases b1 : x < 0
 ·have e2 := dimN_out hax (x := x) (by omega)
  simp only [go_sem, seval, reduceCtorEq, h1, b1, e, e2]
  (refine FnEnd.mk (nb rfl) rfl (of_decide_eq_true rfl) ?_ ?_ <;> try simp only [go_sem, seval, reduceCtorEq])
 by_cases b2 : x > 99
 ·have e2 := dimN_out hax (x := x) (by omega)
  simp only [go_sem, seval, reduceCtorEq, h1, b1, b2, e, e2]
  (refine FnEnd.mk (nb rfl) rfl (of_decide_eq_true rfl) ?_ ?_ <;> try simp only [go_sem, seval, reduceCtorEq])
 have hb : 0 ≤ x ∧ x ≤ 99 := by omega
 have ga := atT_get hRl hb
 rw [hat x hb] at ga
 have c1 : 0 ≤ x := hb.1
 have c2 : x < 100 := by omega
 simp only [go_sem, seval, reduceCtorEq, h1, b1, b2]
 (refine ti_call (dimsOf_d (ts := N.ts) h.l h.t hax) ?_ ?_ ?_; (focus (simp only [go_sem, seval, reduceCtorEq]; done)); (first | rfl | (focus (simp only [go_sem]; done))))
 simp (disch := omega) only [go_sem, seval, reduceCtorEq, hdr, hRl, c1, c2, ga, e]
 (refine FnEnd.mk (nb rfl) rfl (of_decide_eq_true rfl) ?_ ?_ <;> try simp only [go_sem, seval, reduceCtorEq])
end Go.Proofs.Ytndmbmmnbocmhaa
