/-
  Contracts: what the contraction of two tensors calls. No condition.
-/
import Derived.Test.YtjoopfojiiklnaaMgMapTensorA
import Derived.Test.YtjoopfojiiklnaaTenB
import Derived.Test.YtjoopfojiiklnaaPlK
namespace Go.Proofs.Ytjoopfojiiklnaa
open Go.RowKit Go.Lift Plain
set_option linter.unusedSimpArgs false
set_option linter.unusedVariables false
set_option maxRecDepth 100000

/-! ### Labels that are kept -/
theorem zeroE_put {kk pp : Int} {wd : Nat} (h : 1 ≤ wd) (h4 : kk = 4) : iv (zeroE kk pp wd) = .d (.int pp) :: iv (List.drop 1 (List.replicate wd (0 : Int))) := by
  obtain ⟨w, rfl⟩ : ∃ w, wd = w + 1 := ⟨wd - 1, by omega⟩
  unfold zeroE
  rw [if_pos h4]
  rfl
theorem rawZero_d {kk pp nn : Int} {wd : Nat} (hw : width ⟨kk, pp, nn⟩ = wd) (h1 : 1 ≤ wd ∧ wd ≤ 6) : Does Try.prog 131 [ringA kk pp nn] [] (.own 0 0 wd) [some ⟨1, true, iv (zeroE kk pp wd)⟩] := by
  have hz := zeroE_len kk pp wd
  (refine spec_of (by kernel_rfl) Try.func131 k_impl_rawZero (fnOk (Nat.le_of_ble_eq_true rfl) ?_); unfold C_impl_rawZero)
  (simp only [Nat.reduceSub, List.length_cons, List.length_nil, Nat.reduceAdd, ch_init1, ch_init2, ch_init3, ch_init4, ch_init5, ch_init6, ch_init7, ch_init8]; try simp only [ch_rep]); (simp only [go_sem, seval, reduceCtorEq, List.replicate])
  (refine ti_call (rawWidth_d kk pp nn) ?_ ?_ ?_; (focus (simp only [go_sem, seval, reduceCtorEq, hw]; done)); (first | rfl | (focus (simp only [go_sem]; done))))
  simp (disch := omega) only [go_sem, seval, reduceCtorEq, hw]
  refine And.intro ⟨by omega, by omega⟩ ?_
  by_cases h4 : kk = 4
  · have c : (kk == 4) = true := by simp [h4]
    have e := zeroE_put (pp := pp) h1.1 h4
    have hlr : (List.replicate wd (0 : Int)).length = wd := List.length_replicate
    simp (disch := omega) only [go_sem, seval, reduceCtorEq, c]
    refine ⟨by omega, by rw [hlr]; omega, ?_⟩
    rw [e]
    (refine FnEnd.mk (Nat.le_of_ble_eq_true rfl) rfl (of_decide_eq_true rfl) ?_ ?_ <;> try simp only [go_sem, seval, reduceCtorEq])
  · have c : (kk == 4) = false := by simp [h4]
    have e : zeroE kk pp wd = List.replicate wd 0 := by rw [zeroE, if_neg h4]
    simp (disch := omega) only [go_sem, seval, reduceCtorEq, c, e]
    (refine FnEnd.mk (Nat.le_of_ble_eq_true rfl) rfl (of_decide_eq_true rfl) ?_ ?_ <;> try simp only [go_sem, seval, reduceCtorEq])
theorem l02Zero_d {kk pp nn : Int} {wd : Nat} (hw : width ⟨kk, pp, nn⟩ = wd) (h1 : 1 ≤ wd ∧ wd ≤ 6) : Does Try.prog 148 [ringA kk pp nn] [] (.own 0 0 wd) [some ⟨1, true, iv (zeroE kk pp wd)⟩] := by
  have hz := zeroE_len kk pp wd
  (refine spec_of (by kernel_rfl) Try.func148 k_spec_l02Zero (fnOk (Nat.le_of_ble_eq_true rfl) ?_); unfold C_spec_l02Zero)
  (simp only [Nat.reduceSub, List.length_cons, List.length_nil, Nat.reduceAdd, ch_init1, ch_init2, ch_init3, ch_init4, ch_init5, ch_init6, ch_init7, ch_init8]; try simp only [ch_rep]); (simp only [go_sem, seval, reduceCtorEq, List.replicate])
  (refine ti_call (l02Width_d kk pp nn) ?_ ?_ ?_; (focus (simp only [go_sem, seval, reduceCtorEq, hw]; done)); (first | rfl | (focus (simp only [go_sem]; done))))
  simp (disch := omega) only [go_sem, seval, reduceCtorEq, hw]
  refine And.intro ⟨by omega, by omega⟩ ?_
  by_cases h4 : kk = 4
  · have c : (kk == 4) = true := by simp [h4]
    have e := zeroE_put (pp := pp) h1.1 h4
    have hlr : (List.replicate wd (0 : Int)).length = wd := List.length_replicate
    simp (disch := omega) only [go_sem, seval, reduceCtorEq, c]
    refine ⟨by omega, by rw [hlr]; omega, ?_⟩
    rw [e]
    (refine FnEnd.mk (Nat.le_of_ble_eq_true rfl) rfl (of_decide_eq_true rfl) ?_ ?_ <;> try simp only [go_sem, seval, reduceCtorEq])
  · have c : (kk == 4) = false := by simp [h4]
    have e : zeroE kk pp wd = List.replicate wd 0 := by rw [zeroE, if_neg h4]
    simp (disch := omega) only [go_sem, seval, reduceCtorEq, c, e]
    (refine FnEnd.mk (Nat.le_of_ble_eq_true rfl) rfl (of_decide_eq_true rfl) ?_ ?_ <;> try simp only [go_sem, seval, reduceCtorEq])
/-! ### Tensors of one value -/
/-! ### Strides, by the reference -/
theorem map_set {L : List Int} {f : Int → Int} {k : Nat} {v : Int} (hn : L.Nodup) (hk : k < L.length) : (L.map f).set k v = L.map fun x => if x = L[k] then v else f x := by
  refine List.ext_getElem (by simp) fun i h1 h2 => ?_
  have hi : i < L.length := by simpa using h2
  rw [List.getElem_set, List.getElem_map, List.getElem_map]
  by_cases e : k = i
  · subst e; simp
  · rw [if_neg e, if_neg (fun e2 => e (nodup_at hn hk hi e2.symm))]
end Go.Proofs.Ytjoopfojiiklnaa
