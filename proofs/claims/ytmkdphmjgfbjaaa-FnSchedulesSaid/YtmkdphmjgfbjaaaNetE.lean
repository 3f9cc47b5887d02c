/-
 Contracts: labels, uses, neighbours, closed labels. No condition.
-/
import Derived.Test.YtmkdphmjgfbjaaaMgSchedulesA
import Derived.Test.YtmkdphmjgfbjaaaNetC
import Derived.Test.YtmkdphmjgfbjaaaCoB
set_option linter.unusedSimpArgs false
set_option linter.unusedVariables false
namespace Go.Proofs.Ytmkdphmjgfbjaaa
open Go.RowKit Go.Lift Plain
set_option maxRecDepth 100000
def pickTo (p : Nat → Bool) (n : Nat) : List Int := ((List.range n).filter p).map fun (i : Nat) => (i : Int)
theorem pickTo_zero (p : Nat → Bool) : pickTo p 0 = [] := rfl
theorem pickTo_yes {p : Nat → Bool} {k : Nat} (h : p k = true) : pickTo p (k + 1) = pickTo p k ++ [(k : Int)] := by simp [pickTo, List.range_succ, h]
theorem pickTo_no {p : Nat → Bool} {k : Nat} (h : p k = false) : pickTo p (k + 1) = pickTo p k := by simp [pickTo, List.range_succ, h]
theorem pickTo_len (p : Nat → Bool) (k : Nat) : (pickTo p k).length ≤ k := by
 rw [pickTo, List.length_map]
 exact Nat.le_trans (List.length_filter_le _ _) (by simp)
theorem pickTo_mem {p : Nat → Bool} {n : Nat} {x : Int} (h : x ∈ pickTo p n) : ∃ i : Nat, i < n ∧ p i = true ∧ x = i := by
 simp only [pickTo, List.mem_map, List.mem_filter, List.mem_range] at h
 obtain ⟨i, ⟨h1, h2⟩, rfl⟩ := h
 exact ⟨i, h1, h2, rfl⟩
def labP (ts : List Ten) (i : Nat) : Bool := dimN ts i != 0
theorem l12Labels_d {ts : List Ten} (h : ts.length ≤ 1048576) (ht : ∀ t ∈ ts, TSz 1048576 t) (hax : axOks ts) : Does Try.prog 27 [.d (tens ts)] [] (.own 0 0 (pickTo (labP ts) 100).length) [some ⟨1, true, iv (pickTo (labP ts) 100)⟩] := by
 (refine spec_of (by kernel_rfl) Try.func27 k_spec_l12Labels (fnOk (nb rfl) ?_); unfold C_spec_l12Labels)
 (simp only [Nat.reduceSub, List.length_cons, List.length_nil, Nat.reduceAdd, ch_init1, ch_init2, ch_init3, ch_init4, ch_init5, ch_init6, ch_init7, ch_init8]; try simp only [ch_rep]); (simp only [go_sem, seval, reduceCtorEq, List.replicate])
 refine wpN_lp (100) (mkB 19 262112) (fun k => [(3, .own 0 0 (pickTo (labP ts) k).length), (4, .d (.int k))]) (fun k => [(0, iv (pickTo (labP ts) k))]) (h1 := by first | (simp only [go_sem, seval, reduceCtorEq, nz, na, n1, pickTo_zero, iv_nil]; first | done | rfl) | rfl) (h2 := by first | (simp only [go_sem, seval, reduceCtorEq, nz, na, n1, pickTo_zero, iv_nil]; first | done | rfl) | rfl) (hr := fun k hk => ?_)
 unfold L0_spec_l12Labels
 have hpl := pickTo_len (labP ts) k
 have hbd := dimN_bd hax k
 by_cases hlt : k < 100
 ·have d1 : (k : Int) ≤ 99 := by omega
  simp (disch := omega) only [go_sem, seval, reduceCtorEq, d1]
  (refine ti_call (l12Dim_d (ts := ts) (x := k) h ht hax) ?_ ?_ ?_; (focus (simp only [go_sem, seval, reduceCtorEq]; done)); (first | rfl | (focus (simp only [go_sem]; done))))
  cases hp : labP ts k
  ·have c' : dimN ts k = 0 := by simpa [labP] using hp
   have c : ¬ dimN ts k > 0 := by omega
   simp (disch := omega) only [go_sem, seval, reduceCtorEq, c]
   (refine Next.drop (mkB 19 262112) (by omega) (h1 := ?_) (h2 := ?_) <;> first | (simp only [go_sem, seval, reduceCtorEq, nz, na, n1, pickTo_no hp]; first | done | rfl) | rfl | skip)
  ·have c' : dimN ts k ≠ 0 := by simpa [labP] using hp
   have c : dimN ts k > 0 := by omega
   simp (disch := omega) only [go_sem, seval, reduceCtorEq, c]
   refine ⟨by omega, ?_⟩
   (refine Next.drop (mkB 19 262112) (by omega) (h1 := ?_) (h2 := ?_) <;> first | (simp only [go_sem, seval, reduceCtorEq, nz, na, n1, pickTo_yes hp, List.length_append]; first | done | rfl) | rfl | skip)
 ·have d1 : ¬ (k : Int) ≤ 99 := by omega
  obtain rfl : k = 100 := by omega
  simp (disch := omega) only [go_sem, seval, reduceCtorEq, d1]
  (refine FnEnd.mk (nb rfl) rfl (of_decide_eq_true rfl) ?_ ?_ <;> try simp only [go_sem, seval, reduceCtorEq])
set_option maxRecDepth 100000
end Go.Proofs.Ytmkdphmjgfbjaaa
