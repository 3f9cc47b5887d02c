/-
 Contracts: primes, rings, sizes of tensors, tensors that are right. No condition.
-/
import Derived.Test.YtmkdphmjgfbjaaaLift28
import Derived.Test.YtmkdphmjgfbjaaaMgSchedulesA
import Derived.Test.YtmkdphmjgfbjaaaLiftG
set_option linter.unusedSimpArgs false
set_option linter.unusedVariables false
namespace Go.Proofs.Ytmkdphmjgfbjaaa
open Go.RowKit Go.Lift Plain
set_option maxRecDepth 100000
def noDiv (n : Int) (k : Nat) : Prop := ∀ d : Nat, 2 ≤ d → d < k → n % d ≠ 0
theorem noDiv_two (n : Int) : noDiv n 2 := fun d h1 h2 => by omega
theorem noDiv_next {n : Int} {k : Nat} (h : noDiv n k) (h2 : n % k ≠ 0) : noDiv n (k + 1) := fun d h1 h3 => by
 by_cases e : d = k
 ·subst e; exact h2
 ·exact h d h1 (by omega)
theorem iIsPrime_d (n : Int) : Does Try.prog 55 [.d (.int n)] [] (.d (.bool (isPrime n))) [] := by
 (refine spec_of (by kernel_rfl) Try.func55 k_impl_IsPrime (fnOk (nb rfl) ?_); unfold C_impl_IsPrime)
 (simp only [Nat.reduceSub, List.length_cons, List.length_nil, Nat.reduceAdd, ch_init1, ch_init2, ch_init3, ch_init4, ch_init5, ch_init6, ch_init7, ch_init8]; try simp only [ch_rep]); (simp only [go_sem, seval, reduceCtorEq, List.replicate])
 by_cases h1 : n < 2
 ·have e := isPrime_lo h1
  simp only [go_sem, seval, reduceCtorEq, h1, e]
  (refine FnEnd.mk (nb rfl) rfl (of_decide_eq_true rfl) ?_ ?_ <;> try simp only [go_sem, seval, reduceCtorEq])
 by_cases h2 : n > 1000003
 ·have e := isPrime_hi h2
  simp only [go_sem, seval, reduceCtorEq, h1, h2, e]
  (refine FnEnd.mk (nb rfl) rfl (of_decide_eq_true rfl) ?_ ?_ <;> try simp only [go_sem, seval, reduceCtorEq])
 simp only [go_sem, seval, reduceCtorEq, h1, h2]
 refine wpN_lpS (2) (fun i => 1100 - i) (mkB 21 2096132) (fun i => 2 ≤ i ∧ i ≤ 1001 ∧ noDiv n i) (fun i => [(3, .d (.int (i : Nat)))]) (fun i => []) (hi := ⟨by omega, by omega, noDiv_two n⟩) (h1 := by first | (simp only [go_sem, seval, reduceCtorEq, nz, na, n1]; first | done | rfl) | rfl) (h2 := by first | (simp only [go_sem, seval, reduceCtorEq, nz, na, n1]; first | done | rfl) | rfl) (hr := fun i hi => ?_)
 unfold L0_impl_IsPrime
 obtain ⟨i1, i2, i3⟩ := hi
 have hs := sq_bd i2
 have hw : IntKind.i64.wrap ((i : Int) * i) = (i : Int) * i := IntWalk.i64_in _ (by omega)
 by_cases h3 : (i : Int) * i ≤ n
 ·have e0 : n.tmod i = n % i := Int.tmod_eq_emod_of_nonneg (by omega)
  have n0 : (i : Int) ≠ 0 := by omega
  have hi0 := sq_le h3 (by omega)
  by_cases h4 : n % i = 0
  ·have e := isPrime_div i1 h3 (by omega) h4
   have c : (n % (i : Int) == 0) = true := by simp [h4]
   simp (disch := omega) only [go_sem, seval, reduceCtorEq, hw, h3, e0, c, e, n0, ne_eq, not_false_eq_true]
   (refine FnEnd.mk (nb rfl) rfl (of_decide_eq_true rfl) ?_ ?_ <;> try simp only [go_sem, seval, reduceCtorEq])
  ·have c : (n % (i : Int) == 0) = false := by simp [h4]
   simp (disch := omega) only [go_sem, seval, reduceCtorEq, hw, h3, e0, c, n0, ne_eq, not_false_eq_true]
   (refine NextS.drop (mkB 21 2096132) (i + 1) (by omega) (⟨by omega, by omega, noDiv_next i3 h4⟩) (h1 := ?_) (h2 := ?_) <;> first | (simp only [go_sem, seval, reduceCtorEq, nz, na, n1]; first | done | rfl) | rfl | skip)
 ·have e := isPrime_yes (by omega) (by omega) i3 (Int.not_le.1 h3)
  simp (disch := omega) only [go_sem, seval, reduceCtorEq, hw, h3, e]
  (refine FnEnd.mk (nb rfl) rfl (of_decide_eq_true rfl) ?_ ?_ <;> try simp only [go_sem, seval, reduceCtorEq])
theorem rawWidth_d (k p n : Int) : Does Try.prog 56 [ringA k p n] [] (.d (.int (width ⟨k, p, n⟩))) [] := by
 (refine spec_of (by kernel_rfl) Try.func56 k_impl_rawWidth (fnOk (nb rfl) ?_); unfold C_impl_rawWidth)
 (simp only [Nat.reduceSub, List.length_cons, List.length_nil, Nat.reduceAdd, ch_init1, ch_init2, ch_init3, ch_init4, ch_init5, ch_init6, ch_init7, ch_init8]; try simp only [ch_rep]); (simp only [go_sem, seval, reduceCtorEq, List.replicate])
 by_cases h7 : k = 7
 ·have c : (k == 7) = true := by simp [h7]
  have e : width ⟨k, p, n⟩ = n := if_pos h7
  simp only [go_sem, seval, reduceCtorEq, c, e]
  (refine FnEnd.mk (nb rfl) rfl (of_decide_eq_true rfl) ?_ ?_ <;> try simp only [go_sem, seval, reduceCtorEq])
 have c7 : (k == 7) = false := by simp [h7]
 by_cases h8 : k = 8
 ·have c : (k == 8) = true := by simp [h8]
  have e : width ⟨k, p, n⟩ = 4 := by unfold width; rw [if_neg h7, if_pos h8]
  simp only [go_sem, seval, reduceCtorEq, c7, c, e]
  (refine FnEnd.mk (nb rfl) rfl (of_decide_eq_true rfl) ?_ ?_ <;> try simp only [go_sem, seval, reduceCtorEq])
 ·have c : (k == 8) = false := by simp [h8]
  have e : width ⟨k, p, n⟩ = 1 := by unfold width; rw [if_neg h7, if_neg h8]
  simp only [go_sem, seval, reduceCtorEq, c7, c, e]
  (refine FnEnd.mk (nb rfl) rfl (of_decide_eq_true rfl) ?_ ?_ <;> try simp only [go_sem, seval, reduceCtorEq])
theorem l02Width_d (k p n : Int) : Does Try.prog 59 [ringA k p n] [] (.d (.int (width ⟨k, p, n⟩))) [] := by
 (refine spec_of (by kernel_rfl) Try.func59 k_spec_l02Width (fnOk (nb rfl) ?_); unfold C_spec_l02Width)
 (simp only [Nat.reduceSub, List.length_cons, List.length_nil, Nat.reduceAdd, ch_init1, ch_init2, ch_init3, ch_init4, ch_init5, ch_init6, ch_init7, ch_init8]; try simp only [ch_rep]); (simp only [go_sem, seval, reduceCtorEq, List.replicate])
 by_cases h7 : k = 7
 ·have c : (k == 7) = true := by simp [h7]
  have e : width ⟨k, p, n⟩ = n := if_pos h7
  simp only [go_sem, seval, reduceCtorEq, c, e]
  (refine FnEnd.mk (nb rfl) rfl (of_decide_eq_true rfl) ?_ ?_ <;> try simp only [go_sem, seval, reduceCtorEq])
 have c7 : (k == 7) = false := by simp [h7]
 by_cases h8 : k = 8
 ·have c : (k == 8) = true := by simp [h8]
  have e : width ⟨k, p, n⟩ = 4 := by unfold width; rw [if_neg h7, if_pos h8]
  simp only [go_sem, seval, reduceCtorEq, c7, c, e]
  (refine FnEnd.mk (nb rfl) rfl (of_decide_eq_true rfl) ?_ ?_ <;> try simp only [go_sem, seval, reduceCtorEq])
 ·have c : (k == 8) = false := by simp [h8]
  have e : width ⟨k, p, n⟩ = 1 := by unfold width; rw [if_neg h7, if_neg h8]
  simp only [go_sem, seval, reduceCtorEq, c7, c, e]
  (refine FnEnd.mk (nb rfl) rfl (of_decide_eq_true rfl) ?_ ?_ <;> try simp only [go_sem, seval, reduceCtorEq])
theorem rawTop_d (k p n : Int) (h : ringOk ⟨k, p, n⟩ = true) : Does Try.prog 62 [ringA k p n] [] (.d (.int (top ⟨k, p, n⟩))) [] := by
 have hb := top_bd h
 generalize hT : top ⟨k, p, n⟩ = T at hb
 have hc := ringOk_cases h
 unfold top at hT
 simp only at hc hT
 (refine spec_of (by kernel_rfl) Try.func62 k_impl_rawTop (fnOk (nb rfl) ?_); unfold C_impl_rawTop)
 (simp only [Nat.reduceSub, List.length_cons, List.length_nil, Nat.reduceAdd, ch_init1, ch_init2, ch_init3, ch_init4, ch_init5, ch_init6, ch_init7, ch_init8]; try simp only [ch_rep]); (simp only [go_sem, seval, reduceCtorEq, List.replicate])
 rcases hc with hc | hc | hc | hc | hc | hc | hc | hc
 all_goals obtain ⟨rfl, hc⟩ := hc
 all_goals simp only [Int.reduceEq, if_true, if_false, or_true, true_or, or_false, or_self, false_or] at hT
 ·simp only [go_sem, seval, reduceCtorEq, ← hT]
  (refine FnEnd.mk (nb rfl) rfl (of_decide_eq_true rfl) ?_ ?_ <;> try simp only [go_sem, seval, reduceCtorEq])
 ·have e := isPrime_bd hc.1
  simp (disch := omega) only [go_sem, seval, reduceCtorEq, hT]
  (refine FnEnd.mk (nb rfl) rfl (of_decide_eq_true rfl) ?_ ?_ <;> try simp only [go_sem, seval, reduceCtorEq])
 ·simp only [go_sem, seval, reduceCtorEq, hT]
  (refine FnEnd.mk (nb rfl) rfl (of_decide_eq_true rfl) ?_ ?_ <;> try simp only [go_sem, seval, reduceCtorEq])
 ·simp only [go_sem, seval, reduceCtorEq, hT]
  (refine FnEnd.mk (nb rfl) rfl (of_decide_eq_true rfl) ?_ ?_ <;> try simp only [go_sem, seval, reduceCtorEq])
 ·simp only [go_sem, seval, reduceCtorEq, hT]
  (refine FnEnd.mk (nb rfl) rfl (of_decide_eq_true rfl) ?_ ?_ <;> try simp only [go_sem, seval, reduceCtorEq])
 ·have hm : min n.toNat 64 = n.toNat := by omega
  have hp := pow_bd hc.2.1 hc.2.2
  have hw : IntKind.i64.wrap (1 * 2 ^ n.toNat) = 2 ^ n.toNat := by rw [Int.one_mul]; exact IntWalk.i64_in _ (by omega)
  simp (disch := omega) only [go_sem, seval, reduceCtorEq, hm, hw, hT]
  refine And.intro (by omega) ?_
  (refine FnEnd.mk (nb rfl) rfl (of_decide_eq_true rfl) ?_ ?_ <;> try simp only [go_sem, seval, reduceCtorEq])
 ·have e := isPrime_bd hc.1
  simp (disch := omega) only [go_sem, seval, reduceCtorEq, hT]
  (refine FnEnd.mk (nb rfl) rfl (of_decide_eq_true rfl) ?_ ?_ <;> try simp only [go_sem, seval, reduceCtorEq])
 ·have e := isPrime_bd hc.1
  simp (disch := omega) only [go_sem, seval, reduceCtorEq, hT]
  (refine FnEnd.mk (nb rfl) rfl (of_decide_eq_true rfl) ?_ ?_ <;> try simp only [go_sem, seval, reduceCtorEq])
theorem l02Top_d (k p n : Int) (h : ringOk ⟨k, p, n⟩ = true) : Does Try.prog 61 [ringA k p n] [] (.d (.int (top ⟨k, p, n⟩))) [] := by
 have hb := top_bd h
 generalize hT : top ⟨k, p, n⟩ = T at hb
 have hc := ringOk_cases h
 unfold top at hT
 simp only at hc hT
 (refine spec_of (by kernel_rfl) Try.func61 k_spec_l02Top (fnOk (nb rfl) ?_); unfold C_spec_l02Top)
 (simp only [Nat.reduceSub, List.length_cons, List.length_nil, Nat.reduceAdd, ch_init1, ch_init2, ch_init3, ch_init4, ch_init5, ch_init6, ch_init7, ch_init8]; try simp only [ch_rep]); (simp only [go_sem, seval, reduceCtorEq, List.replicate])
 rcases hc with hc | hc | hc | hc | hc | hc | hc | hc
 all_goals obtain ⟨rfl, hc⟩ := hc
 all_goals simp only [Int.reduceEq, if_true, if_false, or_true, true_or, or_false, or_self, false_or] at hT
 ·simp only [go_sem, seval, reduceCtorEq, ← hT]
  (refine FnEnd.mk (nb rfl) rfl (of_decide_eq_true rfl) ?_ ?_ <;> try simp only [go_sem, seval, reduceCtorEq])
 ·have e := isPrime_bd hc.1
  simp (disch := omega) only [go_sem, seval, reduceCtorEq, hT]
  (refine FnEnd.mk (nb rfl) rfl (of_decide_eq_true rfl) ?_ ?_ <;> try simp only [go_sem, seval, reduceCtorEq])
 ·simp only [go_sem, seval, reduceCtorEq, hT]
  (refine FnEnd.mk (nb rfl) rfl (of_decide_eq_true rfl) ?_ ?_ <;> try simp only [go_sem, seval, reduceCtorEq])
 ·simp only [go_sem, seval, reduceCtorEq, hT]
  (refine FnEnd.mk (nb rfl) rfl (of_decide_eq_true rfl) ?_ ?_ <;> try simp only [go_sem, seval, reduceCtorEq])
 ·simp only [go_sem, seval, reduceCtorEq, hT]
  (refine FnEnd.mk (nb rfl) rfl (of_decide_eq_true rfl) ?_ ?_ <;> try simp only [go_sem, seval, reduceCtorEq])
 ·have hm : min n.toNat 64 = n.toNat := by omega
  have hp := pow_bd hc.2.1 hc.2.2
  have hw : IntKind.i64.wrap (1 * 2 ^ n.toNat) = 2 ^ n.toNat := by rw [Int.one_mul]; exact IntWalk.i64_in _ (by omega)
  simp (disch := omega) only [go_sem, seval, reduceCtorEq, hm, hw, hT]
  refine And.intro (by omega) ?_
  (refine FnEnd.mk (nb rfl) rfl (of_decide_eq_true rfl) ?_ ?_ <;> try simp only [go_sem, seval, reduceCtorEq])
 ·have e := isPrime_bd hc.1
  simp (disch := omega) only [go_sem, seval, reduceCtorEq, hT]
  (refine FnEnd.mk (nb rfl) rfl (of_decide_eq_true rfl) ?_ ?_ <;> try simp only [go_sem, seval, reduceCtorEq])
 ·have e := isPrime_bd hc.1
  simp (disch := omega) only [go_sem, seval, reduceCtorEq, hT]
  (refine FnEnd.mk (nb rfl) rfl (of_decide_eq_true rfl) ?_ ?_ <;> try simp only [go_sem, seval, reduceCtorEq])
set_option maxHeartbeats 6400000 in
theorem iRingOk_d (k p n : Int) : Does Try.prog 41 [ringA k p n] [] (.d (.bool (ringOk ⟨k, p, n⟩))) [] := by
 generalize hT : ringOk ⟨k, p, n⟩ = T
 unfold ringOk at hT
 simp only at hT
 (refine spec_of (by kernel_rfl) Try.func41 k_impl_RingOk (fnOk (nb rfl) ?_); unfold C_impl_RingOk)
 (simp only [Nat.reduceSub, List.length_cons, List.length_nil, Nat.reduceAdd, ch_init1, ch_init2, ch_init3, ch_init4, ch_init5, ch_init6, ch_init7, ch_init8]; try simp only [ch_rep]); (simp only [go_sem, seval, reduceCtorEq, List.replicate])
 cases c1 : (k == 1)
 case true => cases ca : (p == 0) <;> cases cb : (n == 0) <;> (simp only [go_sem, seval, reduceCtorEq, c1, ca, cb]; ((refine FnEnd.mk (nb rfl) rfl (of_decide_eq_true rfl) ?_ ?_ <;> try simp only [go_sem, seval, reduceCtorEq]); (try rw [← hT]); (try simp_all); (try omega)))
 cases c2 : (k == 2)
 case true =>
  simp only [go_sem, seval, reduceCtorEq, c1, c2]
  (refine ti_call (iIsPrime_d p) ?_ ?_ ?_; (focus (simp only [go_sem, seval, reduceCtorEq]; done)); (first | rfl | (focus (simp only [go_sem]; done))))
  cases ca : isPrime p <;> cases cb : (n == 0) <;> (simp only [go_sem, seval, reduceCtorEq, ca, cb]; ((refine FnEnd.mk (nb rfl) rfl (of_decide_eq_true rfl) ?_ ?_ <;> try simp only [go_sem, seval, reduceCtorEq]); (try rw [← hT]); (try simp_all); (try omega)))
 cases c3 : (k == 3)
 case true => (by_cases h1 : p ≥ 1 <;> by_cases h2 : p ≤ 1000000 <;> cases cb : (n == 0) <;> (simp only [go_sem, seval, reduceCtorEq, c1, c2, c3, h1, h2, cb]; ((refine FnEnd.mk (nb rfl) rfl (of_decide_eq_true rfl) ?_ ?_ <;> try simp only [go_sem, seval, reduceCtorEq]); (try rw [← hT]); (try simp_all); (try omega))))
 cases c4 : (k == 4)
 case true => (by_cases h1 : p ≥ 1 <;> by_cases h2 : p ≤ 1000000 <;> cases cb : (n == 0) <;> (simp only [go_sem, seval, reduceCtorEq, c1, c2, c3, c4, h1, h2, cb]; ((refine FnEnd.mk (nb rfl) rfl (of_decide_eq_true rfl) ?_ ?_ <;> try simp only [go_sem, seval, reduceCtorEq]); (try rw [← hT]); (try simp_all); (try omega))))
 cases c5 : (k == 5)
 case true => (by_cases h1 : p ≥ 1 <;> by_cases h2 : p ≤ 1000000 <;> cases cb : (n == 0) <;> (simp only [go_sem, seval, reduceCtorEq, c1, c2, c3, c4, c5, h1, h2, cb]; ((refine FnEnd.mk (nb rfl) rfl (of_decide_eq_true rfl) ?_ ?_ <;> try simp only [go_sem, seval, reduceCtorEq]); (try rw [← hT]); (try simp_all); (try omega))))
 cases c6 : (k == 6)
 case true => cases ca : (p == 0) <;> by_cases h1 : n ≥ 1 <;> by_cases h2 : n ≤ 20 <;> (simp only [go_sem, seval, reduceCtorEq, c1, c2, c3, c4, c5, c6, ca, h1, h2]; ((refine FnEnd.mk (nb rfl) rfl (of_decide_eq_true rfl) ?_ ?_ <;> try simp only [go_sem, seval, reduceCtorEq]); (try rw [← hT]); (try simp_all); (try omega)))
 cases c7 : (k == 7)
 case true =>
  simp only [go_sem, seval, reduceCtorEq, c1, c2, c3, c4, c5, c6, c7]
  (refine ti_call (iIsPrime_d p) ?_ ?_ ?_; (focus (simp only [go_sem, seval, reduceCtorEq]; done)); (first | rfl | (focus (simp only [go_sem]; done))))
  cases ca : isPrime p <;> by_cases h1 : n ≥ 1 <;> by_cases h2 : n ≤ 6 <;> (simp only [go_sem, seval, reduceCtorEq, ca, h1, h2]; ((refine FnEnd.mk (nb rfl) rfl (of_decide_eq_true rfl) ?_ ?_ <;> try simp only [go_sem, seval, reduceCtorEq]); (try rw [← hT]); (try simp_all); (try omega)))
 cases c8 : (k == 8)
 case true =>
  simp only [go_sem, seval, reduceCtorEq, c1, c2, c3, c4, c5, c6, c7, c8]
  (refine ti_call (iIsPrime_d p) ?_ ?_ ?_; (focus (simp only [go_sem, seval, reduceCtorEq]; done)); (first | rfl | (focus (simp only [go_sem]; done))))
  cases ca : isPrime p <;> cases cp : (p != 2) <;> cases cb : (n == 0) <;> (simp only [go_sem, seval, reduceCtorEq, ca, cp, cb]; ((refine FnEnd.mk (nb rfl) rfl (of_decide_eq_true rfl) ?_ ?_ <;> try simp only [go_sem, seval, reduceCtorEq]); (try rw [← hT]); (try simp_all); (try omega)))
 simp only [go_sem, seval, reduceCtorEq, c1, c2, c3, c4, c5, c6, c7, c8]
 ((refine FnEnd.mk (nb rfl) rfl (of_decide_eq_true rfl) ?_ ?_ <;> try simp only [go_sem, seval, reduceCtorEq]); (try rw [← hT]); (try simp_all); (try omega))
end Go.Proofs.Ytmkdphmjgfbjaaa
