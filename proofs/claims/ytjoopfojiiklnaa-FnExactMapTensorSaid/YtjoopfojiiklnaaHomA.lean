/-
  Contracts: which homomorphisms are right. No condition.
-/
import Derived.Test.YtjoopfojiiklnaaMgMapTensorA
import Derived.Test.YtjoopfojiiklnaaConK
namespace Go.Proofs.Ytjoopfojiiklnaa
open Go.RowKit Go.Lift Plain
set_option linter.unusedSimpArgs false
set_option linter.unusedVariables false
set_option maxRecDepth 100000

def homA (k a : Int) : AV := .agg [.d (.int k), .d (.int a)]
theorem toHom_d (k a : Int) : Does Try.prog 46 [homA k a] [] (homA k a) [] := by
  (refine spec_of (by kernel_rfl) Try.func46 k_laws_toHom (fnOk (Nat.le_of_ble_eq_true rfl) ?_); unfold C_laws_toHom)
  simp only [homA]
  (simp only [Nat.reduceSub, List.length_cons, List.length_nil, Nat.reduceAdd, ch_init1, ch_init2, ch_init3, ch_init4, ch_init5, ch_init6, ch_init7, ch_init8]; try simp only [ch_rep]); (simp only [go_sem, seval, reduceCtorEq, List.replicate])
  (refine FnEnd.mk (Nat.le_of_ble_eq_true rfl) rfl (of_decide_eq_true rfl) ?_ ?_ <;> try simp only [go_sem, seval, reduceCtorEq])
/-! ### Which are right -/
def rootB (p a : Int) : Bool := decide (1 ≤ a ∧ a ≤ p - 1) && ((a * a).tmod p * (a * a).tmod p).tmod p == p - 1
def cutB (kf pf nf kt pt nt : Int) : Bool := kf == kt && ((kf == 3 || kf == 4 || kf == 5) && decide (pt ≤ pf) || kf == 7 && pt == pf && decide (nt ≤ nf) || kf == 6 && decide (nt ≤ nf))
def homB (kf pf nf kt pt nt k a : Int) : Bool :=
  if k = 1 then kf == kt && pf == pt && nf == nt && a == 0
  else if k = 2 then (kf == 3 || kf == 4) && kt == 1 && a == 0
  else if k = 3 then kf == 6 && kt == 1 && decide (a ≥ 0) && decide (a < nf)
  else if k = 4 then kf == 5 && kt == 1 && decide (a ≥ 1) && decide (a ≤ pf)
  else if k = 5 then kf == 7 && kt == 2 && pf == pt && a == 0
  else if k = 6 then kf == 8 && kt == 2 && pf == pt && rootB pf a
  else if k = 7 then a == 0 && cutB kf pf nf kt pt nt
  else if k = 8 then kf == 1 && a == 0 && (kt == 4 || kt == 5 || kt == 6)
  else false
def homOk (kf pf nf kt pt nt k a : Int) : Bool := ringOk ⟨kf, pf, nf⟩ && ringOk ⟨kt, pt, nt⟩ && homB kf pf nf kt pt nt k a
theorem tmod_lt {x p : Int} (hx : 0 ≤ x) (hp : 0 < p) : 0 ≤ x.tmod p ∧ x.tmod p < p := ⟨Int.tmod_nonneg _ hx, Int.tmod_lt_of_pos _ hp⟩
theorem mul_range {a b A B : Int} (ha : 0 ≤ a ∧ a ≤ A) (hb : 0 ≤ b ∧ b ≤ B) : 0 ≤ a * b ∧ a * b ≤ A * B :=
  ⟨Int.mul_nonneg ha.1 hb.1, Int.mul_le_mul ha.2 hb.2 hb.1 (Int.le_trans ha.1 ha.2)⟩
theorem ring_prime {k p n : Int} (h0 : ringOk ⟨k, p, n⟩ = true) (hk : k = 2 ∨ k = 7 ∨ k = 8) : 2 ≤ p ∧ p ≤ 1000003 := by
  rcases ringOk_cases h0 with h | h | h | h | h | h | h | h <;> simp only at h <;> obtain ⟨rfl, h⟩ := h <;> (first | (exfalso; omega) | skip)
  all_goals (have h1 := h.1; simp only [isPrime, decide_eq_true_eq] at h1; exact ⟨h1.1, h1.2.1⟩)
theorem rootOk_d {p a : Int} (hp : 1 ≤ p ∧ p ≤ 1000003) : Does Try.prog 126 [.d (.int p), .d (.int a)] [] (.d (.bool (rootB p a))) [] := by
  (refine spec_of (by kernel_rfl) Try.func126 k_impl_rootOk (fnOk (Nat.le_of_ble_eq_true rfl) ?_); unfold C_impl_rootOk)
  (simp only [Nat.reduceSub, List.length_cons, List.length_nil, Nat.reduceAdd, ch_init1, ch_init2, ch_init3, ch_init4, ch_init5, ch_init6, ch_init7, ch_init8]; try simp only [ch_rep]); (simp only [go_sem, seval, reduceCtorEq, List.replicate])
  by_cases h1 : a < 1
  · have e : rootB p a = false := by
      rw [rootB, show decide (1 ≤ a ∧ a ≤ p - 1) = false by simp; omega]; rfl
    simp (disch := omega) only [go_sem, seval, reduceCtorEq, h1, e]
    (refine FnEnd.mk (Nat.le_of_ble_eq_true rfl) rfl (of_decide_eq_true rfl) ?_ ?_ <;> try simp only [go_sem, seval, reduceCtorEq])
  by_cases h2 : a > p - 1
  · have e : rootB p a = false := by
      rw [rootB, show decide (1 ≤ a ∧ a ≤ p - 1) = false by simp; omega]; rfl
    simp (disch := omega) only [go_sem, seval, reduceCtorEq, h1, h2, e]
    (refine FnEnd.mk (Nat.le_of_ble_eq_true rfl) rfl (of_decide_eq_true rfl) ?_ ?_ <;> try simp only [go_sem, seval, reduceCtorEq])
  have e : rootB p a = (((a * a).tmod p * (a * a).tmod p).tmod p == p - 1) := by
    rw [rootB, show decide (1 ≤ a ∧ a ≤ p - 1) = true by simp; omega]; rfl
  have m1 := mul_range (a := a) (b := a) (A := 1000003) (B := 1000003) ⟨by omega, by omega⟩ ⟨by omega, by omega⟩
  have m2 := tmod_lt (x := a * a) (p := p) m1.1 (by omega)
  have m3 := mul_range (a := (a * a).tmod p) (b := (a * a).tmod p) (A := 1000003) (B := 1000003) ⟨by omega, by omega⟩ ⟨by omega, by omega⟩
  rw [e]
  generalize ha : a * a = A at *
  generalize hb : A.tmod p = B at *
  generalize hc : B * B = C at *
  simp (disch := omega) only [go_sem, seval, reduceCtorEq, h1, h2, ha, hb, hc]
  refine ⟨by omega, by omega, ?_⟩
  (refine FnEnd.mk (Nat.le_of_ble_eq_true rfl) rfl (of_decide_eq_true rfl) ?_ ?_ <;> try simp only [go_sem, seval, reduceCtorEq])
theorem cutOk_d {kf pf nf kt pt nt : Int} : Does Try.prog 127 [ringA kf pf nf, ringA kt pt nt] [] (.d (.bool (cutB kf pf nf kt pt nt))) [] := by
  (refine spec_of (by kernel_rfl) Try.func127 k_impl_cutOk (fnOk (Nat.le_of_ble_eq_true rfl) ?_); unfold C_impl_cutOk)
  (simp only [Nat.reduceSub, List.length_cons, List.length_nil, Nat.reduceAdd, ch_init1, ch_init2, ch_init3, ch_init4, ch_init5, ch_init6, ch_init7, ch_init8]; try simp only [ch_rep]); (simp only [go_sem, seval, reduceCtorEq, List.replicate])
  cases h0 : kf == kt
  · have c : (kf != kt) = true := by simp only [bne, h0, Bool.not_false]
    have e : cutB kf pf nf kt pt nt = false := by simp only [cutB, h0, Bool.false_and]
    simp only [go_sem, seval, reduceCtorEq, c, e]
    (refine FnEnd.mk (Nat.le_of_ble_eq_true rfl) rfl (of_decide_eq_true rfl) ?_ ?_ <;> try simp only [go_sem, seval, reduceCtorEq])
  have c : (kf != kt) = false := by simp only [bne, h0, Bool.not_true]
  simp only [go_sem, seval, reduceCtorEq, c]
  cases h3 : kf == 3
  case true =>
    obtain rfl : kf = 3 := by simpa using h3
    have e : cutB 3 pf nf kt pt nt = decide (pt ≤ pf) := by simp only [cutB, h0]; simp
    simp only [go_sem, seval, reduceCtorEq, e]
    (refine FnEnd.mk (Nat.le_of_ble_eq_true rfl) rfl (of_decide_eq_true rfl) ?_ ?_ <;> try simp only [go_sem, seval, reduceCtorEq])
  simp only [go_sem, seval, reduceCtorEq, h3]
  cases h4 : kf == 4
  case true =>
    obtain rfl : kf = 4 := by simpa using h4
    have e : cutB 4 pf nf kt pt nt = decide (pt ≤ pf) := by simp only [cutB, h0]; simp
    simp only [go_sem, seval, reduceCtorEq, e]
    (refine FnEnd.mk (Nat.le_of_ble_eq_true rfl) rfl (of_decide_eq_true rfl) ?_ ?_ <;> try simp only [go_sem, seval, reduceCtorEq])
  simp only [go_sem, seval, reduceCtorEq, h4]
  cases h5 : kf == 5
  case true =>
    obtain rfl : kf = 5 := by simpa using h5
    have e : cutB 5 pf nf kt pt nt = decide (pt ≤ pf) := by simp only [cutB, h0]; simp
    simp only [go_sem, seval, reduceCtorEq, e]
    (refine FnEnd.mk (Nat.le_of_ble_eq_true rfl) rfl (of_decide_eq_true rfl) ?_ ?_ <;> try simp only [go_sem, seval, reduceCtorEq])
  simp only [go_sem, seval, reduceCtorEq, h5]
  cases h7 : kf == 7
  case true =>
    obtain rfl : kf = 7 := by simpa using h7
    have e : cutB 7 pf nf kt pt nt = (pt == pf && decide (nt ≤ nf)) := by simp only [cutB, h0]; simp
    simp only [go_sem, seval, reduceCtorEq]
    cases hp : pt == pf
    · simp only [go_sem, seval, reduceCtorEq, hp, e, Bool.false_and]
      (refine FnEnd.mk (Nat.le_of_ble_eq_true rfl) rfl (of_decide_eq_true rfl) ?_ ?_ <;> try simp only [go_sem, seval, reduceCtorEq])
    · simp only [go_sem, seval, reduceCtorEq, hp, e, Bool.true_and]
      (refine FnEnd.mk (Nat.le_of_ble_eq_true rfl) rfl (of_decide_eq_true rfl) ?_ ?_ <;> try simp only [go_sem, seval, reduceCtorEq])
  simp only [go_sem, seval, reduceCtorEq, h7]
  cases h6 : kf == 6
  case true =>
    obtain rfl : kf = 6 := by simpa using h6
    have e : cutB 6 pf nf kt pt nt = decide (nt ≤ nf) := by simp only [cutB, h0]; simp
    simp only [go_sem, seval, reduceCtorEq, e]
    (refine FnEnd.mk (Nat.le_of_ble_eq_true rfl) rfl (of_decide_eq_true rfl) ?_ ?_ <;> try simp only [go_sem, seval, reduceCtorEq])
  have e : cutB kf pf nf kt pt nt = false := by simp only [cutB, h0, h3, h4, h5, h6, h7, Bool.or_false, Bool.false_and, Bool.and_false]
  simp only [go_sem, seval, reduceCtorEq, h6, e]
  (refine FnEnd.mk (Nat.le_of_ble_eq_true rfl) rfl (of_decide_eq_true rfl) ?_ ?_ <;> try simp only [go_sem, seval, reduceCtorEq])
theorem iHomOk_d {kf pf nf kt pt nt k a : Int} : Does Try.prog 93 [ringA kf pf nf, ringA kt pt nt, homA k a] [] (.d (.bool (homOk kf pf nf kt pt nt k a))) [] := by
  (refine spec_of (by kernel_rfl) Try.func93 k_impl_HomOk (fnOk (Nat.le_of_ble_eq_true rfl) ?_); unfold C_impl_HomOk)
  simp only [homA]
  (simp only [Nat.reduceSub, List.length_cons, List.length_nil, Nat.reduceAdd, ch_init1, ch_init2, ch_init3, ch_init4, ch_init5, ch_init6, ch_init7, ch_init8]; try simp only [ch_rep]); (simp only [go_sem, seval, reduceCtorEq, List.replicate])
  (refine ti_call (iRingOk_d kf pf nf) ?_ ?_ ?_; (focus (simp only [go_sem, seval, reduceCtorEq]; done)); (first | rfl | (focus (simp only [go_sem]; done))))
  cases hrf : ringOk ⟨kf, pf, nf⟩
  · have e : homOk kf pf nf kt pt nt k a = false := by simp only [homOk, hrf, Bool.false_and]
    simp only [go_sem, seval, reduceCtorEq, hrf, e]
    (refine FnEnd.mk (Nat.le_of_ble_eq_true rfl) rfl (of_decide_eq_true rfl) ?_ ?_ <;> try simp only [go_sem, seval, reduceCtorEq])
  simp only [go_sem, seval, reduceCtorEq, hrf]
  (refine ti_call (iRingOk_d kt pt nt) ?_ ?_ ?_; (focus (simp only [go_sem, seval, reduceCtorEq]; done)); (first | rfl | (focus (simp only [go_sem]; done))))
  cases hrt : ringOk ⟨kt, pt, nt⟩
  · have e : homOk kf pf nf kt pt nt k a = false := by simp only [homOk, hrt, Bool.false_and, Bool.and_false]
    simp only [go_sem, seval, reduceCtorEq, hrt, e]
    (refine FnEnd.mk (Nat.le_of_ble_eq_true rfl) rfl (of_decide_eq_true rfl) ?_ ?_ <;> try simp only [go_sem, seval, reduceCtorEq])
  have e0 : homOk kf pf nf kt pt nt k a = homB kf pf nf kt pt nt k a := by simp only [homOk, hrf, hrt, Bool.true_and]
  simp only [go_sem, seval, reduceCtorEq, hrt, e0]
  cases k1 : k == 1
  case true =>
    obtain rfl : k = 1 := by simpa using k1
    have e : homB kf pf nf kt pt nt 1 a = (kf == kt && pf == pt && nf == nt && a == 0) := by simp [homB]
    simp only [go_sem, seval, reduceCtorEq]
    cases c1 : kf == kt
    · have e1 : decide ([kf, pf, nf] = [kt, pt, nt]) = false := by simp at c1 ⊢; omega
      simp only [go_sem, seval, reduceCtorEq, e1, e, c1, Bool.false_and]
      (refine FnEnd.mk (Nat.le_of_ble_eq_true rfl) rfl (of_decide_eq_true rfl) ?_ ?_ <;> try simp only [go_sem, seval, reduceCtorEq])
    cases c2 : pf == pt
    · have e1 : decide ([kf, pf, nf] = [kt, pt, nt]) = false := by simp at c2 ⊢; omega
      simp only [go_sem, seval, reduceCtorEq, e1, e, c2, Bool.false_and, Bool.and_false]
      (refine FnEnd.mk (Nat.le_of_ble_eq_true rfl) rfl (of_decide_eq_true rfl) ?_ ?_ <;> try simp only [go_sem, seval, reduceCtorEq])
    cases c3 : nf == nt
    · have e1 : decide ([kf, pf, nf] = [kt, pt, nt]) = false := by simp at c3 ⊢; omega
      simp only [go_sem, seval, reduceCtorEq, e1, e, c3, Bool.false_and, Bool.and_false]
      (refine FnEnd.mk (Nat.le_of_ble_eq_true rfl) rfl (of_decide_eq_true rfl) ?_ ?_ <;> try simp only [go_sem, seval, reduceCtorEq])
    have e1 : decide ([kf, pf, nf] = [kt, pt, nt]) = true := by simp at c1 c2 c3 ⊢; omega
    simp only [go_sem, seval, reduceCtorEq, e1, e, c1, c2, c3, Bool.true_and]
    (refine FnEnd.mk (Nat.le_of_ble_eq_true rfl) rfl (of_decide_eq_true rfl) ?_ ?_ <;> try simp only [go_sem, seval, reduceCtorEq])
  simp only [go_sem, seval, reduceCtorEq, k1]
  cases k2 : k == 2
  case true =>
    obtain rfl : k = 2 := by simpa using k2
    have e : homB kf pf nf kt pt nt 2 a = ((kf == 3 || kf == 4) && kt == 1 && a == 0) := by simp [homB]
    simp only [go_sem, seval, reduceCtorEq]
    cases c1 : kf == 3
    · simp only [go_sem, seval, reduceCtorEq, c1]
      cases c2 : kf == 4
      · simp only [go_sem, seval, reduceCtorEq, c2, e, c1, Bool.false_and, Bool.or_false]
        (refine FnEnd.mk (Nat.le_of_ble_eq_true rfl) rfl (of_decide_eq_true rfl) ?_ ?_ <;> try simp only [go_sem, seval, reduceCtorEq])
      simp only [go_sem, seval, reduceCtorEq, c2]
      cases c3 : kt == 1
      · simp only [go_sem, seval, reduceCtorEq, c3, e, c2, c1, Bool.false_and, Bool.or_true, Bool.true_and]
        (refine FnEnd.mk (Nat.le_of_ble_eq_true rfl) rfl (of_decide_eq_true rfl) ?_ ?_ <;> try simp only [go_sem, seval, reduceCtorEq])
      simp only [go_sem, seval, reduceCtorEq, c3, e, c2, c1, Bool.false_and, Bool.or_true, Bool.true_and]
      (refine FnEnd.mk (Nat.le_of_ble_eq_true rfl) rfl (of_decide_eq_true rfl) ?_ ?_ <;> try simp only [go_sem, seval, reduceCtorEq])
    simp only [go_sem, seval, reduceCtorEq, c1]
    cases c3 : kt == 1
    · simp only [go_sem, seval, reduceCtorEq, c3, e, c1, Bool.false_and, Bool.true_or, Bool.true_and]
      (refine FnEnd.mk (Nat.le_of_ble_eq_true rfl) rfl (of_decide_eq_true rfl) ?_ ?_ <;> try simp only [go_sem, seval, reduceCtorEq])
    simp only [go_sem, seval, reduceCtorEq, c3, e, c1, Bool.true_or, Bool.true_and]
    (refine FnEnd.mk (Nat.le_of_ble_eq_true rfl) rfl (of_decide_eq_true rfl) ?_ ?_ <;> try simp only [go_sem, seval, reduceCtorEq])
  simp only [go_sem, seval, reduceCtorEq, k2]
  cases k3 : k == 3
  case true =>
    obtain rfl : k = 3 := by simpa using k3
    have e : homB kf pf nf kt pt nt 3 a = (kf == 6 && kt == 1 && decide (a ≥ 0) && decide (a < nf)) := by simp [homB]
    simp only [go_sem, seval, reduceCtorEq]
    cases c0 : kf == 6
    · simp only [go_sem, seval, reduceCtorEq, c0, e, Bool.false_and, Bool.and_false, Bool.true_and, Bool.and_true, Bool.or_true, Bool.true_or, Bool.or_false, Bool.false_or]
      (refine FnEnd.mk (Nat.le_of_ble_eq_true rfl) rfl (of_decide_eq_true rfl) ?_ ?_ <;> try simp only [go_sem, seval, reduceCtorEq])
    simp only [go_sem, seval, reduceCtorEq, c0]
    cases c1 : kt == 1
    · simp only [go_sem, seval, reduceCtorEq, c0, c1, e, Bool.false_and, Bool.and_false, Bool.true_and, Bool.and_true, Bool.or_true, Bool.true_or, Bool.or_false, Bool.false_or]
      (refine FnEnd.mk (Nat.le_of_ble_eq_true rfl) rfl (of_decide_eq_true rfl) ?_ ?_ <;> try simp only [go_sem, seval, reduceCtorEq])
    simp only [go_sem, seval, reduceCtorEq, c1]
    cases c2 : decide (a ≥ 0)
    · simp only [go_sem, seval, reduceCtorEq, c0, c1, c2, e, Bool.false_and, Bool.and_false, Bool.true_and, Bool.and_true, Bool.or_true, Bool.true_or, Bool.or_false, Bool.false_or]
      (refine FnEnd.mk (Nat.le_of_ble_eq_true rfl) rfl (of_decide_eq_true rfl) ?_ ?_ <;> try simp only [go_sem, seval, reduceCtorEq])
    simp only [go_sem, seval, reduceCtorEq, c2]
    cases c3 : decide (a < nf)
    · simp only [go_sem, seval, reduceCtorEq, c0, c1, c2, c3, e, Bool.false_and, Bool.and_false, Bool.true_and, Bool.and_true, Bool.or_true, Bool.true_or, Bool.or_false, Bool.false_or]
      (refine FnEnd.mk (Nat.le_of_ble_eq_true rfl) rfl (of_decide_eq_true rfl) ?_ ?_ <;> try simp only [go_sem, seval, reduceCtorEq])
    simp only [go_sem, seval, reduceCtorEq, c0, c1, c2, c3, e, Bool.false_and, Bool.and_false, Bool.true_and, Bool.and_true, Bool.or_true, Bool.true_or, Bool.or_false, Bool.false_or]
    (refine FnEnd.mk (Nat.le_of_ble_eq_true rfl) rfl (of_decide_eq_true rfl) ?_ ?_ <;> try simp only [go_sem, seval, reduceCtorEq])
  simp only [go_sem, seval, reduceCtorEq, k3]
  cases k4 : k == 4
  case true =>
    obtain rfl : k = 4 := by simpa using k4
    have e : homB kf pf nf kt pt nt 4 a = (kf == 5 && kt == 1 && decide (a ≥ 1) && decide (a ≤ pf)) := by simp [homB]
    simp only [go_sem, seval, reduceCtorEq]
    cases c0 : kf == 5
    · simp only [go_sem, seval, reduceCtorEq, c0, e, Bool.false_and, Bool.and_false, Bool.true_and, Bool.and_true, Bool.or_true, Bool.true_or, Bool.or_false, Bool.false_or]
      (refine FnEnd.mk (Nat.le_of_ble_eq_true rfl) rfl (of_decide_eq_true rfl) ?_ ?_ <;> try simp only [go_sem, seval, reduceCtorEq])
    simp only [go_sem, seval, reduceCtorEq, c0]
    cases c1 : kt == 1
    · simp only [go_sem, seval, reduceCtorEq, c0, c1, e, Bool.false_and, Bool.and_false, Bool.true_and, Bool.and_true, Bool.or_true, Bool.true_or, Bool.or_false, Bool.false_or]
      (refine FnEnd.mk (Nat.le_of_ble_eq_true rfl) rfl (of_decide_eq_true rfl) ?_ ?_ <;> try simp only [go_sem, seval, reduceCtorEq])
    simp only [go_sem, seval, reduceCtorEq, c1]
    cases c2 : decide (a ≥ 1)
    · simp only [go_sem, seval, reduceCtorEq, c0, c1, c2, e, Bool.false_and, Bool.and_false, Bool.true_and, Bool.and_true, Bool.or_true, Bool.true_or, Bool.or_false, Bool.false_or]
      (refine FnEnd.mk (Nat.le_of_ble_eq_true rfl) rfl (of_decide_eq_true rfl) ?_ ?_ <;> try simp only [go_sem, seval, reduceCtorEq])
    simp only [go_sem, seval, reduceCtorEq, c2]
    cases c3 : decide (a ≤ pf)
    · simp only [go_sem, seval, reduceCtorEq, c0, c1, c2, c3, e, Bool.false_and, Bool.and_false, Bool.true_and, Bool.and_true, Bool.or_true, Bool.true_or, Bool.or_false, Bool.false_or]
      (refine FnEnd.mk (Nat.le_of_ble_eq_true rfl) rfl (of_decide_eq_true rfl) ?_ ?_ <;> try simp only [go_sem, seval, reduceCtorEq])
    simp only [go_sem, seval, reduceCtorEq, c0, c1, c2, c3, e, Bool.false_and, Bool.and_false, Bool.true_and, Bool.and_true, Bool.or_true, Bool.true_or, Bool.or_false, Bool.false_or]
    (refine FnEnd.mk (Nat.le_of_ble_eq_true rfl) rfl (of_decide_eq_true rfl) ?_ ?_ <;> try simp only [go_sem, seval, reduceCtorEq])
  simp only [go_sem, seval, reduceCtorEq, k4]
  cases k5 : k == 5
  case true =>
    obtain rfl : k = 5 := by simpa using k5
    have e : homB kf pf nf kt pt nt 5 a = (kf == 7 && kt == 2 && pf == pt && a == 0) := by simp [homB]
    simp only [go_sem, seval, reduceCtorEq]
    cases c0 : kf == 7
    · simp only [go_sem, seval, reduceCtorEq, c0, e, Bool.false_and, Bool.and_false, Bool.true_and, Bool.and_true, Bool.or_true, Bool.true_or, Bool.or_false, Bool.false_or]
      (refine FnEnd.mk (Nat.le_of_ble_eq_true rfl) rfl (of_decide_eq_true rfl) ?_ ?_ <;> try simp only [go_sem, seval, reduceCtorEq])
    simp only [go_sem, seval, reduceCtorEq, c0]
    cases c1 : kt == 2
    · simp only [go_sem, seval, reduceCtorEq, c0, c1, e, Bool.false_and, Bool.and_false, Bool.true_and, Bool.and_true, Bool.or_true, Bool.true_or, Bool.or_false, Bool.false_or]
      (refine FnEnd.mk (Nat.le_of_ble_eq_true rfl) rfl (of_decide_eq_true rfl) ?_ ?_ <;> try simp only [go_sem, seval, reduceCtorEq])
    simp only [go_sem, seval, reduceCtorEq, c1]
    cases c2 : pf == pt
    · simp only [go_sem, seval, reduceCtorEq, c0, c1, c2, e, Bool.false_and, Bool.and_false, Bool.true_and, Bool.and_true, Bool.or_true, Bool.true_or, Bool.or_false, Bool.false_or]
      (refine FnEnd.mk (Nat.le_of_ble_eq_true rfl) rfl (of_decide_eq_true rfl) ?_ ?_ <;> try simp only [go_sem, seval, reduceCtorEq])
    simp only [go_sem, seval, reduceCtorEq, c2]
    cases c3 : a == 0
    · simp only [go_sem, seval, reduceCtorEq, c0, c1, c2, c3, e, Bool.false_and, Bool.and_false, Bool.true_and, Bool.and_true, Bool.or_true, Bool.true_or, Bool.or_false, Bool.false_or]
      (refine FnEnd.mk (Nat.le_of_ble_eq_true rfl) rfl (of_decide_eq_true rfl) ?_ ?_ <;> try simp only [go_sem, seval, reduceCtorEq])
    simp only [go_sem, seval, reduceCtorEq, c0, c1, c2, c3, e, Bool.false_and, Bool.and_false, Bool.true_and, Bool.and_true, Bool.or_true, Bool.true_or, Bool.or_false, Bool.false_or]
    (refine FnEnd.mk (Nat.le_of_ble_eq_true rfl) rfl (of_decide_eq_true rfl) ?_ ?_ <;> try simp only [go_sem, seval, reduceCtorEq])
  simp only [go_sem, seval, reduceCtorEq, k5]
  cases k6 : k == 6
  case true =>
    obtain rfl : k = 6 := by simpa using k6
    have e : homB kf pf nf kt pt nt 6 a = (kf == 8 && kt == 2 && pf == pt && rootB pf a) := by simp [homB]
    simp only [go_sem, seval, reduceCtorEq]
    cases c1 : kf == 8
    · simp only [go_sem, seval, reduceCtorEq, c1, e, Bool.false_and]
      (refine FnEnd.mk (Nat.le_of_ble_eq_true rfl) rfl (of_decide_eq_true rfl) ?_ ?_ <;> try simp only [go_sem, seval, reduceCtorEq])
    simp only [go_sem, seval, reduceCtorEq, c1]
    cases c2 : kt == 2
    · simp only [go_sem, seval, reduceCtorEq, c1, c2, e, Bool.false_and, Bool.true_and]
      (refine FnEnd.mk (Nat.le_of_ble_eq_true rfl) rfl (of_decide_eq_true rfl) ?_ ?_ <;> try simp only [go_sem, seval, reduceCtorEq])
    simp only [go_sem, seval, reduceCtorEq, c2]
    cases c3 : pf == pt
    · simp only [go_sem, seval, reduceCtorEq, c1, c2, c3, e, Bool.false_and, Bool.true_and]
      (refine FnEnd.mk (Nat.le_of_ble_eq_true rfl) rfl (of_decide_eq_true rfl) ?_ ?_ <;> try simp only [go_sem, seval, reduceCtorEq])
    simp only [go_sem, seval, reduceCtorEq, c3]
    have hpb := ring_prime hrf (Or.inr (Or.inr (by simpa using c1)))
    (refine ti_call (rootOk_d (p := pf) (a := a) ⟨by omega, by omega⟩) ?_ ?_ ?_; (focus (simp only [go_sem, seval, reduceCtorEq]; done)); (first | rfl | (focus (simp only [go_sem]; done))))
    simp only [go_sem, seval, reduceCtorEq, c1, c2, c3, e, Bool.true_and]
    (refine FnEnd.mk (Nat.le_of_ble_eq_true rfl) rfl (of_decide_eq_true rfl) ?_ ?_ <;> try simp only [go_sem, seval, reduceCtorEq])
  simp only [go_sem, seval, reduceCtorEq, k6]
  cases k7 : k == 7
  case true =>
    obtain rfl : k = 7 := by simpa using k7
    have e : homB kf pf nf kt pt nt 7 a = (a == 0 && cutB kf pf nf kt pt nt) := by simp [homB]
    simp only [go_sem, seval, reduceCtorEq]
    cases c1 : a == 0
    · simp only [go_sem, seval, reduceCtorEq, c1, e, Bool.false_and]
      (refine FnEnd.mk (Nat.le_of_ble_eq_true rfl) rfl (of_decide_eq_true rfl) ?_ ?_ <;> try simp only [go_sem, seval, reduceCtorEq])
    simp only [go_sem, seval, reduceCtorEq, c1]
    (refine ti_call (cutOk_d (kf := kf) (pf := pf) (nf := nf) (kt := kt) (pt := pt) (nt := nt)) ?_ ?_ ?_; (focus (simp only [go_sem, seval, reduceCtorEq]; done)); (first | rfl | (focus (simp only [go_sem]; done))))
    simp only [go_sem, seval, reduceCtorEq, c1, e, Bool.true_and]
    (refine FnEnd.mk (Nat.le_of_ble_eq_true rfl) rfl (of_decide_eq_true rfl) ?_ ?_ <;> try simp only [go_sem, seval, reduceCtorEq])
  simp only [go_sem, seval, reduceCtorEq, k7]
  cases k8 : k == 8
  case true =>
    obtain rfl : k = 8 := by simpa using k8
    have e : homB kf pf nf kt pt nt 8 a = (kf == 1 && a == 0 && (kt == 4 || kt == 5 || kt == 6)) := by simp [homB]
    simp only [go_sem, seval, reduceCtorEq]
    cases c1 : kf == 1
    · simp only [go_sem, seval, reduceCtorEq, c1, e, Bool.false_and]
      (refine FnEnd.mk (Nat.le_of_ble_eq_true rfl) rfl (of_decide_eq_true rfl) ?_ ?_ <;> try simp only [go_sem, seval, reduceCtorEq])
    simp only [go_sem, seval, reduceCtorEq, c1]
    cases c2 : a == 0
    · simp only [go_sem, seval, reduceCtorEq, c1, c2, e, Bool.false_and, Bool.true_and]
      (refine FnEnd.mk (Nat.le_of_ble_eq_true rfl) rfl (of_decide_eq_true rfl) ?_ ?_ <;> try simp only [go_sem, seval, reduceCtorEq])
    simp only [go_sem, seval, reduceCtorEq, c2]
    cases c3 : kt == 4
    · simp only [go_sem, seval, reduceCtorEq, c3]
      cases c4 : kt == 5
      · simp only [go_sem, seval, reduceCtorEq, c1, c2, c3, c4, e, Bool.false_or, Bool.true_and]
        (refine FnEnd.mk (Nat.le_of_ble_eq_true rfl) rfl (of_decide_eq_true rfl) ?_ ?_ <;> try simp only [go_sem, seval, reduceCtorEq])
      simp only [go_sem, seval, reduceCtorEq, c1, c2, c3, c4, e, Bool.false_or, Bool.true_and, Bool.true_or]
      (refine FnEnd.mk (Nat.le_of_ble_eq_true rfl) rfl (of_decide_eq_true rfl) ?_ ?_ <;> try simp only [go_sem, seval, reduceCtorEq])
    simp only [go_sem, seval, reduceCtorEq, c1, c2, c3, e, Bool.true_or, Bool.true_and]
    (refine FnEnd.mk (Nat.le_of_ble_eq_true rfl) rfl (of_decide_eq_true rfl) ?_ ?_ <;> try simp only [go_sem, seval, reduceCtorEq])
  have e : homB kf pf nf kt pt nt k a = false := by
    have n1 : k ≠ 1 := by simpa using k1
    have n2 : k ≠ 2 := by simpa using k2
    have n3 : k ≠ 3 := by simpa using k3
    have n4 : k ≠ 4 := by simpa using k4
    have n5 : k ≠ 5 := by simpa using k5
    have n6 : k ≠ 6 := by simpa using k6
    have n7 : k ≠ 7 := by simpa using k7
    have n8 : k ≠ 8 := by simpa using k8
    simp only [homB, n1, n2, n3, n4, n5, n6, n7, n8, if_false]
  simp only [go_sem, seval, reduceCtorEq, k8, e]
  (refine FnEnd.mk (Nat.le_of_ble_eq_true rfl) rfl (of_decide_eq_true rfl) ?_ ?_ <;> try simp only [go_sem, seval, reduceCtorEq])
/-! ### By the reference -/
theorem emod_mul' (x y p : Int) : (x % p * y) % p = (x * y) % p := by rw [Int.mul_emod, Int.emod_emod, ← Int.mul_emod]
theorem rootB_eq {p a : Int} (hp : 2 ≤ p) : rootB p a = (decide (1 ≤ a ∧ a ≤ p - 1) && ((((a * a).tmod p * a).tmod p * a).tmod p == p - 1)) := by
  unfold rootB
  cases hd : decide (1 ≤ a ∧ a ≤ p - 1)
  · rfl
  · have hd' := of_decide_eq_true hd
    have n1 : 0 ≤ a * a := Int.mul_nonneg (by omega) (by omega)
    have e1 : (a * a).tmod p = a * a % p := Int.tmod_eq_emod_of_nonneg n1
    have b1 : 0 ≤ a * a % p := Int.emod_nonneg _ (by omega)
    have n2 : 0 ≤ a * a % p * a := Int.mul_nonneg b1 (by omega)
    have n3 : 0 ≤ a * a % p * (a * a % p) := Int.mul_nonneg b1 b1
    have e2 : (a * a % p * a).tmod p = a * a % p * a % p := Int.tmod_eq_emod_of_nonneg n2
    have b2 : 0 ≤ a * a % p * a % p := Int.emod_nonneg _ (by omega)
    have n4 : 0 ≤ a * a % p * a % p * a := Int.mul_nonneg b2 (by omega)
    have e3 : (a * a % p * a % p * a).tmod p = a * a % p * a % p * a % p := Int.tmod_eq_emod_of_nonneg n4
    have e4 : (a * a % p * (a * a % p)).tmod p = a * a % p * (a * a % p) % p := Int.tmod_eq_emod_of_nonneg n3
    rw [e1, e2, e3, e4, ← Int.mul_emod, emod_mul', Int.mul_assoc (a * a % p) a a, emod_mul']
theorem cutB_eq {kf pf nf kt pt nt : Int} (h1 : ringOk ⟨kf, pf, nf⟩ = true) (h2 : ringOk ⟨kt, pt, nt⟩ = true) : cutB kf pf nf kt pt nt =
    (if kf = 3 ∨ kf = 4 ∨ kf = 5 then kt == kf && decide (pt ≤ pf) else if kf = 7 ∨ kf = 6 then kt == kf && pt == pf && decide (nt ≤ nf) else false) := by
  unfold cutB
  by_cases hk : kf = kt
  · subst hk
    rcases ringOk_cases h1 with h | h | h | h | h | h | h | h <;> simp only at h <;> obtain ⟨rfl, h⟩ := h <;> simp
    have hp2 : pt = 0 := by
      rcases ringOk_cases h2 with h' | h' | h' | h' | h' | h' | h' | h' <;> simp only at h' <;> omega
    omega
  · have e1 : (kf == kt) = false := by simpa using hk
    have e2 : (kt == kf) = false := by simpa using Ne.symm hk
    simp [e1, e2]
theorem dec_in {a lo hi : Int} (c : Bool) (h : c = true ↔ (lo ≤ a ∧ a ≤ hi)) : decide (lo ≤ a ∧ a ≤ hi) = c := by
  cases c <;> simp at h ⊢ <;> omega
theorem sHomOk_d {kf pf nf kt pt nt k a : Int} (hn : I64 nf) : Does Try.prog 90 [ringA kf pf nf, ringA kt pt nt, homA k a] [] (.d (.bool (homOk kf pf nf kt pt nt k a))) [] := by
  (refine spec_of (by kernel_rfl) Try.func90 k_spec_HomOk (fnOk (Nat.le_of_ble_eq_true rfl) ?_); unfold C_spec_HomOk)
  simp only [homA]
  (simp only [Nat.reduceSub, List.length_cons, List.length_nil, Nat.reduceAdd, ch_init1, ch_init2, ch_init3, ch_init4, ch_init5, ch_init6, ch_init7, ch_init8]; try simp only [ch_rep]); (simp only [go_sem, seval, reduceCtorEq, List.replicate])
  (refine ti_call (sRingOk_d kf pf nf) ?_ ?_ ?_; (focus (simp only [go_sem, seval, reduceCtorEq]; done)); (first | rfl | (focus (simp only [go_sem]; done))))
  cases hrf : ringOk ⟨kf, pf, nf⟩
  · have e : homOk kf pf nf kt pt nt k a = false := by simp only [homOk, hrf, Bool.false_and]
    simp only [go_sem, seval, reduceCtorEq, hrf, e]
    (refine FnEnd.mk (Nat.le_of_ble_eq_true rfl) rfl (of_decide_eq_true rfl) ?_ ?_ <;> try simp only [go_sem, seval, reduceCtorEq])
  simp only [go_sem, seval, reduceCtorEq, hrf]
  (refine ti_call (sRingOk_d kt pt nt) ?_ ?_ ?_; (focus (simp only [go_sem, seval, reduceCtorEq]; done)); (first | rfl | (focus (simp only [go_sem]; done))))
  cases hrt : ringOk ⟨kt, pt, nt⟩
  · have e : homOk kf pf nf kt pt nt k a = false := by simp only [homOk, hrf, hrt, Bool.false_and, Bool.and_false]
    simp only [go_sem, seval, reduceCtorEq, hrt, e]
    (refine FnEnd.mk (Nat.le_of_ble_eq_true rfl) rfl (of_decide_eq_true rfl) ?_ ?_ <;> try simp only [go_sem, seval, reduceCtorEq])
  have e0 : homOk kf pf nf kt pt nt k a = homB kf pf nf kt pt nt k a := by simp only [homOk, hrf, hrt, Bool.true_and]
  simp only [go_sem, seval, reduceCtorEq, hrt, e0]
  cases k3 : k == 3
  case true =>
    obtain rfl : k = 3 := by simpa using k3
    have e : homB kf pf nf kt pt nt 3 a = (kf == 6 && kt == 1 && decide (0 ≤ a ∧ a ≤ nf - 1)) := by
      rw [dec_in (decide (a ≥ 0) && decide (a < nf)) (by simp; omega)]; simp [homB, Bool.and_assoc]
    simp only [go_sem, seval, reduceCtorEq]
    cases c1 : kf == 6
    · simp only [go_sem, seval, reduceCtorEq, c1, e, Bool.false_and]
      (refine FnEnd.mk (Nat.le_of_ble_eq_true rfl) rfl (of_decide_eq_true rfl) ?_ ?_ <;> try simp only [go_sem, seval, reduceCtorEq])
    simp only [go_sem, seval, reduceCtorEq, c1]
    cases c2 : kt == 1
    · simp only [go_sem, seval, reduceCtorEq, c1, c2, e, Bool.false_and, Bool.true_and]
      (refine FnEnd.mk (Nat.le_of_ble_eq_true rfl) rfl (of_decide_eq_true rfl) ?_ ?_ <;> try simp only [go_sem, seval, reduceCtorEq])
    simp (disch := omega) only [go_sem, seval, reduceCtorEq, c2]
    have hn6 : 1 ≤ nf ∧ nf ≤ 20 := by
      have : kf = 6 := by simpa using c1
      rcases ringOk_cases hrf with h' | h' | h' | h' | h' | h' | h' | h' <;> simp only at h' <;> omega
    simp (disch := omega) only [go_sem, seval, reduceCtorEq]
    (refine ti_call (l01In_d a 0 (nf - 1)) ?_ ?_ ?_; (focus (simp only [go_sem, seval, reduceCtorEq]; done)); (first | rfl | (focus (simp only [go_sem]; done))))
    simp only [go_sem, seval, reduceCtorEq, c1, c2, e, Bool.true_and]
    (refine FnEnd.mk (Nat.le_of_ble_eq_true rfl) rfl (of_decide_eq_true rfl) ?_ ?_ <;> try simp only [go_sem, seval, reduceCtorEq])
  simp only [go_sem, seval, reduceCtorEq, k3]
  cases k4 : k == 4
  case true =>
    obtain rfl : k = 4 := by simpa using k4
    have e : homB kf pf nf kt pt nt 4 a = (kf == 5 && kt == 1 && decide (1 ≤ a ∧ a ≤ pf)) := by
      rw [dec_in (decide (a ≥ 1) && decide (a ≤ pf)) (by simp)]; simp [homB, Bool.and_assoc]
    simp only [go_sem, seval, reduceCtorEq]
    cases c1 : kf == 5
    · simp only [go_sem, seval, reduceCtorEq, c1, e, Bool.false_and]
      (refine FnEnd.mk (Nat.le_of_ble_eq_true rfl) rfl (of_decide_eq_true rfl) ?_ ?_ <;> try simp only [go_sem, seval, reduceCtorEq])
    simp only [go_sem, seval, reduceCtorEq, c1]
    cases c2 : kt == 1
    · simp only [go_sem, seval, reduceCtorEq, c1, c2, e, Bool.false_and, Bool.true_and]
      (refine FnEnd.mk (Nat.le_of_ble_eq_true rfl) rfl (of_decide_eq_true rfl) ?_ ?_ <;> try simp only [go_sem, seval, reduceCtorEq])
    simp (disch := omega) only [go_sem, seval, reduceCtorEq, c2]
    (refine ti_call (l01In_d a 1 pf) ?_ ?_ ?_; (focus (simp only [go_sem, seval, reduceCtorEq]; done)); (first | rfl | (focus (simp only [go_sem]; done))))
    simp only [go_sem, seval, reduceCtorEq, c1, c2, e, Bool.true_and]
    (refine FnEnd.mk (Nat.le_of_ble_eq_true rfl) rfl (of_decide_eq_true rfl) ?_ ?_ <;> try simp only [go_sem, seval, reduceCtorEq])
  simp only [go_sem, seval, reduceCtorEq, k4]
  cases k6 : k == 6
  case true =>
    obtain rfl : k = 6 := by simpa using k6
    simp only [go_sem, seval, reduceCtorEq]
    cases c1 : kf == 8
    · have e : homB kf pf nf kt pt nt 6 a = false := by simp [homB, c1]
      simp only [go_sem, seval, reduceCtorEq, c1, e]
      (refine FnEnd.mk (Nat.le_of_ble_eq_true rfl) rfl (of_decide_eq_true rfl) ?_ ?_ <;> try simp only [go_sem, seval, reduceCtorEq])
    simp only [go_sem, seval, reduceCtorEq, c1]
    cases c2 : kt == 2
    · have e : homB kf pf nf kt pt nt 6 a = false := by simp [homB, c2]
      simp only [go_sem, seval, reduceCtorEq, c2, e]
      (refine FnEnd.mk (Nat.le_of_ble_eq_true rfl) rfl (of_decide_eq_true rfl) ?_ ?_ <;> try simp only [go_sem, seval, reduceCtorEq])
    simp only [go_sem, seval, reduceCtorEq, c2]
    cases c3 : pf == pt
    · have e : homB kf pf nf kt pt nt 6 a = false := by simp [homB, c3]
      simp only [go_sem, seval, reduceCtorEq, c3, e]
      (refine FnEnd.mk (Nat.le_of_ble_eq_true rfl) rfl (of_decide_eq_true rfl) ?_ ?_ <;> try simp only [go_sem, seval, reduceCtorEq])
    have hpb := ring_prime hrf (Or.inr (Or.inr (by simpa using c1)))
    simp (disch := omega) only [go_sem, seval, reduceCtorEq, c3]
    (refine gi_call (l01In_d a 1 (pf - 1)) ?_ ?_ ?_; (focus (simp only [go_sem, seval, reduceCtorEq]; done)); (first | rfl | (focus (simp only [go_sem]; done))))
    have e := rootB_eq (p := pf) (a := a) hpb.1
    have e' : homB kf pf nf kt pt nt 6 a = rootB pf a := by simp only [homB, c1, c2, c3]; simp
    rw [e', e]
    cases hd : decide (1 ≤ a ∧ a ≤ pf - 1)
    · simp only [go_sem, seval, reduceCtorEq, hd, Bool.false_and]
      (refine FnEnd.mk (Nat.le_of_ble_eq_true rfl) rfl (of_decide_eq_true rfl) ?_ ?_ <;> try simp only [go_sem, seval, reduceCtorEq])
    have hd' := of_decide_eq_true hd
    have m1 := mul_range (a := a) (b := a) (A := 1000003) (B := 1000003) ⟨by omega, by omega⟩ ⟨by omega, by omega⟩
    have m2 := tmod_lt (x := a * a) (p := pf) m1.1 (by omega)
    have m3 := mul_range (a := (a * a).tmod pf) (b := a) (A := 1000003) (B := 1000003) ⟨by omega, by omega⟩ ⟨by omega, by omega⟩
    have m4 := tmod_lt (x := (a * a).tmod pf * a) (p := pf) m3.1 (by omega)
    have m5 := mul_range (a := ((a * a).tmod pf * a).tmod pf) (b := a) (A := 1000003) (B := 1000003) ⟨by omega, by omega⟩ ⟨by omega, by omega⟩
    have m6 := tmod_lt (x := ((a * a).tmod pf * a).tmod pf * a) (p := pf) m5.1 (by omega)
    generalize hA : a * a = A at *
    generalize hB : A.tmod pf = B at *
    generalize hC : B * a = C at *
    generalize hD : C.tmod pf = D at *
    generalize hE : D * a = E at *
    generalize hF : E.tmod pf = G at *
    simp (disch := omega) only [go_sem, seval, reduceCtorEq, hd, hA, hB, hC, hD, hE, hF, Bool.true_and]
    refine ⟨by omega, by omega, by omega, ?_⟩
    (refine FnEnd.mk (Nat.le_of_ble_eq_true rfl) rfl (of_decide_eq_true rfl) ?_ ?_ <;> try simp only [go_sem, seval, reduceCtorEq])
  simp only [go_sem, seval, reduceCtorEq, k6]
  cases ha : a != 0
  case true =>
    have ha' : (a == 0) = false := by simpa using ha
    have e : homB kf pf nf kt pt nt k a = false := by
      have n3 : k ≠ 3 := by simpa using k3
      have n4 : k ≠ 4 := by simpa using k4
      have n6 : k ≠ 6 := by simpa using k6
      simp only [homB, n3, n4, n6, ha', if_false, Bool.and_false, Bool.false_and, ite_self]
    simp only [go_sem, seval, reduceCtorEq, ha, e]
    (refine FnEnd.mk (Nat.le_of_ble_eq_true rfl) rfl (of_decide_eq_true rfl) ?_ ?_ <;> try simp only [go_sem, seval, reduceCtorEq])
  obtain rfl : a = 0 := by simpa using ha
  simp only [go_sem, seval, reduceCtorEq, ha]
  cases k1 : k == 1
  case true =>
    obtain rfl : k = 1 := by simpa using k1
    have e : homB kf pf nf kt pt nt 1 0 = decide ([kf, pf, nf] = [kt, pt, nt]) := by
      rw [Bool.eq_iff_iff]; simp [homB, and_assoc]
    simp only [go_sem, seval, reduceCtorEq, e]
    (refine FnEnd.mk (Nat.le_of_ble_eq_true rfl) rfl (of_decide_eq_true rfl) ?_ ?_ <;> try simp only [go_sem, seval, reduceCtorEq])
  simp only [go_sem, seval, reduceCtorEq, k1]
  cases k2 : k == 2
  case true =>
    obtain rfl : k = 2 := by simpa using k2
    have e : homB kf pf nf kt pt nt 2 0 = ((kf == 3 || kf == 4) && kt == 1) := by simp [homB]
    simp only [go_sem, seval, reduceCtorEq]
    cases c1 : kf == 3
    · simp only [go_sem, seval, reduceCtorEq, c1]
      cases c2 : kf == 4
      · simp only [go_sem, seval, reduceCtorEq, c2, e, c1, Bool.false_and, Bool.or_false]
        (refine FnEnd.mk (Nat.le_of_ble_eq_true rfl) rfl (of_decide_eq_true rfl) ?_ ?_ <;> try simp only [go_sem, seval, reduceCtorEq])
      simp only [go_sem, seval, reduceCtorEq, c2, e, c1, Bool.or_true, Bool.true_and]
      (refine FnEnd.mk (Nat.le_of_ble_eq_true rfl) rfl (of_decide_eq_true rfl) ?_ ?_ <;> try simp only [go_sem, seval, reduceCtorEq])
    simp only [go_sem, seval, reduceCtorEq, c1, e, Bool.true_or, Bool.true_and]
    (refine FnEnd.mk (Nat.le_of_ble_eq_true rfl) rfl (of_decide_eq_true rfl) ?_ ?_ <;> try simp only [go_sem, seval, reduceCtorEq])
  simp only [go_sem, seval, reduceCtorEq, k2]
  cases k5 : k == 5
  case true =>
    obtain rfl : k = 5 := by simpa using k5
    have e : homB kf pf nf kt pt nt 5 0 = (kf == 7 && kt == 2 && pf == pt) := by simp [homB]
    simp only [go_sem, seval, reduceCtorEq]
    cases c1 : kf == 7
    · simp only [go_sem, seval, reduceCtorEq, c1, e, Bool.false_and]
      (refine FnEnd.mk (Nat.le_of_ble_eq_true rfl) rfl (of_decide_eq_true rfl) ?_ ?_ <;> try simp only [go_sem, seval, reduceCtorEq])
    simp only [go_sem, seval, reduceCtorEq, c1]
    cases c2 : kt == 2
    · simp only [go_sem, seval, reduceCtorEq, c1, c2, e, Bool.false_and, Bool.true_and]
      (refine FnEnd.mk (Nat.le_of_ble_eq_true rfl) rfl (of_decide_eq_true rfl) ?_ ?_ <;> try simp only [go_sem, seval, reduceCtorEq])
    simp only [go_sem, seval, reduceCtorEq, c1, c2, e, Bool.true_and]
    (refine FnEnd.mk (Nat.le_of_ble_eq_true rfl) rfl (of_decide_eq_true rfl) ?_ ?_ <;> try simp only [go_sem, seval, reduceCtorEq])
  simp only [go_sem, seval, reduceCtorEq, k5]
  cases k7 : k == 7
  case true =>
    obtain rfl : k = 7 := by simpa using k7
    have e := cutB_eq hrf hrt
    have e' : homB kf pf nf kt pt nt 7 0 = cutB kf pf nf kt pt nt := by simp [homB]
    simp only [go_sem, seval, reduceCtorEq]
    rw [e', e]
    cases c3 : kf == 3
    case true =>
      obtain rfl : kf = 3 := by simpa using c3
      rw [if_pos (by omega)]
      simp only [go_sem, seval, reduceCtorEq]
      cases d1 : kt == 3
      · simp only [go_sem, seval, reduceCtorEq, d1, Bool.false_and]
        (refine FnEnd.mk (Nat.le_of_ble_eq_true rfl) rfl (of_decide_eq_true rfl) ?_ ?_ <;> try simp only [go_sem, seval, reduceCtorEq])
      simp only [go_sem, seval, reduceCtorEq, d1, Bool.true_and]
      (refine FnEnd.mk (Nat.le_of_ble_eq_true rfl) rfl (of_decide_eq_true rfl) ?_ ?_ <;> try simp only [go_sem, seval, reduceCtorEq])
    simp only [go_sem, seval, reduceCtorEq, c3]
    cases c4 : kf == 4
    case true =>
      obtain rfl : kf = 4 := by simpa using c4
      rw [if_pos (by omega)]
      simp only [go_sem, seval, reduceCtorEq]
      cases d1 : kt == 4
      · simp only [go_sem, seval, reduceCtorEq, d1, Bool.false_and]
        (refine FnEnd.mk (Nat.le_of_ble_eq_true rfl) rfl (of_decide_eq_true rfl) ?_ ?_ <;> try simp only [go_sem, seval, reduceCtorEq])
      simp only [go_sem, seval, reduceCtorEq, d1, Bool.true_and]
      (refine FnEnd.mk (Nat.le_of_ble_eq_true rfl) rfl (of_decide_eq_true rfl) ?_ ?_ <;> try simp only [go_sem, seval, reduceCtorEq])
    simp only [go_sem, seval, reduceCtorEq, c4]
    cases c5 : kf == 5
    case true =>
      obtain rfl : kf = 5 := by simpa using c5
      rw [if_pos (by omega)]
      simp only [go_sem, seval, reduceCtorEq]
      cases d1 : kt == 5
      · simp only [go_sem, seval, reduceCtorEq, d1, Bool.false_and]
        (refine FnEnd.mk (Nat.le_of_ble_eq_true rfl) rfl (of_decide_eq_true rfl) ?_ ?_ <;> try simp only [go_sem, seval, reduceCtorEq])
      simp only [go_sem, seval, reduceCtorEq, d1, Bool.true_and]
      (refine FnEnd.mk (Nat.le_of_ble_eq_true rfl) rfl (of_decide_eq_true rfl) ?_ ?_ <;> try simp only [go_sem, seval, reduceCtorEq])
    simp only [go_sem, seval, reduceCtorEq, c5]
    have n3 : kf ≠ 3 := by simpa using c3
    have n4 : kf ≠ 4 := by simpa using c4
    have n5 : kf ≠ 5 := by simpa using c5
    rw [if_neg (by omega)]
    cases c7 : kf == 7
    case true =>
      obtain rfl : kf = 7 := by simpa using c7
      rw [if_pos (by omega)]
      simp only [go_sem, seval, reduceCtorEq]
      cases d1 : kt == 7
      · simp only [go_sem, seval, reduceCtorEq, d1, Bool.false_and]
        (refine FnEnd.mk (Nat.le_of_ble_eq_true rfl) rfl (of_decide_eq_true rfl) ?_ ?_ <;> try simp only [go_sem, seval, reduceCtorEq])
      simp only [go_sem, seval, reduceCtorEq, d1, Bool.true_and]
      cases d2 : pt == pf
      · simp only [go_sem, seval, reduceCtorEq, d2, Bool.false_and]
        (refine FnEnd.mk (Nat.le_of_ble_eq_true rfl) rfl (of_decide_eq_true rfl) ?_ ?_ <;> try simp only [go_sem, seval, reduceCtorEq])
      simp only [go_sem, seval, reduceCtorEq, d2, Bool.true_and]
      (refine FnEnd.mk (Nat.le_of_ble_eq_true rfl) rfl (of_decide_eq_true rfl) ?_ ?_ <;> try simp only [go_sem, seval, reduceCtorEq])
    simp only [go_sem, seval, reduceCtorEq, c7]
    cases c6 : kf == 6
    case true =>
      obtain rfl : kf = 6 := by simpa using c6
      rw [if_pos (by omega)]
      simp only [go_sem, seval, reduceCtorEq]
      cases d1 : kt == 6
      · simp only [go_sem, seval, reduceCtorEq, d1, Bool.false_and]
        (refine FnEnd.mk (Nat.le_of_ble_eq_true rfl) rfl (of_decide_eq_true rfl) ?_ ?_ <;> try simp only [go_sem, seval, reduceCtorEq])
      simp only [go_sem, seval, reduceCtorEq, d1, Bool.true_and]
      cases d2 : pt == pf
      · simp only [go_sem, seval, reduceCtorEq, d2, Bool.false_and]
        (refine FnEnd.mk (Nat.le_of_ble_eq_true rfl) rfl (of_decide_eq_true rfl) ?_ ?_ <;> try simp only [go_sem, seval, reduceCtorEq])
      simp only [go_sem, seval, reduceCtorEq, d2, Bool.true_and]
      (refine FnEnd.mk (Nat.le_of_ble_eq_true rfl) rfl (of_decide_eq_true rfl) ?_ ?_ <;> try simp only [go_sem, seval, reduceCtorEq])
    have n6 : kf ≠ 6 := by simpa using c6
    have n7 : kf ≠ 7 := by simpa using c7
    rw [if_neg (by omega)]
    simp only [go_sem, seval, reduceCtorEq, c6]
    (refine FnEnd.mk (Nat.le_of_ble_eq_true rfl) rfl (of_decide_eq_true rfl) ?_ ?_ <;> try simp only [go_sem, seval, reduceCtorEq])
  simp only [go_sem, seval, reduceCtorEq, k7]
  cases k8 : k == 8
  case true =>
    obtain rfl : k = 8 := by simpa using k8
    have e : homB kf pf nf kt pt nt 8 0 = (kf == 1 && (kt == 4 || kt == 5 || kt == 6)) := by simp [homB]
    simp only [go_sem, seval, reduceCtorEq]
    cases c1 : kf == 1
    · simp only [go_sem, seval, reduceCtorEq, c1, e, Bool.false_and]
      (refine FnEnd.mk (Nat.le_of_ble_eq_true rfl) rfl (of_decide_eq_true rfl) ?_ ?_ <;> try simp only [go_sem, seval, reduceCtorEq])
    simp only [go_sem, seval, reduceCtorEq, c1]
    cases c3 : kt == 4
    · simp only [go_sem, seval, reduceCtorEq, c3]
      cases c4 : kt == 5
      · simp only [go_sem, seval, reduceCtorEq, c1, c3, c4, e, Bool.false_or, Bool.true_and]
        (refine FnEnd.mk (Nat.le_of_ble_eq_true rfl) rfl (of_decide_eq_true rfl) ?_ ?_ <;> try simp only [go_sem, seval, reduceCtorEq])
      simp only [go_sem, seval, reduceCtorEq, c1, c3, c4, e, Bool.false_or, Bool.true_and, Bool.true_or]
      (refine FnEnd.mk (Nat.le_of_ble_eq_true rfl) rfl (of_decide_eq_true rfl) ?_ ?_ <;> try simp only [go_sem, seval, reduceCtorEq])
    simp only [go_sem, seval, reduceCtorEq, c1, c3, e, Bool.true_or, Bool.true_and]
    (refine FnEnd.mk (Nat.le_of_ble_eq_true rfl) rfl (of_decide_eq_true rfl) ?_ ?_ <;> try simp only [go_sem, seval, reduceCtorEq])
  have e : homB kf pf nf kt pt nt k 0 = false := by
    have n1 : k ≠ 1 := by simpa using k1
    have n2 : k ≠ 2 := by simpa using k2
    have n3 : k ≠ 3 := by simpa using k3
    have n4 : k ≠ 4 := by simpa using k4
    have n5 : k ≠ 5 := by simpa using k5
    have n6 : k ≠ 6 := by simpa using k6
    have n7 : k ≠ 7 := by simpa using k7
    have n8 : k ≠ 8 := by simpa using k8
    simp only [homB, n1, n2, n3, n4, n5, n6, n7, n8, if_false]
  simp only [go_sem, seval, reduceCtorEq, k8, e]
  (refine FnEnd.mk (Nat.le_of_ble_eq_true rfl) rfl (of_decide_eq_true rfl) ?_ ?_ <;> try simp only [go_sem, seval, reduceCtorEq])
end Go.Proofs.Ytjoopfojiiklnaa
