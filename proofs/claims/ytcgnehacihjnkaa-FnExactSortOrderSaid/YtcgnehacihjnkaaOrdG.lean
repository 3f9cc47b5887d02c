/-
  Contracts: sorted orders. No condition.
-/
import Derived.Test.YtcgnehacihjnkaaOrdF
import Derived.Test.YtcgnehacihjnkaaOrdD0
namespace Go.Proofs.Ytcgnehacihjnkaa
open Go.RowKit Go.Lift Plain
set_option linter.unusedSimpArgs false
set_option linter.unusedVariables false
set_option maxRecDepth 100000

/-- The steps below a number, behind those that are there; its new number. -/
def walk (m : Nat) (F : List Int) (k : Nat) (out : List (Nat × Nat)) : List (Nat × Nat) × Nat :=
  if h : stA F (k - m) < k ∧ stB F (k - m) < k ∧ m ≤ k then
    ((walk m F (stB F (k - m)) (walk m F (stA F (k - m)) out).1).1 ++ [(min (walk m F (stA F (k - m)) out).2 (walk m F (stB F (k - m)) (walk m F (stA F (k - m)) out).1).2, max (walk m F (stA F (k - m)) out).2 (walk m F (stB F (k - m)) (walk m F (stA F (k - m)) out).1).2)],
      m + (walk m F (stB F (k - m)) (walk m F (stA F (k - m)) out).1).1.length)
  else (out, k)
termination_by k
decreasing_by all_goals omega
/-- What is known of the steps. -/
def StOk (m n : Nat) (F : List Int) : Prop := ∀ j, j < n → stA F j < m + j ∧ stB F j < m + j ∧ F.getD (j * 2) 0 = stA F j ∧ F.getD (j * 2 + 1) 0 = stB F j
section
variable {m n : Nat} {F : List Int}
theorem walk_leaf {k : Nat} (h : k < m) (out : List (Nat × Nat)) : walk m F k out = (out, k) := by rw [walk, dif_neg (by omega)]
theorem walk_node (h : StOk m n F) {j : Nat} (hj : j < n) (out : List (Nat × Nat)) : walk m F (m + j) out =
    ((walk m F (stB F j) (walk m F (stA F j) out).1).1 ++ [(min (walk m F (stA F j) out).2 (walk m F (stB F j) (walk m F (stA F j) out).1).2, max (walk m F (stA F j) out).2 (walk m F (stB F j) (walk m F (stA F j) out).1).2)],
      m + (walk m F (stB F j) (walk m F (stA F j) out).1).1.length) := by
  have := h j hj
  rw [walk, show m + j - m = j by omega, dif_pos (by omega)]
theorem walk_len (h : StOk m n F) : ∀ k, k < m + n → ∀ out, (walk m F k out).1.length + 1 ≤ out.length + 2 ^ (k + 1 - m) ∧ (walk m F k out).2 ≤ max k (m + out.length + 2 ^ (k + 1 - m)) := by
  intro k
  induction k using Nat.strongRecOn with
  | _ k ih =>
    intro hk out
    rcases Nat.lt_or_ge k m with hkm | hkm
    · rw [walk_leaf hkm, show k + 1 - m = 0 by omega]
      exact ⟨by simp, by simp; omega⟩
    · obtain ⟨j, rfl⟩ : ∃ j, k = m + j := ⟨k - m, by omega⟩
      have hj : j < n := by omega
      have hs := h j hj
      rw [walk_node h hj]
      have h1 := ih (stA F j) hs.1 (by omega) out
      have h2 := ih (stB F j) hs.2.1 (by omega) (walk m F (stA F j) out).1
      have p1 : 2 ^ (stA F j + 1 - m) ≤ 2 ^ j := Nat.pow_le_pow_right (by omega) (by omega)
      have p2 : 2 ^ (stB F j + 1 - m) ≤ 2 ^ j := Nat.pow_le_pow_right (by omega) (by omega)
      have p3 : 2 ^ (m + j + 1 - m) = 2 * 2 ^ j := by rw [show m + j + 1 - m = j + 1 by omega, Nat.pow_succ, Nat.mul_comm]
      rw [p3]
      simp only [List.length_append, List.length_singleton]
      omega
end
theorem l23Walk_d {m n : Nat} {F : List Int} (hm : m ≤ 12) (hn : n ≤ 11) (hF : StpSz 1048576 n F) (h : StOk m n F) : ∀ k, k < m + n → ∀ out : List (Nat × Nat), out.length + 2 ^ (k + 1 - m) ≤ 100000 →
    Does Try.prog 111 [.d (.int m), .d (stp n F), .d (.int k), .own 0 0 out.length] [some ⟨2, true, iv (flatP out)⟩] (.tup [.own 0 0 (walk m F k out).1.length, .d (.int (walk m F k out).2)]) [some ⟨2, true, iv (flatP (walk m F k out).1)⟩] := by
  intro k
  induction k using Nat.strongRecOn with
  | _ k ih =>
    intro hk out ho
    have hFl := hF.l
    (refine spec_of (by kernel_rfl) Try.func111 k_spec_l23Walk (fnOk (Nat.le_of_ble_eq_true rfl) ?_); unfold C_spec_l23Walk)
    (simp only [Nat.reduceSub, List.length_cons, List.length_nil, Nat.reduceAdd, ch_init1, ch_init2, ch_init3, ch_init4, ch_init5, ch_init6, ch_init7, ch_init8]; try simp only [ch_rep]); (simp only [go_sem, seval, reduceCtorEq, List.replicate])
    rcases Nat.lt_or_ge k m with hkm | hkm
    · have d1 : (k : Int) < m := by omega
      simp (disch := omega) only [go_sem, seval, reduceCtorEq, d1, walk_leaf hkm]
      (refine FnEnd.mk (Nat.le_of_ble_eq_true rfl) rfl (of_decide_eq_true rfl) ?_ ?_ <;> try simp only [go_sem, seval, reduceCtorEq])
    · obtain ⟨j, rfl⟩ : ∃ j, k = m + j := ⟨k - m, by omega⟩
      have hj : j < n := by omega
      have hs := h j hj
      have d1 : ¬ ((m + j : Nat) : Int) < m := by omega
      have e1 : ((m + j : Nat) : Int) - m = j := by omega
      have ij : (j : Int) < n := by omega
      have ga : F[j * 2]? = some (stA F j : Int) := by rw [← hs.2.2.1, getD_of (by omega)]; exact List.getElem?_eq_getElem (by omega)
      have gb : F[j * 2 + 1]? = some (stB F j : Int) := by rw [← hs.2.2.2, getD_of (by omega)]; exact List.getElem?_eq_getElem (by omega)
      have hp : 2 ^ j ≤ 2 ^ 11 := Nat.pow_le_pow_right (by omega) (by omega)
      have lA := walk_len h (stA F j) (by omega) out
      have lB := walk_len h (stB F j) (by omega) (walk m F (stA F j) out).1
      have p1 : 2 ^ (stA F j + 1 - m) ≤ 2 ^ j := Nat.pow_le_pow_right (by omega) (by omega)
      have p2 : 2 ^ (stB F j + 1 - m) ≤ 2 ^ j := Nat.pow_le_pow_right (by omega) (by omega)
      have p3 : 2 ^ (m + j + 1 - m) = 2 * 2 ^ j := by rw [show m + j + 1 - m = j + 1 by omega, Nat.pow_succ, Nat.mul_comm]
      rw [p3] at ho
      have hA := ih (stA F j) hs.1 (by omega) out (by omega)
      have hB := ih (stB F j) hs.2.1 (by omega) (walk m F (stA F j) out).1 (by omega)
      have hw := walk_node h hj out
      simp (disch := omega) only [go_sem, seval, reduceCtorEq, d1, e1, ij, ga]
      (refine ti_callcg [0] [0] false (of_decide_eq_true rfl) ?_ _ ?_ (hA) ?_ ?_; (focus (simp only [go_sem, seval, reduceCtorEq]; done)); (focus (simp only [go_sem, seval, reduceCtorEq]; done)); (focus (first | rfl | (simp only [go_sem, seval, reduceCtorEq]; done))))
      simp (disch := omega) only [go_sem, seval, reduceCtorEq, or_true, false_or, if_true, e1, ij, gb]
      (refine ti_callcg [0] [0] false (of_decide_eq_true rfl) ?_ _ ?_ (hB) ?_ ?_; (focus (simp only [go_sem, seval, reduceCtorEq]; done)); (focus (simp only [go_sem, seval, reduceCtorEq]; done)); (focus (first | rfl | (simp only [go_sem, seval, reduceCtorEq]; done))))
      simp (disch := omega) only [go_sem, seval, reduceCtorEq, or_true, false_or, if_true]
      have hfl := flatP_len (walk m F (stB F j) (walk m F (stA F j) out).1).1
      generalize walk m F (stA F j) out = A at *
      generalize walk m F (stB F j) A.1 = B at *
      have hm1 : min (A.2 : Int) B.2 = ((min A.2 B.2 : Nat) : Int) := by omega
      have hm2 : max (A.2 : Int) B.2 = ((max A.2 B.2 : Nat) : Int) := by omega
      have hrow := iv_flat B.1 (min A.2 B.2) (max A.2 B.2)
      refine ⟨hfl, by omega, ?_⟩
      simp only [hm1, hm2, hw, hrow, List.length_append, List.length_singleton, Int.natCast_add]
      (refine FnEnd.mk (Nat.le_of_ble_eq_true rfl) rfl (of_decide_eq_true rfl) ?_ ?_ <;> try simp only [go_sem, seval, reduceCtorEq])
theorem sortSteps_d {m n : Nat} {F : List Int} (hm : m ≤ 12) (hn : n ≤ 11) (hF : StpSz 1048576 n F) (h : StOk m n F) : ∀ k, k < m + n → ∀ out : List (Nat × Nat), out.length + 2 ^ (k + 1 - m) ≤ 100000 →
    Does Try.prog 114 [.d (.int m), .d (stp n F), .d (.int k), .ptr 0 0] [some ⟨0, false, [.own 1 0 out.length]⟩, some ⟨2, true, iv (flatP out)⟩] (.d (.int (walk m F k out).2)) [some ⟨0, false, [.own 1 0 (walk m F k out).1.length]⟩, some ⟨2, true, iv (flatP (walk m F k out).1)⟩] := by
  intro k
  induction k using Nat.strongRecOn with
  | _ k ih =>
    intro hk out ho
    have hFl := hF.l
    (refine spec_of (by kernel_rfl) Try.func114 k_impl_sortSteps (fnOk (Nat.le_of_ble_eq_true rfl) ?_); unfold C_impl_sortSteps)
    (simp only [Nat.reduceSub, List.length_cons, List.length_nil, Nat.reduceAdd, ch_init1, ch_init2, ch_init3, ch_init4, ch_init5, ch_init6, ch_init7, ch_init8]; try simp only [ch_rep]); (simp only [go_sem, seval, reduceCtorEq, List.replicate])
    rcases Nat.lt_or_ge k m with hkm | hkm
    · have d1 : (k : Int) < m := by omega
      simp (disch := omega) only [go_sem, seval, reduceCtorEq, d1, walk_leaf hkm]
      (refine FnEnd.mk (Nat.le_of_ble_eq_true rfl) rfl (of_decide_eq_true rfl) ?_ ?_ <;> try simp only [go_sem, seval, reduceCtorEq])
    · obtain ⟨j, rfl⟩ : ∃ j, k = m + j := ⟨k - m, by omega⟩
      have hj : j < n := by omega
      have hs := h j hj
      have d1 : ¬ ((m + j : Nat) : Int) < m := by omega
      have e1 : ((m + j : Nat) : Int) - m = j := by omega
      have ij : (j : Int) < n := by omega
      have ga : F[j * 2]? = some (stA F j : Int) := by rw [← hs.2.2.1, getD_of (by omega)]; exact List.getElem?_eq_getElem (by omega)
      have gb : F[j * 2 + 1]? = some (stB F j : Int) := by rw [← hs.2.2.2, getD_of (by omega)]; exact List.getElem?_eq_getElem (by omega)
      have hp : 2 ^ j ≤ 2 ^ 11 := Nat.pow_le_pow_right (by omega) (by omega)
      have lA := walk_len h (stA F j) (by omega) out
      have lB := walk_len h (stB F j) (by omega) (walk m F (stA F j) out).1
      have p1 : 2 ^ (stA F j + 1 - m) ≤ 2 ^ j := Nat.pow_le_pow_right (by omega) (by omega)
      have p2 : 2 ^ (stB F j + 1 - m) ≤ 2 ^ j := Nat.pow_le_pow_right (by omega) (by omega)
      have p3 : 2 ^ (m + j + 1 - m) = 2 * 2 ^ j := by rw [show m + j + 1 - m = j + 1 by omega, Nat.pow_succ, Nat.mul_comm]
      rw [p3] at ho
      have hA := ih (stA F j) hs.1 (by omega) out (by omega)
      have hB := ih (stB F j) hs.2.1 (by omega) (walk m F (stA F j) out).1 (by omega)
      have hw := walk_node h hj out
      simp (disch := omega) only [go_sem, seval, reduceCtorEq, d1, e1, ij, ga]
      (refine ti_callcg [0, 1] [1] false (of_decide_eq_true rfl) ?_ _ ?_ (hA) ?_ ?_; (focus (simp only [go_sem, seval, reduceCtorEq]; done)); (focus (simp only [go_sem, seval, reduceCtorEq]; done)); (focus (first | rfl | (simp only [go_sem, seval, reduceCtorEq]; done))))
      simp (disch := omega) only [go_sem, seval, reduceCtorEq, or_true, false_or, if_true, e1, ij, gb]
      (refine ti_callcg [0, 1] [1] false (of_decide_eq_true rfl) ?_ _ ?_ (hB) ?_ ?_; (focus (simp only [go_sem, seval, reduceCtorEq]; done)); (focus (simp only [go_sem, seval, reduceCtorEq]; done)); (focus (first | rfl | (simp only [go_sem, seval, reduceCtorEq]; done))))
      simp (disch := omega) only [go_sem, seval, reduceCtorEq, or_true, false_or, if_true]
      have hfl := flatP_len (walk m F (stB F j) (walk m F (stA F j) out).1).1
      generalize walk m F (stA F j) out = A at *
      generalize walk m F (stB F j) A.1 = B at *
      have hm1 : min (A.2 : Int) B.2 = ((min A.2 B.2 : Nat) : Int) := by omega
      have hm2 : max (A.2 : Int) B.2 = ((max A.2 B.2 : Nat) : Int) := by omega
      have hrow := iv_flat B.1 (min A.2 B.2) (max A.2 B.2)
      have e2 : (m : Int) + ((B.1.length + 1 : Nat) : Int) - 1 = ((m + B.1.length : Nat) : Int) := by omega
      refine ⟨hfl, by omega, ?_⟩
      simp only [hm1, hm2, hw, hrow, List.length_append, List.length_singleton, e2]
      (refine FnEnd.mk (Nat.le_of_ble_eq_true rfl) rfl (of_decide_eq_true rfl) ?_ ?_ <;> try simp only [go_sem, seval, reduceCtorEq])
/-- The sorted steps. -/
noncomputable def sortL (N : Net) (n : Nat) (F : List Int) : List (Nat × Nat) := if orderOk N n F = true ∧ 0 < n then (walk N.ts.length F (N.ts.length + n - 1) []).1 else []
noncomputable def sortN (N : Net) (n : Nat) (F : List Int) : Nat := (sortL N n F).length
noncomputable def sortF (N : Net) (n : Nat) (F : List Int) : List Int := flatP (sortL N n F)
theorem stOk {N : Net} {n : Nat} {F : List Int} (h : orderOk N n F = true) : StOk N.ts.length n F := fun j hj => by
  have hs := ordStep h hj
  have ha := hs.at (ordOk h j (Nat.le_of_lt hj))
  exact ⟨ha.1, ha.2, hs.a, hs.b⟩
theorem walk_mem {m n B : Nat} {F : List Int} (h : StOk m n F) : ∀ k, k < m + n → ∀ out, (∀ p ∈ out, p.1 ≤ B ∧ p.2 ≤ B) → m + n + out.length + 2 ^ (k + 1 - m) ≤ B → ∀ p ∈ (walk m F k out).1, p.1 ≤ B ∧ p.2 ≤ B := by
  intro k
  induction k using Nat.strongRecOn with
  | _ k ih =>
    intro hk out ho hB
    rcases Nat.lt_or_ge k m with hkm | hkm
    · rw [walk_leaf hkm]
      exact ho
    · obtain ⟨j, rfl⟩ : ∃ j, k = m + j := ⟨k - m, by omega⟩
      have hj : j < n := by omega
      have hs := h j hj
      have lA := walk_len h (stA F j) (by omega) out
      have lB := walk_len h (stB F j) (by omega) (walk m F (stA F j) out).1
      have p1 : 2 ^ (stA F j + 1 - m) ≤ 2 ^ j := Nat.pow_le_pow_right (by omega) (by omega)
      have p2 : 2 ^ (stB F j + 1 - m) ≤ 2 ^ j := Nat.pow_le_pow_right (by omega) (by omega)
      have p3 : 2 ^ (m + j + 1 - m) = 2 * 2 ^ j := by rw [show m + j + 1 - m = j + 1 by omega, Nat.pow_succ, Nat.mul_comm]
      rw [p3] at hB
      have hA := ih (stA F j) hs.1 (by omega) out ho (by omega)
      have hB' := ih (stB F j) hs.2.1 (by omega) (walk m F (stA F j) out).1 hA (by omega)
      rw [walk_node h hj]
      intro p hp
      simp only [List.mem_append, List.mem_singleton] at hp
      rcases hp with hp | rfl
      · exact hB' p hp
      · simp only
        omega
theorem sortF_sz {N : Net} {n : Nat} {F : List Int} : StpSz 1048576 (sortN N n F) (sortF N n F) := by
  by_cases hc : orderOk N n F = true ∧ 0 < n
  · have h12 := (netOk_iff.1 (orderOk_iff.1 hc.1).1).2.1
    have hnn := (orderOk_iff.1 hc.1).2.1
    have e : sortL N n F = (walk N.ts.length F (N.ts.length + n - 1) []).1 := if_pos hc
    have hs := stOk hc.1
    have hp : 2 ^ (N.ts.length + n - 1 + 1 - N.ts.length) ≤ 2 ^ 11 := Nat.pow_le_pow_right (by omega) (by omega)
    have hl := (walk_len hs (N.ts.length + n - 1) (by omega) []).1
    have hm := walk_mem (B := 100000) hs (N.ts.length + n - 1) (by omega) [] (fun p hp => nomatch hp) (by simp only [List.length_nil]; omega)
    simp only [List.length_nil] at hl
    refine ⟨by rw [sortN, sortF, flatP_len], by rw [sortN, e]; omega, fun y hy => ?_⟩
    rw [sortF, e] at hy
    simp only [flatP, List.mem_flatMap, List.mem_cons, List.not_mem_nil, or_false] at hy
    obtain ⟨p, hp, hy⟩ := hy
    have := hm p hp
    rcases hy with rfl | rfl <;> exact ⟨by omega, by omega⟩
  · have e : sortL N n F = [] := if_neg hc
    simp only [sortN, sortF, e]
    exact ⟨by simp [flatP], by simp, by simp [flatP]⟩
theorem sSortOrder_d {N : Net} {n : Nat} {F : List Int} (h : NSz 1048576 N) (hF : StpSz 1048576 n F) : Does Try.prog 49 [netA N, .d (stp n F)] [] (.tup [.own 0 0 (sortN N n F), .d (.bool (orderOk N n F))]) [some ⟨2, true, iv (sortF N n F)⟩] := by
  (refine spec_of (by kernel_rfl) Try.func49 k_spec_SortOrder (fnOk (Nat.le_of_ble_eq_true rfl) ?_); unfold C_spec_SortOrder)
  (simp only [Nat.reduceSub, List.length_cons, List.length_nil, Nat.reduceAdd, ch_init1, ch_init2, ch_init3, ch_init4, ch_init5, ch_init6, ch_init7, ch_init8]; try simp only [ch_rep]); (simp only [go_sem, seval, reduceCtorEq, List.replicate])
  (refine ti_call (sOrderOk_d h hF) ?_ ?_ ?_; (focus (simp only [go_sem, seval, reduceCtorEq]; done)); (first | rfl | (focus (simp only [go_sem]; done))))
  cases hok : orderOk N n F
  · have e : sortL N n F = [] := by simp [sortL, hok]
    have e1 : sortN N n F = 0 := by rw [sortN, e]; rfl
    have e2 : sortF N n F = [] := by rw [sortF, e]; rfl
    simp only [go_sem, seval, reduceCtorEq, hok, e1, e2, iv_nil]
    refine FnEnd.wk (Wk.nilE 4 2 _ _ rfl) ?_
    (refine FnEnd.mk (Nat.le_of_ble_eq_true rfl) rfl (of_decide_eq_true rfl) ?_ ?_ <;> try simp only [go_sem, seval, reduceCtorEq])
  · have h12 := (netOk_iff.1 (orderOk_iff.1 hok).1).2.1
    have hnn := (orderOk_iff.1 hok).2.1
    have hn20 := hF.n
    by_cases h0 : n = 0
    · have e : sortL N n F = [] := by simp [sortL, h0]
      have e1 : sortN N n F = 0 := by rw [sortN, e]; rfl
      have e2 : sortF N n F = [] := by rw [sortF, e]; rfl
      simp only [e1, e2, iv_nil]
      subst h0
      simp only [go_sem, seval, reduceCtorEq, hok, Int.natCast_zero]
      (refine FnEnd.mk (Nat.le_of_ble_eq_true rfl) rfl (of_decide_eq_true rfl) ?_ ?_ <;> try simp only [go_sem, seval, reduceCtorEq])
    · have e : sortL N n F = (walk N.ts.length F (N.ts.length + n - 1) []).1 := if_pos ⟨hok, by omega⟩
      have e1 : sortN N n F = (walk N.ts.length F (N.ts.length + n - 1) []).1.length := by rw [sortN, e]
      have e2 : sortF N n F = flatP (walk N.ts.length F (N.ts.length + n - 1) []).1 := by rw [sortF, e]
      have d1 : ((n : Int) == 0) = false := beq_false_of_ne (by omega)
      have d2 : (N.ts.length : Int) + n - 1 = ((N.ts.length + n - 1 : Nat) : Int) := by omega
      have hp : 2 ^ (N.ts.length + n - 1 + 1 - N.ts.length) ≤ 2 ^ 11 := Nat.pow_le_pow_right (by omega) (by omega)
      have hz : iv (flatP []) = [] := rfl
      have hc := l23Walk_d (by omega) (by omega) hF (stOk hok) (N.ts.length + n - 1) (by omega) [] (by simp only [List.length_nil]; omega)
      simp (disch := omega) only [go_sem, seval, reduceCtorEq, hok, d1, d2]
      (refine ti_callcg [1] [1] false (of_decide_eq_true rfl) ?_ _ ?_ (hc) ?_ ?_; (focus (simp only [go_sem, seval, reduceCtorEq, hz]; done)); (focus (simp only [go_sem, seval, reduceCtorEq, hz]; done)); (focus (first | rfl | (simp only [go_sem, seval, reduceCtorEq, hz]; done))))
      simp only [go_sem, seval, reduceCtorEq, or_true, false_or, if_true, e1, e2]
      (refine FnEnd.mk (Nat.le_of_ble_eq_true rfl) rfl (of_decide_eq_true rfl) ?_ ?_ <;> try simp only [go_sem, seval, reduceCtorEq])
theorem iSortOrder_d {N : Net} {n : Nat} {F : List Int} (h : NSz 1048576 N) (hF : StpSz 1048576 n F) : Does Try.prog 51 [netA N, .d (stp n F)] [] (.tup [.own 0 0 (sortN N n F), .d (.bool (orderOk N n F))]) [some ⟨2, true, iv (sortF N n F)⟩] := by
  (refine spec_of (by kernel_rfl) Try.func51 k_impl_SortOrder (fnOk (Nat.le_of_ble_eq_true rfl) ?_); unfold C_impl_SortOrder)
  (simp only [Nat.reduceSub, List.length_cons, List.length_nil, Nat.reduceAdd, ch_init1, ch_init2, ch_init3, ch_init4, ch_init5, ch_init6, ch_init7, ch_init8]; try simp only [ch_rep]); (simp only [go_sem, seval, reduceCtorEq, List.replicate])
  (refine ti_call (iOrderOk_d h hF) ?_ ?_ ?_; (focus (simp only [go_sem, seval, reduceCtorEq]; done)); (first | rfl | (focus (simp only [go_sem]; done))))
  cases hok : orderOk N n F
  · have e : sortL N n F = [] := by simp [sortL, hok]
    have e1 : sortN N n F = 0 := by rw [sortN, e]; rfl
    have e2 : sortF N n F = [] := by rw [sortF, e]; rfl
    simp only [go_sem, seval, reduceCtorEq, hok, e1, e2, iv_nil]
    refine FnEnd.wk (Wk.nilE 4 2 _ _ rfl) ?_
    (refine FnEnd.mk (Nat.le_of_ble_eq_true rfl) rfl (of_decide_eq_true rfl) ?_ ?_ <;> try simp only [go_sem, seval, reduceCtorEq])
  · have h12 := (netOk_iff.1 (orderOk_iff.1 hok).1).2.1
    have hnn := (orderOk_iff.1 hok).2.1
    have hn20 := hF.n
    simp only [go_sem, seval, reduceCtorEq, hok]
    refine GH.mk (Wk.nilS 1 0 2 _ _ _ rfl rfl) ?_
    by_cases h0 : n = 0
    · have e : sortL N n F = [] := by simp [sortL, h0]
      have e1 : sortN N n F = 0 := by rw [sortN, e]; rfl
      have e2 : sortF N n F = [] := by rw [sortF, e]; rfl
      simp only [e1, e2, iv_nil]
      subst h0
      simp only [go_sem, seval, reduceCtorEq, hok, Int.natCast_zero]
      (refine FnEnd.mk (Nat.le_of_ble_eq_true rfl) rfl (of_decide_eq_true rfl) ?_ ?_ <;> try simp only [go_sem, seval, reduceCtorEq])
    · have e : sortL N n F = (walk N.ts.length F (N.ts.length + n - 1) []).1 := if_pos ⟨hok, by omega⟩
      have e1 : sortN N n F = (walk N.ts.length F (N.ts.length + n - 1) []).1.length := by rw [sortN, e]
      have e2 : sortF N n F = flatP (walk N.ts.length F (N.ts.length + n - 1) []).1 := by rw [sortF, e]
      have d1 : (n : Int) > 0 := by omega
      have d2 : (N.ts.length : Int) + n - 1 = ((N.ts.length + n - 1 : Nat) : Int) := by omega
      have hp : 2 ^ (N.ts.length + n - 1 + 1 - N.ts.length) ≤ 2 ^ 11 := Nat.pow_le_pow_right (by omega) (by omega)
      have hz : iv (flatP []) = [] := rfl
      have hc := sortSteps_d (by omega) (by omega) hF (stOk hok) (N.ts.length + n - 1) (by omega) [] (by simp only [List.length_nil]; omega)
      simp (disch := omega) only [go_sem, seval, reduceCtorEq, d1, d2]
      (refine ti_callcg [1, 2] [2] false (of_decide_eq_true rfl) ?_ _ ?_ (hc) ?_ ?_; (focus (simp only [go_sem, seval, reduceCtorEq, hz]; done)); (focus (simp only [go_sem, seval, reduceCtorEq, hz]; done)); (focus (first | rfl | (simp only [go_sem, seval, reduceCtorEq, hz]; done))))
      simp only [go_sem, seval, reduceCtorEq, or_true, false_or, if_true, e1, e2]
      (refine FnEnd.mk (Nat.le_of_ble_eq_true rfl) rfl (of_decide_eq_true rfl) ?_ ?_ <;> try simp only [go_sem, seval, reduceCtorEq])
end Go.Proofs.Ytcgnehacihjnkaa
