/-
  Contracts: neighbours, closed labels. No condition.
-/
import Derived.Test.YtjoopfojiiklnaaNetE
namespace Go.Proofs.Ytjoopfojiiklnaa
open Go.RowKit Go.Lift Plain
set_option linter.unusedSimpArgs false
set_option linter.unusedVariables false
set_option maxRecDepth 100000

open Classical in
noncomputable def shareB (a b : List Int) : Bool := decide (∃ x ∈ a, x ∈ b)
theorem shareB_yes {a b : List Int} {k : Nat} (hk : k < a.length) (h : a[k] ∈ b) : shareB a b = true := decide_eq_true ⟨_, List.getElem_mem hk, h⟩
theorem shareB_no {a b : List Int} (h : ∀ x ∈ a, x ∉ b) : shareB a b = false := decide_eq_false fun ⟨x, hx, hb⟩ => h x hx hb
theorem shareLabel_d {a b : List Int} (ha : a.length ≤ 1048576) (hb : b.length ≤ 1048576) : Does Try.prog 107 [.d (ints a), .d (ints b)] [] (.d (.bool (shareB a b))) [] := by
  (refine spec_of (by kernel_rfl) Try.func107 k_impl_shareLabel (fnOk (Nat.le_of_ble_eq_true rfl) ?_); unfold C_impl_shareLabel)
  (simp only [Nat.reduceSub, List.length_cons, List.length_nil, Nat.reduceAdd, ch_init1, ch_init2, ch_init3, ch_init4, ch_init5, ch_init6, ch_init7, ch_init8]; try simp only [ch_rep]); (simp only [go_sem, seval, reduceCtorEq, List.replicate])
  have hI0 : ∀ x ∈ a.take 0, x ∉ b := fun x hx => by simp at hx
  refine wpN_lpI (a.length) [false, false, false, false, true, false, true, false, false, false, true, true, true, true, true, true, true] (fun k => ∀ x ∈ a.take k, x ∉ b) (fun k => [(9, .d (.int k))]) (fun k => []) (fun _ => by (simp only [go_sem, seval, reduceCtorEq, dropF_ch, dropF_cons, dropF_nil, cut, cond_true, cond_false]); first | done | rfl) (fun _ => by (simp only [go_sem, seval, reduceCtorEq, cut]); first | done | rfl) (hI0) (Nat.le_of_ble_eq_true rfl) (by first | (simp only [go_sem, seval, reduceCtorEq, dropF_ch, dropF_cons, dropF_nil, cut, cond_true, cond_false, Int.natCast_zero, Int.natCast_add, Int.natCast_one]; done) | rfl | (simp only [go_sem, seval, reduceCtorEq, dropF_ch, dropF_cons, dropF_nil, cut, cond_true, cond_false, Int.natCast_zero, Int.natCast_add, Int.natCast_one]; rfl)) (by first | (simp only [go_sem, seval, reduceCtorEq, dropF_ch, dropF_cons, dropF_nil, cut, cond_true, cond_false, Int.natCast_zero, Int.natCast_add, Int.natCast_one]; done) | rfl | (simp only [go_sem, seval, reduceCtorEq, dropF_ch, dropF_cons, dropF_nil, cut, cond_true, cond_false, Int.natCast_zero, Int.natCast_add, Int.natCast_one]; rfl)) fun k hk hi => ?_
  unfold L0_impl_shareLabel
  by_cases hlt : k < a.length
  · have d1 : (k : Int) < a.length := by omega
    have g : a[k]? = some a[k] := List.getElem?_eq_getElem hlt
    simp (disch := omega) only [go_sem, seval, reduceCtorEq, d1, g]
    (refine ti_call (hasInt_d (xs := b) (x := a[k]) (by omega)) ?_ ?_ ?_; (focus (simp only [go_sem, seval, reduceCtorEq]; done)); (first | rfl | (focus (simp only [go_sem]; done))))
    cases hm : has b a[k]
    · have hI : ∀ x ∈ a.take (k + 1), x ∉ b := fun x hx => by
        rw [take_ss hlt] at hx
        rcases List.mem_append.1 hx with hx | hx
        · exact hi x hx
        · simp only [List.mem_singleton] at hx; subst hx; exact has_false.1 hm
      simp (disch := omega) only [go_sem, seval, reduceCtorEq, hm]
      (refine NextI.drop [false, false, false, false, true, false, true, false, false, false, true, true, true, true, true, true, true] (by omega) (hI) (Nat.le_of_ble_eq_true rfl) ?_ ?_ <;> first | (simp only [go_sem, seval, reduceCtorEq, dropF_ch, dropF_cons, dropF_nil, cut, cond_true, cond_false, Int.natCast_zero, Int.natCast_add, Int.natCast_one]; done) | rfl | (simp only [go_sem, seval, reduceCtorEq, dropF_ch, dropF_cons, dropF_nil, cut, cond_true, cond_false, Int.natCast_zero, Int.natCast_add, Int.natCast_one]; rfl) | skip)
    · have e := shareB_yes hlt (has_true.1 hm)
      simp (disch := omega) only [go_sem, seval, reduceCtorEq, hm, e]
      (refine FnEnd.mk (Nat.le_of_ble_eq_true rfl) rfl (of_decide_eq_true rfl) ?_ ?_ <;> try simp only [go_sem, seval, reduceCtorEq])
  · have d1 : ¬ (k : Int) < a.length := by omega
    have e := shareB_no (a := a) (b := b) (by rw [List.take_of_length_le (by omega)] at hi; exact hi)
    simp (disch := omega) only [go_sem, seval, reduceCtorEq, d1, e]
    (refine FnEnd.mk (Nat.le_of_ble_eq_true rfl) rfl (of_decide_eq_true rfl) ?_ ?_ <;> try simp only [go_sem, seval, reduceCtorEq])
theorem l13Meet_d {t u : Ten} (ha : t.labels.length ≤ 1048576) (hb : u.labels.length ≤ 1048576) : Does Try.prog 106 [tenA t, tenA u] [] (.d (.bool (shareB t.labels u.labels))) [] := by
  (refine spec_of (by kernel_rfl) Try.func106 k_spec_l13Meet (fnOk (Nat.le_of_ble_eq_true rfl) ?_); unfold C_spec_l13Meet)
  (simp only [Nat.reduceSub, List.length_cons, List.length_nil, Nat.reduceAdd, ch_init1, ch_init2, ch_init3, ch_init4, ch_init5, ch_init6, ch_init7, ch_init8]; try simp only [ch_rep]); (simp only [go_sem, seval, reduceCtorEq, List.replicate])
  have hI0 : ∀ x ∈ t.labels.take 0, x ∉ u.labels := fun x hx => by simp at hx
  refine wpN_lpI (t.labels.length) [false, false, false, false, true, false, true, false, false, false, false, true, true, true, true, true, true, true, true, true] (fun k => ∀ x ∈ t.labels.take k, x ∉ u.labels) (fun k => [(10, .d (.int k))]) (fun k => []) (fun _ => by (simp only [go_sem, seval, reduceCtorEq, dropF_ch, dropF_cons, dropF_nil, cut, cond_true, cond_false]); first | done | rfl) (fun _ => by (simp only [go_sem, seval, reduceCtorEq, cut]); first | done | rfl) (hI0) (Nat.le_of_ble_eq_true rfl) (by first | (simp only [go_sem, seval, reduceCtorEq, dropF_ch, dropF_cons, dropF_nil, cut, cond_true, cond_false, Int.natCast_zero, Int.natCast_add, Int.natCast_one]; done) | rfl | (simp only [go_sem, seval, reduceCtorEq, dropF_ch, dropF_cons, dropF_nil, cut, cond_true, cond_false, Int.natCast_zero, Int.natCast_add, Int.natCast_one]; rfl)) (by first | (simp only [go_sem, seval, reduceCtorEq, dropF_ch, dropF_cons, dropF_nil, cut, cond_true, cond_false, Int.natCast_zero, Int.natCast_add, Int.natCast_one]; done) | rfl | (simp only [go_sem, seval, reduceCtorEq, dropF_ch, dropF_cons, dropF_nil, cut, cond_true, cond_false, Int.natCast_zero, Int.natCast_add, Int.natCast_one]; rfl)) fun k hk hi => ?_
  unfold L0_spec_l13Meet
  by_cases hlt : k < t.labels.length
  · have d1 : (k : Int) < t.labels.length := by omega
    have g : t.labels[k]? = some t.labels[k] := List.getElem?_eq_getElem hlt
    simp (disch := omega) only [go_sem, seval, reduceCtorEq, d1, g]
    (refine ti_call (l05Find_d (xs := u.labels) (x := t.labels[k]) (by omega)) ?_ ?_ ?_; (focus (simp only [go_sem, seval, reduceCtorEq]; done)); (first | rfl | (focus (simp only [go_sem]; done))))
    by_cases hm : t.labels[k] ∈ u.labels
    · have e := shareB_yes hlt hm
      have c : place u.labels t.labels[k] ≥ 0 := by
        have h0 : ¬ place u.labels t.labels[k] < 0 := fun e => place_neg.1 e hm
        omega
      simp (disch := omega) only [go_sem, seval, reduceCtorEq, c, e]
      (refine FnEnd.mk (Nat.le_of_ble_eq_true rfl) rfl (of_decide_eq_true rfl) ?_ ?_ <;> try simp only [go_sem, seval, reduceCtorEq])
    · have c : ¬ place u.labels t.labels[k] ≥ 0 := by have := place_neg.2 hm; omega
      have hI : ∀ x ∈ t.labels.take (k + 1), x ∉ u.labels := fun x hx => by
        rw [take_ss hlt] at hx
        rcases List.mem_append.1 hx with hx | hx
        · exact hi x hx
        · simp only [List.mem_singleton] at hx; subst hx; exact hm
      simp (disch := omega) only [go_sem, seval, reduceCtorEq, c]
      (refine NextI.drop [false, false, false, false, true, false, true, false, false, false, false, true, true, true, true, true, true, true, true, true] (by omega) (hI) (Nat.le_of_ble_eq_true rfl) ?_ ?_ <;> first | (simp only [go_sem, seval, reduceCtorEq, dropF_ch, dropF_cons, dropF_nil, cut, cond_true, cond_false, Int.natCast_zero, Int.natCast_add, Int.natCast_one]; done) | rfl | (simp only [go_sem, seval, reduceCtorEq, dropF_ch, dropF_cons, dropF_nil, cut, cond_true, cond_false, Int.natCast_zero, Int.natCast_add, Int.natCast_one]; rfl) | skip)
  · have d1 : ¬ (k : Int) < t.labels.length := by omega
    have e := shareB_no (a := t.labels) (b := u.labels) (by rw [List.take_of_length_le (by omega)] at hi; exact hi)
    simp (disch := omega) only [go_sem, seval, reduceCtorEq, d1, e]
    (refine FnEnd.mk (Nat.le_of_ble_eq_true rfl) rfl (of_decide_eq_true rfl) ?_ ?_ <;> try simp only [go_sem, seval, reduceCtorEq])

def tget (ts : List Ten) (i : Nat) : Ten := ts.getD i ⟨[], [], []⟩
theorem tget_at {ts : List Ten} {i : Nat} (h : i < ts.length) : tget ts i = ts[i] := by simp [tget, h]
/-! ### Closed labels -/
end Go.Proofs.Ytjoopfojiiklnaa
