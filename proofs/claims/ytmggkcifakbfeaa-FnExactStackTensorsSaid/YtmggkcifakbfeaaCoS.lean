/-
  Contracts: the same labels in any order. No condition.
-/
import Derived.Test.YtmggkcifakbfeaaCoB
import Derived.Test.YtmggkcifakbfeaaPlA
namespace Go.Proofs.Ytmggkcifakbfeaa
open Go.RowKit Go.Lift Plain
set_option linter.unusedSimpArgs false
set_option linter.unusedVariables false
set_option maxRecDepth 100000

def sameB (ls L : List Int) : Bool := decide (L.length = ls.length ∧ ∀ k (hk : k < L.length), L[k] ∈ ls ∧ L[k] ∉ L.take k)
theorem sameB_no {ls L : List Int} (k : Nat) (hk : k < L.length) (h : ¬ (L[k] ∈ ls ∧ L[k] ∉ L.take k)) : sameB ls L = false := decide_eq_false fun e => h (e.2 k hk)
theorem sameLabels_d {ls L : List Int} (h1 : ls.length ≤ 1099511627776) (h2 : L.length ≤ 1099511627776) : Does Try.prog 46 [.d (ints ls), .d (ints L)] [] (.d (.bool (sameB ls L))) [] := by
  (refine spec_of (by kernel_rfl) Try.func46 k_impl_sameLabels (fnOk (Nat.le_of_ble_eq_true rfl) ?_); unfold C_impl_sameLabels)
  (simp only [Nat.reduceSub, List.length_cons, List.length_nil, Nat.reduceAdd, ch_init1, ch_init2, ch_init3, ch_init4, ch_init5, ch_init6, ch_init7, ch_init8]; try simp only [ch_rep]); (simp only [go_sem, seval, reduceCtorEq, List.replicate])
  by_cases hl : L.length = ls.length
  rotate_left
  · have c : ((L.length : Int) != ls.length) = true := by simp; omega
    have e : sameB ls L = false := decide_eq_false fun x => hl x.1
    simp (disch := omega) only [go_sem, seval, reduceCtorEq, c, e]
    (refine FnEnd.mk (Nat.le_of_ble_eq_true rfl) rfl (of_decide_eq_true rfl) ?_ ?_ <;> try simp only [go_sem, seval, reduceCtorEq])
  have c : ((L.length : Int) != ls.length) = false := by simp [hl]
  simp (disch := omega) only [go_sem, seval, reduceCtorEq, c]
  refine wpN_lpI (L.length) [false, false, false, false, true, true, true, false, false, false, false, false, false, false, false, true, true, true, true, true, true, true, true, true, true, true, true, true, true, true, true] (fun k => ∀ j (hj : j < L.length), j < k → L[j] ∈ ls ∧ L[j] ∉ L.take j) (fun k => [(14, .d (.int k))]) (fun k => []) (fun _ => by (simp only [go_sem, seval, reduceCtorEq, dropF_ch, dropF_cons, dropF_nil, cut, cond_true, cond_false]); first | done | rfl) (fun _ => by (simp only [go_sem, seval, reduceCtorEq, cut]); first | done | rfl) (fun j _ hj => absurd hj (Nat.not_lt_zero j)) (Nat.le_of_ble_eq_true rfl) (by first | (simp only [go_sem, seval, reduceCtorEq, dropF_ch, dropF_cons, dropF_nil, cut, cond_true, cond_false, Int.natCast_zero, Int.natCast_add, Int.natCast_one]; done) | rfl | (simp only [go_sem, seval, reduceCtorEq, dropF_ch, dropF_cons, dropF_nil, cut, cond_true, cond_false, Int.natCast_zero, Int.natCast_add, Int.natCast_one]; rfl)) (by first | (simp only [go_sem, seval, reduceCtorEq, dropF_ch, dropF_cons, dropF_nil, cut, cond_true, cond_false, Int.natCast_zero, Int.natCast_add, Int.natCast_one]; done) | rfl | (simp only [go_sem, seval, reduceCtorEq, dropF_ch, dropF_cons, dropF_nil, cut, cond_true, cond_false, Int.natCast_zero, Int.natCast_add, Int.natCast_one]; rfl)) fun k hk hi => ?_
  unfold L0_impl_sameLabels
  by_cases hlt : k < L.length
  · have c1 : (k : Int) < L.length := by omega
    have g : L[k]? = some L[k] := List.getElem?_eq_getElem hlt
    have hlk : (L.take k).length = k := by simp; omega
    have c2 : (k : Int) ≤ L.length := by omega
    simp (disch := omega) only [go_sem, seval, reduceCtorEq, c1, c2, g]
    simp only [true_or, Int.sub_zero, Int.toNat_natCast, go_sem, seval, reduceCtorEq]
    (refine ti_call (hasInt_d (xs := L.take k) (x := L[k]) (by omega)) ?_ ?_ ?_; (focus (simp only [go_sem, seval, reduceCtorEq, hlk]; done)); (first | rfl | (focus (simp only [go_sem]; done))))
    cases hh : has (L.take k) L[k]
    · simp only [go_sem, seval, reduceCtorEq, hh]
      (refine ti_call (hasInt_d (xs := ls) (x := L[k]) (by omega)) ?_ ?_ ?_; (focus (simp only [go_sem, seval, reduceCtorEq]; done)); (first | rfl | (focus (simp only [go_sem]; done))))
      cases hm : has ls L[k]
      · have e := sameB_no (ls := ls) k hlt (fun x => by rw [has_true.2 x.1] at hm; cases hm)
        simp only [go_sem, seval, reduceCtorEq, hm, e]
        (refine FnEnd.mk (Nat.le_of_ble_eq_true rfl) rfl (of_decide_eq_true rfl) ?_ ?_ <;> try simp only [go_sem, seval, reduceCtorEq])
      · simp (disch := omega) only [go_sem, seval, reduceCtorEq, hm]
        have hI : ∀ j (hj : j < L.length), j < k + 1 → L[j] ∈ ls ∧ L[j] ∉ L.take j := fun j hj hjk => by
          by_cases e : j = k
          · subst e; exact ⟨has_true.1 hm, has_false.1 hh⟩
          · exact hi j hj (by omega)
        (refine NextI.drop [false, false, false, false, true, true, true, false, false, false, false, false, false, false, false, true, true, true, true, true, true, true, true, true, true, true, true, true, true, true, true] (by omega) (hI) (Nat.le_of_ble_eq_true rfl) ?_ ?_ <;> first | (simp only [go_sem, seval, reduceCtorEq, dropF_ch, dropF_cons, dropF_nil, cut, cond_true, cond_false, Int.natCast_zero, Int.natCast_add, Int.natCast_one]; done) | rfl | (simp only [go_sem, seval, reduceCtorEq, dropF_ch, dropF_cons, dropF_nil, cut, cond_true, cond_false, Int.natCast_zero, Int.natCast_add, Int.natCast_one]; rfl) | skip)
    · have e := sameB_no (ls := ls) k hlt (fun x => by rw [has_false.2 x.2] at hh; cases hh)
      simp only [go_sem, seval, reduceCtorEq, hh, e]
      (refine FnEnd.mk (Nat.le_of_ble_eq_true rfl) rfl (of_decide_eq_true rfl) ?_ ?_ <;> try simp only [go_sem, seval, reduceCtorEq])
  · have c1 : ¬ (k : Int) < L.length := by omega
    have e : sameB ls L = true := decide_eq_true ⟨hl, fun j hj => hi j hj (by omega)⟩
    simp (disch := omega) only [go_sem, seval, reduceCtorEq, c1, e]
    (refine FnEnd.mk (Nat.le_of_ble_eq_true rfl) rfl (of_decide_eq_true rfl) ?_ ?_ <;> try simp only [go_sem, seval, reduceCtorEq])
theorem l06Set_d {ls L : List Int} (h1 : ls.length ≤ 1099511627776) (h2 : L.length ≤ 1099511627776) : Does Try.prog 38 [.d (ints ls), .d (ints L)] [] (.d (.bool (sameB ls L))) [] := by
  (refine spec_of (by kernel_rfl) Try.func38 k_spec_l06Set (fnOk (Nat.le_of_ble_eq_true rfl) ?_); unfold C_spec_l06Set)
  (simp only [Nat.reduceSub, List.length_cons, List.length_nil, Nat.reduceAdd, ch_init1, ch_init2, ch_init3, ch_init4, ch_init5, ch_init6, ch_init7, ch_init8]; try simp only [ch_rep]); (simp only [go_sem, seval, reduceCtorEq, List.replicate])
  refine wpN_lpI (L.length) [false, false, false, false, true, true, true, false, false, false, true, true, true, true, true, true, true, true, true, true, true, true, true, true, true, true, true, false, false, false, false, false] (fun k => ∀ j (hj : j < L.length), j < k → L[j] ∈ ls ∧ L[j] ∉ L.take j) (fun k => [(9, .d (.int k))]) (fun k => []) (fun _ => by (simp only [go_sem, seval, reduceCtorEq, dropF_ch, dropF_cons, dropF_nil, cut, cond_true, cond_false]); first | done | rfl) (fun _ => by (simp only [go_sem, seval, reduceCtorEq, cut]); first | done | rfl) (fun j _ hj => absurd hj (Nat.not_lt_zero j)) (Nat.le_of_ble_eq_true rfl) (by first | (simp only [go_sem, seval, reduceCtorEq, dropF_ch, dropF_cons, dropF_nil, cut, cond_true, cond_false, Int.natCast_zero, Int.natCast_add, Int.natCast_one]; done) | rfl | (simp only [go_sem, seval, reduceCtorEq, dropF_ch, dropF_cons, dropF_nil, cut, cond_true, cond_false, Int.natCast_zero, Int.natCast_add, Int.natCast_one]; rfl)) (by first | (simp only [go_sem, seval, reduceCtorEq, dropF_ch, dropF_cons, dropF_nil, cut, cond_true, cond_false, Int.natCast_zero, Int.natCast_add, Int.natCast_one]; done) | rfl | (simp only [go_sem, seval, reduceCtorEq, dropF_ch, dropF_cons, dropF_nil, cut, cond_true, cond_false, Int.natCast_zero, Int.natCast_add, Int.natCast_one]; rfl)) fun k hk hi => ?_
  unfold L0_spec_l06Set
  by_cases hlt : k < L.length
  · have c1 : (k : Int) < L.length := by omega
    have g : L[k]? = some L[k] := List.getElem?_eq_getElem hlt
    have hlk : (L.take k).length = k := by simp; omega
    have c2 : (k : Int) ≤ L.length := by omega
    simp (disch := omega) only [go_sem, seval, reduceCtorEq, c1, c2, g]
    (refine ti_call (l05Find_d (xs := ls) (x := L[k]) (by omega)) ?_ ?_ ?_; (focus (simp only [go_sem, seval, reduceCtorEq]; done)); (first | rfl | (focus (simp only [go_sem]; done))))
    by_cases hm : L[k] ∈ ls
    · obtain ⟨i, hi1, hi2, _, _⟩ := place_mem hm
      have c3 : ¬ (i : Int) < 0 := by omega
      simp (disch := omega) only [go_sem, seval, reduceCtorEq, hi2, c3, c2]
      simp only [true_or, Int.sub_zero, Int.toNat_natCast, go_sem, seval, reduceCtorEq]
      (refine ti_call (l05Find_d (xs := L.take k) (x := L[k]) (by omega)) ?_ ?_ ?_; (focus (simp only [go_sem, seval, reduceCtorEq, hlk]; done)); (first | rfl | (focus (simp only [go_sem]; done))))
      by_cases hh : L[k] ∈ L.take k
      · obtain ⟨q, hq1, hq2, _, _⟩ := place_mem hh
        have c4 : (q : Int) ≥ 0 := by omega
        have e := sameB_no (ls := ls) k hlt (fun x => x.2 hh)
        simp only [go_sem, seval, reduceCtorEq, hq2, c4, e]
        (refine FnEnd.mk (Nat.le_of_ble_eq_true rfl) rfl (of_decide_eq_true rfl) ?_ ?_ <;> try simp only [go_sem, seval, reduceCtorEq])
      · have hq2 := place_no hh
        simp (disch := omega) only [go_sem, seval, reduceCtorEq, hq2]
        have hI : ∀ j (hj : j < L.length), j < k + 1 → L[j] ∈ ls ∧ L[j] ∉ L.take j := fun j hj hjk => by
          by_cases e : j = k
          · subst e; exact ⟨hm, hh⟩
          · exact hi j hj (by omega)
        (refine NextI.drop [false, false, false, false, true, true, true, false, false, false, true, true, true, true, true, true, true, true, true, true, true, true, true, true, true, true, true, false, false, false, false, false] (by omega) (hI) (Nat.le_of_ble_eq_true rfl) ?_ ?_ <;> first | (simp only [go_sem, seval, reduceCtorEq, dropF_ch, dropF_cons, dropF_nil, cut, cond_true, cond_false, Int.natCast_zero, Int.natCast_add, Int.natCast_one]; done) | rfl | (simp only [go_sem, seval, reduceCtorEq, dropF_ch, dropF_cons, dropF_nil, cut, cond_true, cond_false, Int.natCast_zero, Int.natCast_add, Int.natCast_one]; rfl) | skip)
    · have hi2 := place_no hm
      have e := sameB_no (ls := ls) k hlt (fun x => hm x.1)
      simp only [go_sem, seval, reduceCtorEq, hi2, e]
      (refine FnEnd.mk (Nat.le_of_ble_eq_true rfl) rfl (of_decide_eq_true rfl) ?_ ?_ <;> try simp only [go_sem, seval, reduceCtorEq])
  · have c1 : ¬ (k : Int) < L.length := by omega
    simp (disch := omega) only [go_sem, seval, reduceCtorEq, c1]
    (refine FnEnd.mk (Nat.le_of_ble_eq_true rfl) rfl (of_decide_eq_true rfl) ?_ ?_ <;> try simp only [go_sem, seval, reduceCtorEq])
    congr 2
    simp only [sameB]
    by_cases hl : L.length = ls.length
    · rw [decide_eq_true (show L.length = ls.length ∧ _ from ⟨hl, fun j hj => hi j hj (by omega)⟩)]
      simp [hl]
    · rw [decide_eq_false (fun e => hl e.1)]
      simp; omega

end Go.Proofs.Ytmggkcifakbfeaa
