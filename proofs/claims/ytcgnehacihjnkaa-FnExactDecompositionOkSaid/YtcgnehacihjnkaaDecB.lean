/-
  Contracts: valid decompositions. No condition.
-/
import Derived.Test.YtcgnehacihjnkaaDecA
namespace Go.Proofs.Ytcgnehacihjnkaa
open Go.RowKit Go.Lift Plain
set_option linter.unusedSimpArgs false
set_option linter.unusedVariables false
set_option maxRecDepth 100000

theorem place_neg {xs : List Int} {x : Int} (h : x ∉ xs) : place xs x < 0 := by rw [place_no h]; omega
theorem place_nn {xs : List Int} {x : Int} (h : x ∈ xs) : ¬ place xs x < 0 := by
  obtain ⟨k, _, e, _⟩ := place_mem h
  omega
theorem allL_no {a b : List Int} {k : Nat} (hk : k < a.length) (h : a[k] ∉ b) : allL a b = false := decide_eq_false fun hh => h (hh _ (List.getElem_mem hk))
theorem allL_next {a b : List Int} {k : Nat} (hk : k < a.length) (h : a[k] ∈ b) (hi : ∀ x ∈ a.take k, x ∈ b) : ∀ x ∈ a.take (k + 1), x ∈ b := fun x hx => by
  rw [take_ss hk] at hx
  rcases List.mem_append.1 hx with hx | hx
  · exact hi x hx
  · simp only [List.mem_singleton] at hx
    subst hx
    exact h
theorem l22Within_d {a b : List Int} (ha : a.length ≤ 1048576) (hb : b.length ≤ 1048576) : Does Try.prog 97 [.d (ints a), .d (ints b)] [] (.d (.bool (allL a b))) [] := by
  (refine spec_of (by kernel_rfl) Try.func97 k_spec_l22Within (fnOk (Nat.le_of_ble_eq_true rfl) ?_); unfold C_spec_l22Within)
  (simp only [Nat.reduceSub, List.length_cons, List.length_nil, Nat.reduceAdd, ch_init1, ch_init2, ch_init3, ch_init4, ch_init5, ch_init6, ch_init7, ch_init8]; try simp only [ch_rep]); (simp only [go_sem, seval, reduceCtorEq, List.replicate])
  have hI0 : ∀ x ∈ a.take 0, x ∈ b := fun x hx => by simp at hx
  refine wpN_lpI (a.length) [false, false, false, false, true, false, true, false, false, false, true, true, true, true, true, true, true, true] (fun k => ∀ x ∈ a.take k, x ∈ b) (fun k => [(9, .d (.int k))]) (fun k => []) (fun _ => by (simp only [go_sem, seval, reduceCtorEq, dropF_ch, dropF_cons, dropF_nil, cut, cond_true, cond_false]); first | done | rfl) (fun _ => by (simp only [go_sem, seval, reduceCtorEq, cut]); first | done | rfl) (hI0) (Nat.le_of_ble_eq_true rfl) (by first | (simp only [go_sem, seval, reduceCtorEq, dropF_ch, dropF_cons, dropF_nil, cut, cond_true, cond_false, Int.natCast_zero, Int.natCast_add, Int.natCast_one]; done) | rfl | (simp only [go_sem, seval, reduceCtorEq, dropF_ch, dropF_cons, dropF_nil, cut, cond_true, cond_false, Int.natCast_zero, Int.natCast_add, Int.natCast_one]; rfl)) (by first | (simp only [go_sem, seval, reduceCtorEq, dropF_ch, dropF_cons, dropF_nil, cut, cond_true, cond_false, Int.natCast_zero, Int.natCast_add, Int.natCast_one]; done) | rfl | (simp only [go_sem, seval, reduceCtorEq, dropF_ch, dropF_cons, dropF_nil, cut, cond_true, cond_false, Int.natCast_zero, Int.natCast_add, Int.natCast_one]; rfl)) fun k hk hi => ?_
  unfold L0_spec_l22Within
  by_cases hlt : k < a.length
  · have d1 : (k : Int) < a.length := by omega
    have g : a[k]? = some a[k] := List.getElem?_eq_getElem hlt
    simp (disch := omega) only [go_sem, seval, reduceCtorEq, d1, g]
    (refine ti_call (l05Find_d (xs := b) (x := a[k]) (by omega)) ?_ ?_ ?_; (focus (simp only [go_sem, seval, reduceCtorEq]; done)); (first | rfl | (focus (simp only [go_sem]; done))))
    by_cases hm : a[k] ∈ b
    · have d2 := place_nn hm
      have hI := allL_next hlt hm hi
      simp (disch := omega) only [go_sem, seval, reduceCtorEq, d2]
      (refine NextI.drop [false, false, false, false, true, false, true, false, false, false, true, true, true, true, true, true, true, true] (by omega) (hI) (Nat.le_of_ble_eq_true rfl) ?_ ?_ <;> first | (simp only [go_sem, seval, reduceCtorEq, dropF_ch, dropF_cons, dropF_nil, cut, cond_true, cond_false, Int.natCast_zero, Int.natCast_add, Int.natCast_one]; done) | rfl | (simp only [go_sem, seval, reduceCtorEq, dropF_ch, dropF_cons, dropF_nil, cut, cond_true, cond_false, Int.natCast_zero, Int.natCast_add, Int.natCast_one]; rfl) | skip)
    · have d2 := place_neg hm
      have e := allL_no hlt hm
      simp (disch := omega) only [go_sem, seval, reduceCtorEq, d2, e]
      (refine FnEnd.mk (Nat.le_of_ble_eq_true rfl) rfl (of_decide_eq_true rfl) ?_ ?_ <;> try simp only [go_sem, seval, reduceCtorEq])
  · have d1 : ¬ (k : Int) < a.length := by omega
    rw [List.take_of_length_le (by omega)] at hi
    have e : allL a b = true := decide_eq_true hi
    simp (disch := omega) only [go_sem, seval, reduceCtorEq, d1, e]
    (refine FnEnd.mk (Nat.le_of_ble_eq_true rfl) rfl (of_decide_eq_true rfl) ?_ ?_ <;> try simp only [go_sem, seval, reduceCtorEq])
theorem allIn_d {a b : List Int} (ha : a.length ≤ 1048576) (hb : b.length ≤ 1048576) : Does Try.prog 100 [.d (ints a), .d (ints b)] [] (.d (.bool (allL a b))) [] := by
  (refine spec_of (by kernel_rfl) Try.func100 k_impl_allIn (fnOk (Nat.le_of_ble_eq_true rfl) ?_); unfold C_impl_allIn)
  (simp only [Nat.reduceSub, List.length_cons, List.length_nil, Nat.reduceAdd, ch_init1, ch_init2, ch_init3, ch_init4, ch_init5, ch_init6, ch_init7, ch_init8]; try simp only [ch_rep]); (simp only [go_sem, seval, reduceCtorEq, List.replicate])
  have hI0 : ∀ x ∈ a.take 0, x ∈ b := fun x hx => by simp at hx
  refine wpN_lpI (a.length) [false, false, false, false, true, false, true, false, false, false, true, true, true, true, true, true, true, true] (fun k => ∀ x ∈ a.take k, x ∈ b) (fun k => [(9, .d (.int k))]) (fun k => []) (fun _ => by (simp only [go_sem, seval, reduceCtorEq, dropF_ch, dropF_cons, dropF_nil, cut, cond_true, cond_false]); first | done | rfl) (fun _ => by (simp only [go_sem, seval, reduceCtorEq, cut]); first | done | rfl) (hI0) (Nat.le_of_ble_eq_true rfl) (by first | (simp only [go_sem, seval, reduceCtorEq, dropF_ch, dropF_cons, dropF_nil, cut, cond_true, cond_false, Int.natCast_zero, Int.natCast_add, Int.natCast_one]; done) | rfl | (simp only [go_sem, seval, reduceCtorEq, dropF_ch, dropF_cons, dropF_nil, cut, cond_true, cond_false, Int.natCast_zero, Int.natCast_add, Int.natCast_one]; rfl)) (by first | (simp only [go_sem, seval, reduceCtorEq, dropF_ch, dropF_cons, dropF_nil, cut, cond_true, cond_false, Int.natCast_zero, Int.natCast_add, Int.natCast_one]; done) | rfl | (simp only [go_sem, seval, reduceCtorEq, dropF_ch, dropF_cons, dropF_nil, cut, cond_true, cond_false, Int.natCast_zero, Int.natCast_add, Int.natCast_one]; rfl)) fun k hk hi => ?_
  unfold L0_impl_allIn
  by_cases hlt : k < a.length
  · have d1 : (k : Int) < a.length := by omega
    have g : a[k]? = some a[k] := List.getElem?_eq_getElem hlt
    simp (disch := omega) only [go_sem, seval, reduceCtorEq, d1, g]
    (refine ti_call (hasInt_d (xs := b) (x := a[k]) (by omega)) ?_ ?_ ?_; (focus (simp only [go_sem, seval, reduceCtorEq]; done)); (first | rfl | (focus (simp only [go_sem]; done))))
    cases hh : has b a[k]
    · have e := allL_no hlt (has_false.1 hh)
      simp (disch := omega) only [go_sem, seval, reduceCtorEq, hh, e]
      (refine FnEnd.mk (Nat.le_of_ble_eq_true rfl) rfl (of_decide_eq_true rfl) ?_ ?_ <;> try simp only [go_sem, seval, reduceCtorEq])
    · have hI := allL_next hlt (has_true.1 hh) hi
      simp (disch := omega) only [go_sem, seval, reduceCtorEq, hh]
      (refine NextI.drop [false, false, false, false, true, false, true, false, false, false, true, true, true, true, true, true, true, true] (by omega) (hI) (Nat.le_of_ble_eq_true rfl) ?_ ?_ <;> first | (simp only [go_sem, seval, reduceCtorEq, dropF_ch, dropF_cons, dropF_nil, cut, cond_true, cond_false, Int.natCast_zero, Int.natCast_add, Int.natCast_one]; done) | rfl | (simp only [go_sem, seval, reduceCtorEq, dropF_ch, dropF_cons, dropF_nil, cut, cond_true, cond_false, Int.natCast_zero, Int.natCast_add, Int.natCast_one]; rfl) | skip)
  · have d1 : ¬ (k : Int) < a.length := by omega
    rw [List.take_of_length_le (by omega)] at hi
    have e : allL a b = true := decide_eq_true hi
    simp (disch := omega) only [go_sem, seval, reduceCtorEq, d1, e]
    (refine FnEnd.mk (Nat.le_of_ble_eq_true rfl) rfl (of_decide_eq_true rfl) ?_ ?_ <;> try simp only [go_sem, seval, reduceCtorEq])
theorem home_next {B : List (List Int)} {l : List Int} {k : Nat} (hk : k < B.length) (h : allL l B[k] = false) (hi : ∀ j (hj : j < B.length), j < k → allL l B[j] = false) : ∀ j (hj : j < B.length), j < k + 1 → allL l B[j] = false := fun j hj hjk => by
  by_cases e : j = k
  · subst e; exact h
  · exact hi j hj (by omega)
theorem homeBag_d {B : List (List Int)} {P l : List Int} (h : DSz 1048576 B P) (hl : l.length ≤ 1048576) : Does Try.prog 101 [decA B P, .d (ints l)] [] (.d (.int (homeI B l))) [] := by
  have hbl := h.b
  (refine spec_of (by kernel_rfl) Try.func101 k_impl_homeBag (fnOk (Nat.le_of_ble_eq_true rfl) ?_); unfold C_impl_homeBag)
  (simp only [Nat.reduceSub, List.length_cons, List.length_nil, Nat.reduceAdd, ch_init1, ch_init2, ch_init3, ch_init4, ch_init5, ch_init6, ch_init7, ch_init8]; try simp only [ch_rep]); (simp only [go_sem, seval, reduceCtorEq, List.replicate])
  have hI0 : ∀ j (hj : j < B.length), j < 0 → allL l B[j] = false := fun j _ hj => absurd hj (Nat.not_lt_zero j)
  refine wpN_lpI (B.length) [false, false, false, false, true, true, true, false, false, false, false, true, true, true, true, true, true, true, true, true] (fun k => ∀ j (hj : j < B.length), j < k → allL l B[j] = false) (fun k => [(10, .d (.int k))]) (fun k => []) (fun _ => by (simp only [go_sem, seval, reduceCtorEq, dropF_ch, dropF_cons, dropF_nil, cut, cond_true, cond_false]); first | done | rfl) (fun _ => by (simp only [go_sem, seval, reduceCtorEq, cut]); first | done | rfl) (hI0) (Nat.le_of_ble_eq_true rfl) (by first | (simp only [go_sem, seval, reduceCtorEq, dropF_ch, dropF_cons, dropF_nil, cut, cond_true, cond_false, Int.natCast_zero, Int.natCast_add, Int.natCast_one]; done) | rfl | (simp only [go_sem, seval, reduceCtorEq, dropF_ch, dropF_cons, dropF_nil, cut, cond_true, cond_false, Int.natCast_zero, Int.natCast_add, Int.natCast_one]; rfl)) (by first | (simp only [go_sem, seval, reduceCtorEq, dropF_ch, dropF_cons, dropF_nil, cut, cond_true, cond_false, Int.natCast_zero, Int.natCast_add, Int.natCast_one]; done) | rfl | (simp only [go_sem, seval, reduceCtorEq, dropF_ch, dropF_cons, dropF_nil, cut, cond_true, cond_false, Int.natCast_zero, Int.natCast_add, Int.natCast_one]; rfl)) fun k hk hi => ?_
  unfold L0_impl_homeBag
  by_cases hlt : k < B.length
  · have d1 : (k : Int) < B.length := by omega
    have g : B[k]? = some B[k] := List.getElem?_eq_getElem hlt
    have hs := (h.e B[k] (List.getElem_mem hlt)).len
    simp (disch := omega) only [go_sem, seval, reduceCtorEq, d1, g]
    (refine ti_call (allIn_d (a := l) (b := B[k]) hl hs) ?_ ?_ ?_; (focus (simp only [go_sem, seval, reduceCtorEq]; done)); (first | rfl | (focus (simp only [go_sem]; done))))
    cases hh : allL l B[k]
    · have hI := home_next hlt hh hi
      simp (disch := omega) only [go_sem, seval, reduceCtorEq, hh]
      (refine NextI.drop [false, false, false, false, true, true, true, false, false, false, false, true, true, true, true, true, true, true, true, true] (by omega) (hI) (Nat.le_of_ble_eq_true rfl) ?_ ?_ <;> first | (simp only [go_sem, seval, reduceCtorEq, dropF_ch, dropF_cons, dropF_nil, cut, cond_true, cond_false, Int.natCast_zero, Int.natCast_add, Int.natCast_one]; done) | rfl | (simp only [go_sem, seval, reduceCtorEq, dropF_ch, dropF_cons, dropF_nil, cut, cond_true, cond_false, Int.natCast_zero, Int.natCast_add, Int.natCast_one]; rfl) | skip)
    · have e := homeI_hit hlt hh hi
      simp (disch := omega) only [go_sem, seval, reduceCtorEq, hh, e]
      (refine FnEnd.mk (Nat.le_of_ble_eq_true rfl) rfl (of_decide_eq_true rfl) ?_ ?_ <;> try simp only [go_sem, seval, reduceCtorEq])
  · have d1 : ¬ (k : Int) < B.length := by omega
    have e := homeI_none (B := B) (l := l) fun j hj => hi j hj (by omega)
    simp (disch := omega) only [go_sem, seval, reduceCtorEq, d1, e]
    (refine FnEnd.mk (Nat.le_of_ble_eq_true rfl) rfl (of_decide_eq_true rfl) ?_ ?_ <;> try simp only [go_sem, seval, reduceCtorEq])
theorem l22Bag_d {B : List (List Int)} {P l : List Int} (h : DSz 1048576 B P) (hl : l.length ≤ 1048576) : Does Try.prog 96 [decA B P, .d (ints l)] [] (.d (.int (homeI B l))) [] := by
  have hbl := h.b
  (refine spec_of (by kernel_rfl) Try.func96 k_spec_l22Bag (fnOk (Nat.le_of_ble_eq_true rfl) ?_); unfold C_spec_l22Bag)
  (simp only [Nat.reduceSub, List.length_cons, List.length_nil, Nat.reduceAdd, ch_init1, ch_init2, ch_init3, ch_init4, ch_init5, ch_init6, ch_init7, ch_init8]; try simp only [ch_rep]); (simp only [go_sem, seval, reduceCtorEq, List.replicate])
  have hI0 : ∀ j (hj : j < B.length), j < 0 → allL l B[j] = false := fun j _ hj => absurd hj (Nat.not_lt_zero j)
  refine wpN_lpI (B.length) [false, false, false, false, true, true, true, false, false, false, false, true, true, true, true, true, true, true, true, true] (fun k => ∀ j (hj : j < B.length), j < k → allL l B[j] = false) (fun k => [(10, .d (.int k))]) (fun k => []) (fun _ => by (simp only [go_sem, seval, reduceCtorEq, dropF_ch, dropF_cons, dropF_nil, cut, cond_true, cond_false]); first | done | rfl) (fun _ => by (simp only [go_sem, seval, reduceCtorEq, cut]); first | done | rfl) (hI0) (Nat.le_of_ble_eq_true rfl) (by first | (simp only [go_sem, seval, reduceCtorEq, dropF_ch, dropF_cons, dropF_nil, cut, cond_true, cond_false, Int.natCast_zero, Int.natCast_add, Int.natCast_one]; done) | rfl | (simp only [go_sem, seval, reduceCtorEq, dropF_ch, dropF_cons, dropF_nil, cut, cond_true, cond_false, Int.natCast_zero, Int.natCast_add, Int.natCast_one]; rfl)) (by first | (simp only [go_sem, seval, reduceCtorEq, dropF_ch, dropF_cons, dropF_nil, cut, cond_true, cond_false, Int.natCast_zero, Int.natCast_add, Int.natCast_one]; done) | rfl | (simp only [go_sem, seval, reduceCtorEq, dropF_ch, dropF_cons, dropF_nil, cut, cond_true, cond_false, Int.natCast_zero, Int.natCast_add, Int.natCast_one]; rfl)) fun k hk hi => ?_
  unfold L0_spec_l22Bag
  by_cases hlt : k < B.length
  · have d1 : (k : Int) < B.length := by omega
    have g : B[k]? = some B[k] := List.getElem?_eq_getElem hlt
    have hs := (h.e B[k] (List.getElem_mem hlt)).len
    simp (disch := omega) only [go_sem, seval, reduceCtorEq, d1, g]
    (refine ti_call (l22Within_d (a := l) (b := B[k]) hl hs) ?_ ?_ ?_; (focus (simp only [go_sem, seval, reduceCtorEq]; done)); (first | rfl | (focus (simp only [go_sem]; done))))
    cases hh : allL l B[k]
    · have hI := home_next hlt hh hi
      simp (disch := omega) only [go_sem, seval, reduceCtorEq, hh]
      (refine NextI.drop [false, false, false, false, true, true, true, false, false, false, false, true, true, true, true, true, true, true, true, true] (by omega) (hI) (Nat.le_of_ble_eq_true rfl) ?_ ?_ <;> first | (simp only [go_sem, seval, reduceCtorEq, dropF_ch, dropF_cons, dropF_nil, cut, cond_true, cond_false, Int.natCast_zero, Int.natCast_add, Int.natCast_one]; done) | rfl | (simp only [go_sem, seval, reduceCtorEq, dropF_ch, dropF_cons, dropF_nil, cut, cond_true, cond_false, Int.natCast_zero, Int.natCast_add, Int.natCast_one]; rfl) | skip)
    · have e := homeI_hit hlt hh hi
      simp (disch := omega) only [go_sem, seval, reduceCtorEq, hh, e]
      (refine FnEnd.mk (Nat.le_of_ble_eq_true rfl) rfl (of_decide_eq_true rfl) ?_ ?_ <;> try simp only [go_sem, seval, reduceCtorEq])
  · have d1 : ¬ (k : Int) < B.length := by omega
    have e := homeI_none (B := B) (l := l) fun j hj => hi j hj (by omega)
    simp (disch := omega) only [go_sem, seval, reduceCtorEq, d1, e]
    (refine FnEnd.mk (Nat.le_of_ble_eq_true rfl) rfl (of_decide_eq_true rfl) ?_ ?_ <;> try simp only [go_sem, seval, reduceCtorEq])
theorem iLabelsOf_f {N : Net} (h : NSz 1048576 N) : Does Try.prog 79 [netA N] [] (.d (ints (labelsL N))) [] := (iLabelsOf_d h).fzI
theorem l12Labels_f {ts : List Ten} (h : ts.length ≤ 1048576) (ht : ∀ t ∈ ts, TSz 1048576 t) (hax : axOks ts) : Does Try.prog 76 [.d (tens ts)] [] (.d (ints (pickTo (labP ts) 100))) [] := (l12Labels_d h ht hax).fzI
theorem bg_next {ts : List Ten} {b : List Int} {k : Nat} (hk : k < b.length) (h : dimN ts b[k] ≠ 0 ∧ (0 < k → b.getD (k - 1) 0 < b[k])) (hi : ∀ j (hj : j < b.length), j < k → dimN ts b[j] ≠ 0 ∧ (0 < j → b.getD (j - 1) 0 < b[j])) :
    ∀ j (hj : j < b.length), j < k + 1 → dimN ts b[j] ≠ 0 ∧ (0 < j → b.getD (j - 1) 0 < b[j]) := fun j hj hjk => by
  by_cases e : j = k
  · subst e; exact h
  · exact hi j hj (by omega)
theorem bags_next {ts : List Ten} {B : List (List Int)} {P : List Int} {k : Nat} (hk : k < B.length) (h : PrOk P k ∧ BgOk ts B[k]) (hi : ∀ i (hi : i < B.length), i < k → PrOk P i ∧ BgOk ts B[i]) :
    ∀ i (hi : i < B.length), i < k + 1 → PrOk P i ∧ BgOk ts B[i] := fun j hj hjk => by
  by_cases e : j = k
  · subst e; exact h
  · exact hi j hj (by omega)
theorem bagsOk_d {N : Net} {B : List (List Int)} {P : List Int} (h : NSz 1048576 N) (hok : netOk N = true) (hD : DSz 1048576 B P) : Does Try.prog 99 [netA N, decA B P] [] (.d (.bool (bagsB N.ts B P))) [] := by
  have hbl := hD.b
  have hpl := hD.p.len
  have hax := netOk_ax hok
  have hll : labelsL N = pickTo (labP N.ts) 100 := by simp [labelsL, hok]
  have hlm : (pickTo (labP N.ts) 100).length ≤ 100 := pickTo_len _ _
  (refine spec_of (by kernel_rfl) Try.func99 k_impl_bagsOk (fnOk (Nat.le_of_ble_eq_true rfl) ?_); unfold C_impl_bagsOk)
  (simp only [Nat.reduceSub, List.length_cons, List.length_nil, Nat.reduceAdd, ch_init1, ch_init2, ch_init3, ch_init4, ch_init5, ch_init6, ch_init7, ch_init8]; try simp only [ch_rep]); (simp only [go_sem, seval, reduceCtorEq, List.replicate])
  by_cases b1 : (B.length : Int) < 1
  · have e : bagsB N.ts B P = false := bagsB_no fun hh => by have := hh.1; omega
    simp (disch := omega) only [go_sem, seval, reduceCtorEq, b1, e]
    (refine FnEnd.mk (Nat.le_of_ble_eq_true rfl) rfl (of_decide_eq_true rfl) ?_ ?_ <;> try simp only [go_sem, seval, reduceCtorEq])
  by_cases b2 : (B.length : Int) > 40
  · have e : bagsB N.ts B P = false := bagsB_no fun hh => by have := hh.1; omega
    simp (disch := omega) only [go_sem, seval, reduceCtorEq, b1, b2, e]
    (refine FnEnd.mk (Nat.le_of_ble_eq_true rfl) rfl (of_decide_eq_true rfl) ?_ ?_ <;> try simp only [go_sem, seval, reduceCtorEq])
  by_cases b3 : P.length = B.length
  case neg =>
    have d3 : ((P.length : Int) != B.length) = true := by simp only [bne_iff_ne, ne_eq]; omega
    have e : bagsB N.ts B P = false := bagsB_no fun hh => b3 hh.2.1
    simp (disch := omega) only [go_sem, seval, reduceCtorEq, b1, b2, d3, e]
    (refine FnEnd.mk (Nat.le_of_ble_eq_true rfl) rfl (of_decide_eq_true rfl) ?_ ?_ <;> try simp only [go_sem, seval, reduceCtorEq])
  have d3 : ((P.length : Int) != B.length) = false := by simp only [bne_eq_false_iff_eq]; omega
  have g0 : P[0]? = some (P.getD 0 0) := by rw [getD_of (show 0 < P.length by omega)]; exact List.getElem?_eq_getElem (by omega)
  have dP0 : (0 : Int) < P.length := by omega
  by_cases b4 : P.getD 0 0 = -1
  case neg =>
    have d4 : (P.getD 0 0 != -1) = true := by simp only [bne_iff_ne, ne_eq]; exact b4
    have e : bagsB N.ts B P = false := bagsB_no fun hh => b4 ((hh.2.2 0 (by omega)).1.1 rfl)
    simp (disch := omega) only [go_sem, seval, reduceCtorEq, b1, b2, d3, dP0, g0, d4, e]
    (refine FnEnd.mk (Nat.le_of_ble_eq_true rfl) rfl (of_decide_eq_true rfl) ?_ ?_ <;> try simp only [go_sem, seval, reduceCtorEq])
  have d4 : (P.getD 0 0 != -1) = false := by simp only [bne_eq_false_iff_eq]; exact b4
  simp (disch := omega) only [go_sem, seval, reduceCtorEq, b1, b2, d3, dP0, g0, d4]
  (refine ti_call (iLabelsOf_f h) ?_ ?_ ?_; (focus (simp only [go_sem, seval, reduceCtorEq]; done)); (first | rfl | (focus (simp only [go_sem]; done))))
  simp (disch := omega) only [go_sem, seval, reduceCtorEq, hll]
  have hI0 : ∀ i (hi : i < B.length), i < 0 → PrOk P i ∧ BgOk N.ts B[i] := fun j _ hj => absurd hj (Nat.not_lt_zero j)
  refine wpN_lpI (B.length) [false, false, false, false, true, false, true, true, true, true, false, false, false, false, false, false, false, false, false, false, false, false, false, false, false, false, false, false, false, false, false, false, false, false, false, false, false, false, false, false, false, false, true, true, true, true, true, true, true, true, true, true, true, true, true, true, true, true, true, true, true, true, true, true, true, true, true, true, true, true, true, true, true, true, true, true, true, true, true, true, true, true, true, true, true, true, true, true, true, true, true] (fun k => ∀ i (hi : i < B.length), i < k → PrOk P i ∧ BgOk N.ts B[i]) (fun k => [(41, .d (.int k))]) (fun k => []) (fun _ => by (simp only [go_sem, seval, reduceCtorEq, dropF_ch, dropF_cons, dropF_nil, cut, cond_true, cond_false]); first | done | rfl) (fun _ => by (simp only [go_sem, seval, reduceCtorEq, cut]); first | done | rfl) (hI0) (Nat.le_of_ble_eq_true rfl) (by first | (simp only [go_sem, seval, reduceCtorEq, dropF_ch, dropF_cons, dropF_nil, cut, cond_true, cond_false, Int.natCast_zero, Int.natCast_add, Int.natCast_one]; done) | rfl | (simp only [go_sem, seval, reduceCtorEq, dropF_ch, dropF_cons, dropF_nil, cut, cond_true, cond_false, Int.natCast_zero, Int.natCast_add, Int.natCast_one]; rfl)) (by first | (simp only [go_sem, seval, reduceCtorEq, dropF_ch, dropF_cons, dropF_nil, cut, cond_true, cond_false, Int.natCast_zero, Int.natCast_add, Int.natCast_one]; done) | rfl | (simp only [go_sem, seval, reduceCtorEq, dropF_ch, dropF_cons, dropF_nil, cut, cond_true, cond_false, Int.natCast_zero, Int.natCast_add, Int.natCast_one]; rfl)) fun k hk hi => ?_
  unfold L1_impl_bagsOk
  by_cases hlt : k < B.length
  · have d1 : (k : Int) < B.length := by omega
    have dp : (k : Int) < P.length := by omega
    have g : B[k]? = some B[k] := List.getElem?_eq_getElem hlt
    have gp : P[k]? = some (P.getD k 0) := by rw [getD_of (show k < P.length by omega)]; exact List.getElem?_eq_getElem (by omega)
    have hs := (hD.e B[k] (List.getElem_mem hlt)).len
    have bad : ¬ (PrOk P k ∧ BgOk N.ts B[k]) → bagsB N.ts B P = false := fun hb => bagsB_no fun hh => hb (hh.2.2 k hlt)
    by_cases hk0 : k = 0
    · have d2 : ¬ (k : Int) > 0 := by omega
      have hpr : PrOk P k := ⟨fun _ => b4, fun hh => by omega⟩
      simp (disch := omega) only [go_sem, seval, reduceCtorEq, d1, g, dp, gp, d2]
      have hJ0 : ∀ i (hi : i < B[k].length), i < 0 → dimN N.ts B[k][i] ≠ 0 ∧ (0 < i → B[k].getD (i - 1) 0 < B[k][i]) := fun j _ hj => absurd hj (Nat.not_lt_zero j)
      refine wpN_lpI (B[k].length) [false, false, false, false, true, false, false, false, true, true, false, false, false, false, false, false, false, false, false, false, false, false, false, false, false, false, false, false, false, false, false, false, false, false, false, false, false, false, false, false, false, false, false, false, false, false, false, false, false, false, false, false, false, false, false, false, false, false, false, false, false, false, false, false, false, false, false, false, true, true, true, true, true, true, true, true, true, true, true, true, true, true, true, true, true, true, true, true, true, true, false] (fun j => ∀ i (hi : i < B[k].length), i < j → dimN N.ts B[k][i] ≠ 0 ∧ (0 < i → B[k].getD (i - 1) 0 < B[k][i])) (fun j => [(67, .d (.int j))]) (fun j => []) (fun _ => by (simp only [go_sem, seval, reduceCtorEq, dropF_ch, dropF_cons, dropF_nil, cut, cond_true, cond_false]); first | done | rfl) (fun _ => by (simp only [go_sem, seval, reduceCtorEq, cut]); first | done | rfl) (hJ0) (Nat.le_of_ble_eq_true rfl) (by first | (simp only [go_sem, seval, reduceCtorEq, dropF_ch, dropF_cons, dropF_nil, cut, cond_true, cond_false, Int.natCast_zero, Int.natCast_add, Int.natCast_one]; done) | rfl | (simp only [go_sem, seval, reduceCtorEq, dropF_ch, dropF_cons, dropF_nil, cut, cond_true, cond_false, Int.natCast_zero, Int.natCast_add, Int.natCast_one]; rfl)) (by first | (simp only [go_sem, seval, reduceCtorEq, dropF_ch, dropF_cons, dropF_nil, cut, cond_true, cond_false, Int.natCast_zero, Int.natCast_add, Int.natCast_one]; done) | rfl | (simp only [go_sem, seval, reduceCtorEq, dropF_ch, dropF_cons, dropF_nil, cut, cond_true, cond_false, Int.natCast_zero, Int.natCast_add, Int.natCast_one]; rfl)) fun j hj hij => ?_
      unfold L0_impl_bagsOk
      by_cases hltj : j < B[k].length
      · have f1 : (j : Int) < B[k].length := by omega
        have gj : B[k][j]? = some B[k][j] := List.getElem?_eq_getElem hltj
        have badj : ¬ (dimN N.ts B[k][j] ≠ 0 ∧ (0 < j → B[k].getD (j - 1) 0 < B[k][j])) → bagsB N.ts B P = false := fun hb => bad fun hh => hb (hh.2 j hltj)
        simp (disch := omega) only [go_sem, seval, reduceCtorEq, f1, gj]
        (refine ti_call (hasInt_d (xs := pickTo (labP N.ts) 100) (x := B[k][j]) (by omega)) ?_ ?_ ?_; (focus (simp only [go_sem, seval, reduceCtorEq]; done)); (first | rfl | (focus (simp only [go_sem]; done))))
        cases hh : has (pickTo (labP N.ts) 100) B[k][j]
        · have e := badj fun hb => has_false.1 hh ((labP_mem hax).2 hb.1)
          simp (disch := omega) only [go_sem, seval, reduceCtorEq, hh, e]
          (refine FnEnd.mk (Nat.le_of_ble_eq_true rfl) rfl (of_decide_eq_true rfl) ?_ ?_ <;> try simp only [go_sem, seval, reduceCtorEq])
        have hne := (labP_mem hax).1 (has_true.1 hh)
        by_cases hj0 : j = 0
        · have f2 : ¬ (j : Int) > 0 := by omega
          have hI := bg_next hltj ⟨hne, fun hb => by omega⟩ hij
          simp (disch := omega) only [go_sem, seval, reduceCtorEq, hh, f2]
          (refine NextI.drop [false, false, false, false, true, false, false, false, true, true, false, false, false, false, false, false, false, false, false, false, false, false, false, false, false, false, false, false, false, false, false, false, false, false, false, false, false, false, false, false, false, false, false, false, false, false, false, false, false, false, false, false, false, false, false, false, false, false, false, false, false, false, false, false, false, false, false, false, true, true, true, true, true, true, true, true, true, true, true, true, true, true, true, true, true, true, true, true, true, true, false] (by omega) (hI) (Nat.le_of_ble_eq_true rfl) ?_ ?_ <;> first | (simp only [go_sem, seval, reduceCtorEq, dropF_ch, dropF_cons, dropF_nil, cut, cond_true, cond_false, Int.natCast_zero, Int.natCast_add, Int.natCast_one]; done) | rfl | (simp only [go_sem, seval, reduceCtorEq, dropF_ch, dropF_cons, dropF_nil, cut, cond_true, cond_false, Int.natCast_zero, Int.natCast_add, Int.natCast_one]; rfl) | skip)
        · have f2 : (j : Int) > 0 := by omega
          have f3 : (j : Int) - 1 = ((j - 1 : Nat) : Int) := by omega
          have f4 : ((j - 1 : Nat) : Int) < B[k].length := by omega
          have gj1 : B[k][j - 1]? = some (B[k].getD (j - 1) 0) := by rw [getD_of (show j - 1 < B[k].length by omega)]; exact List.getElem?_eq_getElem (by omega)
          by_cases hge : B[k].getD (j - 1) 0 ≥ B[k][j]
          · have e := badj fun hb => by have := hb.2 (by omega); omega
            simp (disch := omega) only [go_sem, seval, reduceCtorEq, hh, f2, f3, f4, gj1, hge, e]
            (refine FnEnd.mk (Nat.le_of_ble_eq_true rfl) rfl (of_decide_eq_true rfl) ?_ ?_ <;> try simp only [go_sem, seval, reduceCtorEq])
          · have hI := bg_next hltj ⟨hne, fun _ => by omega⟩ hij
            simp (disch := omega) only [go_sem, seval, reduceCtorEq, hh, f2, f3, f4, gj1, hge]
            (refine NextI.drop [false, false, false, false, true, false, false, false, true, true, false, false, false, false, false, false, false, false, false, false, false, false, false, false, false, false, false, false, false, false, false, false, false, false, false, false, false, false, false, false, false, false, false, false, false, false, false, false, false, false, false, false, false, false, false, false, false, false, false, false, false, false, false, false, false, false, false, false, true, true, true, true, true, true, true, true, true, true, true, true, true, true, true, true, true, true, true, true, true, true, false] (by omega) (hI) (Nat.le_of_ble_eq_true rfl) ?_ ?_ <;> first | (simp only [go_sem, seval, reduceCtorEq, dropF_ch, dropF_cons, dropF_nil, cut, cond_true, cond_false, Int.natCast_zero, Int.natCast_add, Int.natCast_one]; done) | rfl | (simp only [go_sem, seval, reduceCtorEq, dropF_ch, dropF_cons, dropF_nil, cut, cond_true, cond_false, Int.natCast_zero, Int.natCast_add, Int.natCast_one]; rfl) | skip)
      · have f1 : ¬ (j : Int) < B[k].length := by omega
        have hI := bags_next hlt ⟨hpr, fun i hi => hij i hi (by omega)⟩ hi
        simp (disch := omega) only [go_sem, seval, reduceCtorEq, f1]
        (refine NextI.drop [false, false, false, false, true, false, true, true, true, true, false, false, false, false, false, false, false, false, false, false, false, false, false, false, false, false, false, false, false, false, false, false, false, false, false, false, false, false, false, false, false, false, true, true, true, true, true, true, true, true, true, true, true, true, true, true, true, true, true, true, true, true, true, true, true, true, true, true, true, true, true, true, true, true, true, true, true, true, true, true, true, true, true, true, true, true, true, true, true, true, true] (by omega) (hI) (Nat.le_of_ble_eq_true rfl) ?_ ?_ <;> first | (simp only [go_sem, seval, reduceCtorEq, dropF_ch, dropF_cons, dropF_nil, cut, cond_true, cond_false, Int.natCast_zero, Int.natCast_add, Int.natCast_one]; done) | rfl | (simp only [go_sem, seval, reduceCtorEq, dropF_ch, dropF_cons, dropF_nil, cut, cond_true, cond_false, Int.natCast_zero, Int.natCast_add, Int.natCast_one]; rfl) | skip)
    · have d2 : (k : Int) > 0 := by omega
      by_cases p1 : P.getD k 0 < 0
      · have e := bad fun hh => by have := hh.1.2 (by omega); omega
        simp (disch := omega) only [go_sem, seval, reduceCtorEq, d1, g, dp, gp, d2, p1, e]
        (refine FnEnd.mk (Nat.le_of_ble_eq_true rfl) rfl (of_decide_eq_true rfl) ?_ ?_ <;> try simp only [go_sem, seval, reduceCtorEq])
      by_cases p2 : P.getD k 0 ≥ k
      · have e := bad fun hh => by have := hh.1.2 (by omega); omega
        simp (disch := omega) only [go_sem, seval, reduceCtorEq, d1, g, dp, gp, d2, p1, p2, e]
        (refine FnEnd.mk (Nat.le_of_ble_eq_true rfl) rfl (of_decide_eq_true rfl) ?_ ?_ <;> try simp only [go_sem, seval, reduceCtorEq])
      have hpr : PrOk P k := ⟨fun hh => absurd hh hk0, fun _ => by omega⟩
      simp (disch := omega) only [go_sem, seval, reduceCtorEq, d1, g, dp, gp, d2, p1, p2]
      have hJ0 : ∀ i (hi : i < B[k].length), i < 0 → dimN N.ts B[k][i] ≠ 0 ∧ (0 < i → B[k].getD (i - 1) 0 < B[k][i]) := fun j _ hj => absurd hj (Nat.not_lt_zero j)
      refine wpN_lpI (B[k].length) [false, false, false, false, true, false, false, false, true, true, false, false, false, false, false, false, false, false, false, false, false, false, false, false, false, false, false, false, false, false, false, false, false, false, false, false, false, false, false, false, false, false, false, false, false, false, false, false, false, false, false, false, false, false, false, false, false, false, false, false, false, false, false, false, false, false, false, false, true, true, true, true, true, true, true, true, true, true, true, true, true, true, true, true, true, true, true, true, true, true, false] (fun j => ∀ i (hi : i < B[k].length), i < j → dimN N.ts B[k][i] ≠ 0 ∧ (0 < i → B[k].getD (i - 1) 0 < B[k][i])) (fun j => [(67, .d (.int j))]) (fun j => []) (fun _ => by (simp only [go_sem, seval, reduceCtorEq, dropF_ch, dropF_cons, dropF_nil, cut, cond_true, cond_false]); first | done | rfl) (fun _ => by (simp only [go_sem, seval, reduceCtorEq, cut]); first | done | rfl) (hJ0) (Nat.le_of_ble_eq_true rfl) (by first | (simp only [go_sem, seval, reduceCtorEq, dropF_ch, dropF_cons, dropF_nil, cut, cond_true, cond_false, Int.natCast_zero, Int.natCast_add, Int.natCast_one]; done) | rfl | (simp only [go_sem, seval, reduceCtorEq, dropF_ch, dropF_cons, dropF_nil, cut, cond_true, cond_false, Int.natCast_zero, Int.natCast_add, Int.natCast_one]; rfl)) (by first | (simp only [go_sem, seval, reduceCtorEq, dropF_ch, dropF_cons, dropF_nil, cut, cond_true, cond_false, Int.natCast_zero, Int.natCast_add, Int.natCast_one]; done) | rfl | (simp only [go_sem, seval, reduceCtorEq, dropF_ch, dropF_cons, dropF_nil, cut, cond_true, cond_false, Int.natCast_zero, Int.natCast_add, Int.natCast_one]; rfl)) fun j hj hij => ?_
      unfold L0_impl_bagsOk
      by_cases hltj : j < B[k].length
      · have f1 : (j : Int) < B[k].length := by omega
        have gj : B[k][j]? = some B[k][j] := List.getElem?_eq_getElem hltj
        have badj : ¬ (dimN N.ts B[k][j] ≠ 0 ∧ (0 < j → B[k].getD (j - 1) 0 < B[k][j])) → bagsB N.ts B P = false := fun hb => bad fun hh => hb (hh.2 j hltj)
        simp (disch := omega) only [go_sem, seval, reduceCtorEq, f1, gj]
        (refine ti_call (hasInt_d (xs := pickTo (labP N.ts) 100) (x := B[k][j]) (by omega)) ?_ ?_ ?_; (focus (simp only [go_sem, seval, reduceCtorEq]; done)); (first | rfl | (focus (simp only [go_sem]; done))))
        cases hh : has (pickTo (labP N.ts) 100) B[k][j]
        · have e := badj fun hb => has_false.1 hh ((labP_mem hax).2 hb.1)
          simp (disch := omega) only [go_sem, seval, reduceCtorEq, hh, e]
          (refine FnEnd.mk (Nat.le_of_ble_eq_true rfl) rfl (of_decide_eq_true rfl) ?_ ?_ <;> try simp only [go_sem, seval, reduceCtorEq])
        have hne := (labP_mem hax).1 (has_true.1 hh)
        by_cases hj0 : j = 0
        · have f2 : ¬ (j : Int) > 0 := by omega
          have hI := bg_next hltj ⟨hne, fun hb => by omega⟩ hij
          simp (disch := omega) only [go_sem, seval, reduceCtorEq, hh, f2]
          (refine NextI.drop [false, false, false, false, true, false, false, false, true, true, false, false, false, false, false, false, false, false, false, false, false, false, false, false, false, false, false, false, false, false, false, false, false, false, false, false, false, false, false, false, false, false, false, false, false, false, false, false, false, false, false, false, false, false, false, false, false, false, false, false, false, false, false, false, false, false, false, false, true, true, true, true, true, true, true, true, true, true, true, true, true, true, true, true, true, true, true, true, true, true, false] (by omega) (hI) (Nat.le_of_ble_eq_true rfl) ?_ ?_ <;> first | (simp only [go_sem, seval, reduceCtorEq, dropF_ch, dropF_cons, dropF_nil, cut, cond_true, cond_false, Int.natCast_zero, Int.natCast_add, Int.natCast_one]; done) | rfl | (simp only [go_sem, seval, reduceCtorEq, dropF_ch, dropF_cons, dropF_nil, cut, cond_true, cond_false, Int.natCast_zero, Int.natCast_add, Int.natCast_one]; rfl) | skip)
        · have f2 : (j : Int) > 0 := by omega
          have f3 : (j : Int) - 1 = ((j - 1 : Nat) : Int) := by omega
          have f4 : ((j - 1 : Nat) : Int) < B[k].length := by omega
          have gj1 : B[k][j - 1]? = some (B[k].getD (j - 1) 0) := by rw [getD_of (show j - 1 < B[k].length by omega)]; exact List.getElem?_eq_getElem (by omega)
          by_cases hge : B[k].getD (j - 1) 0 ≥ B[k][j]
          · have e := badj fun hb => by have := hb.2 (by omega); omega
            simp (disch := omega) only [go_sem, seval, reduceCtorEq, hh, f2, f3, f4, gj1, hge, e]
            (refine FnEnd.mk (Nat.le_of_ble_eq_true rfl) rfl (of_decide_eq_true rfl) ?_ ?_ <;> try simp only [go_sem, seval, reduceCtorEq])
          · have hI := bg_next hltj ⟨hne, fun _ => by omega⟩ hij
            simp (disch := omega) only [go_sem, seval, reduceCtorEq, hh, f2, f3, f4, gj1, hge]
            (refine NextI.drop [false, false, false, false, true, false, false, false, true, true, false, false, false, false, false, false, false, false, false, false, false, false, false, false, false, false, false, false, false, false, false, false, false, false, false, false, false, false, false, false, false, false, false, false, false, false, false, false, false, false, false, false, false, false, false, false, false, false, false, false, false, false, false, false, false, false, false, false, true, true, true, true, true, true, true, true, true, true, true, true, true, true, true, true, true, true, true, true, true, true, false] (by omega) (hI) (Nat.le_of_ble_eq_true rfl) ?_ ?_ <;> first | (simp only [go_sem, seval, reduceCtorEq, dropF_ch, dropF_cons, dropF_nil, cut, cond_true, cond_false, Int.natCast_zero, Int.natCast_add, Int.natCast_one]; done) | rfl | (simp only [go_sem, seval, reduceCtorEq, dropF_ch, dropF_cons, dropF_nil, cut, cond_true, cond_false, Int.natCast_zero, Int.natCast_add, Int.natCast_one]; rfl) | skip)
      · have f1 : ¬ (j : Int) < B[k].length := by omega
        have hI := bags_next hlt ⟨hpr, fun i hi => hij i hi (by omega)⟩ hi
        simp (disch := omega) only [go_sem, seval, reduceCtorEq, f1]
        (refine NextI.drop [false, false, false, false, true, false, true, true, true, true, false, false, false, false, false, false, false, false, false, false, false, false, false, false, false, false, false, false, false, false, false, false, false, false, false, false, false, false, false, false, false, false, true, true, true, true, true, true, true, true, true, true, true, true, true, true, true, true, true, true, true, true, true, true, true, true, true, true, true, true, true, true, true, true, true, true, true, true, true, true, true, true, true, true, true, true, true, true, true, true, true] (by omega) (hI) (Nat.le_of_ble_eq_true rfl) ?_ ?_ <;> first | (simp only [go_sem, seval, reduceCtorEq, dropF_ch, dropF_cons, dropF_nil, cut, cond_true, cond_false, Int.natCast_zero, Int.natCast_add, Int.natCast_one]; done) | rfl | (simp only [go_sem, seval, reduceCtorEq, dropF_ch, dropF_cons, dropF_nil, cut, cond_true, cond_false, Int.natCast_zero, Int.natCast_add, Int.natCast_one]; rfl) | skip)
  · have d1 : ¬ (k : Int) < B.length := by omega
    have e : bagsB N.ts B P = true := bagsB_yes ⟨by omega, b3, fun i hi' => hi i hi' (by omega)⟩
    simp (disch := omega) only [go_sem, seval, reduceCtorEq, d1, e]
    (refine FnEnd.mk (Nat.le_of_ble_eq_true rfl) rfl (of_decide_eq_true rfl) ?_ ?_ <;> try simp only [go_sem, seval, reduceCtorEq])
theorem homes_next {N : Net} {B : List (List Int)} {k : Nat} (hk : k < N.ts.length) (h : Home B N.ts[k].labels) (hi : ∀ t ∈ N.ts.take k, Home B t.labels) : ∀ t ∈ N.ts.take (k + 1), Home B t.labels := fun t ht => by
  rw [take_ss hk] at ht
  rcases List.mem_append.1 ht with ht | ht
  · exact hi t ht
  · simp only [List.mem_singleton] at ht; subst ht; exact h
theorem tops_next {L : List Int} {B : List (List Int)} {P : List Int} {k n : Nat} (hk : k < L.length) (h : topsTo B P L[k] n ≤ 1) (hi : ∀ x ∈ L.take k, topsTo B P x n ≤ 1) : ∀ x ∈ L.take (k + 1), topsTo B P x n ≤ 1 := fun t ht => by
  rw [take_ss hk] at ht
  rcases List.mem_append.1 ht with ht | ht
  · exact hi t ht
  · simp only [List.mem_singleton] at ht; subst ht; exact h
theorem iDecompositionOk_d {N : Net} {B : List (List Int)} {P : List Int} (h : NSz 1048576 N) (hD : DSz 1048576 B P) : Does Try.prog 41 [netA N, decA B P] [] (.d (.bool (decB N B P))) [] := by
  have hbl := hD.b
  have hpl := hD.p.len
  have hnl := h.l
  have hol := h.o.len
  (refine spec_of (by kernel_rfl) Try.func41 k_impl_DecompositionOk (fnOk (Nat.le_of_ble_eq_true rfl) ?_); unfold C_impl_DecompositionOk)
  (simp only [Nat.reduceSub, List.length_cons, List.length_nil, Nat.reduceAdd, ch_init1, ch_init2, ch_init3, ch_init4, ch_init5, ch_init6, ch_init7, ch_init8]; try simp only [ch_rep]); (simp only [go_sem, seval, reduceCtorEq, List.replicate])
  (refine gi_call (iNetworkOk_d h) ?_ ?_ ?_; (focus (simp only [go_sem, seval, reduceCtorEq]; done)); (first | rfl | (focus (simp only [go_sem]; done))))
  cases hok : netOk N
  · have e : decB N B P = false := decB_no fun hh => by have := hh.1; rw [hok] at this; cases this
    simp only [go_sem, seval, reduceCtorEq, hok, e]
    (refine FnEnd.mk (Nat.le_of_ble_eq_true rfl) rfl (of_decide_eq_true rfl) ?_ ?_ <;> try simp only [go_sem, seval, reduceCtorEq])
  have hax := netOk_ax hok
  have hll : labelsL N = pickTo (labP N.ts) 100 := by simp [labelsL, hok]
  have hlm : (pickTo (labP N.ts) 100).length ≤ 100 := pickTo_len _ _
  simp only [go_sem, seval, reduceCtorEq, hok]
  (refine gi_call (bagsOk_d h hok hD) ?_ ?_ ?_; (focus (simp only [go_sem, seval, reduceCtorEq]; done)); (first | rfl | (focus (simp only [go_sem]; done))))
  cases hbg : bagsB N.ts B P
  · have e : decB N B P = false := decB_no fun hh => by rw [bagsB_yes hh.2.1] at hbg; cases hbg
    simp only [go_sem, seval, reduceCtorEq, hbg, e]
    (refine FnEnd.mk (Nat.le_of_ble_eq_true rfl) rfl (of_decide_eq_true rfl) ?_ ?_ <;> try simp only [go_sem, seval, reduceCtorEq])
  have hbk := bagsB_iff.1 hbg
  have hb1 := hbk.1
  have hb2 := hbk.2.1
  have g0 : B[0]? = some B[0] := List.getElem?_eq_getElem (by omega)
  have e0 : B.getD 0 [] = B[0] := getL_of (by omega)
  have i0 : (0 : Int) < B.length := by omega
  have hs0 := (hD.e B[0] (List.getElem_mem (by omega))).len
  simp (disch := omega) only [go_sem, seval, reduceCtorEq, hbg, g0, i0]
  (refine ti_call (allIn_d (a := N.os) (b := B[0]) hol hs0) ?_ ?_ ?_; (focus (simp only [go_sem, seval, reduceCtorEq]; done)); (first | rfl | (focus (simp only [go_sem]; done))))
  cases hal : allL N.os B[0]
  · have e : decB N B P = false := decB_no fun hh => by have := hh.2.2.1; rw [e0, hal] at this; cases this
    simp (disch := omega) only [go_sem, seval, reduceCtorEq, hal, e]
    (refine FnEnd.mk (Nat.le_of_ble_eq_true rfl) rfl (of_decide_eq_true rfl) ?_ ?_ <;> try simp only [go_sem, seval, reduceCtorEq])
  simp (disch := omega) only [go_sem, seval, reduceCtorEq, hal]
  have hI0 : ∀ t ∈ N.ts.take 0, Home B t.labels := fun t ht => by simp at ht
  refine wpN_lpI (N.ts.length) [false, false, false, false, true, false, true, false, false, false, false, false, false, false, false, false, false, false, false, false, false, false, false, false, false, false, false, false, false, false, false, false, false, false, false, true, true, true, true, true, true, true, true, true, false, false, false, false, false, false, false, false, false, false, false, false, false, false, false, false, false, false, false, false, false, false, false, false, false, false, false, false, false, false, false, false, false, false, false, false, false, false, false, false, false, false] (fun k => ∀ t ∈ N.ts.take k, Home B t.labels) (fun k => [(34, .d (.int k))]) (fun k => []) (fun _ => by (simp only [go_sem, seval, reduceCtorEq, dropF_ch, dropF_cons, dropF_nil, cut, cond_true, cond_false]); first | done | rfl) (fun _ => by (simp only [go_sem, seval, reduceCtorEq, cut]); first | done | rfl) (hI0) (Nat.le_of_ble_eq_true rfl) (by first | (simp only [go_sem, seval, reduceCtorEq, dropF_ch, dropF_cons, dropF_nil, cut, cond_true, cond_false, Int.natCast_zero, Int.natCast_add, Int.natCast_one]; done) | rfl | (simp only [go_sem, seval, reduceCtorEq, dropF_ch, dropF_cons, dropF_nil, cut, cond_true, cond_false, Int.natCast_zero, Int.natCast_add, Int.natCast_one]; rfl)) (by first | (simp only [go_sem, seval, reduceCtorEq, dropF_ch, dropF_cons, dropF_nil, cut, cond_true, cond_false, Int.natCast_zero, Int.natCast_add, Int.natCast_one]; done) | rfl | (simp only [go_sem, seval, reduceCtorEq, dropF_ch, dropF_cons, dropF_nil, cut, cond_true, cond_false, Int.natCast_zero, Int.natCast_add, Int.natCast_one]; rfl)) fun k hk hi => ?_
  unfold L2_impl_DecompositionOk
  by_cases hlt : k < N.ts.length
  · have d1 : (k : Int) < N.ts.length := by omega
    have g3 := tcs_cut (List.getElem?_eq_getElem hlt)
    have hst := h.t N.ts[k] (List.getElem_mem hlt)
    simp (disch := omega) only [go_sem, seval, reduceCtorEq, d1, g3]
    (repeat (refine And.intro (by omega) ?_))
    (refine ti_call (homeBag_d (B := B) (P := P) (l := N.ts[k].labels) hD hst.l.len) ?_ ?_ ?_; (focus (simp only [go_sem, seval, reduceCtorEq]; done)); (first | rfl | (focus (simp only [go_sem]; done))))
    by_cases hm : homeI B N.ts[k].labels < 0
    · have e : decB N B P = false := decB_no fun hh => homeI_no hm (hh.2.2.2.1 _ (List.getElem_mem hlt))
      simp (disch := omega) only [go_sem, seval, reduceCtorEq, hm, e]
      (refine FnEnd.mk (Nat.le_of_ble_eq_true rfl) rfl (of_decide_eq_true rfl) ?_ ?_ <;> try simp only [go_sem, seval, reduceCtorEq])
    · have hI := homes_next hlt (homeI_yes hm) hi
      simp (disch := omega) only [go_sem, seval, reduceCtorEq, hm]
      (refine NextI.drop [false, false, false, false, true, false, true, false, false, false, false, false, false, false, false, false, false, false, false, false, false, false, false, false, false, false, false, false, false, false, false, false, false, false, false, true, true, true, true, true, true, true, true, true, false, false, false, false, false, false, false, false, false, false, false, false, false, false, false, false, false, false, false, false, false, false, false, false, false, false, false, false, false, false, false, false, false, false, false, false, false, false, false, false, false, false] (by omega) (hI) (Nat.le_of_ble_eq_true rfl) ?_ ?_ <;> first | (simp only [go_sem, seval, reduceCtorEq, dropF_ch, dropF_cons, dropF_nil, cut, cond_true, cond_false, Int.natCast_zero, Int.natCast_add, Int.natCast_one]; done) | rfl | (simp only [go_sem, seval, reduceCtorEq, dropF_ch, dropF_cons, dropF_nil, cut, cond_true, cond_false, Int.natCast_zero, Int.natCast_add, Int.natCast_one]; rfl) | skip)
  have d1 : ¬ (k : Int) < N.ts.length := by omega
  rw [List.take_of_length_le (by omega)] at hi
  simp (disch := omega) only [go_sem, seval, reduceCtorEq, d1]
  (refine ti_call (iLabelsOf_f h) ?_ ?_ ?_; (focus (simp only [go_sem, seval, reduceCtorEq]; done)); (first | rfl | (focus (simp only [go_sem]; done))))
  simp (disch := omega) only [go_sem, seval, reduceCtorEq, hll]
  have hT0 : ∀ x ∈ (pickTo (labP N.ts) 100).take 0, topsTo B P x B.length ≤ 1 := fun t ht => by simp at ht
  obtain rfl : k = N.ts.length := by omega
  clear d1 hlt
  have hhome := hi
  clear hi
  refine wpN_lpI ((pickTo (labP N.ts) 100).length) [false, false, false, false, true, false, false, false, true, true, true, true, false, false, false, false, false, false, false, false, false, false, false, false, false, false, false, false, false, false, false, false, false, false, false, false, false, false, false, false, false, false, false, false, false, false, false, false, true, true, true, true, true, true, true, true, true, true, true, true, true, true, true, true, true, true, true, true, true, true, true, true, true, true, true, true, true, true, true, true, true, true, true, true, true, true] (fun k => ∀ x ∈ (pickTo (labP N.ts) 100).take k, topsTo B P x B.length ≤ 1) (fun k => [(47, .d (.int k))]) (fun k => []) (fun _ => by (simp only [go_sem, seval, reduceCtorEq, dropF_ch, dropF_cons, dropF_nil, cut, cond_true, cond_false]); first | done | rfl) (fun _ => by (simp only [go_sem, seval, reduceCtorEq, cut]); first | done | rfl) (hT0) (Nat.le_of_ble_eq_true rfl) (by first | (simp only [go_sem, seval, reduceCtorEq, dropF_ch, dropF_cons, dropF_nil, cut, cond_true, cond_false, Int.natCast_zero, Int.natCast_add, Int.natCast_one]; done) | rfl | (simp only [go_sem, seval, reduceCtorEq, dropF_ch, dropF_cons, dropF_nil, cut, cond_true, cond_false, Int.natCast_zero, Int.natCast_add, Int.natCast_one]; rfl)) (by first | (simp only [go_sem, seval, reduceCtorEq, dropF_ch, dropF_cons, dropF_nil, cut, cond_true, cond_false, Int.natCast_zero, Int.natCast_add, Int.natCast_one]; done) | rfl | (simp only [go_sem, seval, reduceCtorEq, dropF_ch, dropF_cons, dropF_nil, cut, cond_true, cond_false, Int.natCast_zero, Int.natCast_add, Int.natCast_one]; rfl)) fun k hk hi => ?_
  unfold L1_impl_DecompositionOk
  by_cases hlt : k < (pickTo (labP N.ts) 100).length
  · have d1 : (k : Int) < (pickTo (labP N.ts) 100).length := by omega
    have g : (pickTo (labP N.ts) 100)[k]? = some (pickTo (labP N.ts) 100)[k] := List.getElem?_eq_getElem hlt
    have hx := (labP_mem hax).1 (List.getElem_mem hlt)
    simp (disch := omega) only [go_sem, seval, reduceCtorEq, d1, g]
    generalize hxe : (pickTo (labP N.ts) 100)[k] = x at *
    have hit := hi
    refine wpN_lp (B.length) [false, false, false, false, false, false, false, false, false, false, true, true, false, false, false, false, false, false, false, false, false, false, false, false, false, false, false, false, false, false, false, false, false, false, false, false, false, false, false, false, false, false, false, false, false, false, false, false, false, false, false, false, false, false, false, true, true, true, true, true, true, true, true, true, true, true, true, true, true, true, true, true, true, true, true, true, true, true, true, true, true, true, true, false, false, false] (fun i => [(9, .d (.int (topsTo B P x i))), (54, .d (.int i))]) (fun i => []) (fun _ => by (simp only [go_sem, seval, reduceCtorEq, dropF_ch, dropF_cons, dropF_nil, cut, cond_true, cond_false]); first | done | rfl) (fun _ => by (simp only [go_sem, seval, reduceCtorEq, cut]); first | done | rfl) (Nat.le_of_ble_eq_true rfl) (by first | (simp only [go_sem, seval, reduceCtorEq, dropF_ch, dropF_cons, dropF_nil, cut, cond_true, cond_false, Int.natCast_zero, Int.natCast_add, Int.natCast_one, topsTo, Int.natCast_zero]; done) | rfl | (simp only [go_sem, seval, reduceCtorEq, dropF_ch, dropF_cons, dropF_nil, cut, cond_true, cond_false, Int.natCast_zero, Int.natCast_add, Int.natCast_one, topsTo, Int.natCast_zero]; rfl)) (by first | (simp only [go_sem, seval, reduceCtorEq, dropF_ch, dropF_cons, dropF_nil, cut, cond_true, cond_false, Int.natCast_zero, Int.natCast_add, Int.natCast_one, topsTo, Int.natCast_zero]; done) | rfl | (simp only [go_sem, seval, reduceCtorEq, dropF_ch, dropF_cons, dropF_nil, cut, cond_true, cond_false, Int.natCast_zero, Int.natCast_add, Int.natCast_one, topsTo, Int.natCast_zero]; rfl)) fun i hi => ?_
    unfold L0_impl_DecompositionOk
    have htl := topsTo_le (B := B) (P := P) (x := x) i
    by_cases hlti : i < B.length
    · have f1 : (i : Int) < B.length := by omega
      have gi : B[i]? = some B[i] := List.getElem?_eq_getElem hlti
      have ei : B.getD i [] = B[i] := getL_of hlti
      have hsi := (hD.e B[i] (List.getElem_mem hlti)).len
      simp (disch := omega) only [go_sem, seval, reduceCtorEq, f1, gi]
      (refine gi_call (hasInt_d (xs := B[i]) (x := x) (by omega)) ?_ ?_ ?_; (focus (simp only [go_sem, seval, reduceCtorEq]; done)); (first | rfl | (focus (simp only [go_sem]; done))))
      cases hh : has B[i] x
      · have ht : topB B P x i = false := by rw [topB, ei, hh]; rfl
        simp (disch := omega) only [go_sem, seval, reduceCtorEq, hh]
        (refine Next.drop [false, false, false, false, false, false, false, false, false, false, true, true, false, false, false, false, false, false, false, false, false, false, false, false, false, false, false, false, false, false, false, false, false, false, false, false, false, false, false, false, false, false, false, false, false, false, false, false, false, false, false, false, false, false, false, true, true, true, true, true, true, true, true, true, true, true, true, true, true, true, true, true, true, true, true, true, true, true, true, true, true, true, true, false, false, false] (by omega) (Nat.le_of_ble_eq_true rfl) ?_ ?_ <;> first | (simp only [go_sem, seval, reduceCtorEq, dropF_ch, dropF_cons, dropF_nil, cut, cond_true, cond_false, Int.natCast_zero, Int.natCast_add, Int.natCast_one, topsTo_no ht]; done) | rfl | (simp only [go_sem, seval, reduceCtorEq, dropF_ch, dropF_cons, dropF_nil, cut, cond_true, cond_false, Int.natCast_zero, Int.natCast_add, Int.natCast_one, topsTo_no ht]; rfl) | skip)
      by_cases hi0 : i = 0
      · have f2 : ((i : Int) == 0) = true := beq_iff_eq.2 (by omega)
        have ht : topB B P x i = true := by rw [topB, ei, hh, decide_eq_true hi0]; rfl
        simp (disch := omega) only [go_sem, seval, reduceCtorEq, hh, f2]
        (refine Next.drop [false, false, false, false, false, false, false, false, false, false, true, true, false, false, false, false, false, false, false, false, false, false, false, false, false, false, false, false, false, false, false, false, false, false, false, false, false, false, false, false, false, false, false, false, false, false, false, false, false, false, false, false, false, false, false, true, true, true, true, true, true, true, true, true, true, true, true, true, true, true, true, true, true, true, true, true, true, true, true, true, true, true, true, false, false, false] (by omega) (Nat.le_of_ble_eq_true rfl) ?_ ?_ <;> first | (simp only [go_sem, seval, reduceCtorEq, dropF_ch, dropF_cons, dropF_nil, cut, cond_true, cond_false, Int.natCast_zero, Int.natCast_add, Int.natCast_one, topsTo_yes ht]; done) | rfl | (simp only [go_sem, seval, reduceCtorEq, dropF_ch, dropF_cons, dropF_nil, cut, cond_true, cond_false, Int.natCast_zero, Int.natCast_add, Int.natCast_one, topsTo_yes ht]; rfl) | skip)
      · have f2 : ((i : Int) == 0) = false := beq_false_of_ne (by omega)
        have hp := ((hbk.2.2 i hlti).1).2 (by omega)
        have hpn : ((P.getD i 0).toNat : Int) = P.getD i 0 := by omega
        have f3 : (i : Int) < P.length := by omega
        have gp : P[i]? = some ((P.getD i 0).toNat : Int) := by rw [hpn, getD_of (show i < P.length by omega)]; exact List.getElem?_eq_getElem (by omega)
        have hpl2 : (P.getD i 0).toNat < B.length := by omega
        have ht0 : topB B P x i = !has (B.getD (P.getD i 0).toNat []) x := by rw [topB, ei, hh, decide_eq_false hi0]; rfl
        generalize (P.getD i 0).toNat = p at *
        have f4 : (p : Int) < B.length := by omega
        have gb : B[p]? = some B[p] := List.getElem?_eq_getElem hpl2
        have eb : B.getD p [] = B[p] := getL_of hpl2
        have hsp := (hD.e B[p] (List.getElem_mem hpl2)).len
        rw [eb] at ht0
        simp (disch := omega) only [go_sem, seval, reduceCtorEq, hh, f2, f3, gp, f4, gb]
        (refine ti_call (hasInt_d (xs := B[p]) (x := x) (by omega)) ?_ ?_ ?_; (focus (simp only [go_sem, seval, reduceCtorEq]; done)); (first | rfl | (focus (simp only [go_sem]; done))))
        cases hq : has B[p] x
        · have ht : topB B P x i = true := by rw [ht0, hq]; rfl
          simp (disch := omega) only [go_sem, seval, reduceCtorEq, hq]
          (refine Next.drop [false, false, false, false, false, false, false, false, false, false, true, true, false, false, false, false, false, false, false, false, false, false, false, false, false, false, false, false, false, false, false, false, false, false, false, false, false, false, false, false, false, false, false, false, false, false, false, false, false, false, false, false, false, false, false, true, true, true, true, true, true, true, true, true, true, true, true, true, true, true, true, true, true, true, true, true, true, true, true, true, true, true, true, false, false, false] (by omega) (Nat.le_of_ble_eq_true rfl) ?_ ?_ <;> first | (simp only [go_sem, seval, reduceCtorEq, dropF_ch, dropF_cons, dropF_nil, cut, cond_true, cond_false, Int.natCast_zero, Int.natCast_add, Int.natCast_one, topsTo_yes ht]; done) | rfl | (simp only [go_sem, seval, reduceCtorEq, dropF_ch, dropF_cons, dropF_nil, cut, cond_true, cond_false, Int.natCast_zero, Int.natCast_add, Int.natCast_one, topsTo_yes ht]; rfl) | skip)
        · have ht : topB B P x i = false := by rw [ht0, hq]; rfl
          simp (disch := omega) only [go_sem, seval, reduceCtorEq, hq]
          (refine Next.drop [false, false, false, false, false, false, false, false, false, false, true, true, false, false, false, false, false, false, false, false, false, false, false, false, false, false, false, false, false, false, false, false, false, false, false, false, false, false, false, false, false, false, false, false, false, false, false, false, false, false, false, false, false, false, false, true, true, true, true, true, true, true, true, true, true, true, true, true, true, true, true, true, true, true, true, true, true, true, true, true, true, true, true, false, false, false] (by omega) (Nat.le_of_ble_eq_true rfl) ?_ ?_ <;> first | (simp only [go_sem, seval, reduceCtorEq, dropF_ch, dropF_cons, dropF_nil, cut, cond_true, cond_false, Int.natCast_zero, Int.natCast_add, Int.natCast_one, topsTo_no ht]; done) | rfl | (simp only [go_sem, seval, reduceCtorEq, dropF_ch, dropF_cons, dropF_nil, cut, cond_true, cond_false, Int.natCast_zero, Int.natCast_add, Int.natCast_one, topsTo_no ht]; rfl) | skip)
    · have f1 : ¬ (i : Int) < B.length := by omega
      obtain rfl : i = B.length := by omega
      have hge := tops_one hbk hhome hx
      by_cases h1 : topsTo B P x B.length ≤ 1
      · have f2 : ((topsTo B P x B.length : Int) != 1) = false := by simp only [bne_eq_false_iff_eq]; omega
        have hI := tops_next (n := B.length) hlt (by rw [hxe]; exact h1) hit
        simp (disch := omega) only [go_sem, seval, reduceCtorEq, f1, f2]
        (refine NextI.drop [false, false, false, false, true, false, false, false, true, true, true, true, false, false, false, false, false, false, false, false, false, false, false, false, false, false, false, false, false, false, false, false, false, false, false, false, false, false, false, false, false, false, false, false, false, false, false, false, true, true, true, true, true, true, true, true, true, true, true, true, true, true, true, true, true, true, true, true, true, true, true, true, true, true, true, true, true, true, true, true, true, true, true, true, true, true] (by omega) (hI) (Nat.le_of_ble_eq_true rfl) ?_ ?_ <;> first | (simp only [go_sem, seval, reduceCtorEq, dropF_ch, dropF_cons, dropF_nil, cut, cond_true, cond_false, Int.natCast_zero, Int.natCast_add, Int.natCast_one]; done) | rfl | (simp only [go_sem, seval, reduceCtorEq, dropF_ch, dropF_cons, dropF_nil, cut, cond_true, cond_false, Int.natCast_zero, Int.natCast_add, Int.natCast_one]; rfl) | skip)
      · have f2 : ((topsTo B P x B.length : Int) != 1) = true := by simp only [bne_iff_ne, ne_eq]; omega
        have e : decB N B P = false := decB_no fun hh => h1 (by rw [← hxe]; exact hh.2.2.2.2 _ (List.getElem_mem hlt))
        simp (disch := omega) only [go_sem, seval, reduceCtorEq, f1, f2, e]
        (refine FnEnd.mk (Nat.le_of_ble_eq_true rfl) rfl (of_decide_eq_true rfl) ?_ ?_ <;> try simp only [go_sem, seval, reduceCtorEq])
  · have d1 : ¬ (k : Int) < (pickTo (labP N.ts) 100).length := by omega
    rw [List.take_of_length_le (by omega)] at hi
    have e : decB N B P = true := decB_yes ⟨hok, hbk, by rw [e0]; exact hal, hhome, hi⟩
    simp (disch := omega) only [go_sem, seval, reduceCtorEq, d1, e]
    (refine FnEnd.mk (Nat.le_of_ble_eq_true rfl) rfl (of_decide_eq_true rfl) ?_ ?_ <;> try simp only [go_sem, seval, reduceCtorEq])
end Go.Proofs.Ytcgnehacihjnkaa
