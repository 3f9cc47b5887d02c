/-
  Contracts: neighbours, closed labels. No condition.
-/
import Derived.Test.YtcgnehacihjnkaaNetE
namespace Go.Proofs.Ytcgnehacihjnkaa
open Go.RowKit Go.Lift Plain
set_option linter.unusedSimpArgs false
set_option linter.unusedVariables false
set_option maxRecDepth 100000

open Classical in
noncomputable def shareB (a b : List Int) : Bool := decide (∃ x ∈ a, x ∈ b)
def tget (ts : List Ten) (i : Nat) : Ten := ts.getD i ⟨[], [], []⟩
theorem tget_at {ts : List Ten} {i : Nat} (h : i < ts.length) : tget ts i = ts[i] := by simp [tget, h]
/-! ### Closed labels -/
noncomputable def closedL (N : Net) : List Int := wol (labelsL N) N.os
theorem closedL_sz (N : Net) : Sz 1048576 (closedL N) := by
  have h := labelsL_sz N
  exact ⟨Nat.le_trans (wol_len _ _) h.len, fun x hx => h.wf x (wol_mem.1 hx).1⟩
theorem iClosedLabels_d {N : Net} (h : NSz 1048576 N) : Does Try.prog 90 [netA N] [] (.own 0 0 (closedL N).length) [some ⟨1, true, iv (closedL N)⟩] := by
  have hl := (labelsL_sz N).len
  have hol := h.o.len
  have htl : List.take (labelsL N).length (labelsL N) = labelsL N := List.take_length
  (refine spec_of (by kernel_rfl) Try.func90 k_impl_ClosedLabels (fnOk (Nat.le_of_ble_eq_true rfl) ?_); unfold C_impl_ClosedLabels)
  (simp only [Nat.reduceSub, List.length_cons, List.length_nil, Nat.reduceAdd, ch_init1, ch_init2, ch_init3, ch_init4, ch_init5, ch_init6, ch_init7, ch_init8]; try simp only [ch_rep]); (simp only [go_sem, seval, reduceCtorEq, List.replicate])
  (refine ti_call (iLabelsOf_d h) ?_ ?_ ?_; (focus (simp only [go_sem, seval, reduceCtorEq]; done)); (first | rfl | (focus (simp only [go_sem]; done))))
  simp only [go_sem, seval, reduceCtorEq]
  (refine wpN_lwk (Wk.nilE 3 1 _ _ rfl) ?_; simp only [go_sem, seval, reduceCtorEq])
  refine wpN_lp ((labelsL N).length) [false, false, false, false, false, true, false, false, false, false, true, true, true, true, true, true, true, true, true, true, true, true, true, false] (fun k => [(3, .own 2 0 (wol ((labelsL N).take k) N.os).length), (9, .d (.int k))]) (fun k => [(2, iv (wol ((labelsL N).take k) N.os))]) (fun _ => by (simp only [go_sem, seval, reduceCtorEq, dropF_ch, dropF_cons, dropF_nil, cut, cond_true, cond_false]); first | done | rfl) (fun _ => by (simp only [go_sem, seval, reduceCtorEq, cut]); first | done | rfl) (Nat.le_of_ble_eq_true rfl) (by first | (simp only [go_sem, seval, reduceCtorEq, dropF_ch, dropF_cons, dropF_nil, cut, cond_true, cond_false, Int.natCast_zero, Int.natCast_add, Int.natCast_one, List.take_zero, wol, List.filter_nil, iv_nil]; done) | rfl | (simp only [go_sem, seval, reduceCtorEq, dropF_ch, dropF_cons, dropF_nil, cut, cond_true, cond_false, Int.natCast_zero, Int.natCast_add, Int.natCast_one, List.take_zero, wol, List.filter_nil, iv_nil]; rfl)) (by first | (simp only [go_sem, seval, reduceCtorEq, dropF_ch, dropF_cons, dropF_nil, cut, cond_true, cond_false, Int.natCast_zero, Int.natCast_add, Int.natCast_one, List.take_zero, wol, List.filter_nil, iv_nil]; done) | rfl | (simp only [go_sem, seval, reduceCtorEq, dropF_ch, dropF_cons, dropF_nil, cut, cond_true, cond_false, Int.natCast_zero, Int.natCast_add, Int.natCast_one, List.take_zero, wol, List.filter_nil, iv_nil]; rfl)) fun k hk => ?_
  unfold L0_impl_ClosedLabels
  have hwl := wol_len ((labelsL N).take k) N.os
  have htk : ((labelsL N).take k).length ≤ (labelsL N).length := by rw [List.length_take]; omega
  by_cases hlt : k < (labelsL N).length
  · have d1 : (k : Int) < (labelsL N).length := by omega
    have g : (labelsL N)[k]? = some (labelsL N)[k] := List.getElem?_eq_getElem hlt
    simp (disch := omega) only [go_sem, seval, reduceCtorEq, d1, g]
    (refine ti_call (hasInt_d (xs := N.os) (x := (labelsL N)[k]) (by omega)) ?_ ?_ ?_; (focus (simp only [go_sem, seval, reduceCtorEq]; done)); (first | rfl | (focus (simp only [go_sem]; done))))
    cases he : has N.os (labelsL N)[k]
    · have e : wol ((labelsL N).take (k + 1)) N.os = wol ((labelsL N).take k) N.os ++ [(labelsL N)[k]] := filter_yes (p := fun x => !has N.os x) hlt (by rw [he]; rfl)
      simp (disch := omega) only [go_sem, seval, reduceCtorEq, he]
      refine ⟨by omega, ?_⟩
      (refine Next.drop [false, false, false, false, false, true, false, false, false, false, true, true, true, true, true, true, true, true, true, true, true, true, true, false] (by omega) (Nat.le_of_ble_eq_true rfl) ?_ ?_ <;> first | (simp only [go_sem, seval, reduceCtorEq, dropF_ch, dropF_cons, dropF_nil, cut, cond_true, cond_false, Int.natCast_zero, Int.natCast_add, Int.natCast_one, e, List.length_append]; done) | rfl | (simp only [go_sem, seval, reduceCtorEq, dropF_ch, dropF_cons, dropF_nil, cut, cond_true, cond_false, Int.natCast_zero, Int.natCast_add, Int.natCast_one, e, List.length_append]; rfl) | skip)
    · have e : wol ((labelsL N).take (k + 1)) N.os = wol ((labelsL N).take k) N.os := filter_no (p := fun x => !has N.os x) hlt (by rw [he]; rfl)
      simp (disch := omega) only [go_sem, seval, reduceCtorEq, he]
      (refine Next.drop [false, false, false, false, false, true, false, false, false, false, true, true, true, true, true, true, true, true, true, true, true, true, true, false] (by omega) (Nat.le_of_ble_eq_true rfl) ?_ ?_ <;> first | (simp only [go_sem, seval, reduceCtorEq, dropF_ch, dropF_cons, dropF_nil, cut, cond_true, cond_false, Int.natCast_zero, Int.natCast_add, Int.natCast_one, e]; done) | rfl | (simp only [go_sem, seval, reduceCtorEq, dropF_ch, dropF_cons, dropF_nil, cut, cond_true, cond_false, Int.natCast_zero, Int.natCast_add, Int.natCast_one, e]; rfl) | skip)
  · have d1 : ¬ (k : Int) < (labelsL N).length := by omega
    have htq : List.take k (labelsL N) = labelsL N := List.take_of_length_le (by omega)
    simp (disch := omega) only [go_sem, seval, reduceCtorEq, d1, htq]
    (refine FnEnd.mk (Nat.le_of_ble_eq_true rfl) rfl (of_decide_eq_true rfl) ?_ ?_ <;> try simp only [go_sem, seval, reduceCtorEq])
    all_goals rfl
theorem l21Closed_d {N : Net} (h : NSz 1048576 N) (h1 : netOk N = true) : Does Try.prog 104 [netA N] [] (.own 0 0 (closedL N).length) [some ⟨1, true, iv (closedL N)⟩] := by
  have hl := (labelsL_sz N).len
  have hol := h.o.len
  have hlab : labelsL N = pickTo (labP N.ts) 100 := by simp [labelsL, h1]
  (refine spec_of (by kernel_rfl) Try.func104 k_spec_l21Closed (fnOk (Nat.le_of_ble_eq_true rfl) ?_); unfold C_spec_l21Closed)
  (simp only [Nat.reduceSub, List.length_cons, List.length_nil, Nat.reduceAdd, ch_init1, ch_init2, ch_init3, ch_init4, ch_init5, ch_init6, ch_init7, ch_init8]; try simp only [ch_rep]); (simp only [go_sem, seval, reduceCtorEq, List.replicate])
  (refine ti_call (l12Labels_d (ts := N.ts) h.l h.t (netOk_ax h1)) ?_ ?_ ?_; (focus (simp only [go_sem, seval, reduceCtorEq]; done)); (first | rfl | (focus (simp only [go_sem]; done))))
  rw [← hlab]
  simp only [go_sem, seval, reduceCtorEq]
  refine wpN_lp ((labelsL N).length) [false, false, false, false, false, true, true, false, false, false, false, false, true, true, true, true, true, true, true, true, true, true, true, true, true, false] (fun k => [(3, .own 1 0 (wol ((labelsL N).take k) N.os).length), (11, .d (.int k))]) (fun k => [(1, iv (wol ((labelsL N).take k) N.os))]) (fun _ => by (simp only [go_sem, seval, reduceCtorEq, dropF_ch, dropF_cons, dropF_nil, cut, cond_true, cond_false]); first | done | rfl) (fun _ => by (simp only [go_sem, seval, reduceCtorEq, cut]); first | done | rfl) (Nat.le_of_ble_eq_true rfl) (by first | (simp only [go_sem, seval, reduceCtorEq, dropF_ch, dropF_cons, dropF_nil, cut, cond_true, cond_false, Int.natCast_zero, Int.natCast_add, Int.natCast_one, List.take_zero, wol, List.filter_nil, iv_nil]; done) | rfl | (simp only [go_sem, seval, reduceCtorEq, dropF_ch, dropF_cons, dropF_nil, cut, cond_true, cond_false, Int.natCast_zero, Int.natCast_add, Int.natCast_one, List.take_zero, wol, List.filter_nil, iv_nil]; rfl)) (by first | (simp only [go_sem, seval, reduceCtorEq, dropF_ch, dropF_cons, dropF_nil, cut, cond_true, cond_false, Int.natCast_zero, Int.natCast_add, Int.natCast_one, List.take_zero, wol, List.filter_nil, iv_nil]; done) | rfl | (simp only [go_sem, seval, reduceCtorEq, dropF_ch, dropF_cons, dropF_nil, cut, cond_true, cond_false, Int.natCast_zero, Int.natCast_add, Int.natCast_one, List.take_zero, wol, List.filter_nil, iv_nil]; rfl)) fun k hk => ?_
  unfold L0_spec_l21Closed
  have hwl := wol_len ((labelsL N).take k) N.os
  have htk : ((labelsL N).take k).length ≤ (labelsL N).length := by rw [List.length_take]; omega
  by_cases hlt : k < (labelsL N).length
  · have d1 : (k : Int) < (labelsL N).length := by omega
    have g : (labelsL N)[k]? = some (labelsL N)[k] := List.getElem?_eq_getElem hlt
    simp (disch := omega) only [go_sem, seval, reduceCtorEq, d1, g]
    (refine ti_call (l05Find_d (xs := N.os) (x := (labelsL N)[k]) (by omega)) ?_ ?_ ?_; (focus (simp only [go_sem, seval, reduceCtorEq]; done)); (first | rfl | (focus (simp only [go_sem]; done))))
    by_cases he : (labelsL N)[k] ∈ N.os
    · have c : ¬ place N.os (labelsL N)[k] < 0 := fun e => place_neg.1 e he
      have e : wol ((labelsL N).take (k + 1)) N.os = wol ((labelsL N).take k) N.os := filter_no (p := fun x => !has N.os x) hlt (by rw [has_true.2 he]; rfl)
      simp (disch := omega) only [go_sem, seval, reduceCtorEq, c]
      (refine Next.drop [false, false, false, false, false, true, true, false, false, false, false, false, true, true, true, true, true, true, true, true, true, true, true, true, true, false] (by omega) (Nat.le_of_ble_eq_true rfl) ?_ ?_ <;> first | (simp only [go_sem, seval, reduceCtorEq, dropF_ch, dropF_cons, dropF_nil, cut, cond_true, cond_false, Int.natCast_zero, Int.natCast_add, Int.natCast_one, e]; done) | rfl | (simp only [go_sem, seval, reduceCtorEq, dropF_ch, dropF_cons, dropF_nil, cut, cond_true, cond_false, Int.natCast_zero, Int.natCast_add, Int.natCast_one, e]; rfl) | skip)
    · have c : place N.os (labelsL N)[k] < 0 := place_neg.2 he
      have e : wol ((labelsL N).take (k + 1)) N.os = wol ((labelsL N).take k) N.os ++ [(labelsL N)[k]] := filter_yes (p := fun x => !has N.os x) hlt (by rw [has_false.2 he]; rfl)
      simp (disch := omega) only [go_sem, seval, reduceCtorEq, c]
      refine ⟨by omega, ?_⟩
      (refine Next.drop [false, false, false, false, false, true, true, false, false, false, false, false, true, true, true, true, true, true, true, true, true, true, true, true, true, false] (by omega) (Nat.le_of_ble_eq_true rfl) ?_ ?_ <;> first | (simp only [go_sem, seval, reduceCtorEq, dropF_ch, dropF_cons, dropF_nil, cut, cond_true, cond_false, Int.natCast_zero, Int.natCast_add, Int.natCast_one, e, List.length_append]; done) | rfl | (simp only [go_sem, seval, reduceCtorEq, dropF_ch, dropF_cons, dropF_nil, cut, cond_true, cond_false, Int.natCast_zero, Int.natCast_add, Int.natCast_one, e, List.length_append]; rfl) | skip)
  · have d1 : ¬ (k : Int) < (labelsL N).length := by omega
    have htq : List.take k (labelsL N) = labelsL N := List.take_of_length_le (by omega)
    simp (disch := omega) only [go_sem, seval, reduceCtorEq, d1, htq]
    (refine FnEnd.mk (Nat.le_of_ble_eq_true rfl) rfl (of_decide_eq_true rfl) ?_ ?_ <;> try simp only [go_sem, seval, reduceCtorEq])
    all_goals rfl
theorem sClosedLabels_d {N : Net} (h : NSz 1048576 N) : Does Try.prog 88 [netA N] [] (.own 0 0 (closedL N).length) [some ⟨1, true, iv (closedL N)⟩] := by
  (refine spec_of (by kernel_rfl) Try.func88 k_spec_ClosedLabels (fnOk (Nat.le_of_ble_eq_true rfl) ?_); unfold C_spec_ClosedLabels)
  (simp only [Nat.reduceSub, List.length_cons, List.length_nil, Nat.reduceAdd, ch_init1, ch_init2, ch_init3, ch_init4, ch_init5, ch_init6, ch_init7, ch_init8]; try simp only [ch_rep]); (simp only [go_sem, seval, reduceCtorEq, List.replicate])
  (refine ti_call (sNetworkOk_d h) ?_ ?_ ?_; (focus (simp only [go_sem, seval, reduceCtorEq]; done)); (first | rfl | (focus (simp only [go_sem]; done))))
  cases h1 : netOk N
  · have e : closedL N = [] := by simp [closedL, labelsL, h1, wol]
    simp only [go_sem, seval, reduceCtorEq, h1, e]
    refine FnEnd.wk (Wk.nilE 2 1 _ _ rfl) ?_
    (refine FnEnd.mk (Nat.le_of_ble_eq_true rfl) rfl (of_decide_eq_true rfl) ?_ ?_ <;> try simp only [go_sem, seval, reduceCtorEq])
  simp only [go_sem, seval, reduceCtorEq, h1]
  (refine ti_call (l21Closed_d h h1) ?_ ?_ ?_; (focus (simp only [go_sem, seval, reduceCtorEq]; done)); (first | rfl | (focus (simp only [go_sem]; done))))
  simp only [go_sem, seval, reduceCtorEq]
  (refine FnEnd.mk (Nat.le_of_ble_eq_true rfl) rfl (of_decide_eq_true rfl) ?_ ?_ <;> try simp only [go_sem, seval, reduceCtorEq])
end Go.Proofs.Ytcgnehacihjnkaa
