/-
  Contracts: steps of orders, as flat lists of ints; plain orders. No condition.
-/
import Derived.Test.YtcgnehacihjnkaaMgSortOrderA
import Derived.Test.YtcgnehacihjnkaaNetC
import Derived.Test.YtcgnehacihjnkaaNetM
namespace Go.Proofs.Ytcgnehacihjnkaa
open Go.RowKit Go.Lift Plain
set_option linter.unusedSimpArgs false
set_option linter.unusedVariables false
set_option maxRecDepth 100000

/-- n steps: 2 n ints. -/
structure StpSz (m n : Nat) (F : List Int) : Prop where
  l : F.length = n * 2
  n : n ≤ m
  wf : ∀ x ∈ F, I64 x
theorem StpSz.up {m m' n : Nat} {F : List Int} (h : StpSz m n F) (hm : m ≤ m') : StpSz m' n F := ⟨h.l, Nat.le_trans h.n hm, h.wf⟩
theorem stp_all {m n : Nat} {F : List Int} (h : StpSz m n F) : F.take (n * 2) = F := List.take_of_length_le (by rw [h.l]; exact Nat.le_refl _)
theorem stp_allM {m n : Nat} {F : List Int} {q : Int} (h : StpSz m n F) : (markL F q).take (n * 2) = markL F q := List.take_of_length_le (by rw [markL_len, h.l]; exact Nat.le_refl _)
def stp (n : Nat) (F : List Int) : D := .sl n (dv F)
attribute [go_sem] stp
section
variable {F : List Int} {n k : Nat}
theorem take_cut2 (h : k * 2 + 2 ≤ F.length) : (F.drop (k * 2)).take 2 = [F[k * 2]'(by omega), F[k * 2 + 1]'(by omega)] := by
  rw [List.drop_eq_getElem_cons (i := k * 2) (by omega), List.drop_eq_getElem_cons (i := k * 2 + 1) (by omega)]
  rfl
theorem zeros_int2 (n : Nat) : Go.Lift.zeros n [.d (.int 0), .d (.int 0)] = iv (List.replicate (n * 2) 0) := by
  induction n with
  | zero => rfl
  | succ n ih =>
    rw [zeros_succ, ih, show (n + 1) * 2 = n * 2 + 1 + 1 by omega]
    simp [iv, List.replicate_succ]
theorem iv_mid2 {A B : List Int} (a b : Int) : iv A ++ [.d (.int a), .d (.int b)] ++ iv B = iv (A ++ [a, b] ++ B) := by simp [iv]
theorem next2 (k : Nat) : (k + 1) * 2 = k * 2 + 2 := by omega
theorem dv_two (a b : Int) : dv [a, b] = [.int a, .int b] := rfl
theorem mix_next2 {l r : List Int} (h : l.length = r.length) (hk : k * 2 + 2 ≤ l.length) : (mix l r (k * 2)).take (k * 2) ++ [l[k * 2]'(by omega), l[k * 2 + 1]'(by omega)] ++ (mix l r (k * 2)).drop (k * 2 + 2) = mix l r (k * 2 + 2) := by
  have h1 := mix_next (k := k * 2) h (List.getElem?_eq_getElem (show k * 2 < l.length by omega))
  have h2 := mix_next (k := k * 2 + 1) h (List.getElem?_eq_getElem (show k * 2 + 1 < l.length by omega))
  have hl := mix_len (k := k * 2) h
  rw [← h2, ← h1]
  generalize mix l r (k * 2) = M at *
  have a : (M.take (k * 2) ++ [l[k * 2]] ++ M.drop (k * 2 + 1)).take (k * 2 + 1) = M.take (k * 2) ++ [l[k * 2]] := by
    rw [List.take_append_of_le_length (by simp; omega), List.take_of_length_le (by simp; omega)]
  have b : (M.take (k * 2) ++ [l[k * 2]] ++ M.drop (k * 2 + 1)).drop (k * 2 + 1 + 1) = M.drop (k * 2 + 2) := by
    rw [List.drop_append, List.drop_of_length_le (by simp; omega), List.nil_append, List.drop_drop]
    congr 1
    simp
    omega
  rw [a, b]
  simp
end
theorem eqStep_d {a b : Int} : Does Try.prog 115 [.agg [.d (.int a), .d (.int b)], .agg [.d (.int a), .d (.int b)]] [] (.d (.bool true)) [] := by
  (refine spec_of (by kernel_rfl) Try.func115 k_laws_eqStep (fnOk (Nat.le_of_ble_eq_true rfl) ?_); unfold C_laws_eqStep)
  (simp only [Nat.reduceSub, List.length_cons, List.length_nil, Nat.reduceAdd, ch_init1, ch_init2, ch_init3, ch_init4, ch_init5, ch_init6, ch_init7, ch_init8]; try simp only [ch_rep]); (simp only [go_sem, seval, reduceCtorEq, List.replicate])
  (refine FnEnd.mk (Nat.le_of_ble_eq_true rfl) rfl (of_decide_eq_true rfl) ?_ ?_ <;> try simp only [go_sem, seval, reduceCtorEq])
theorem toStep_d {a b : Int} : Does Try.prog 112 [.agg [.d (.int a), .d (.int b)]] [] (.agg [.d (.int a), .d (.int b)]) [] := by
  (refine spec_of (by kernel_rfl) Try.func112 k_laws_toStep (fnOk (Nat.le_of_ble_eq_true rfl) ?_); unfold C_laws_toStep)
  (simp only [Nat.reduceSub, List.length_cons, List.length_nil, Nat.reduceAdd, ch_init1, ch_init2, ch_init3, ch_init4, ch_init5, ch_init6, ch_init7, ch_init8]; try simp only [ch_rep]); (simp only [go_sem, seval, reduceCtorEq, List.replicate])
  (refine FnEnd.mk (Nat.le_of_ble_eq_true rfl) rfl (of_decide_eq_true rfl) ?_ ?_ <;> try simp only [go_sem, seval, reduceCtorEq])
theorem eqStepS_d {n : Nat} {F : List Int} (h : StpSz 1048576 n F) : Does Try.prog 52 [.d (stp n F), .d (stp n F)] [] (.d (.bool true)) [] := by
  have hn := h.n
  have hl := h.l
  (refine spec_of (by kernel_rfl) Try.func52 k_laws_eqStepS (fnOk (Nat.le_of_ble_eq_true rfl) ?_); unfold C_laws_eqStepS)
  (simp only [Nat.reduceSub, List.length_cons, List.length_nil, Nat.reduceAdd, ch_init1, ch_init2, ch_init3, ch_init4, ch_init5, ch_init6, ch_init7, ch_init8]; try simp only [ch_rep]); (simp only [go_sem, seval, reduceCtorEq, List.replicate])
  refine wpN_lp (n) [false, false, false, false, true, false, false, false, false, false, false, true, true, true, true, true, true, true, true, true, true, true, true, true, true, true, true] (fun k => [(5, .d (.int k))]) (fun k => []) (fun _ => by (simp only [go_sem, seval, reduceCtorEq, dropF_ch, dropF_cons, dropF_nil, cut, cond_true, cond_false]); first | done | rfl) (fun _ => by (simp only [go_sem, seval, reduceCtorEq, cut]); first | done | rfl) (Nat.le_of_ble_eq_true rfl) (by first | (simp only [go_sem, seval, reduceCtorEq, dropF_ch, dropF_cons, dropF_nil, cut, cond_true, cond_false, Int.natCast_zero, Int.natCast_add, Int.natCast_one]; done) | rfl | (simp only [go_sem, seval, reduceCtorEq, dropF_ch, dropF_cons, dropF_nil, cut, cond_true, cond_false, Int.natCast_zero, Int.natCast_add, Int.natCast_one]; rfl)) (by first | (simp only [go_sem, seval, reduceCtorEq, dropF_ch, dropF_cons, dropF_nil, cut, cond_true, cond_false, Int.natCast_zero, Int.natCast_add, Int.natCast_one]; done) | rfl | (simp only [go_sem, seval, reduceCtorEq, dropF_ch, dropF_cons, dropF_nil, cut, cond_true, cond_false, Int.natCast_zero, Int.natCast_add, Int.natCast_one]; rfl)) fun k hk => ?_
  unfold L0_laws_eqStepS
  by_cases hlt : k < n
  · have d1 : (k : Int) < n := by omega
    have g := take_cut2 (F := F) (k := k) (by omega)
    simp (disch := omega) only [go_sem, seval, reduceCtorEq, d1, g, dv_two]
    (repeat (refine And.intro (by omega) ?_))
    (refine ti_call (eqStep_d (a := F[k * 2]) (b := F[k * 2 + 1])) ?_ ?_ ?_; (focus (simp only [go_sem, seval, reduceCtorEq]; done)); (first | rfl | (focus (simp only [go_sem]; done))))
    simp (disch := omega) only [go_sem, seval, reduceCtorEq]
    (refine Next.drop [false, false, false, false, true, false, false, false, false, false, false, true, true, true, true, true, true, true, true, true, true, true, true, true, true, true, true] (by omega) (Nat.le_of_ble_eq_true rfl) ?_ ?_ <;> first | (simp only [go_sem, seval, reduceCtorEq, dropF_ch, dropF_cons, dropF_nil, cut, cond_true, cond_false, Int.natCast_zero, Int.natCast_add, Int.natCast_one]; done) | rfl | (simp only [go_sem, seval, reduceCtorEq, dropF_ch, dropF_cons, dropF_nil, cut, cond_true, cond_false, Int.natCast_zero, Int.natCast_add, Int.natCast_one]; rfl) | skip)
  · have d1 : ¬ (k : Int) < n := by omega
    simp (disch := omega) only [go_sem, seval, reduceCtorEq, d1]
    (refine FnEnd.mk (Nat.le_of_ble_eq_true rfl) rfl (of_decide_eq_true rfl) ?_ ?_ <;> try simp only [go_sem, seval, reduceCtorEq])
theorem toStepS_d {n : Nat} {F : List Int} (h : StpSz 1048576 n F) : Does Try.prog 50 [.d (stp n F)] [] (.own 0 0 n) [some ⟨2, true, iv F⟩] := by
  have hn := h.n
  have hl := h.l
  have hrl : (List.replicate (n * 2) (0 : Int)).length = n * 2 := by simp
  have hfl : F.length = (List.replicate (n * 2) (0 : Int)).length := by omega
  (refine spec_of (by kernel_rfl) Try.func50 k_laws_toStepS (fnOk (Nat.le_of_ble_eq_true rfl) ?_); unfold C_laws_toStepS)
  (simp only [Nat.reduceSub, List.length_cons, List.length_nil, Nat.reduceAdd, ch_init1, ch_init2, ch_init3, ch_init4, ch_init5, ch_init6, ch_init7, ch_init8]; try simp only [ch_rep]); (simp only [go_sem, seval, reduceCtorEq, List.replicate])
  simp (disch := omega) only [go_sem, seval, reduceCtorEq, zeros_int2]
  (repeat (refine And.intro (by omega) ?_))
  refine wpN_lp (n) [false, false, false, false, false, false, false, false, true, true, true, true, true, true, true, true, true, true, true, true, true, true, false] (fun k => [(4, .d (.int k))]) (fun k => [(0, iv (mix F (List.replicate (n * 2) 0) (k * 2)))]) (fun _ => by (simp only [go_sem, seval, reduceCtorEq, dropF_ch, dropF_cons, dropF_nil, cut, cond_true, cond_false]); first | done | rfl) (fun _ => by (simp only [go_sem, seval, reduceCtorEq, cut]); first | done | rfl) (Nat.le_of_ble_eq_true rfl) (by first | (simp only [go_sem, seval, reduceCtorEq, dropF_ch, dropF_cons, dropF_nil, cut, cond_true, cond_false, Int.natCast_zero, Int.natCast_add, Int.natCast_one, Nat.zero_mul, mix_zero]; done) | rfl | (simp only [go_sem, seval, reduceCtorEq, dropF_ch, dropF_cons, dropF_nil, cut, cond_true, cond_false, Int.natCast_zero, Int.natCast_add, Int.natCast_one, Nat.zero_mul, mix_zero]; rfl)) (by first | (simp only [go_sem, seval, reduceCtorEq, dropF_ch, dropF_cons, dropF_nil, cut, cond_true, cond_false, Int.natCast_zero, Int.natCast_add, Int.natCast_one, Nat.zero_mul, mix_zero]; done) | rfl | (simp only [go_sem, seval, reduceCtorEq, dropF_ch, dropF_cons, dropF_nil, cut, cond_true, cond_false, Int.natCast_zero, Int.natCast_add, Int.natCast_one, Nat.zero_mul, mix_zero]; rfl)) fun k hk => ?_
  unfold L0_laws_toStepS
  have hml := mix_len (k := k * 2) hfl
  by_cases hlt : k < n
  · have d1 : (k : Int) < n := by omega
    have g := take_cut2 (F := F) (k := k) (by omega)
    have hm := mix_next2 (k := k) hfl (by omega)
    simp (disch := omega) only [go_sem, seval, reduceCtorEq, d1, g, dv_two]
    (repeat (refine And.intro (by omega) ?_))
    (refine ti_call (toStep_d (a := F[k * 2]) (b := F[k * 2 + 1])) ?_ ?_ ?_; (focus (simp only [go_sem, seval, reduceCtorEq]; done)); (first | rfl | (focus (simp only [go_sem]; done))))
    simp (disch := omega) only [go_sem, seval, reduceCtorEq]
    (repeat (refine And.intro (by omega) ?_))
    (refine Next.drop [false, false, false, false, false, false, false, false, true, true, true, true, true, true, true, true, true, true, true, true, true, true, false] (by omega) (Nat.le_of_ble_eq_true rfl) ?_ ?_ <;> first | (simp only [go_sem, seval, reduceCtorEq, dropF_ch, dropF_cons, dropF_nil, cut, cond_true, cond_false, Int.natCast_zero, Int.natCast_add, Int.natCast_one, iv_mid2, hm, next2]; done) | rfl | (simp only [go_sem, seval, reduceCtorEq, dropF_ch, dropF_cons, dropF_nil, cut, cond_true, cond_false, Int.natCast_zero, Int.natCast_add, Int.natCast_one, iv_mid2, hm, next2]; rfl) | skip)
  · have d1 : ¬ (k : Int) < n := by omega
    have hm : mix F (List.replicate (n * 2) 0) (k * 2) = F := mix_full (by omega) (by omega)
    simp (disch := omega) only [go_sem, seval, reduceCtorEq, d1, hm]
    (refine FnEnd.mk (Nat.le_of_ble_eq_true rfl) rfl (of_decide_eq_true rfl) ?_ ?_ <;> try simp only [go_sem, seval, reduceCtorEq])
theorem markStepS_d {n : Nat} {F : List Int} {m : Int} (h : StpSz 1048576 n F) (h0 : 0 ≤ m ∧ m ≤ 1073741824) : Does Try.prog 53 [.own 0 0 n, .d (.int m)] [some ⟨2, false, iv F⟩] (.d (.int (m + F.length))) [some ⟨2, false, iv (markL F m)⟩] := by
  have hn := h.n
  have hfl := h.l
  have hl := markL_len F m
  (refine spec_of (by kernel_rfl) Try.func53 k_laws_markStepS (fnOk (Nat.le_of_ble_eq_true rfl) ?_); unfold C_laws_markStepS)
  (simp only [Nat.reduceSub, List.length_cons, List.length_nil, Nat.reduceAdd, ch_init1, ch_init2, ch_init3, ch_init4, ch_init5, ch_init6, ch_init7, ch_init8]; try simp only [ch_rep]); (simp only [go_sem, seval, reduceCtorEq, List.replicate])
  refine wpN_lp (n) [false, false, false, false, false, false, true, true, true, true, true, true, true, true, true, true, true, true, true, true, true, true, true, true, true, true, false] (fun k => [(1, .d (.int (m + (k * 2 : Nat)))), (5, .d (.int k))]) (fun k => [(0, iv (mix (markL F m) F (k * 2)))]) (fun _ => by (simp only [go_sem, seval, reduceCtorEq, dropF_ch, dropF_cons, dropF_nil, cut, cond_true, cond_false]); first | done | rfl) (fun _ => by (simp only [go_sem, seval, reduceCtorEq, cut]); first | done | rfl) (Nat.le_of_ble_eq_true rfl) (by first | (simp only [go_sem, seval, reduceCtorEq, dropF_ch, dropF_cons, dropF_nil, cut, cond_true, cond_false, Int.natCast_zero, Int.natCast_add, Int.natCast_one, Nat.zero_mul, mix_zero, Int.natCast_zero, Int.add_zero]; done) | rfl | (simp only [go_sem, seval, reduceCtorEq, dropF_ch, dropF_cons, dropF_nil, cut, cond_true, cond_false, Int.natCast_zero, Int.natCast_add, Int.natCast_one, Nat.zero_mul, mix_zero, Int.natCast_zero, Int.add_zero]; rfl)) (by first | (simp only [go_sem, seval, reduceCtorEq, dropF_ch, dropF_cons, dropF_nil, cut, cond_true, cond_false, Int.natCast_zero, Int.natCast_add, Int.natCast_one, Nat.zero_mul, mix_zero, Int.natCast_zero, Int.add_zero]; done) | rfl | (simp only [go_sem, seval, reduceCtorEq, dropF_ch, dropF_cons, dropF_nil, cut, cond_true, cond_false, Int.natCast_zero, Int.natCast_add, Int.natCast_one, Nat.zero_mul, mix_zero, Int.natCast_zero, Int.add_zero]; rfl)) fun k hk => ?_
  unfold L0_laws_markStepS
  have hml := mix_len (k := k * 2) hl
  have hml1 := mix_len (k := k * 2 + 1) hl
  by_cases hlt : k < n
  · have d1 : (k : Int) < n := by omega
    have m1 := mix_next (k := k * 2) hl (markL_get (by omega))
    have m2 := mix_next (k := k * 2 + 1) hl (markL_get (by omega))
    have e1 : m + ((k * 2 : Nat) : Int) + 1 = m + ((k * 2 + 1 : Nat) : Int) := by push_cast; omega
    simp (disch := omega) only [go_sem, seval, reduceCtorEq, d1, m1, e1]
    (repeat (refine And.intro (by omega) ?_))
    have e2 : m + ((k * 2 + 1 : Nat) : Int) + 1 = m + ((k * 2 + 2 : Nat) : Int) := by push_cast; omega
    simp only [e2, m2]
    (refine Next.drop [false, false, false, false, false, false, true, true, true, true, true, true, true, true, true, true, true, true, true, true, true, true, true, true, true, true, false] (by omega) (Nat.le_of_ble_eq_true rfl) ?_ ?_ <;> first | (simp only [go_sem, seval, reduceCtorEq, dropF_ch, dropF_cons, dropF_nil, cut, cond_true, cond_false, Int.natCast_zero, Int.natCast_add, Int.natCast_one, next2]; done) | rfl | (simp only [go_sem, seval, reduceCtorEq, dropF_ch, dropF_cons, dropF_nil, cut, cond_true, cond_false, Int.natCast_zero, Int.natCast_add, Int.natCast_one, next2]; rfl) | skip)
  · have d1 : ¬ (k : Int) < n := by omega
    obtain rfl : k = n := by omega
    have hm : mix (markL F m) F F.length = markL F m := mix_full (by omega) (by omega)
    simp (disch := omega) only [go_sem, seval, reduceCtorEq, d1, ← hfl, hm]
    (refine FnEnd.mk (Nat.le_of_ble_eq_true rfl) rfl (of_decide_eq_true rfl) ?_ ?_ <;> try simp only [go_sem, seval, reduceCtorEq])
theorem heldStepS_d {n : Nat} {F : List Int} {m : Int} (h : StpSz 1048576 n F) (h0 : 0 ≤ m ∧ m ≤ 1073741824) : Does Try.prog 54 [.d (stp n (markL F m)), .d (.int m)] [] (.d (.int (m + F.length))) [] := by
  have hn := h.n
  have hfl := h.l
  have hl := markL_len F m
  (refine spec_of (by kernel_rfl) Try.func54 k_laws_heldStepS (fnOk (Nat.le_of_ble_eq_true rfl) ?_); unfold C_laws_heldStepS)
  (simp only [Nat.reduceSub, List.length_cons, List.length_nil, Nat.reduceAdd, ch_init1, ch_init2, ch_init3, ch_init4, ch_init5, ch_init6, ch_init7, ch_init8]; try simp only [ch_rep]); (simp only [go_sem, seval, reduceCtorEq, List.replicate])
  refine wpN_lp (n) [false, false, false, false, true, false, true, true, true, true, true, true, true, true, true, true, true, true, true, true, true, true, true, true, true, true, true, true, true, true, false] (fun k => [(1, .d (.int (m + (k * 2 : Nat)))), (5, .d (.int k))]) (fun k => []) (fun _ => by (simp only [go_sem, seval, reduceCtorEq, dropF_ch, dropF_cons, dropF_nil, cut, cond_true, cond_false]); first | done | rfl) (fun _ => by (simp only [go_sem, seval, reduceCtorEq, cut]); first | done | rfl) (Nat.le_of_ble_eq_true rfl) (by first | (simp only [go_sem, seval, reduceCtorEq, dropF_ch, dropF_cons, dropF_nil, cut, cond_true, cond_false, Int.natCast_zero, Int.natCast_add, Int.natCast_one, Nat.zero_mul, Int.natCast_zero, Int.add_zero]; done) | rfl | (simp only [go_sem, seval, reduceCtorEq, dropF_ch, dropF_cons, dropF_nil, cut, cond_true, cond_false, Int.natCast_zero, Int.natCast_add, Int.natCast_one, Nat.zero_mul, Int.natCast_zero, Int.add_zero]; rfl)) (by first | (simp only [go_sem, seval, reduceCtorEq, dropF_ch, dropF_cons, dropF_nil, cut, cond_true, cond_false, Int.natCast_zero, Int.natCast_add, Int.natCast_one, Nat.zero_mul, Int.natCast_zero, Int.add_zero]; done) | rfl | (simp only [go_sem, seval, reduceCtorEq, dropF_ch, dropF_cons, dropF_nil, cut, cond_true, cond_false, Int.natCast_zero, Int.natCast_add, Int.natCast_one, Nat.zero_mul, Int.natCast_zero, Int.add_zero]; rfl)) fun k hk => ?_
  unfold L0_laws_heldStepS
  by_cases hlt : k < n
  · have d1 : (k : Int) < n := by omega
    have g1 := markL_get (xs := F) (m := m) (k := k * 2) (by omega)
    have g2 := markL_get (xs := F) (m := m) (k := k * 2 + 1) (by omega)
    have e1 : m + ((k * 2 : Nat) : Int) + 1 = m + ((k * 2 + 1 : Nat) : Int) := by push_cast; omega
    have e2 : m + ((k * 2 + 1 : Nat) : Int) + 1 = m + ((k * 2 + 2 : Nat) : Int) := by push_cast; omega
    simp (disch := omega) only [go_sem, seval, reduceCtorEq, d1, g1, g2, e1, e2]
    (repeat (refine And.intro (by omega) ?_))
    (refine Next.drop [false, false, false, false, true, false, true, true, true, true, true, true, true, true, true, true, true, true, true, true, true, true, true, true, true, true, true, true, true, true, false] (by omega) (Nat.le_of_ble_eq_true rfl) ?_ ?_ <;> first | (simp only [go_sem, seval, reduceCtorEq, dropF_ch, dropF_cons, dropF_nil, cut, cond_true, cond_false, Int.natCast_zero, Int.natCast_add, Int.natCast_one, next2]; done) | rfl | (simp only [go_sem, seval, reduceCtorEq, dropF_ch, dropF_cons, dropF_nil, cut, cond_true, cond_false, Int.natCast_zero, Int.natCast_add, Int.natCast_one, next2]; rfl) | skip)
  · have d1 : ¬ (k : Int) < n := by omega
    obtain rfl : k = n := by omega
    simp (disch := omega) only [go_sem, seval, reduceCtorEq, d1, ← hfl]
    (refine FnEnd.mk (Nat.le_of_ble_eq_true rfl) rfl (of_decide_eq_true rfl) ?_ ?_ <;> try simp only [go_sem, seval, reduceCtorEq])
def szStp (n : Nat) (left : Int) : Int := if left - n < 0 then -1 else left - n
theorem szStepS_d {n : Nat} {F : List Int} {left : Int} (hn : (n : Int) ≤ 9223372036854775807) (hl : 0 ≤ left ∧ left ≤ 1099511627776) : Does Try.prog 48 [.d (stp n F), .d (.int left)] [] (.d (.int (szStp n left))) [] := by
  (refine spec_of (by kernel_rfl) Try.func48 k_laws_szStepS (fnOk (Nat.le_of_ble_eq_true rfl) ?_); unfold C_laws_szStepS)
  (simp only [Nat.reduceSub, List.length_cons, List.length_nil, Nat.reduceAdd, ch_init1, ch_init2, ch_init3, ch_init4, ch_init5, ch_init6, ch_init7, ch_init8]; try simp only [ch_rep]); (simp only [go_sem, seval, reduceCtorEq, List.replicate])
  by_cases b : left - n < 0
  · have e : szStp n left = -1 := if_pos b
    simp (disch := omega) only [go_sem, seval, reduceCtorEq, b, e]
    (refine FnEnd.mk (Nat.le_of_ble_eq_true rfl) rfl (of_decide_eq_true rfl) ?_ ?_ <;> try simp only [go_sem, seval, reduceCtorEq])
  · have e : szStp n left = left - n := if_neg b
    simp (disch := omega) only [go_sem, seval, reduceCtorEq, b, e]
    (refine FnEnd.mk (Nat.le_of_ble_eq_true rfl) rfl (of_decide_eq_true rfl) ?_ ?_ <;> try simp only [go_sem, seval, reduceCtorEq])

/-! ### Plain orders -/
end Go.Proofs.Ytcgnehacihjnkaa
