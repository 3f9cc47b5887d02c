/-
  Contracts: what the laws' own helpers do with networks. No condition.
-/
import Derived.Test.YtmggkcifakbfeaaMgStackTensorsA
import Derived.Test.YtmggkcifakbfeaaNetA
import Derived.Test.YtmggkcifakbfeaaCoB
namespace Go.Proofs.Ytmggkcifakbfeaa
open Go.RowKit Go.Lift Plain
set_option linter.unusedSimpArgs false
set_option linter.unusedVariables false
set_option maxRecDepth 100000

structure NSz (m : Nat) (N : Net) : Prop where
  k : I64 N.k
  p : I64 N.p
  n : I64 N.n
  l : N.ts.length ≤ m
  t : ∀ t ∈ N.ts, TSz m t
  o : Sz m N.os
def lenT (t : Ten) : Nat := t.labels.length + t.dims.length + t.data.length
def totT : List Ten → Nat
  | [] => 0
  | t :: l => lenT t + totT l
theorem totT_app : ∀ (a b : List Ten), totT (a ++ b) = totT a + totT b
  | [], b => by simp [totT]
  | t :: l, b => by simp [totT, totT_app l b, Nat.add_assoc]
theorem totT_next {ts : List Ten} {k : Nat} (hk : k < ts.length) : totT (ts.take (k + 1)) = totT (ts.take k) + lenT ts[k] := by
  rw [take_ss hk, totT_app]; simp [totT]
theorem totT_take (ts : List Ten) (k : Nat) : totT (ts.take k) ≤ totT ts := by
  have := congrArg totT (List.take_append_drop k ts)
  rw [totT_app] at this
  omega
theorem totT_mem {ts : List Ten} {t : Ten} (h : t ∈ ts) : lenT t ≤ totT ts := by
  induction ts with
  | nil => cases h
  | cons x l ih =>
    rcases List.mem_cons.1 h with rfl | h
    · simp [totT]
    · have := ih h; simp only [totT]; omega
def szTs (ts : List Ten) (left : Int) : Int := if left < ts.length + totT ts then -1 else left - (ts.length + totT ts)
theorem szTensorS_d {ts : List Ten} {left : Int} (h : ts.length ≤ 9223372036854775807) (ht : ∀ t ∈ ts, TSz 9223372036854775807 t) (h0 : 0 ≤ left ∧ left ≤ 1099511627776) :
    Does Try.prog 4 [.d (tens ts), .d (.int left)] [] (.d (.int (szTs ts left))) [] := by
  (refine spec_of (by kernel_rfl) Try.func4 k_laws_szTensorS (fnOk (Nat.le_of_ble_eq_true rfl) ?_); unfold C_laws_szTensorS)
  (simp only [Nat.reduceSub, List.length_cons, List.length_nil, Nat.reduceAdd, ch_init1, ch_init2, ch_init3, ch_init4, ch_init5, ch_init6, ch_init7, ch_init8]; try simp only [ch_rep]); (simp only [go_sem, seval, reduceCtorEq, List.replicate])
  by_cases hs : left - ts.length < 0
  · have c1 : left - (ts.length : Int) < 0 := hs
    have e : szTs ts left = -1 := by unfold szTs; rw [if_pos (by omega)]
    simp (disch := omega) only [go_sem, seval, reduceCtorEq, c1, e]
    (refine FnEnd.mk (Nat.le_of_ble_eq_true rfl) rfl (of_decide_eq_true rfl) ?_ ?_ <;> try simp only [go_sem, seval, reduceCtorEq])
  have c1 : ¬ left - (ts.length : Int) < 0 := hs
  simp (disch := omega) only [go_sem, seval, reduceCtorEq, c1]
  have hI0 : (totT (ts.take 0) : Int) + ts.length ≤ left := by rw [List.take_zero]; show ((0 : Nat) : Int) + _ ≤ _; omega
  refine wpN_lpI (ts.length) [false, false, false, false, true, false, false, false, false, false, false, false, true, true, true, true, true, true, true, true, true, true, true, true, true, true, false] (fun k => (totT (ts.take k) : Int) + ts.length ≤ left) (fun k => [(1, .d (.int (left - ts.length - totT (ts.take k)))), (5, .d (.int k))]) (fun k => []) (fun _ => by (simp only [go_sem, seval, reduceCtorEq, dropF_ch, dropF_cons, dropF_nil, cut, cond_true, cond_false]); first | done | rfl) (fun _ => by (simp only [go_sem, seval, reduceCtorEq, cut]); first | done | rfl) (hI0) (Nat.le_of_ble_eq_true rfl) (by first | (simp only [go_sem, seval, reduceCtorEq, dropF_ch, dropF_cons, dropF_nil, cut, cond_true, cond_false, Int.natCast_zero, Int.natCast_add, Int.natCast_one, List.take_zero, totT, Int.sub_zero]; done) | rfl | (simp only [go_sem, seval, reduceCtorEq, dropF_ch, dropF_cons, dropF_nil, cut, cond_true, cond_false, Int.natCast_zero, Int.natCast_add, Int.natCast_one, List.take_zero, totT, Int.sub_zero]; rfl)) (by first | (simp only [go_sem, seval, reduceCtorEq, dropF_ch, dropF_cons, dropF_nil, cut, cond_true, cond_false, Int.natCast_zero, Int.natCast_add, Int.natCast_one, List.take_zero, totT, Int.sub_zero]; done) | rfl | (simp only [go_sem, seval, reduceCtorEq, dropF_ch, dropF_cons, dropF_nil, cut, cond_true, cond_false, Int.natCast_zero, Int.natCast_add, Int.natCast_one, List.take_zero, totT, Int.sub_zero]; rfl)) fun k hk hi => ?_
  unfold L0_laws_szTensorS
  by_cases hlt : k < ts.length
  · have d1 : (k : Int) < ts.length := by omega
    have g : ts[k]? = some ts[k] := List.getElem?_eq_getElem hlt
    have g3 := tcs_cut g
    have hn := totT_next hlt
    have hst := ht ts[k] (List.getElem_mem hlt)
    have hle := totT_take ts (k + 1)
    simp (disch := omega) only [go_sem, seval, reduceCtorEq, d1, g3]
    refine ⟨by omega, ?_⟩
    (refine ti_call (szTensor_d (t := ts[k]) (left := left - ts.length - totT (ts.take k)) hst.l.len hst.d.len hst.x.len (by omega)) ?_ ?_ ?_; (focus (simp only [go_sem, seval, reduceCtorEq]; done)); (first | rfl | (focus (simp only [go_sem]; done))))
    by_cases hb : szTen ts[k] (left - ts.length - totT (ts.take k)) < 0
    · have e : szTs ts left = -1 := by
        have hb' := hb
        unfold szTen at hb'
        unfold szTs
        unfold lenT at hn
        rw [if_pos]
        split at hb' <;> omega
      simp (disch := omega) only [go_sem, seval, reduceCtorEq, hb, e]
      (refine FnEnd.mk (Nat.le_of_ble_eq_true rfl) rfl (of_decide_eq_true rfl) ?_ ?_ <;> try simp only [go_sem, seval, reduceCtorEq])
    · have e : szTen ts[k] (left - ts.length - totT (ts.take k)) = left - ts.length - totT (ts.take (k + 1)) := by
        have hb' := hb
        unfold szTen at hb' ⊢
        unfold lenT at hn
        split at hb'
        · omega
        · rename_i h'; rw [if_neg h']; omega
      have hI : (totT (ts.take (k + 1)) : Int) + ts.length ≤ left := by rw [e] at hb; omega
      simp (disch := omega) only [go_sem, seval, reduceCtorEq, hb]
      (refine NextI.drop [false, false, false, false, true, false, false, false, false, false, false, false, true, true, true, true, true, true, true, true, true, true, true, true, true, true, false] (by omega) (hI) (Nat.le_of_ble_eq_true rfl) ?_ ?_ <;> first | (simp only [go_sem, seval, reduceCtorEq, dropF_ch, dropF_cons, dropF_nil, cut, cond_true, cond_false, Int.natCast_zero, Int.natCast_add, Int.natCast_one, e]; done) | rfl | (simp only [go_sem, seval, reduceCtorEq, dropF_ch, dropF_cons, dropF_nil, cut, cond_true, cond_false, Int.natCast_zero, Int.natCast_add, Int.natCast_one, e]; rfl) | skip)
  · have d1 : ¬ (k : Int) < ts.length := by omega
    have e : szTs ts left = left - ts.length - totT (ts.take k) := by
      rw [List.take_of_length_le (by omega)] at hi ⊢
      unfold szTs
      rw [if_neg (by omega)]
      omega
    simp (disch := omega) only [go_sem, seval, reduceCtorEq, d1, e]
    (refine FnEnd.mk (Nat.le_of_ble_eq_true rfl) rfl (of_decide_eq_true rfl) ?_ ?_ <;> try simp only [go_sem, seval, reduceCtorEq])
theorem eqTensorS_d {ts : List Ten} (h : ts.length ≤ 1048576) (ht : ∀ t ∈ ts, TSz 1048576 t) :
    Does Try.prog 10 [.d (tens ts), .d (tens ts)] [] (.d (.bool true)) [] := by
  (refine spec_of (by kernel_rfl) Try.func10 k_laws_eqTensorS (fnOk (Nat.le_of_ble_eq_true rfl) ?_); unfold C_laws_eqTensorS)
  (simp only [Nat.reduceSub, List.length_cons, List.length_nil, Nat.reduceAdd, ch_init1, ch_init2, ch_init3, ch_init4, ch_init5, ch_init6, ch_init7, ch_init8]; try simp only [ch_rep]); (simp only [go_sem, seval, reduceCtorEq, List.replicate])
  refine wpN_lp (ts.length) [false, false, false, false, true, false, false, false, false, false, false, true, true, true, true, true, true, true, true, true, true, true, true, true, true, true, true] (fun k => [(5, .d (.int k))]) (fun k => []) (fun _ => by (simp only [go_sem, seval, reduceCtorEq, dropF_ch, dropF_cons, dropF_nil, cut, cond_true, cond_false]); first | done | rfl) (fun _ => by (simp only [go_sem, seval, reduceCtorEq, cut]); first | done | rfl) (Nat.le_of_ble_eq_true rfl) (by first | (simp only [go_sem, seval, reduceCtorEq, dropF_ch, dropF_cons, dropF_nil, cut, cond_true, cond_false, Int.natCast_zero, Int.natCast_add, Int.natCast_one]; done) | rfl | (simp only [go_sem, seval, reduceCtorEq, dropF_ch, dropF_cons, dropF_nil, cut, cond_true, cond_false, Int.natCast_zero, Int.natCast_add, Int.natCast_one]; rfl)) (by first | (simp only [go_sem, seval, reduceCtorEq, dropF_ch, dropF_cons, dropF_nil, cut, cond_true, cond_false, Int.natCast_zero, Int.natCast_add, Int.natCast_one]; done) | rfl | (simp only [go_sem, seval, reduceCtorEq, dropF_ch, dropF_cons, dropF_nil, cut, cond_true, cond_false, Int.natCast_zero, Int.natCast_add, Int.natCast_one]; rfl)) fun k hk => ?_
  unfold L0_laws_eqTensorS
  by_cases hlt : k < ts.length
  · have d1 : (k : Int) < ts.length := by omega
    have g : ts[k]? = some ts[k] := List.getElem?_eq_getElem hlt
    have g3 := tcs_cut g
    have hst := ht ts[k] (List.getElem_mem hlt)
    simp (disch := omega) only [go_sem, seval, reduceCtorEq, d1, g3]
    refine ⟨by omega, by omega, ?_⟩
    (refine ti_call (eqTensor_d (t := ts[k]) (u := ts[k]) hst.up) ?_ ?_ ?_; (focus (simp only [go_sem, seval, reduceCtorEq]; done)); (first | rfl | (focus (simp only [go_sem]; done))))
    simp (disch := omega) only [go_sem, seval, reduceCtorEq, eqTb_self]
    (refine Next.drop [false, false, false, false, true, false, false, false, false, false, false, true, true, true, true, true, true, true, true, true, true, true, true, true, true, true, true] (by omega) (Nat.le_of_ble_eq_true rfl) ?_ ?_ <;> first | (simp only [go_sem, seval, reduceCtorEq, dropF_ch, dropF_cons, dropF_nil, cut, cond_true, cond_false, Int.natCast_zero, Int.natCast_add, Int.natCast_one]; done) | rfl | (simp only [go_sem, seval, reduceCtorEq, dropF_ch, dropF_cons, dropF_nil, cut, cond_true, cond_false, Int.natCast_zero, Int.natCast_add, Int.natCast_one]; rfl) | skip)
  · have d1 : ¬ (k : Int) < ts.length := by omega
    simp (disch := omega) only [go_sem, seval, reduceCtorEq, d1]
    (refine FnEnd.mk (Nat.le_of_ble_eq_true rfl) rfl (of_decide_eq_true rfl) ?_ ?_ <;> try simp only [go_sem, seval, reduceCtorEq])
/-! ### A row of tensors, made -/
def nil3 : List AV := [.nil, .nil, .nil]
def mixN (ts : List Ten) (k : Nat) : List AV := tcA (ts.take k) ++ Go.Lift.zeros (ts.length - k) nil3
section
variable {ts : List Ten} {k : Nat}
theorem zeros_succ (n : Nat) (z : List AV) : Go.Lift.zeros (n + 1) z = z ++ Go.Lift.zeros n z := by simp [Go.Lift.zeros, List.replicate_succ]
theorem take3_len (hk : k ≤ ts.length) : (tcA (ts.take k)).length = k * 3 := by rw [tcA_len, List.length_take]; congr 1; omega
theorem mixN_len (hk : k ≤ ts.length) : (mixN ts k).length = ts.length * 3 := by
  rw [mixN, List.length_append, take3_len hk, zeros_len]
  simp only [nil3, List.length_cons, List.length_nil]
  omega
theorem mixN_zero : mixN ts 0 = Go.Lift.zeros ts.length nil3 := by simp [mixN, tcA_nil]
theorem mixN_all (hk : ts.length ≤ k) : mixN ts k = tcA ts := by
  rw [mixN, List.take_of_length_le hk, show ts.length - k = 0 by omega]
  simp [Go.Lift.zeros]
theorem mixN_split (hk : k < ts.length) : mixN ts k = tcA (ts.take k) ++ nil3 ++ Go.Lift.zeros (ts.length - (k + 1)) nil3 := by
  rw [mixN, show ts.length - k = ts.length - (k + 1) + 1 by omega, zeros_succ, List.append_assoc]
theorem mixN_cut (hk : k < ts.length) : ((mixN ts k).drop (k * 3)).take 3 = nil3 := by
  rw [mixN_split hk, List.append_assoc, List.drop_append_of_le_length (by rw [take3_len (by omega)]; exact Nat.le_refl _), List.drop_of_length_le (by rw [take3_len (by omega)]; exact Nat.le_refl _)]
  simp [nil3]
theorem mixN_take (hk : k < ts.length) : (mixN ts k).take (k * 3) = tcA (ts.take k) := by
  rw [mixN_split hk, List.append_assoc, List.take_append_of_le_length (by rw [take3_len (by omega)]; exact Nat.le_refl _), List.take_of_length_le (by rw [take3_len (by omega)]; exact Nat.le_refl _)]
theorem mixN_drop (hk : k < ts.length) : (mixN ts k).drop (k * 3 + 3) = Go.Lift.zeros (ts.length - (k + 1)) nil3 := by
  have h : (tcA (ts.take k) ++ nil3).length = k * 3 + 3 := by rw [List.length_append, take3_len (by omega)]; rfl
  rw [mixN_split hk, List.drop_append_of_le_length (by rw [h]; exact Nat.le_refl _), List.drop_of_length_le (by rw [h]; exact Nat.le_refl _), List.nil_append]
theorem mixN_next (hk : k < ts.length) : tcA (ts.take k) ++ [.tr (.sl ts[k].labels.length (dv ts[k].labels)), .tr (.sl ts[k].dims.length (dv ts[k].dims)), .tr (.sl ts[k].data.length (dv ts[k].data))] ++ Go.Lift.zeros (ts.length - (k + 1)) nil3 = mixN ts (k + 1) := by
  rw [mixN, take_ss hk, tcA_app]
  rfl
theorem rnL_zeros (ρ : Nat → Option Nat) (n : Nat) : rnL ρ (Go.Lift.zeros n nil3) = Go.Lift.zeros n nil3 := by
  rw [rnL_eq]
  unfold Go.Lift.zeros
  rw [List.map_flatten, List.map_replicate]
  rfl
theorem rnL_mixN (ρ : Nat → Option Nat) : rnL ρ (mixN ts k) = mixN ts k := by
  rw [rnL_eq, mixN, List.map_append, ← rnL_eq, ← rnL_eq, rnL_tcA, rnL_zeros]
end
theorem treL_iv (xs : List Int) : treL (iv xs) = some (dv xs) := by
  induction xs with
  | nil => rfl
  | cons x l ih => simp only [iv, dv, List.map_cons, treL, treD] at ih ⊢; rw [ih]
theorem toTensorS_d {ts : List Ten} (h : ts.length ≤ 1048576) (ht : ∀ t ∈ ts, TSz 1048576 t) :
    Does Try.prog 7 [.d (tens ts)] [] (.own 0 0 ts.length) [some ⟨3, true, tcA ts⟩] := by
  have hn3 : ([AV.nil, AV.nil, AV.nil] : List AV) = nil3 := rfl
  (refine spec_of (by kernel_rfl) Try.func7 k_laws_toTensorS (fnOk (Nat.le_of_ble_eq_true rfl) ?_); unfold C_laws_toTensorS)
  (simp only [Nat.reduceSub, List.length_cons, List.length_nil, Nat.reduceAdd, ch_init1, ch_init2, ch_init3, ch_init4, ch_init5, ch_init6, ch_init7, ch_init8]; try simp only [ch_rep]); (simp only [go_sem, seval, reduceCtorEq, List.replicate])
  refine ⟨by omega, ?_⟩
  simp only [hn3]
  refine wpN_lp (ts.length) [false, false, false, false, false, false, false, false, true, true, true, true, true, true, true, true, true, true, true, true, true, true, false] (fun k => [(4, .d (.int k))]) (fun k => [(0, mixN ts k)]) (fun _ => by (simp only [go_sem, seval, reduceCtorEq, dropF_ch, dropF_cons, dropF_nil, cut, cond_true, cond_false]); first | done | rfl) (fun _ => by (simp only [go_sem, seval, reduceCtorEq, cut]); first | done | rfl) (Nat.le_of_ble_eq_true rfl) (by first | (simp only [go_sem, seval, reduceCtorEq, dropF_ch, dropF_cons, dropF_nil, cut, cond_true, cond_false, Int.natCast_zero, Int.natCast_add, Int.natCast_one, mixN_zero, rnL_zeros]; done) | rfl | (simp only [go_sem, seval, reduceCtorEq, dropF_ch, dropF_cons, dropF_nil, cut, cond_true, cond_false, Int.natCast_zero, Int.natCast_add, Int.natCast_one, mixN_zero, rnL_zeros]; rfl)) (by first | (simp only [go_sem, seval, reduceCtorEq, dropF_ch, dropF_cons, dropF_nil, cut, cond_true, cond_false, Int.natCast_zero, Int.natCast_add, Int.natCast_one, mixN_zero, rnL_zeros]; done) | rfl | (simp only [go_sem, seval, reduceCtorEq, dropF_ch, dropF_cons, dropF_nil, cut, cond_true, cond_false, Int.natCast_zero, Int.natCast_add, Int.natCast_one, mixN_zero, rnL_zeros]; rfl)) fun k hk => ?_
  unfold L0_laws_toTensorS
  by_cases hlt : k < ts.length
  · have d1 : (k : Int) < ts.length := by omega
    have g : ts[k]? = some ts[k] := List.getElem?_eq_getElem hlt
    have g3 := tcs_cut g
    have hst := ht ts[k] (List.getElem_mem hlt)
    simp (disch := omega) only [go_sem, seval, reduceCtorEq, d1, g3]
    refine ⟨by omega, ?_⟩
    (refine ti_call (toTensor_d (t := ts[k]) hst.up) ?_ ?_ ?_; (focus (simp only [go_sem, seval, reduceCtorEq]; done)); (first | rfl | (focus (simp only [go_sem]; done))))
    simp (disch := omega) only [go_sem, seval, reduceCtorEq, mixN_cut hlt, nil3, mixN_take hlt, mixN_drop hlt, mixN_len hk]
    refine ⟨by omega, by omega, ?_⟩
    (refine Next.mk (by omega) (Wk.eq (Wk.ad3 [false, false, false, false, false, false, false, false, true, true, true, true, true, true, true, true, true, true, true, true, true, true, false] 0 3 (k * 3) true (τ := [_]) (Nat.le_of_ble_eq_true rfl) rfl (take3_len hk) rfl (treL_iv _) (treL_iv _) (treL_iv _) (by simp only [go_sem, seval, reduceCtorEq]) (by simp only [go_sem, seval, reduceCtorEq]) (by simp only [go_sem, seval, reduceCtorEq]) (fun _ => rnL_iv _) (fun _ => rnL_iv _)) ?_ ?_) <;> first | (simp only [go_sem, seval, reduceCtorEq, dropF_ch, dropF_cons, dropF_nil, cut, cond_true, cond_false, Int.natCast_zero, Int.natCast_add, Int.natCast_one, mixN_next hlt, hn3, rnL_mixN]; done) | rfl | (simp only [go_sem, seval, reduceCtorEq, dropF_ch, dropF_cons, dropF_nil, cut, cond_true, cond_false, Int.natCast_zero, Int.natCast_add, Int.natCast_one, mixN_next hlt, hn3, rnL_mixN]; rfl) | skip)
  · have d1 : ¬ (k : Int) < ts.length := by omega
    simp (disch := omega) only [go_sem, seval, reduceCtorEq, d1, mixN_all (show ts.length ≤ k by omega)]
    (refine FnEnd.mk (Nat.le_of_ble_eq_true rfl) rfl (of_decide_eq_true rfl) ?_ ?_ <;> try simp only [go_sem, seval, reduceCtorEq])
end Go.Proofs.Ytmggkcifakbfeaa
