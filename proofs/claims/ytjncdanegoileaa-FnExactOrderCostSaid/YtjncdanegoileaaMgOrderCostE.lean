/-
  Contracts: what the laws' own helpers do with networks. No condition.
-/
import Derived.Test.YtjncdanegoileaaMgOrderCostD
import Derived.Test.YtjncdanegoileaaProg
import Derived.KernelRfl
namespace Go.Proofs.Ytjncdanegoileaa
open Go.RowKit Go.Lift Plain
set_option linter.unusedSimpArgs false
set_option linter.unusedVariables false
set_option maxRecDepth 100000

structure NSz (m : Nat) (N : Net) : Prop where
  k : I64 N.k
  p : I64 N.p
  n : I64 N.n
  l : N.ts.length ≤ m
  t : ∀ t ∈ N.ts, TSz m t
  o : Sz m N.os
def lenT (t : Ten) : Nat := t.labels.length + t.dims.length + t.data.length
def totT : List Ten → Nat
  | [] => 0
  | t :: l => lenT t + totT l
theorem totT_app : ∀ (a b : List Ten), totT (a ++ b) = totT a + totT b
  | [], b => by simp [totT]
  | t :: l, b => by simp [totT, totT_app l b, Nat.add_assoc]
theorem totT_next {ts : List Ten} {k : Nat} (hk : k < ts.length) : totT (ts.take (k + 1)) = totT (ts.take k) + lenT ts[k] := by
  rw [take_ss hk, totT_app]; simp [totT]
theorem totT_take (ts : List Ten) (k : Nat) : totT (ts.take k) ≤ totT ts := by
  have := congrArg totT (List.take_append_drop k ts)
  rw [totT_app] at this
  omega
theorem totT_mem {ts : List Ten} {t : Ten} (h : t ∈ ts) : lenT t ≤ totT ts := by
  induction ts with
  | nil => cases h
  | cons x l ih =>
    rcases List.mem_cons.1 h with rfl | h
    · simp [totT]
    · have := ih h; simp only [totT]; omega
def szTs (ts : List Ten) (left : Int) : Int := if left < ts.length + totT ts then -1 else left - (ts.length + totT ts)
theorem szTensorS_d {ts : List Ten} {left : Int} (h : ts.length ≤ 9223372036854775807) (ht : ∀ t ∈ ts, TSz 9223372036854775807 t) (h0 : 0 ≤ left ∧ left ≤ 1099511627776) :
    Does Try.prog 48 [.d (tens ts), .d (.int left)] [] (.d (.int (szTs ts left))) [] := by
  (refine spec_of (by kernel_rfl) Try.func48 k_laws_szTensorS (fnOk (Nat.le_of_ble_eq_true rfl) ?_); unfold C_laws_szTensorS)
  (simp only [Nat.reduceSub, List.length_cons, List.length_nil, Nat.reduceAdd, ch_init1, ch_init2, ch_init3, ch_init4, ch_init5, ch_init6, ch_init7, ch_init8]; try simp only [ch_rep]); (simp only [go_sem, seval, reduceCtorEq, List.replicate])
  by_cases hs : left - ts.length < 0
  · have c1 : left - (ts.length : Int) < 0 := hs
    have e : szTs ts left = -1 := by unfold szTs; rw [if_pos (by omega)]
    simp (disch := omega) only [go_sem, seval, reduceCtorEq, c1, e]
    (refine FnEnd.mk (Nat.le_of_ble_eq_true rfl) rfl (of_decide_eq_true rfl) ?_ ?_ <;> try simp only [go_sem, seval, reduceCtorEq])
  have c1 : ¬ left - (ts.length : Int) < 0 := hs
  simp (disch := omega) only [go_sem, seval, reduceCtorEq, c1]
  have hI0 : (totT (ts.take 0) : Int) + ts.length ≤ left := by rw [List.take_zero]; show ((0 : Nat) : Int) + _ ≤ _; omega
  refine wpN_lpI (ts.length) [false, false, false, false, true, false, false, false, false, false, false, false, true, true, true, true, true, true, true, true, true, true, true, true, true, true, false] (fun k => (totT (ts.take k) : Int) + ts.length ≤ left) (fun k => [(1, .d (.int (left - ts.length - totT (ts.take k)))), (5, .d (.int k))]) (fun k => []) (fun _ => by (simp only [go_sem, seval, reduceCtorEq, dropF_ch, dropF_cons, dropF_nil, cut, cond_true, cond_false]); first | done | rfl) (fun _ => by (simp only [go_sem, seval, reduceCtorEq, cut]); first | done | rfl) (hI0) (Nat.le_of_ble_eq_true rfl) (by first | (simp only [go_sem, seval, reduceCtorEq, dropF_ch, dropF_cons, dropF_nil, cut, cond_true, cond_false, Int.natCast_zero, Int.natCast_add, Int.natCast_one, List.take_zero, totT, Int.sub_zero]; done) | rfl | (simp only [go_sem, seval, reduceCtorEq, dropF_ch, dropF_cons, dropF_nil, cut, cond_true, cond_false, Int.natCast_zero, Int.natCast_add, Int.natCast_one, List.take_zero, totT, Int.sub_zero]; rfl)) (by first | (simp only [go_sem, seval, reduceCtorEq, dropF_ch, dropF_cons, dropF_nil, cut, cond_true, cond_false, Int.natCast_zero, Int.natCast_add, Int.natCast_one, List.take_zero, totT, Int.sub_zero]; done) | rfl | (simp only [go_sem, seval, reduceCtorEq, dropF_ch, dropF_cons, dropF_nil, cut, cond_true, cond_false, Int.natCast_zero, Int.natCast_add, Int.natCast_one, List.take_zero, totT, Int.sub_zero]; rfl)) fun k hk hi => ?_
  unfold L0_laws_szTensorS
  by_cases hlt : k < ts.length
  · have d1 : (k : Int) < ts.length := by omega
    have g : ts[k]? = some ts[k] := List.getElem?_eq_getElem hlt
    have g3 := tcs_cut g
    have hn := totT_next hlt
    have hst := ht ts[k] (List.getElem_mem hlt)
    have hle := totT_take ts (k + 1)
    simp (disch := omega) only [go_sem, seval, reduceCtorEq, d1, g3]
    refine ⟨by omega, ?_⟩
    (refine ti_call (szTensor_d (t := ts[k]) (left := left - ts.length - totT (ts.take k)) hst.l.len hst.d.len hst.x.len (by omega)) ?_ ?_ ?_; (focus (simp only [go_sem, seval, reduceCtorEq]; done)); (first | rfl | (focus (simp only [go_sem]; done))))
    by_cases hb : szTen ts[k] (left - ts.length - totT (ts.take k)) < 0
    · have e : szTs ts left = -1 := by
        have hb' := hb
        unfold szTen at hb'
        unfold szTs
        unfold lenT at hn
        rw [if_pos]
        split at hb' <;> omega
      simp (disch := omega) only [go_sem, seval, reduceCtorEq, hb, e]
      (refine FnEnd.mk (Nat.le_of_ble_eq_true rfl) rfl (of_decide_eq_true rfl) ?_ ?_ <;> try simp only [go_sem, seval, reduceCtorEq])
    · have e : szTen ts[k] (left - ts.length - totT (ts.take k)) = left - ts.length - totT (ts.take (k + 1)) := by
        have hb' := hb
        unfold szTen at hb' ⊢
        unfold lenT at hn
        split at hb'
        · omega
        · rename_i h'; rw [if_neg h']; omega
      have hI : (totT (ts.take (k + 1)) : Int) + ts.length ≤ left := by rw [e] at hb; omega
      simp (disch := omega) only [go_sem, seval, reduceCtorEq, hb]
      (refine NextI.drop [false, false, false, false, true, false, false, false, false, false, false, false, true, true, true, true, true, true, true, true, true, true, true, true, true, true, false] (by omega) (hI) (Nat.le_of_ble_eq_true rfl) ?_ ?_ <;> first | (simp only [go_sem, seval, reduceCtorEq, dropF_ch, dropF_cons, dropF_nil, cut, cond_true, cond_false, Int.natCast_zero, Int.natCast_add, Int.natCast_one, e]; done) | rfl | (simp only [go_sem, seval, reduceCtorEq, dropF_ch, dropF_cons, dropF_nil, cut, cond_true, cond_false, Int.natCast_zero, Int.natCast_add, Int.natCast_one, e]; rfl) | skip)
  · have d1 : ¬ (k : Int) < ts.length := by omega
    have e : szTs ts left = left - ts.length - totT (ts.take k) := by
      rw [List.take_of_length_le (by omega)] at hi ⊢
      unfold szTs
      rw [if_neg (by omega)]
      omega
    simp (disch := omega) only [go_sem, seval, reduceCtorEq, d1, e]
    (refine FnEnd.mk (Nat.le_of_ble_eq_true rfl) rfl (of_decide_eq_true rfl) ?_ ?_ <;> try simp only [go_sem, seval, reduceCtorEq])
def szNet (N : Net) (left : Int) : Int := if left < N.ts.length + totT N.ts + N.os.length then -1 else left - (N.ts.length + totT N.ts + N.os.length)
theorem szNetwork_d {N : Net} {left : Int} (h : NSz 9223372036854775807 N) (h0 : 0 ≤ left ∧ left ≤ 1099511627776) :
    Does Try.prog 18 [netA N, .d (.int left)] [] (.d (.int (szNet N left))) [] := by
  (refine spec_of (by kernel_rfl) Try.func18 k_laws_szNetwork (fnOk (Nat.le_of_ble_eq_true rfl) ?_); unfold C_laws_szNetwork)
  (simp only [Nat.reduceSub, List.length_cons, List.length_nil, Nat.reduceAdd, ch_init1, ch_init2, ch_init3, ch_init4, ch_init5, ch_init6, ch_init7, ch_init8]; try simp only [ch_rep]); (simp only [go_sem, seval, reduceCtorEq, List.replicate])
  (refine ti_call (szTensorS_d (ts := N.ts) (left := left) h.l h.t h0) ?_ ?_ ?_; (focus (simp only [go_sem, seval, reduceCtorEq]; done)); (first | rfl | (focus (simp only [go_sem]; done))))
  by_cases hb : szTs N.ts left < 0
  · have e : szNet N left = -1 := by
      have hb' := hb
      unfold szTs at hb'
      unfold szNet
      rw [if_pos]
      split at hb' <;> omega
    simp (disch := omega) only [go_sem, seval, reduceCtorEq, hb, e]
    (refine FnEnd.mk (Nat.le_of_ble_eq_true rfl) rfl (of_decide_eq_true rfl) ?_ ?_ <;> try simp only [go_sem, seval, reduceCtorEq])
  have e : szTs N.ts left = left - (N.ts.length + totT N.ts) := by
    have hb' := hb
    unfold szTs at hb' ⊢
    split at hb'
    · omega
    · rename_i h'; rw [if_neg h']
  simp (disch := omega) only [go_sem, seval, reduceCtorEq, hb]
  rw [e] at hb ⊢
  (refine ti_call (szIntS_d (xs := N.os) (left := left - (N.ts.length + totT N.ts)) h.o.len (by omega)) ?_ ?_ ?_; (focus (simp only [go_sem, seval, reduceCtorEq]; done)); (first | rfl | (focus (simp only [go_sem]; done))))
  by_cases hc : left - (N.ts.length + totT N.ts : Int) < N.os.length
  · have e2 : szNet N left = -1 := by unfold szNet; rw [if_pos (by omega)]
    simp (disch := omega) only [go_sem, seval, reduceCtorEq, hc, e2]
    (refine FnEnd.mk (Nat.le_of_ble_eq_true rfl) rfl (of_decide_eq_true rfl) ?_ ?_ <;> try simp only [go_sem, seval, reduceCtorEq])
  · have e2 : szNet N left = left - (N.ts.length + totT N.ts) - N.os.length := by unfold szNet; rw [if_neg (by omega)]; omega
    have c2 : ¬ left - (N.ts.length + totT N.ts : Int) - N.os.length < 0 := by omega
    simp (disch := omega) only [go_sem, seval, reduceCtorEq, hc, c2, e2]
    (refine FnEnd.mk (Nat.le_of_ble_eq_true rfl) rfl (of_decide_eq_true rfl) ?_ ?_ <;> try simp only [go_sem, seval, reduceCtorEq])
theorem eqTensorS_d {ts : List Ten} (h : ts.length ≤ 1048576) (ht : ∀ t ∈ ts, TSz 1048576 t) :
    Does Try.prog 63 [.d (tens ts), .d (tens ts)] [] (.d (.bool true)) [] := by
  (refine spec_of (by kernel_rfl) Try.func63 k_laws_eqTensorS (fnOk (Nat.le_of_ble_eq_true rfl) ?_); unfold C_laws_eqTensorS)
  (simp only [Nat.reduceSub, List.length_cons, List.length_nil, Nat.reduceAdd, ch_init1, ch_init2, ch_init3, ch_init4, ch_init5, ch_init6, ch_init7, ch_init8]; try simp only [ch_rep]); (simp only [go_sem, seval, reduceCtorEq, List.replicate])
  refine wpN_lp (ts.length) [false, false, false, false, true, false, false, false, false, false, false, true, true, true, true, true, true, true, true, true, true, true, true, true, true, true, true] (fun k => [(5, .d (.int k))]) (fun k => []) (fun _ => by (simp only [go_sem, seval, reduceCtorEq, dropF_ch, dropF_cons, dropF_nil, cut, cond_true, cond_false]); first | done | rfl) (fun _ => by (simp only [go_sem, seval, reduceCtorEq, cut]); first | done | rfl) (Nat.le_of_ble_eq_true rfl) (by first | (simp only [go_sem, seval, reduceCtorEq, dropF_ch, dropF_cons, dropF_nil, cut, cond_true, cond_false, Int.natCast_zero, Int.natCast_add, Int.natCast_one]; done) | rfl | (simp only [go_sem, seval, reduceCtorEq, dropF_ch, dropF_cons, dropF_nil, cut, cond_true, cond_false, Int.natCast_zero, Int.natCast_add, Int.natCast_one]; rfl)) (by first | (simp only [go_sem, seval, reduceCtorEq, dropF_ch, dropF_cons, dropF_nil, cut, cond_true, cond_false, Int.natCast_zero, Int.natCast_add, Int.natCast_one]; done) | rfl | (simp only [go_sem, seval, reduceCtorEq, dropF_ch, dropF_cons, dropF_nil, cut, cond_true, cond_false, Int.natCast_zero, Int.natCast_add, Int.natCast_one]; rfl)) fun k hk => ?_
  unfold L0_laws_eqTensorS
  by_cases hlt : k < ts.length
  · have d1 : (k : Int) < ts.length := by omega
    have g : ts[k]? = some ts[k] := List.getElem?_eq_getElem hlt
    have g3 := tcs_cut g
    have hst := ht ts[k] (List.getElem_mem hlt)
    simp (disch := omega) only [go_sem, seval, reduceCtorEq, d1, g3]
    refine ⟨by omega, by omega, ?_⟩
    (refine ti_call (eqTensor_d (t := ts[k]) (u := ts[k]) hst.up) ?_ ?_ ?_; (focus (simp only [go_sem, seval, reduceCtorEq]; done)); (first | rfl | (focus (simp only [go_sem]; done))))
    simp (disch := omega) only [go_sem, seval, reduceCtorEq, eqTb_self]
    (refine Next.drop [false, false, false, false, true, false, false, false, false, false, false, true, true, true, true, true, true, true, true, true, true, true, true, true, true, true, true] (by omega) (Nat.le_of_ble_eq_true rfl) ?_ ?_ <;> first | (simp only [go_sem, seval, reduceCtorEq, dropF_ch, dropF_cons, dropF_nil, cut, cond_true, cond_false, Int.natCast_zero, Int.natCast_add, Int.natCast_one]; done) | rfl | (simp only [go_sem, seval, reduceCtorEq, dropF_ch, dropF_cons, dropF_nil, cut, cond_true, cond_false, Int.natCast_zero, Int.natCast_add, Int.natCast_one]; rfl) | skip)
  · have d1 : ¬ (k : Int) < ts.length := by omega
    simp (disch := omega) only [go_sem, seval, reduceCtorEq, d1]
    (refine FnEnd.mk (Nat.le_of_ble_eq_true rfl) rfl (of_decide_eq_true rfl) ?_ ?_ <;> try simp only [go_sem, seval, reduceCtorEq])
theorem eqRing_d (k p n : Int) : Does Try.prog 62 [ringA k p n, ringA k p n] [] (.d (.bool true)) [] := by
  (refine spec_of (by kernel_rfl) Try.func62 k_laws_eqRing (fnOk (Nat.le_of_ble_eq_true rfl) ?_); unfold C_laws_eqRing)
  (simp only [go_sem, seval, reduceCtorEq, List.replicate, bne_self_eq_false])
  (refine FnEnd.mk (Nat.le_of_ble_eq_true rfl) rfl (of_decide_eq_true rfl) ?_ ?_ <;> try simp only [go_sem, seval, reduceCtorEq])
theorem eqNetwork_d {N : Net} (h : NSz 1048576 N) : Does Try.prog 22 [netA N, netA N] [] (.d (.bool true)) [] := by
  (refine spec_of (by kernel_rfl) Try.func22 k_laws_eqNetwork (fnOk (Nat.le_of_ble_eq_true rfl) ?_); unfold C_laws_eqNetwork)
  (simp only [Nat.reduceSub, List.length_cons, List.length_nil, Nat.reduceAdd, ch_init1, ch_init2, ch_init3, ch_init4, ch_init5, ch_init6, ch_init7, ch_init8]; try simp only [ch_rep]); (simp only [go_sem, seval, reduceCtorEq, List.replicate])
  (refine ti_call (eqRing_d N.k N.p N.n) ?_ ?_ ?_; (focus (simp only [go_sem, seval, reduceCtorEq]; done)); (first | rfl | (focus (simp only [go_sem]; done))))
  simp only [go_sem, seval, reduceCtorEq]
  (refine ti_call (eqTensorS_d (ts := N.ts) h.l h.t) ?_ ?_ ?_; (focus (simp only [go_sem, seval, reduceCtorEq]; done)); (first | rfl | (focus (simp only [go_sem]; done))))
  simp only [go_sem, seval, reduceCtorEq]
  (refine ti_call (eqIntS_d (xs := N.os) (ys := N.os) h.o.up.len) ?_ ?_ ?_; (focus (simp only [go_sem, seval, reduceCtorEq]; done)); (first | rfl | (focus (simp only [go_sem]; done))))
  simp only [go_sem, seval, reduceCtorEq, decide_true]
  (refine FnEnd.mk (Nat.le_of_ble_eq_true rfl) rfl (of_decide_eq_true rfl) ?_ ?_ <;> try simp only [go_sem, seval, reduceCtorEq])

/-! ### A row of tensors, made -/
def nil3 : List AV := [.nil, .nil, .nil]
/-- A row of n tensors of which the first k are laid. -/
def mixN (ts : List Ten) (k : Nat) : List AV := tcA (ts.take k) ++ Go.Lift.zeros (ts.length - k) nil3
section
variable {ts : List Ten} {k : Nat}
theorem zeros_succ (n : Nat) (z : List AV) : Go.Lift.zeros (n + 1) z = z ++ Go.Lift.zeros n z := by simp [Go.Lift.zeros, List.replicate_succ]
theorem take3_len (hk : k ≤ ts.length) : (tcA (ts.take k)).length = k * 3 := by rw [tcA_len, List.length_take]; congr 1; omega
theorem mixN_len (hk : k ≤ ts.length) : (mixN ts k).length = ts.length * 3 := by
  rw [mixN, List.length_append, take3_len hk, zeros_len]
  simp only [nil3, List.length_cons, List.length_nil]
  omega
theorem mixN_zero : mixN ts 0 = Go.Lift.zeros ts.length nil3 := by simp [mixN, tcA_nil]
theorem mixN_all (hk : ts.length ≤ k) : mixN ts k = tcA ts := by
  rw [mixN, List.take_of_length_le hk, show ts.length - k = 0 by omega]
  simp [Go.Lift.zeros]
theorem mixN_split (hk : k < ts.length) : mixN ts k = tcA (ts.take k) ++ nil3 ++ Go.Lift.zeros (ts.length - (k + 1)) nil3 := by
  rw [mixN, show ts.length - k = ts.length - (k + 1) + 1 by omega, zeros_succ, List.append_assoc]
theorem mixN_cut (hk : k < ts.length) : ((mixN ts k).drop (k * 3)).take 3 = nil3 := by
  rw [mixN_split hk, List.append_assoc, List.drop_append_of_le_length (by rw [take3_len (by omega)]; exact Nat.le_refl _), List.drop_of_length_le (by rw [take3_len (by omega)]; exact Nat.le_refl _)]
  simp [nil3]
theorem mixN_take (hk : k < ts.length) : (mixN ts k).take (k * 3) = tcA (ts.take k) := by
  rw [mixN_split hk, List.append_assoc, List.take_append_of_le_length (by rw [take3_len (by omega)]; exact Nat.le_refl _), List.take_of_length_le (by rw [take3_len (by omega)]; exact Nat.le_refl _)]
theorem mixN_drop (hk : k < ts.length) : (mixN ts k).drop (k * 3 + 3) = Go.Lift.zeros (ts.length - (k + 1)) nil3 := by
  have h : (tcA (ts.take k) ++ nil3).length = k * 3 + 3 := by rw [List.length_append, take3_len (by omega)]; rfl
  rw [mixN_split hk, List.drop_append_of_le_length (by rw [h]; exact Nat.le_refl _), List.drop_of_length_le (by rw [h]; exact Nat.le_refl _), List.nil_append]
theorem mixN_next (hk : k < ts.length) : tcA (ts.take k) ++ [.tr (.sl ts[k].labels.length (dv ts[k].labels)), .tr (.sl ts[k].dims.length (dv ts[k].dims)), .tr (.sl ts[k].data.length (dv ts[k].data))] ++ Go.Lift.zeros (ts.length - (k + 1)) nil3 = mixN ts (k + 1) := by
  rw [mixN, take_ss hk, tcA_app]
  rfl
theorem rnL_zeros (ρ : Nat → Option Nat) (n : Nat) : rnL ρ (Go.Lift.zeros n nil3) = Go.Lift.zeros n nil3 := by
  rw [rnL_eq]
  unfold Go.Lift.zeros
  rw [List.map_flatten, List.map_replicate]
  rfl
theorem rnL_mixN (ρ : Nat → Option Nat) : rnL ρ (mixN ts k) = mixN ts k := by
  rw [rnL_eq, mixN, List.map_append, ← rnL_eq, ← rnL_eq, rnL_tcA, rnL_zeros]
end
theorem treL_iv (xs : List Int) : treL (iv xs) = some (dv xs) := by
  induction xs with
  | nil => rfl
  | cons x l ih => simp only [iv, dv, List.map_cons, treL, treD] at ih ⊢; rw [ih]
theorem toTensorS_d {ts : List Ten} (h : ts.length ≤ 1048576) (ht : ∀ t ∈ ts, TSz 1048576 t) :
    Does Try.prog 54 [.d (tens ts)] [] (.own 0 0 ts.length) [some ⟨3, true, tcA ts⟩] := by
  have hn3 : ([AV.nil, AV.nil, AV.nil] : List AV) = nil3 := rfl
  (refine spec_of (by kernel_rfl) Try.func54 k_laws_toTensorS (fnOk (Nat.le_of_ble_eq_true rfl) ?_); unfold C_laws_toTensorS)
  (simp only [Nat.reduceSub, List.length_cons, List.length_nil, Nat.reduceAdd, ch_init1, ch_init2, ch_init3, ch_init4, ch_init5, ch_init6, ch_init7, ch_init8]; try simp only [ch_rep]); (simp only [go_sem, seval, reduceCtorEq, List.replicate])
  refine ⟨by omega, ?_⟩
  simp only [hn3]
  refine wpN_lp (ts.length) [false, false, false, false, false, false, false, false, true, true, true, true, true, true, true, true, true, true, true, true, true, true, false] (fun k => [(4, .d (.int k))]) (fun k => [(0, mixN ts k)]) (fun _ => by (simp only [go_sem, seval, reduceCtorEq, dropF_ch, dropF_cons, dropF_nil, cut, cond_true, cond_false]); first | done | rfl) (fun _ => by (simp only [go_sem, seval, reduceCtorEq, cut]); first | done | rfl) (Nat.le_of_ble_eq_true rfl) (by first | (simp only [go_sem, seval, reduceCtorEq, dropF_ch, dropF_cons, dropF_nil, cut, cond_true, cond_false, Int.natCast_zero, Int.natCast_add, Int.natCast_one, mixN_zero, rnL_zeros]; done) | rfl | (simp only [go_sem, seval, reduceCtorEq, dropF_ch, dropF_cons, dropF_nil, cut, cond_true, cond_false, Int.natCast_zero, Int.natCast_add, Int.natCast_one, mixN_zero, rnL_zeros]; rfl)) (by first | (simp only [go_sem, seval, reduceCtorEq, dropF_ch, dropF_cons, dropF_nil, cut, cond_true, cond_false, Int.natCast_zero, Int.natCast_add, Int.natCast_one, mixN_zero, rnL_zeros]; done) | rfl | (simp only [go_sem, seval, reduceCtorEq, dropF_ch, dropF_cons, dropF_nil, cut, cond_true, cond_false, Int.natCast_zero, Int.natCast_add, Int.natCast_one, mixN_zero, rnL_zeros]; rfl)) fun k hk => ?_
  unfold L0_laws_toTensorS
  by_cases hlt : k < ts.length
  · have d1 : (k : Int) < ts.length := by omega
    have g : ts[k]? = some ts[k] := List.getElem?_eq_getElem hlt
    have g3 := tcs_cut g
    have hst := ht ts[k] (List.getElem_mem hlt)
    simp (disch := omega) only [go_sem, seval, reduceCtorEq, d1, g3]
    refine ⟨by omega, ?_⟩
    (refine ti_call (toTensor_d (t := ts[k]) hst.up) ?_ ?_ ?_; (focus (simp only [go_sem, seval, reduceCtorEq]; done)); (first | rfl | (focus (simp only [go_sem]; done))))
    simp (disch := omega) only [go_sem, seval, reduceCtorEq, mixN_cut hlt, nil3, mixN_take hlt, mixN_drop hlt, mixN_len hk]
    refine ⟨by omega, by omega, ?_⟩
    (refine Next.mk (by omega) (Wk.eq (Wk.ad3 [false, false, false, false, false, false, false, false, true, true, true, true, true, true, true, true, true, true, true, true, true, true, false] 0 3 (k * 3) true (τ := [_]) (Nat.le_of_ble_eq_true rfl) rfl (take3_len hk) rfl (treL_iv _) (treL_iv _) (treL_iv _) (by simp only [go_sem, seval, reduceCtorEq]) (by simp only [go_sem, seval, reduceCtorEq]) (by simp only [go_sem, seval, reduceCtorEq]) (fun _ => rnL_iv _) (fun _ => rnL_iv _)) ?_ ?_) <;> first | (simp only [go_sem, seval, reduceCtorEq, dropF_ch, dropF_cons, dropF_nil, cut, cond_true, cond_false, Int.natCast_zero, Int.natCast_add, Int.natCast_one, mixN_next hlt, hn3, rnL_mixN]; done) | rfl | (simp only [go_sem, seval, reduceCtorEq, dropF_ch, dropF_cons, dropF_nil, cut, cond_true, cond_false, Int.natCast_zero, Int.natCast_add, Int.natCast_one, mixN_next hlt, hn3, rnL_mixN]; rfl) | skip)
  · have d1 : ¬ (k : Int) < ts.length := by omega
    simp (disch := omega) only [go_sem, seval, reduceCtorEq, d1, mixN_all (show ts.length ≤ k by omega)]
    (refine FnEnd.mk (Nat.le_of_ble_eq_true rfl) rfl (of_decide_eq_true rfl) ?_ ?_ <;> try simp only [go_sem, seval, reduceCtorEq])
theorem toNetwork_d {N : Net} (h : NSz 1048576 N) : Does Try.prog 20 [netA N] [] (ownN 0 N) (stoN N) := by
  (refine spec_of (by kernel_rfl) Try.func20 k_laws_toNetwork (fnOk (Nat.le_of_ble_eq_true rfl) ?_); unfold C_laws_toNetwork)
  (simp only [Nat.reduceSub, List.length_cons, List.length_nil, Nat.reduceAdd, ch_init1, ch_init2, ch_init3, ch_init4, ch_init5, ch_init6, ch_init7, ch_init8]; try simp only [ch_rep]); (simp only [go_sem, seval, reduceCtorEq, List.replicate])
  (refine ti_call (toRing_d N.k N.p N.n) ?_ ?_ ?_; (focus (simp only [go_sem, seval, reduceCtorEq]; done)); (first | rfl | (focus (simp only [go_sem]; done))))
  simp only [go_sem, seval, reduceCtorEq]
  (refine ti_call (toTensorS_d (ts := N.ts) h.l h.t) ?_ ?_ ?_; (focus (simp only [go_sem, seval, reduceCtorEq]; done)); (first | rfl | (focus (simp only [go_sem]; done))))
  simp only [go_sem, seval, reduceCtorEq]
  (refine ti_call (toIntS_d (xs := N.os) h.o.up.len) ?_ ?_ ?_; (focus (simp only [go_sem, seval, reduceCtorEq]; done)); (first | rfl | (focus (simp only [go_sem]; done))))
  simp only [go_sem, seval, reduceCtorEq]
  (refine FnEnd.mk (Nat.le_of_ble_eq_true rfl) rfl (of_decide_eq_true rfl) ?_ ?_ <;> try simp only [go_sem, seval, reduceCtorEq])
end Go.Proofs.Ytjncdanegoileaa

/-
  Contracts: the dimensions of a network's labels; valid networks. No condition.
-/
namespace Go.Proofs.Ytjncdanegoileaa
open Go.RowKit Go.Lift Plain
set_option linter.unusedSimpArgs false
set_option linter.unusedVariables false
set_option maxRecDepth 100000

theorem axesOf_d {D L : List Int} (hD : D.length = 100) (hL : L.length ≤ 1048576) (hx : ∀ x ∈ L, 0 ≤ x ∧ x ≤ 99) :
    Does Try.prog 93 [.agg (iv D), .d (ints L)] [] (.agg [.own 0 0 L.length, .own 1 0 L.length, .nil]) [some ⟨1, true, iv L⟩, some ⟨1, true, iv (L.map (atT D))⟩] := by
  (refine spec_of (by kernel_rfl) Try.func93 k_impl_axesOf (fnOk (Nat.le_of_ble_eq_true rfl) ?_); unfold C_impl_axesOf)
  (simp only [Nat.reduceSub, List.length_cons, List.length_nil, Nat.reduceAdd, ch_init1, ch_init2, ch_init3, ch_init4, ch_init5, ch_init6, ch_init7, ch_init8]; try simp only [ch_rep]); (simp only [go_sem, seval, reduceCtorEq, List.replicate])
  (refine gi_call (copyInts_d (xs := L) (by omega)) ?_ ?_ ?_; (focus (simp only [go_sem, seval, reduceCtorEq]; done)); (first | rfl | (focus (simp only [go_sem]; done))))
  simp (disch := omega) only [go_sem, seval, reduceCtorEq]
  refine ⟨by omega, ?_⟩
  refine wpN_lp (L.length) [false, false, false, false, false, false, true, true, false, false, false, false, false, false, false, false, false, true, true, true, true, true, true, true, true, true, true, true, true, false] (fun k => [(16, .d (.int k))]) (fun k => [(3, iv (mix (L.map (atT D)) (List.replicate L.length 0) k))]) (fun _ => by (simp only [go_sem, seval, reduceCtorEq, dropF_ch, dropF_cons, dropF_nil, cut, cond_true, cond_false]); first | done | rfl) (fun _ => by (simp only [go_sem, seval, reduceCtorEq, cut]); first | done | rfl) (Nat.le_of_ble_eq_true rfl) (by first | (simp only [go_sem, seval, reduceCtorEq, dropF_ch, dropF_cons, dropF_nil, cut, cond_true, cond_false, Int.natCast_zero, Int.natCast_add, Int.natCast_one, mix_zero]; done) | rfl | (simp only [go_sem, seval, reduceCtorEq, dropF_ch, dropF_cons, dropF_nil, cut, cond_true, cond_false, Int.natCast_zero, Int.natCast_add, Int.natCast_one, mix_zero]; rfl)) (by first | (simp only [go_sem, seval, reduceCtorEq, dropF_ch, dropF_cons, dropF_nil, cut, cond_true, cond_false, Int.natCast_zero, Int.natCast_add, Int.natCast_one, mix_zero]; done) | rfl | (simp only [go_sem, seval, reduceCtorEq, dropF_ch, dropF_cons, dropF_nil, cut, cond_true, cond_false, Int.natCast_zero, Int.natCast_add, Int.natCast_one, mix_zero]; rfl)) fun k hk => ?_
  unfold L0_impl_axesOf
  have hml : (L.map (atT D)).length = (List.replicate L.length (0 : Int)).length := by simp
  have hmk : (mix (L.map (atT D)) (List.replicate L.length 0) k).length = L.length := by rw [mix_len hml]; simp
  by_cases hlt : k < L.length
  · have h1 : (k : Int) < L.length := by omega
    have g : L[k]? = some L[k] := List.getElem?_eq_getElem hlt
    have hb := hx L[k] (List.getElem_mem hlt)
    have c1 : 0 ≤ L[k] := hb.1
    have c2 : L[k] < 100 := by omega
    have gd := atT_get hD hb
    have hm := mix_next hml (show (L.map (atT D))[k]? = some (atT D L[k]) by simp [hlt])
    simp (disch := omega) only [go_sem, seval, reduceCtorEq, h1, g, gd, c1, c2]
    refine ⟨by omega, ?_⟩
    (refine Next.drop [false, false, false, false, false, false, true, true, false, false, false, false, false, false, false, false, false, true, true, true, true, true, true, true, true, true, true, true, true, false] (by omega) (Nat.le_of_ble_eq_true rfl) ?_ ?_ <;> first | (simp only [go_sem, seval, reduceCtorEq, dropF_ch, dropF_cons, dropF_nil, cut, cond_true, cond_false, Int.natCast_zero, Int.natCast_add, Int.natCast_one, hm]; done) | rfl | (simp only [go_sem, seval, reduceCtorEq, dropF_ch, dropF_cons, dropF_nil, cut, cond_true, cond_false, Int.natCast_zero, Int.natCast_add, Int.natCast_one, hm]; rfl) | skip)
  · have h1 : ¬ (k : Int) < L.length := by omega
    have hm : mix (L.map (atT D)) (List.replicate L.length 0) k = L.map (atT D) := mix_full (by simp; omega) (by simp; omega)
    simp (disch := omega) only [go_sem, seval, reduceCtorEq, h1, hm]
    (refine FnEnd.mk (Nat.le_of_ble_eq_true rfl) rfl (of_decide_eq_true rfl) ?_ ?_ <;> try simp only [go_sem, seval, reduceCtorEq])
theorem dimsOf_d {ts : List Ten} (h : ts.length ≤ 1048576) (ht : ∀ t ∈ ts, TSz 1048576 t) (hax : axOks ts) :
    Does Try.prog 91 [.d (tens ts)] [] (.tup [.agg (iv (dimsR ts).1), .d (.bool (dimsR ts).2)]) [] := by
  have hRl := dimsR_len ts
  have htR : List.take 100 (dimsR ts).1 = (dimsR ts).1 := List.take_of_length_le (by omega)
  have hz : (dimsTo ts 0 0).1 = repI 100 0 := by rw [dimsTo_zero]
  have hdr : List.drop 100 (repI 100 0) = [] := List.drop_of_length_le (by rw [repI_len]; exact Nat.le_refl _)
  (refine spec_of (by kernel_rfl) Try.func91 k_impl_dimsOf (fnOk (Nat.le_of_ble_eq_true rfl) ?_); unfold C_impl_dimsOf)
  (simp only [Nat.reduceSub, List.length_cons, List.length_nil, Nat.reduceAdd, ch_init1, ch_init2, ch_init3, ch_init4, ch_init5, ch_init6, ch_init7, ch_init8]; try simp only [ch_rep]); (simp only [go_sem, seval, reduceCtorEq, List.replicate])
  refine wpN_lpI (ts.length) [false, false, false, true, false, false, true, true, true, false, false, false, true, true, true, true, true, true, true, true, true, true, true, true, true, true, true, true, true, true, true, true, true, true, true, true, true, true, true, true, true, true, true, true, true, true, true, true, false] (fun k => (dimsTo ts k 0).2 = true) (fun k => [(11, .d (.int k))]) (fun k => [(1, iv (dimsTo ts k 0).1)]) (fun _ => by (simp only [go_sem, seval, reduceCtorEq, dropF_ch, dropF_cons, dropF_nil, cut, cond_true, cond_false]); first | done | rfl) (fun _ => by (simp only [go_sem, seval, reduceCtorEq, cut]); first | done | rfl) (by rw [dimsTo_zero]) (Nat.le_of_ble_eq_true rfl) (by first | (simp only [go_sem, seval, reduceCtorEq, dropF_ch, dropF_cons, dropF_nil, cut, cond_true, cond_false, Int.natCast_zero, Int.natCast_add, Int.natCast_one, hz]; done) | rfl | (simp only [go_sem, seval, reduceCtorEq, dropF_ch, dropF_cons, dropF_nil, cut, cond_true, cond_false, Int.natCast_zero, Int.natCast_add, Int.natCast_one, hz]; rfl)) (by first | (simp only [go_sem, seval, reduceCtorEq, dropF_ch, dropF_cons, dropF_nil, cut, cond_true, cond_false, Int.natCast_zero, Int.natCast_add, Int.natCast_one, hz]; done) | rfl | (simp only [go_sem, seval, reduceCtorEq, dropF_ch, dropF_cons, dropF_nil, cut, cond_true, cond_false, Int.natCast_zero, Int.natCast_add, Int.natCast_one, hz]; rfl)) fun k hk hi => ?_
  unfold L1_impl_dimsOf
  by_cases hlt : k < ts.length
  · have d1 : (k : Int) < ts.length := by omega
    have g : ts[k]? = some ts[k] := List.getElem?_eq_getElem hlt
    have g3 := tcs_cut g
    have hst := ht ts[k] (List.getElem_mem hlt)
    have hat := hax ts[k] (List.getElem_mem hlt)
    have hl := hat.len
    have hstl := hst.l.len
    simp (disch := omega) only [go_sem, seval, reduceCtorEq, d1, g3]
    refine ⟨by omega, ?_⟩
    refine wpN_lpI (ts[k].labels.length) [false, false, false, true, false, false, false, true, true, false, false, false, false, false, false, false, false, false, false, true, true, true, true, true, true, true, true, true, true, true, true, true, true, true, true, true, true, true, true, true, true, true, true, true, true, true, true, false, false] (fun q => (dimsTo ts k q).2 = true) (fun q => [(18, .d (.int q))]) (fun q => [(1, iv (dimsTo ts k q).1)]) (fun _ => by (simp only [go_sem, seval, reduceCtorEq, dropF_ch, dropF_cons, dropF_nil, cut, cond_true, cond_false]); first | done | rfl) (fun _ => by (simp only [go_sem, seval, reduceCtorEq, cut]); first | done | rfl) (hi) (Nat.le_of_ble_eq_true rfl) (by first | (simp only [go_sem, seval, reduceCtorEq, dropF_ch, dropF_cons, dropF_nil, cut, cond_true, cond_false, Int.natCast_zero, Int.natCast_add, Int.natCast_one]; done) | rfl | (simp only [go_sem, seval, reduceCtorEq, dropF_ch, dropF_cons, dropF_nil, cut, cond_true, cond_false, Int.natCast_zero, Int.natCast_add, Int.natCast_one]; rfl)) (by first | (simp only [go_sem, seval, reduceCtorEq, dropF_ch, dropF_cons, dropF_nil, cut, cond_true, cond_false, Int.natCast_zero, Int.natCast_add, Int.natCast_one]; done) | rfl | (simp only [go_sem, seval, reduceCtorEq, dropF_ch, dropF_cons, dropF_nil, cut, cond_true, cond_false, Int.natCast_zero, Int.natCast_add, Int.natCast_one]; rfl)) fun q hq hiq => ?_
    unfold L0_impl_dimsOf
    have hDl := dimsTo_len ts k q
    by_cases hltq : q < ts[k].labels.length
    · have e1 : (q : Int) < ts[k].labels.length := by omega
      have e2 : (q : Int) < ts[k].dims.length := by omega
      have gq : ts[k].labels[q]? = some ts[k].labels[q] := List.getElem?_eq_getElem hltq
      have gd : ts[k].dims[q]? = some (dimAt ts[k] ts[k].labels[q]) := by rw [dimAt_at hat hltq (by omega)]; exact List.getElem?_eq_getElem (by omega)
      have hb : 0 ≤ ts[k].labels[q] ∧ ts[k].labels[q] ≤ 99 := by
        have := hat.2.2 q hltq
        unfold axAt at this
        rw [getD_of hltq] at this
        omega
      have c1 : 0 ≤ ts[k].labels[q] := hb.1
      have c2 : ts[k].labels[q] < 100 := by omega
      have ga := atT_get hDl hb
      have hst := dimsTo_step hax hlt hltq hiq
      have htD : List.take 100 (dimsTo ts k q).1 = (dimsTo ts k q).1 := List.take_of_length_le (by omega)
      have fail : atT (dimsTo ts k q).1 ts[k].labels[q] ≠ 0 ∧ atT (dimsTo ts k q).1 ts[k].labels[q] ≠ dimAt ts[k] ts[k].labels[q] → dimsR ts = ((dimsTo ts k q).1, false) := fun hh => by
        rw [if_pos hh] at hst
        rw [dimsTo_fail hlt (by rw [hst]), hst]
      have good : ¬ (atT (dimsTo ts k q).1 ts[k].labels[q] ≠ 0 ∧ atT (dimsTo ts k q).1 ts[k].labels[q] ≠ dimAt ts[k] ts[k].labels[q]) → dimsTo ts k (q + 1) = ((dimsTo ts k q).1.set ts[k].labels[q].toNat (dimAt ts[k] ts[k].labels[q]), true) := fun hh => by
        rw [if_neg hh] at hst
        exact hst
      have hps := put_set (n := ts[k].labels[q].toNat) (x := dimAt ts[k] ts[k].labels[q]) (xs := (dimsTo ts k q).1) (by omega)
      have hsl : ((dimsTo ts k q).1.set ts[k].labels[q].toNat (dimAt ts[k] ts[k].labels[q])).length = 100 := by rw [List.length_set]; exact hDl
      by_cases ha : atT (dimsTo ts k q).1 ts[k].labels[q] = 0
      · have b1 : (atT (dimsTo ts k q).1 ts[k].labels[q] != 0) = false := by simp [ha]
        have hg := good fun hh => hh.1 ha
        simp (disch := omega) only [go_sem, seval, reduceCtorEq, e1, e2, gq, gd, c1, c2, ga, b1]
        refine ⟨by omega, ?_⟩
        have hI : (dimsTo ts k (q + 1)).2 = true := by rw [hg]
        (refine NextI.drop [false, false, false, true, false, false, false, true, true, false, false, false, false, false, false, false, false, false, false, true, true, true, true, true, true, true, true, true, true, true, true, true, true, true, true, true, true, true, true, true, true, true, true, true, true, true, true, false, false] (by omega) (hI) (Nat.le_of_ble_eq_true rfl) ?_ ?_ <;> first | (simp only [go_sem, seval, reduceCtorEq, dropF_ch, dropF_cons, dropF_nil, cut, cond_true, cond_false, Int.natCast_zero, Int.natCast_add, Int.natCast_one, hg, hps]; done) | rfl | (simp only [go_sem, seval, reduceCtorEq, dropF_ch, dropF_cons, dropF_nil, cut, cond_true, cond_false, Int.natCast_zero, Int.natCast_add, Int.natCast_one, hg, hps]; rfl) | skip)
      · have b1 : (atT (dimsTo ts k q).1 ts[k].labels[q] != 0) = true := by simp [ha]
        by_cases hb2 : atT (dimsTo ts k q).1 ts[k].labels[q] = dimAt ts[k] ts[k].labels[q]
        · have b2 : (atT (dimsTo ts k q).1 ts[k].labels[q] != dimAt ts[k] ts[k].labels[q]) = false := by simp [hb2]
          have hg := good fun hh => hh.2 hb2
          simp (disch := omega) only [go_sem, seval, reduceCtorEq, e1, e2, gq, gd, c1, c2, ga, b1, b2]
          refine ⟨by omega, ?_⟩
          have hI : (dimsTo ts k (q + 1)).2 = true := by rw [hg]
          (refine NextI.drop [false, false, false, true, false, false, false, true, true, false, false, false, false, false, false, false, false, false, false, true, true, true, true, true, true, true, true, true, true, true, true, true, true, true, true, true, true, true, true, true, true, true, true, true, true, true, true, false, false] (by omega) (hI) (Nat.le_of_ble_eq_true rfl) ?_ ?_ <;> first | (simp only [go_sem, seval, reduceCtorEq, dropF_ch, dropF_cons, dropF_nil, cut, cond_true, cond_false, Int.natCast_zero, Int.natCast_add, Int.natCast_one, hg, hps]; done) | rfl | (simp only [go_sem, seval, reduceCtorEq, dropF_ch, dropF_cons, dropF_nil, cut, cond_true, cond_false, Int.natCast_zero, Int.natCast_add, Int.natCast_one, hg, hps]; rfl) | skip)
        · have b2 : (atT (dimsTo ts k q).1 ts[k].labels[q] != dimAt ts[k] ts[k].labels[q]) = true := by simp [hb2]
          have hf := fail ⟨ha, hb2⟩
          simp (disch := omega) only [go_sem, seval, reduceCtorEq, e1, e2, gq, gd, c1, c2, ga, b1, b2, htD, hf, hdr]
          refine ⟨by omega, by omega, ?_⟩
          (refine FnEnd.mk (r := .tup [.agg (iv (dimsTo ts k q).1), .d (.bool false)]) (Nat.le_of_ble_eq_true rfl) (by simp only [resA, resL, resOne, cvL, cv, go_sem, seval, reduceCtorEq, htD, hDl, Nat.le_refl]) (by first | exact of_decide_eq_true rfl | simp only [go_sem, seval, reduceCtorEq, List.nodup_nil]) ?_ ?_ <;> try simp only [go_sem, seval, reduceCtorEq, htD, hDl, Nat.le_refl])
    · have e1 : ¬ (q : Int) < ts[k].labels.length := by omega
      obtain rfl : q = ts[k].labels.length := by omega
      have hd := dimsTo_tensor hax hlt
      simp (disch := omega) only [go_sem, seval, reduceCtorEq, e1, hd]
      rw [hd] at hiq
      (refine NextI.drop [false, false, false, true, false, false, true, true, true, false, false, false, true, true, true, true, true, true, true, true, true, true, true, true, true, true, true, true, true, true, true, true, true, true, true, true, true, true, true, true, true, true, true, true, true, true, true, true, false] (by omega) (hiq) (Nat.le_of_ble_eq_true rfl) ?_ ?_ <;> first | (simp only [go_sem, seval, reduceCtorEq, dropF_ch, dropF_cons, dropF_nil, cut, cond_true, cond_false, Int.natCast_zero, Int.natCast_add, Int.natCast_one]; done) | rfl | (simp only [go_sem, seval, reduceCtorEq, dropF_ch, dropF_cons, dropF_nil, cut, cond_true, cond_false, Int.natCast_zero, Int.natCast_add, Int.natCast_one]; rfl) | skip)
  · have d1 : ¬ (k : Int) < ts.length := by omega
    have hd := dimsTo_all (ts := ts) (k := k) (by omega)
    rw [hd] at hi
    simp (disch := omega) only [go_sem, seval, reduceCtorEq, d1, hd, htR, hi, hdr]
    refine ⟨by omega, by omega, ?_⟩
    (refine FnEnd.mk (r := .tup [.agg (iv (dimsR ts).1), .d (.bool true)]) (Nat.le_of_ble_eq_true rfl) (by simp only [resA, resL, resOne, cvL, cv, go_sem, seval, reduceCtorEq, htR, hRl, Nat.le_refl]) (by first | exact of_decide_eq_true rfl | simp only [go_sem, seval, reduceCtorEq, List.nodup_nil]) ?_ ?_ <;> try simp only [go_sem, seval, reduceCtorEq, htR, hRl, Nat.le_refl])
theorem tcs_taken (ts : List Ten) (k : Nat) : (tcs ts).take (k * 3) = tcs (ts.take k) := by
  induction ts generalizing k with
  | nil => simp [tcs]
  | cons t l ih =>
    cases k with
    | zero => simp [tcs]
    | succ k =>
      rw [tcs, show (k + 1) * 3 = k * 3 + 3 by omega]
      simp [tcs, ih]
theorem l12Dim_d {ts : List Ten} {x : Int} (h : ts.length ≤ 1048576) (ht : ∀ t ∈ ts, TSz 1048576 t) (hax : axOks ts) :
    Does Try.prog 106 [.d (tens ts), .d (.int x)] [] (.d (.int (dimN ts x))) [] := by
  (refine spec_of (by kernel_rfl) Try.func106 k_spec_l12Dim (fnOk (Nat.le_of_ble_eq_true rfl) ?_); unfold C_spec_l12Dim)
  (simp only [Nat.reduceSub, List.length_cons, List.length_nil, Nat.reduceAdd, ch_init1, ch_init2, ch_init3, ch_init4, ch_init5, ch_init6, ch_init7, ch_init8]; try simp only [ch_rep]); (simp only [go_sem, seval, reduceCtorEq, List.replicate])
  have hI0 : ∀ t ∈ ts.take 0, x ∉ t.labels := fun t ht => by simp at ht
  refine wpN_lpI (ts.length) [false, false, false, false, true, false, true, true, false, false, false, true, true, true, true, true, true, true, true, true, true, true, true, true, true, true] (fun k => ∀ t ∈ ts.take k, x ∉ t.labels) (fun k => [(10, .d (.int k))]) (fun k => []) (fun _ => by (simp only [go_sem, seval, reduceCtorEq, dropF_ch, dropF_cons, dropF_nil, cut, cond_true, cond_false]); first | done | rfl) (fun _ => by (simp only [go_sem, seval, reduceCtorEq, cut]); first | done | rfl) (hI0) (Nat.le_of_ble_eq_true rfl) (by first | (simp only [go_sem, seval, reduceCtorEq, dropF_ch, dropF_cons, dropF_nil, cut, cond_true, cond_false, Int.natCast_zero, Int.natCast_add, Int.natCast_one]; done) | rfl | (simp only [go_sem, seval, reduceCtorEq, dropF_ch, dropF_cons, dropF_nil, cut, cond_true, cond_false, Int.natCast_zero, Int.natCast_add, Int.natCast_one]; rfl)) (by first | (simp only [go_sem, seval, reduceCtorEq, dropF_ch, dropF_cons, dropF_nil, cut, cond_true, cond_false, Int.natCast_zero, Int.natCast_add, Int.natCast_one]; done) | rfl | (simp only [go_sem, seval, reduceCtorEq, dropF_ch, dropF_cons, dropF_nil, cut, cond_true, cond_false, Int.natCast_zero, Int.natCast_add, Int.natCast_one]; rfl)) fun k hk hi => ?_
  unfold L0_spec_l12Dim
  by_cases hlt : k < ts.length
  · have d1 : (k : Int) < ts.length := by omega
    have g : ts[k]? = some ts[k] := List.getElem?_eq_getElem hlt
    have g3 := tcs_cut g
    have hst := ht ts[k] (List.getElem_mem hlt)
    have hat := hax ts[k] (List.getElem_mem hlt)
    simp (disch := omega) only [go_sem, seval, reduceCtorEq, d1, g3]
    refine ⟨by omega, ?_⟩
    (refine ti_call (l05Find_d (xs := ts[k].labels) (x := x) hst.l.up.len) ?_ ?_ ?_; (focus (simp only [go_sem, seval, reduceCtorEq]; done)); (first | rfl | (focus (simp only [go_sem]; done))))
    by_cases hm : x ∈ ts[k].labels
    · obtain ⟨i, p1, p2, p3, p4⟩ := dimAt_get hat.len hm
      have c2 : (i : Int) ≥ 0 := by omega
      have c3 : (i : Int) < ts[k].dims.length := by omega
      have e := dimN_first hax hlt hi hm
      simp (disch := omega) only [go_sem, seval, reduceCtorEq, p3, c2, c3, p4, e]
      (refine FnEnd.mk (Nat.le_of_ble_eq_true rfl) rfl (of_decide_eq_true rfl) ?_ ?_ <;> try simp only [go_sem, seval, reduceCtorEq])
    · have c2 : ¬ place ts[k].labels x ≥ 0 := by have := place_neg.2 hm; omega
      have hI : ∀ t ∈ ts.take (k + 1), x ∉ t.labels := fun t ht => by
        rw [take_ss hlt] at ht
        rcases List.mem_append.1 ht with ht | ht
        · exact hi t ht
        · simp only [List.mem_singleton] at ht; subst ht; exact hm
      simp (disch := omega) only [go_sem, seval, reduceCtorEq, c2]
      (refine NextI.drop [false, false, false, false, true, false, true, true, false, false, false, true, true, true, true, true, true, true, true, true, true, true, true, true, true, true] (by omega) (hI) (Nat.le_of_ble_eq_true rfl) ?_ ?_ <;> first | (simp only [go_sem, seval, reduceCtorEq, dropF_ch, dropF_cons, dropF_nil, cut, cond_true, cond_false, Int.natCast_zero, Int.natCast_add, Int.natCast_one]; done) | rfl | (simp only [go_sem, seval, reduceCtorEq, dropF_ch, dropF_cons, dropF_nil, cut, cond_true, cond_false, Int.natCast_zero, Int.natCast_add, Int.natCast_one]; rfl) | skip)
  · have d1 : ¬ (k : Int) < ts.length := by omega
    have e := dimN_none (ts := ts) (x := x) (by rw [List.take_of_length_le (by omega)] at hi; exact hi)
    simp (disch := omega) only [go_sem, seval, reduceCtorEq, d1, e]
    (refine FnEnd.mk (Nat.le_of_ble_eq_true rfl) rfl (of_decide_eq_true rfl) ?_ ?_ <;> try simp only [go_sem, seval, reduceCtorEq])
theorem l12Dims_d {ts : List Ten} {L : List Int} (h : ts.length ≤ 1048576) (ht : ∀ t ∈ ts, TSz 1048576 t) (hax : axOks ts) (hL : L.length ≤ 1048576) :
    Does Try.prog 120 [.d (tens ts), .d (ints L)] [] (.own 0 0 L.length) [some ⟨1, true, iv (L.map (dimN ts))⟩] := by
  (refine spec_of (by kernel_rfl) Try.func120 k_spec_l12Dims (fnOk (Nat.le_of_ble_eq_true rfl) ?_); unfold C_spec_l12Dims)
  (simp only [Nat.reduceSub, List.length_cons, List.length_nil, Nat.reduceAdd, ch_init1, ch_init2, ch_init3, ch_init4, ch_init5, ch_init6, ch_init7, ch_init8]; try simp only [ch_rep]); (simp only [go_sem, seval, reduceCtorEq, List.replicate])
  refine wpN_lp (L.length) [false, false, false, false, false, false, false, true, true, false, false, false, true, true, true, true, true, true, true, true, true, true, false] (fun k => [(5, .own 0 0 k), (11, .d (.int k))]) (fun k => [(0, iv ((L.take k).map (dimN ts)))]) (fun _ => by (simp only [go_sem, seval, reduceCtorEq, dropF_ch, dropF_cons, dropF_nil, cut, cond_true, cond_false]); first | done | rfl) (fun _ => by (simp only [go_sem, seval, reduceCtorEq, cut]); first | done | rfl) (Nat.le_of_ble_eq_true rfl) (by first | (simp only [go_sem, seval, reduceCtorEq, dropF_ch, dropF_cons, dropF_nil, cut, cond_true, cond_false, Int.natCast_zero, Int.natCast_add, Int.natCast_one, List.take_zero, List.map_nil, iv_nil]; done) | rfl | (simp only [go_sem, seval, reduceCtorEq, dropF_ch, dropF_cons, dropF_nil, cut, cond_true, cond_false, Int.natCast_zero, Int.natCast_add, Int.natCast_one, List.take_zero, List.map_nil, iv_nil]; rfl)) (by first | (simp only [go_sem, seval, reduceCtorEq, dropF_ch, dropF_cons, dropF_nil, cut, cond_true, cond_false, Int.natCast_zero, Int.natCast_add, Int.natCast_one, List.take_zero, List.map_nil, iv_nil]; done) | rfl | (simp only [go_sem, seval, reduceCtorEq, dropF_ch, dropF_cons, dropF_nil, cut, cond_true, cond_false, Int.natCast_zero, Int.natCast_add, Int.natCast_one, List.take_zero, List.map_nil, iv_nil]; rfl)) fun k hk => ?_
  unfold L0_spec_l12Dims
  have hkl : ((L.take k).map (dimN ts)).length = k := by simp; omega
  by_cases hlt : k < L.length
  · have h1 : (k : Int) < L.length := by omega
    have hx : L[k]? = some L[k] := List.getElem?_eq_getElem hlt
    have hm : (L.take (k + 1)).map (dimN ts) = (L.take k).map (dimN ts) ++ [dimN ts L[k]] := by rw [take_ss hlt, List.map_append, List.map_cons, List.map_nil]
    simp (disch := omega) only [go_sem, seval, reduceCtorEq, h1, hx]
    (refine ti_call (l12Dim_d (ts := ts) (x := L[k]) h ht hax) ?_ ?_ ?_; (focus (simp only [go_sem, seval, reduceCtorEq]; done)); (first | rfl | (focus (simp only [go_sem]; done))))
    simp (disch := omega) only [go_sem, seval, reduceCtorEq, hkl]
    refine ⟨by omega, ?_⟩
    (refine Next.drop [false, false, false, false, false, false, false, true, true, false, false, false, true, true, true, true, true, true, true, true, true, true, false] (by omega) (Nat.le_of_ble_eq_true rfl) ?_ ?_ <;> first | (simp only [go_sem, seval, reduceCtorEq, dropF_ch, dropF_cons, dropF_nil, cut, cond_true, cond_false, Int.natCast_zero, Int.natCast_add, Int.natCast_one, hm]; done) | rfl | (simp only [go_sem, seval, reduceCtorEq, dropF_ch, dropF_cons, dropF_nil, cut, cond_true, cond_false, Int.natCast_zero, Int.natCast_add, Int.natCast_one, hm]; rfl) | skip)
  · have h1 : ¬ (k : Int) < L.length := by omega
    obtain rfl : k = L.length := by omega
    simp (disch := omega) only [go_sem, seval, reduceCtorEq, h1]
    (refine FnEnd.mk (Nat.le_of_ble_eq_true rfl) rfl (of_decide_eq_true rfl) ?_ ?_ <;> try simp only [go_sem, seval, reduceCtorEq])
theorem iNetworkOk_d {N : Net} (h : NSz 1048576 N) : Does Try.prog 56 [netA N] [] (.d (.bool (netOk N))) [] := by
  (refine spec_of (by kernel_rfl) Try.func56 k_impl_NetworkOk (fnOk (Nat.le_of_ble_eq_true rfl) ?_); unfold C_impl_NetworkOk)
  (simp only [Nat.reduceSub, List.length_cons, List.length_nil, Nat.reduceAdd, ch_init1, ch_init2, ch_init3, ch_init4, ch_init5, ch_init6, ch_init7, ch_init8]; try simp only [ch_rep]); (simp only [go_sem, seval, reduceCtorEq, List.replicate])
  (refine ti_call (iRingOk_d N.k N.p N.n) ?_ ?_ ?_; (focus (simp only [go_sem, seval, reduceCtorEq]; done)); (first | rfl | (focus (simp only [go_sem]; done))))
  cases h1 : ringOk ⟨N.k, N.p, N.n⟩
  · have e := netOk_no (N := N) fun e => by have := e.1; rw [Net.rg, h1] at this; cases this
    simp only [go_sem, seval, reduceCtorEq, h1, e]
    (refine FnEnd.mk (Nat.le_of_ble_eq_true rfl) rfl (of_decide_eq_true rfl) ?_ ?_ <;> try simp only [go_sem, seval, reduceCtorEq])
  by_cases h2 : N.ts.length ≤ 12
  rotate_left
  · have e := netOk_no (N := N) fun e => h2 e.2.1
    have c2 : (N.ts.length : Int) > 12 := by omega
    simp only [go_sem, seval, reduceCtorEq, h1, c2, e]
    (refine FnEnd.mk (Nat.le_of_ble_eq_true rfl) rfl (of_decide_eq_true rfl) ?_ ?_ <;> try simp only [go_sem, seval, reduceCtorEq])
  have c2 : ¬ (N.ts.length : Int) > 12 := by omega
  by_cases h3 : N.os.length ≤ 12
  rotate_left
  · have e := netOk_no (N := N) fun e => e.2.2.2.2 (tsize_len1 (by omega))
    have c3 : (N.os.length : Int) > 12 := by omega
    simp only [go_sem, seval, reduceCtorEq, h1, c2, c3, e]
    (refine FnEnd.mk (Nat.le_of_ble_eq_true rfl) rfl (of_decide_eq_true rfl) ?_ ?_ <;> try simp only [go_sem, seval, reduceCtorEq])
  have c3 : ¬ (N.os.length : Int) > 12 := by omega
  simp only [go_sem, seval, reduceCtorEq, h1, c2, c3]
  have hI0 : tenOks N.rg (N.ts.take 0) := fun t ht => by simp at ht
  refine wpN_lpI (N.ts.length) [false, false, true, false, true, false, false, false, false, false, false, false, false, false, false, false, false, false, false, false, false, false, false, false, false, false, false, false, false, true, true, true, true, true, true, true, true, true, false, false, false, false, false, false, false, false, false, false, false, false, false, false, false, false, false, false, false, false, false, false, false, false, false, false, false, false, false, false, false, false, false, false] (fun k => tenOks N.rg (N.ts.take k)) (fun k => [(28, .d (.int k))]) (fun k => []) (fun _ => by (simp only [go_sem, seval, reduceCtorEq, dropF_ch, dropF_cons, dropF_nil, cut, cond_true, cond_false]); first | done | rfl) (fun _ => by (simp only [go_sem, seval, reduceCtorEq, cut]); first | done | rfl) (hI0) (Nat.le_of_ble_eq_true rfl) (by first | (simp only [go_sem, seval, reduceCtorEq, dropF_ch, dropF_cons, dropF_nil, cut, cond_true, cond_false, Int.natCast_zero, Int.natCast_add, Int.natCast_one]; done) | rfl | (simp only [go_sem, seval, reduceCtorEq, dropF_ch, dropF_cons, dropF_nil, cut, cond_true, cond_false, Int.natCast_zero, Int.natCast_add, Int.natCast_one]; rfl)) (by first | (simp only [go_sem, seval, reduceCtorEq, dropF_ch, dropF_cons, dropF_nil, cut, cond_true, cond_false, Int.natCast_zero, Int.natCast_add, Int.natCast_one]; done) | rfl | (simp only [go_sem, seval, reduceCtorEq, dropF_ch, dropF_cons, dropF_nil, cut, cond_true, cond_false, Int.natCast_zero, Int.natCast_add, Int.natCast_one]; rfl)) fun k hk hi => ?_
  unfold L1_impl_NetworkOk
  by_cases hlt : k < N.ts.length
  · have d1 : (k : Int) < N.ts.length := by omega
    have g : N.ts[k]? = some N.ts[k] := List.getElem?_eq_getElem hlt
    have g3 := tcs_cut g
    have hst := h.t N.ts[k] (List.getElem_mem hlt)
    simp (disch := omega) only [go_sem, seval, reduceCtorEq, d1, g3]
    refine ⟨by omega, ?_⟩
    (refine ti_call (iTensorOk_d (t := N.ts[k]) h.k h.p h.n hst.up) ?_ ?_ ?_; (focus (simp only [go_sem, seval, reduceCtorEq]; done)); (first | rfl | (focus (simp only [go_sem]; done))))
    cases hto : tensorOk ⟨N.k, N.p, N.n⟩ N.ts[k].labels N.ts[k].dims N.ts[k].data
    · have e := netOk_no (N := N) fun e => by have := e.2.2.1 N.ts[k] (List.getElem_mem hlt); rw [Net.rg, hto] at this; cases this
      simp only [go_sem, seval, reduceCtorEq, hto, e]
      (refine FnEnd.mk (Nat.le_of_ble_eq_true rfl) rfl (of_decide_eq_true rfl) ?_ ?_ <;> try simp only [go_sem, seval, reduceCtorEq])
    · have hI : tenOks N.rg (N.ts.take (k + 1)) := fun t ht => by
        rw [take_ss hlt] at ht
        rcases List.mem_append.1 ht with ht | ht
        · exact hi t ht
        · simp only [List.mem_singleton] at ht; subst ht; exact hto
      simp (disch := omega) only [go_sem, seval, reduceCtorEq, hto]
      (refine NextI.drop [false, false, true, false, true, false, false, false, false, false, false, false, false, false, false, false, false, false, false, false, false, false, false, false, false, false, false, false, false, true, true, true, true, true, true, true, true, true, false, false, false, false, false, false, false, false, false, false, false, false, false, false, false, false, false, false, false, false, false, false, false, false, false, false, false, false, false, false, false, false, false, false] (by omega) (hI) (Nat.le_of_ble_eq_true rfl) ?_ ?_ <;> first | (simp only [go_sem, seval, reduceCtorEq, dropF_ch, dropF_cons, dropF_nil, cut, cond_true, cond_false, Int.natCast_zero, Int.natCast_add, Int.natCast_one]; done) | rfl | (simp only [go_sem, seval, reduceCtorEq, dropF_ch, dropF_cons, dropF_nil, cut, cond_true, cond_false, Int.natCast_zero, Int.natCast_add, Int.natCast_one]; rfl) | skip)
  have d1 : ¬ (k : Int) < N.ts.length := by omega
  have hto : tenOks N.rg N.ts := by rw [List.take_of_length_le (by omega)] at hi; exact hi
  have hax := hto.ax
  obtain ⟨hc1, hc2⟩ := dimsR_ok hax
  have hRl := dimsR_len N.ts
  have hdr : List.drop 100 (repI 100 0) = [] := List.drop_of_length_le (by rw [repI_len]; exact Nat.le_refl _)
  simp (disch := omega) only [go_sem, seval, reduceCtorEq, d1]
  (refine ti_call (dimsOf_d (ts := N.ts) h.l h.t hax) ?_ ?_ ?_; (focus (simp only [go_sem, seval, reduceCtorEq]; done)); (first | rfl | (focus (simp only [go_sem]; done))))
  simp (disch := omega) only [go_sem, seval, reduceCtorEq, hdr]
  refine ⟨by omega, ?_⟩
  cases hok : (dimsR N.ts).2
  · have e := netOk_no (N := N) fun e => by have := hc1.2 e.2.2.2.1; rw [hok] at this; cases this
    simp only [go_sem, seval, reduceCtorEq, hok, e]
    (refine FnEnd.mk (Nat.le_of_ble_eq_true rfl) rfl (of_decide_eq_true rfl) ?_ ?_ <;> try simp only [go_sem, seval, reduceCtorEq])
  have hat := hc2 hok
  have hcons := hc1.1 hok
  simp only [go_sem, seval, reduceCtorEq, hok]
  have hJ0 : ∀ j (hj : j < N.os.length), j < 0 → 0 ≤ N.os[j] ∧ N.os[j] ≤ 99 ∧ dimN N.ts N.os[j] ≠ 0 := fun j _ hj => absurd hj (Nat.not_lt_zero j)
  have htR : List.take 100 (dimsR N.ts).1 = (dimsR N.ts).1 := List.take_of_length_le (by omega)
  refine wpN_lpI (N.os.length) [false, false, true, false, false, false, false, false, true, false, false, false, false, false, false, false, false, false, false, false, false, false, false, false, false, false, false, false, false, false, false, false, false, false, false, false, false, false, false, false, false, false, false, false, false, false, false, false, false, false, true, true, true, true, true, true, true, true, true, true, true, true, true, true, true, true, false, false, false, false, false, false] (fun q => ∀ j (hj : j < N.os.length), j < q → 0 ≤ N.os[j] ∧ N.os[j] ≤ 99 ∧ dimN N.ts N.os[j] ≠ 0) (fun q => [(49, .d (.int q))]) (fun q => []) (fun _ => by (simp only [go_sem, seval, reduceCtorEq, dropF_ch, dropF_cons, dropF_nil, cut, cond_true, cond_false]); first | done | rfl) (fun _ => by (simp only [go_sem, seval, reduceCtorEq, cut]); first | done | rfl) (hJ0) (Nat.le_of_ble_eq_true rfl) (by first | (simp only [go_sem, seval, reduceCtorEq, dropF_ch, dropF_cons, dropF_nil, cut, cond_true, cond_false, Int.natCast_zero, Int.natCast_add, Int.natCast_one]; done) | rfl | (simp only [go_sem, seval, reduceCtorEq, dropF_ch, dropF_cons, dropF_nil, cut, cond_true, cond_false, Int.natCast_zero, Int.natCast_add, Int.natCast_one]; rfl)) (by first | (simp only [go_sem, seval, reduceCtorEq, dropF_ch, dropF_cons, dropF_nil, cut, cond_true, cond_false, Int.natCast_zero, Int.natCast_add, Int.natCast_one]; done) | rfl | (simp only [go_sem, seval, reduceCtorEq, dropF_ch, dropF_cons, dropF_nil, cut, cond_true, cond_false, Int.natCast_zero, Int.natCast_add, Int.natCast_one]; rfl)) fun q hq hiq => ?_
  unfold L0_impl_NetworkOk
  by_cases hltq : q < N.os.length
  · have e1 : (q : Int) < N.os.length := by omega
    have g : N.os[q]? = some N.os[q] := List.getElem?_eq_getElem hltq
    have bad : ¬ (0 ≤ N.os[q] ∧ N.os[q] ≤ 99 ∧ dimN N.ts N.os[q] ≠ 0) → netOk N = false := fun hb => netOk_no fun e => e.2.2.2.2 (tsize_open q hltq hb hax)
    by_cases b1 : N.os[q] < 0
    · have e := bad fun e => by omega
      simp (disch := omega) only [go_sem, seval, reduceCtorEq, e1, g, b1, e]
      (refine FnEnd.mk (Nat.le_of_ble_eq_true rfl) rfl (of_decide_eq_true rfl) ?_ ?_ <;> try simp only [go_sem, seval, reduceCtorEq])
    by_cases b2 : N.os[q] > 99
    · have e := bad fun e => by omega
      simp (disch := omega) only [go_sem, seval, reduceCtorEq, e1, g, b1, b2, e]
      (refine FnEnd.mk (Nat.le_of_ble_eq_true rfl) rfl (of_decide_eq_true rfl) ?_ ?_ <;> try simp only [go_sem, seval, reduceCtorEq])
    have hb : 0 ≤ N.os[q] ∧ N.os[q] ≤ 99 := by omega
    have ga := atT_get hRl hb
    rw [hat _ hb] at ga
    have c1 : 0 ≤ N.os[q] := hb.1
    have c2 : N.os[q] < 100 := by omega
    by_cases b3 : dimN N.ts N.os[q] = 0
    · have e := bad fun e => e.2.2 b3
      have b3' : (dimN N.ts N.os[q] == 0) = true := by simp [b3]
      simp (disch := omega) only [go_sem, seval, reduceCtorEq, e1, g, b1, b2, c1, c2, ga, b3', e]
      (refine FnEnd.mk (Nat.le_of_ble_eq_true rfl) rfl (of_decide_eq_true rfl) ?_ ?_ <;> try simp only [go_sem, seval, reduceCtorEq])
    · have b3' : (dimN N.ts N.os[q] == 0) = false := by simp [b3]
      have hI : ∀ j (hj : j < N.os.length), j < q + 1 → 0 ≤ N.os[j] ∧ N.os[j] ≤ 99 ∧ dimN N.ts N.os[j] ≠ 0 := fun j hj hjq => by
        by_cases e : j = q
        · subst e; exact ⟨hb.1, hb.2, b3⟩
        · exact hiq j hj (by omega)
      simp (disch := omega) only [go_sem, seval, reduceCtorEq, e1, g, b1, b2, c1, c2, ga, b3']
      (refine NextI.drop [false, false, true, false, false, false, false, false, true, false, false, false, false, false, false, false, false, false, false, false, false, false, false, false, false, false, false, false, false, false, false, false, false, false, false, false, false, false, false, false, false, false, false, false, false, false, false, false, false, false, true, true, true, true, true, true, true, true, true, true, true, true, true, true, true, true, false, false, false, false, false, false] (by omega) (hI) (Nat.le_of_ble_eq_true rfl) ?_ ?_ <;> first | (simp only [go_sem, seval, reduceCtorEq, dropF_ch, dropF_cons, dropF_nil, cut, cond_true, cond_false, Int.natCast_zero, Int.natCast_add, Int.natCast_one]; done) | rfl | (simp only [go_sem, seval, reduceCtorEq, dropF_ch, dropF_cons, dropF_nil, cut, cond_true, cond_false, Int.natCast_zero, Int.natCast_add, Int.natCast_one]; rfl) | skip)
  have e1 : ¬ (q : Int) < N.os.length := by omega
  have hosb : ∀ x ∈ N.os, 0 ≤ x ∧ x ≤ 99 := fun x hx => by
    obtain ⟨j, hj, rfl⟩ := List.getElem_of_mem hx
    have := hiq j hj (by omega)
    omega
  have hmap : N.os.map (atT (dimsR N.ts).1) = N.os.map (dimN N.ts) := List.map_congr_left fun x hx => hat x (hosb x hx)
  have hml : (N.os.map (dimN N.ts)).length = N.os.length := by simp
  have htt : List.take N.os.length (N.os.map (dimN N.ts)) = N.os.map (dimN N.ts) := List.take_of_length_le (by omega)
  have hdsz : Sz 1048576 (N.os.map (dimN N.ts)) := ⟨by omega, fun d hd => by
    obtain ⟨x, _, rfl⟩ := List.mem_map.1 hd
    have := dimN_bd hax x
    exact ⟨by omega, by omega⟩⟩
  have hfin : netOk N = (tsize N.os (N.os.map (dimN N.ts)) != -1) := by
    by_cases e : tsize N.os (N.os.map (dimN N.ts)) = -1
    · rw [netOk_no fun hh => hh.2.2.2.2 e, e]; rfl
    · rw [netOk_iff.2 ⟨h1, h2, hto, hcons, e⟩]; simp [e]
  simp (disch := omega) only [go_sem, seval, reduceCtorEq, e1, htR, hRl]
  (refine ti_call (axesOf_d (D := (dimsR N.ts).1) (L := N.os) hRl h.o.len hosb) ?_ ?_ ?_; (focus (simp only [go_sem, seval, reduceCtorEq]; done)); (first | rfl | (focus (simp only [go_sem]; done))))
  rw [hmap]
  simp (disch := omega) only [go_sem, seval, reduceCtorEq]
  (refine ti_call (iTensorSize_d (t := ⟨N.os, N.os.map (dimN N.ts), []⟩) ⟨h.o.up, hdsz.up, ⟨by simp, by simp⟩⟩) ?_ ?_ ?_; (focus (simp only [go_sem, seval, reduceCtorEq, hml, htt]; done)); (first | rfl | (focus (simp only [go_sem]; done))))
  simp (disch := omega) only [go_sem, seval, reduceCtorEq, hfin]
  (refine FnEnd.mk (Nat.le_of_ble_eq_true rfl) rfl (of_decide_eq_true rfl) ?_ ?_ <;> try simp only [go_sem, seval, reduceCtorEq])
theorem sNetworkOk_d {N : Net} (h : NSz 1048576 N) : Does Try.prog 69 [netA N] [] (.d (.bool (netOk N))) [] := by
  have hhl := h.l
  (refine spec_of (by kernel_rfl) Try.func69 k_spec_NetworkOk (fnOk (Nat.le_of_ble_eq_true rfl) ?_); unfold C_spec_NetworkOk)
  (simp only [Nat.reduceSub, List.length_cons, List.length_nil, Nat.reduceAdd, ch_init1, ch_init2, ch_init3, ch_init4, ch_init5, ch_init6, ch_init7, ch_init8]; try simp only [ch_rep]); (simp only [go_sem, seval, reduceCtorEq, List.replicate])
  (refine ti_call (sRingOk_d N.k N.p N.n) ?_ ?_ ?_; (focus (simp only [go_sem, seval, reduceCtorEq]; done)); (first | rfl | (focus (simp only [go_sem]; done))))
  cases h1 : ringOk ⟨N.k, N.p, N.n⟩
  · have e := netOk_no (N := N) fun e => by have := e.1; rw [Net.rg, h1] at this; cases this
    simp only [go_sem, seval, reduceCtorEq, h1, e]
    (refine FnEnd.mk (Nat.le_of_ble_eq_true rfl) rfl (of_decide_eq_true rfl) ?_ ?_ <;> try simp only [go_sem, seval, reduceCtorEq])
  by_cases h2 : N.ts.length ≤ 12
  rotate_left
  · have e := netOk_no (N := N) fun e => h2 e.2.1
    have c2 : (N.ts.length : Int) > 12 := by omega
    simp only [go_sem, seval, reduceCtorEq, h1, c2, e]
    (refine FnEnd.mk (Nat.le_of_ble_eq_true rfl) rfl (of_decide_eq_true rfl) ?_ ?_ <;> try simp only [go_sem, seval, reduceCtorEq])
  have c2 : ¬ (N.ts.length : Int) > 12 := by omega
  simp only [go_sem, seval, reduceCtorEq, h1, c2]
  have hI0 : tenOks N.rg (N.ts.take 0) ∧ ∀ j, j < 0 → consT N.ts j := ⟨fun t ht => by simp at ht, fun j hj => absurd hj (Nat.not_lt_zero j)⟩
  refine wpN_lpI (N.ts.length) [false, false, true, true, true, true, true, true, false, false, false, false, false, false, false, false, false, false, false, false, false, false, true, true, true, true, true, true, true, true, true, true, true, true, true, true, true, true, true, true, true, true, true, true, true, true, true, true, true, true, true, true, true, true, true, true, true, true, false, false, false, false, false, false, false, false, false, false] (fun k => tenOks N.rg (N.ts.take k) ∧ ∀ j, j < k → consT N.ts j) (fun k => [(21, .d (.int k))]) (fun k => []) (fun _ => by (simp only [go_sem, seval, reduceCtorEq, dropF_ch, dropF_cons, dropF_nil, cut, cond_true, cond_false]); first | done | rfl) (fun _ => by (simp only [go_sem, seval, reduceCtorEq, cut]); first | done | rfl) (hI0) (Nat.le_of_ble_eq_true rfl) (by first | (simp only [go_sem, seval, reduceCtorEq, dropF_ch, dropF_cons, dropF_nil, cut, cond_true, cond_false, Int.natCast_zero, Int.natCast_add, Int.natCast_one]; done) | rfl | (simp only [go_sem, seval, reduceCtorEq, dropF_ch, dropF_cons, dropF_nil, cut, cond_true, cond_false, Int.natCast_zero, Int.natCast_add, Int.natCast_one]; rfl)) (by first | (simp only [go_sem, seval, reduceCtorEq, dropF_ch, dropF_cons, dropF_nil, cut, cond_true, cond_false, Int.natCast_zero, Int.natCast_add, Int.natCast_one]; done) | rfl | (simp only [go_sem, seval, reduceCtorEq, dropF_ch, dropF_cons, dropF_nil, cut, cond_true, cond_false, Int.natCast_zero, Int.natCast_add, Int.natCast_one]; rfl)) fun k hk hi => ?_
  unfold L1_spec_NetworkOk
  obtain ⟨hi, hcs⟩ := hi
  by_cases hlt : k < N.ts.length
  · have d1 : (k : Int) < N.ts.length := by omega
    have d3 : (k : Int) ≤ N.ts.length := by omega
    have g : N.ts[k]? = some N.ts[k] := List.getElem?_eq_getElem hlt
    have g3 := tcs_cut g
    have hst := h.t N.ts[k] (List.getElem_mem hlt)
    have hpre := hi.ax
    have htk : (N.ts.take k).length = k := by simp; omega
    have htt : ∀ t ∈ N.ts.take k, TSz 1048576 t := fun t ht => h.t t (List.mem_of_mem_take ht)
    simp (disch := omega) only [go_sem, seval, reduceCtorEq, d1, g3]
    refine ⟨by omega, ?_⟩
    (refine ti_call (sTensorOk_d (t := N.ts[k]) h.k h.p h.n hst.up) ?_ ?_ ?_; (focus (simp only [go_sem, seval, reduceCtorEq]; done)); (first | rfl | (focus (simp only [go_sem]; done))))
    cases hto : tensorOk ⟨N.k, N.p, N.n⟩ N.ts[k].labels N.ts[k].dims N.ts[k].data
    · have e := netOk_no (N := N) fun e => by have := e.2.2.1 N.ts[k] (List.getElem_mem hlt); rw [Net.rg, hto] at this; cases this
      simp only [go_sem, seval, reduceCtorEq, hto, e]
      (refine FnEnd.mk (Nat.le_of_ble_eq_true rfl) rfl (of_decide_eq_true rfl) ?_ ?_ <;> try simp only [go_sem, seval, reduceCtorEq])
    have hat := (tensorOk_facts hto).2.1
    have hl := hat.len
    have hstl := hst.l.len
    simp (disch := omega) only [go_sem, seval, reduceCtorEq, hto]
    have hJ0 : ∀ x ∈ N.ts[k].labels.take 0, dimN (N.ts.take k) x = 0 ∨ dimN (N.ts.take k) x = dimAt N.ts[k] x := fun x hx => by simp at hx
    refine wpN_lpI (N.ts[k].labels.length) [false, false, true, false, false, true, true, true, false, false, false, false, false, false, false, false, false, false, false, false, false, false, false, false, false, false, false, false, false, false, false, false, false, false, false, true, true, true, true, true, true, true, true, true, true, true, true, true, true, true, true, true, true, true, true, true, true, false, false, false, false, false, false, false, false, false, false, false] (fun q => ∀ x ∈ N.ts[k].labels.take q, dimN (N.ts.take k) x = 0 ∨ dimN (N.ts.take k) x = dimAt N.ts[k] x) (fun q => [(34, .d (.int q))]) (fun q => []) (fun _ => by (simp only [go_sem, seval, reduceCtorEq, dropF_ch, dropF_cons, dropF_nil, cut, cond_true, cond_false]); first | done | rfl) (fun _ => by (simp only [go_sem, seval, reduceCtorEq, cut]); first | done | rfl) (hJ0) (Nat.le_of_ble_eq_true rfl) (by first | (simp only [go_sem, seval, reduceCtorEq, dropF_ch, dropF_cons, dropF_nil, cut, cond_true, cond_false, Int.natCast_zero, Int.natCast_add, Int.natCast_one]; done) | rfl | (simp only [go_sem, seval, reduceCtorEq, dropF_ch, dropF_cons, dropF_nil, cut, cond_true, cond_false, Int.natCast_zero, Int.natCast_add, Int.natCast_one]; rfl)) (by first | (simp only [go_sem, seval, reduceCtorEq, dropF_ch, dropF_cons, dropF_nil, cut, cond_true, cond_false, Int.natCast_zero, Int.natCast_add, Int.natCast_one]; done) | rfl | (simp only [go_sem, seval, reduceCtorEq, dropF_ch, dropF_cons, dropF_nil, cut, cond_true, cond_false, Int.natCast_zero, Int.natCast_add, Int.natCast_one]; rfl)) fun q hq hiq => ?_
    unfold L0_spec_NetworkOk
    by_cases hltq : q < N.ts[k].labels.length
    · have e1 : (q : Int) < N.ts[k].labels.length := by omega
      have e2 : (q : Int) < N.ts[k].dims.length := by omega
      have gq : N.ts[k].labels[q]? = some N.ts[k].labels[q] := List.getElem?_eq_getElem hltq
      have gd : N.ts[k].dims[q]? = some (dimAt N.ts[k] N.ts[k].labels[q]) := by rw [dimAt_at hat hltq (by omega)]; exact List.getElem?_eq_getElem (by omega)
      have bad : ¬ (dimN (N.ts.take k) N.ts[k].labels[q] = 0 ∨ dimN (N.ts.take k) N.ts[k].labels[q] = dimAt N.ts[k] N.ts[k].labels[q]) → netOk N = false := fun hb => netOk_no fun e => hb (e.2.2.2.1 k hlt _ hlt (List.getElem_mem hltq))
      have good : (dimN (N.ts.take k) N.ts[k].labels[q] = 0 ∨ dimN (N.ts.take k) N.ts[k].labels[q] = dimAt N.ts[k] N.ts[k].labels[q]) → ∀ x ∈ N.ts[k].labels.take (q + 1), dimN (N.ts.take k) x = 0 ∨ dimN (N.ts.take k) x = dimAt N.ts[k] x := fun hb x hx => by
        rw [take_ss hltq] at hx
        rcases List.mem_append.1 hx with hx | hx
        · exact hiq x hx
        · simp only [List.mem_singleton] at hx; subst hx; exact hb
      simp (disch := omega) only [go_sem, seval, reduceCtorEq, e1, gq, d3]
      simp only [true_or, Int.sub_zero, Int.toNat_natCast, go_sem, seval, reduceCtorEq]
      (refine ti_call (l12Dim_d (ts := N.ts.take k) (x := N.ts[k].labels[q]) (by omega) htt hpre) ?_ ?_ ?_; (focus (simp only [go_sem, seval, reduceCtorEq, htk, tcs_taken]; done)); (first | rfl | (focus (simp only [go_sem]; done))))
      have hbd := dimN_bd hpre N.ts[k].labels[q]
      by_cases ha : dimN (N.ts.take k) N.ts[k].labels[q] = 0
      · have b1 : ¬ dimN (N.ts.take k) N.ts[k].labels[q] > 0 := by omega
        have hI := good (.inl ha)
        simp (disch := omega) only [go_sem, seval, reduceCtorEq, b1]
        (refine NextI.drop [false, false, true, false, false, true, true, true, false, false, false, false, false, false, false, false, false, false, false, false, false, false, false, false, false, false, false, false, false, false, false, false, false, false, false, true, true, true, true, true, true, true, true, true, true, true, true, true, true, true, true, true, true, true, true, true, true, false, false, false, false, false, false, false, false, false, false, false] (by omega) (hI) (Nat.le_of_ble_eq_true rfl) ?_ ?_ <;> first | (simp only [go_sem, seval, reduceCtorEq, dropF_ch, dropF_cons, dropF_nil, cut, cond_true, cond_false, Int.natCast_zero, Int.natCast_add, Int.natCast_one]; done) | rfl | (simp only [go_sem, seval, reduceCtorEq, dropF_ch, dropF_cons, dropF_nil, cut, cond_true, cond_false, Int.natCast_zero, Int.natCast_add, Int.natCast_one]; rfl) | skip)
      · have b1 : dimN (N.ts.take k) N.ts[k].labels[q] > 0 := by omega
        by_cases hb2 : dimN (N.ts.take k) N.ts[k].labels[q] = dimAt N.ts[k] N.ts[k].labels[q]
        · have b2 : (dimN (N.ts.take k) N.ts[k].labels[q] != dimAt N.ts[k] N.ts[k].labels[q]) = false := by simp [hb2]
          have hI := good (.inr hb2)
          simp (disch := omega) only [go_sem, seval, reduceCtorEq, b1, b2, e2, gd]
          (refine NextI.drop [false, false, true, false, false, true, true, true, false, false, false, false, false, false, false, false, false, false, false, false, false, false, false, false, false, false, false, false, false, false, false, false, false, false, false, true, true, true, true, true, true, true, true, true, true, true, true, true, true, true, true, true, true, true, true, true, true, false, false, false, false, false, false, false, false, false, false, false] (by omega) (hI) (Nat.le_of_ble_eq_true rfl) ?_ ?_ <;> first | (simp only [go_sem, seval, reduceCtorEq, dropF_ch, dropF_cons, dropF_nil, cut, cond_true, cond_false, Int.natCast_zero, Int.natCast_add, Int.natCast_one]; done) | rfl | (simp only [go_sem, seval, reduceCtorEq, dropF_ch, dropF_cons, dropF_nil, cut, cond_true, cond_false, Int.natCast_zero, Int.natCast_add, Int.natCast_one]; rfl) | skip)
        · have b2 : (dimN (N.ts.take k) N.ts[k].labels[q] != dimAt N.ts[k] N.ts[k].labels[q]) = true := by simp [hb2]
          have e := bad fun hh => hh.elim ha hb2
          simp (disch := omega) only [go_sem, seval, reduceCtorEq, b1, b2, e2, gd, e]
          (refine FnEnd.mk (Nat.le_of_ble_eq_true rfl) rfl (of_decide_eq_true rfl) ?_ ?_ <;> try simp only [go_sem, seval, reduceCtorEq])
    · have e1 : ¬ (q : Int) < N.ts[k].labels.length := by omega
      obtain rfl : q = N.ts[k].labels.length := by omega
      rw [List.take_length] at hiq
      have hI : tenOks N.rg (N.ts.take (k + 1)) ∧ ∀ j, j < k + 1 → consT N.ts j := ⟨fun t ht => by
        rw [take_ss hlt] at ht
        rcases List.mem_append.1 ht with ht | ht
        · exact hi t ht
        · simp only [List.mem_singleton] at ht; subst ht; exact hto, fun j hj => by
        by_cases e : j = k
        · subst e; exact fun x _ hx => hiq x hx
        · exact hcs j (by omega)⟩
      simp (disch := omega) only [go_sem, seval, reduceCtorEq, e1]
      (refine NextI.drop [false, false, true, true, true, true, true, true, false, false, false, false, false, false, false, false, false, false, false, false, false, false, true, true, true, true, true, true, true, true, true, true, true, true, true, true, true, true, true, true, true, true, true, true, true, true, true, true, true, true, true, true, true, true, true, true, true, true, false, false, false, false, false, false, false, false, false, false] (by omega) (hI) (Nat.le_of_ble_eq_true rfl) ?_ ?_ <;> first | (simp only [go_sem, seval, reduceCtorEq, dropF_ch, dropF_cons, dropF_nil, cut, cond_true, cond_false, Int.natCast_zero, Int.natCast_add, Int.natCast_one]; done) | rfl | (simp only [go_sem, seval, reduceCtorEq, dropF_ch, dropF_cons, dropF_nil, cut, cond_true, cond_false, Int.natCast_zero, Int.natCast_add, Int.natCast_one]; rfl) | skip)
  have d1 : ¬ (k : Int) < N.ts.length := by omega
  have hto : tenOks N.rg N.ts := by rw [List.take_of_length_le (by omega)] at hi; exact hi
  have hax := hto.ax
  have hcons : consB N.ts := fun j hj => hcs j (by omega)
  have hml : (N.os.map (dimN N.ts)).length = N.os.length := by simp
  have htt : List.take N.os.length (N.os.map (dimN N.ts)) = N.os.map (dimN N.ts) := List.take_of_length_le (by omega)
  have hdsz : Sz 1048576 (N.os.map (dimN N.ts)) := ⟨by have := h.o.len; omega, fun d hd => by
    obtain ⟨x, _, rfl⟩ := List.mem_map.1 hd
    have := dimN_bd hax x
    exact ⟨by omega, by omega⟩⟩
  have hfin : netOk N = decide (tsize N.os (N.os.map (dimN N.ts)) ≥ 0) := by
    by_cases e : tsize N.os (N.os.map (dimN N.ts)) = -1
    · rw [netOk_no fun hh => hh.2.2.2.2 e, e]; rfl
    · rw [netOk_iff.2 ⟨h1, h2, hto, hcons, e⟩]
      rcases tsize_cases N.os (N.os.map (dimN N.ts)) with e' | ⟨_, _, e', _⟩
      · exact absurd e' e
      · exact (decide_eq_true (by omega)).symm
  simp (disch := omega) only [go_sem, seval, reduceCtorEq, d1]
  (refine gi_call (l12Dims_d (ts := N.ts) (L := N.os) h.l h.t hax h.o.len) ?_ ?_ ?_; (focus (simp only [go_sem, seval, reduceCtorEq]; done)); (first | rfl | (focus (simp only [go_sem]; done))))
  simp (disch := omega) only [go_sem, seval, reduceCtorEq]
  (refine ti_call (sTensorSize_d (t := ⟨N.os, N.os.map (dimN N.ts), []⟩) ⟨h.o.up, hdsz.up, ⟨by simp, by simp⟩⟩) ?_ ?_ ?_; (focus (simp only [go_sem, seval, reduceCtorEq, hml, htt]; done)); (first | rfl | (focus (simp only [go_sem]; done))))
  simp (disch := omega) only [go_sem, seval, reduceCtorEq, hfin]
  (refine FnEnd.mk (Nat.le_of_ble_eq_true rfl) rfl (of_decide_eq_true rfl) ?_ ?_ <;> try simp only [go_sem, seval, reduceCtorEq])
end Go.Proofs.Ytjncdanegoileaa

/-
  Contracts: labels, uses, neighbours, closed labels. No condition.
-/
namespace Go.Proofs.Ytjncdanegoileaa
open Go.RowKit Go.Lift Plain
set_option linter.unusedSimpArgs false
set_option linter.unusedVariables false
set_option maxRecDepth 100000

end Go.Proofs.Ytjncdanegoileaa

/-
  Contracts: neighbours, closed labels. No condition.
-/
namespace Go.Proofs.Ytjncdanegoileaa
open Go.RowKit Go.Lift Plain
set_option linter.unusedSimpArgs false
set_option linter.unusedVariables false
set_option maxRecDepth 100000

open Classical in
noncomputable def shareB (a b : List Int) : Bool := decide (∃ x ∈ a, x ∈ b)
/-! ### Closed labels -/
end Go.Proofs.Ytjncdanegoileaa

/-
  LIFT: slices at the end of a row. No condition.
-/
namespace Go.Lift
open Go.RowKit
/-- The roots in ids are named m, m + 1, ..; the others from m on are given up. -/
theorem Wk.drG {m0 : Nat} (ids : List Nat) (m : Nat) {e : List AV} {σ : Sto} (hm : m0 ≤ m) (hl : m ≤ σ.length) (hn : ids.Nodup) (hi : (ids.all fun k => decide (m ≤ k)) = true) : Wk m0 e σ (Lift.dropG (nrmR m ids) [] e) (renS m ids σ) := Wk.dropG [] ids m hm hl hn hi rfl rfl
theorem Wk.ad3s {m0 m : Nat} (dead : List Bool) (k z q : Nat) (g : Bool) {τ : Sto} {A : List AV} {e : List AV} {n0 n1 n2 : Nat} {r0 r1 r2 : Root} {l0 l1 l2 : List D} (hm : m0 ≤ m) (hτ : τ.length = m) (hA : A.length = q)
    (hk : τ[k]? = some (some ⟨z, g, A ++ [.own m 0 n0, .own (m + 1) 0 n1, .own (m + 2) 0 n2]⟩))
    (t0 : treL r0.cells = some l0) (t1 : treL r1.cells = some l1) (t2 : treL r2.cells = some l2) (e0 : l0.length = n0 * r0.e) (e1 : l1.length = n1 * r1.e) (e2 : l2.length = n2 * r2.e)
    (f1 : ∀ ρ, rnL ρ r1.cells = r1.cells) (f2 : ∀ ρ, rnL ρ r2.cells = r2.cells) :
    Wk m0 e (τ ++ [some r0, some r1, some r2]) (dropF m dead e) (keepS m (τ.set k (some ⟨z, g, A ++ [.tr (.sl n0 l0), .tr (.sl n1 l1), .tr (.sl n2 l2)]⟩))) := by
  have := Wk.ad3 (m0 := m0) (B := []) (e := e) dead k z q g hm hτ hA (by rw [List.append_nil]; exact hk) t0 t1 t2 e0 e1 e2 f1 f2
  rwa [List.append_nil] at this
theorem rnL_two (ρ : Nat → Option Nat) (a b : List AV) : rnL ρ (a ++ b) = rnL ρ a ++ rnL ρ b := by rw [rnL_eq, rnL_eq, rnL_eq, List.map_append]
theorem dropF_none (m : Nat) : ∀ e : List AV, dropF m [] e = rnL (cut m) e
  | [] => rfl
  | x :: l => by rw [dropF, rnL, dropF_none m l]
attribute [go_sem] rnL_two dropF_none

/-! ### The three slices of a row become roots of their own -/
/-- No cell refers to what a row's slices hold. -/
def noSub (σ : Sto) : Prop := ∀ i j k' n, σ.map (Option.map fun R => { R with cells := mapL (spG i j k' n) R.cells }) = σ
theorem noSub.at {σ : Sto} (h : noSub σ) {k : Nat} {R : Root} (hk : σ[k]? = some (some R)) (i j k' n : Nat) : mapL (spG i j k' n) R.cells = R.cells := by
  have h1 := congrArg (fun l => l[k]?) (h i j k' n)
  simp only [List.getElem?_map, hk, Option.map_some, Option.some.injEq] at h1
  exact congrArg Root.cells h1
theorem noSub.mk {σ : Sto} (h : ∀ (k : Nat) (R : Root), σ[k]? = some (some R) → ∀ i j k' n, mapL (spG i j k' n) R.cells = R.cells) : noSub σ := by
  intro i j k' n
  refine List.ext_getElem? fun k => ?_
  rw [List.getElem?_map]
  cases hk : σ[k]? with
  | none => rfl
  | some x =>
    cases x with
    | none => rfl
    | some R => simp [h k R hk i j k' n]
theorem mapL_two (f : AV → AV) (a b : List AV) : mapL f (a ++ b) = mapL f a ++ mapL f b := by rw [mapL_eq, mapL_eq, mapL_eq, List.map_append]
theorem mapL_cellT (i j k' n : Nat) (l : List D) : mapL (spG i j k' n) (l.map cellT) = l.map cellT := by
  rw [mapL_eq, List.map_map]
  refine List.map_congr_left fun x _ => ?_
  cases x <;> rfl
theorem spS_eq {k j n e : Nat} {l : List D} {σ : Sto} {R : Root} (h : noSub σ) (hk : σ[k]? = some (some R)) : spS k j n e l σ = σ.set k (some { R with cells := R.cells.set j (.own σ.length 0 n) }) ++ [some ⟨e, false, l.map cellT⟩] := by
  unfold spS
  rw [h]
  congr 1
  refine List.ext_getElem? fun i => ?_
  rw [List.getElem?_mapIdx, List.getElem?_set]
  have hkl : k < σ.length := (List.getElem?_eq_some_iff.1 hk).1
  by_cases e : k = i
  · subst e
    rw [if_pos rfl, if_pos hkl, hk]
    simp
  · rw [if_neg e]
    cases σ[i]? with
    | none => rfl
    | some x => simp [Ne.symm e]
theorem noSub.split {k j n e : Nat} {l : List D} {σ : Sto} {R : Root} (h : noSub σ) (hk : σ[k]? = some (some R)) : noSub (σ.set k (some { R with cells := R.cells.set j (.own σ.length 0 n) }) ++ [some ⟨e, false, l.map cellT⟩]) := by
  refine noSub.mk fun i Ri hi a b c d => ?_
  by_cases hlt : i < σ.length
  · rw [List.getElem?_append_left (by simpa using hlt), List.getElem?_set] at hi
    by_cases e : k = i
    · subst e
      rw [if_pos rfl, if_pos hlt] at hi
      simp only [Option.some.injEq] at hi
      subst hi
      have h0 := h.at hk a b c d
      simp only [mapL_eq] at h0 ⊢
      rw [List.map_set, h0]
      rfl
    · rw [if_neg e] at hi
      exact h.at hi a b c d
  · by_cases e : i = σ.length
    · subst e
      simp at hi
      subst hi
      exact mapL_cellT _ _ _ _ _
    · rw [List.getElem?_eq_none (by simp; omega)] at hi
      cases hi
theorem Wk.sp3g {m0 : Nat} (k z q : Nat) (g : Bool) (A B : List AV) {e : List AV} {σ : Sto} {n0 n1 n2 : Nat} {l0 l1 l2 : List D} (hm : m0 ≤ σ.length) (hk : σ[k]? = some (some ⟨z, g, A ++ [.tr (.sl n0 l0), .tr (.sl n1 l1), .tr (.sl n2 l2)] ++ B⟩)) (hA : A.length = q)
    (hσ : noSub σ) (he : ∀ i j k' n, mapL (spG i j k' n) e = e) :
    Wk m0 e σ e (σ.set k (some ⟨z, g, A ++ [.own σ.length 0 n0, .own (σ.length + 1) 0 n1, .own (σ.length + 2) 0 n2] ++ B⟩) ++ [some ⟨1, false, l0.map cellT⟩, some ⟨1, false, l1.map cellT⟩, some ⟨1, false, l2.map cellT⟩]) := by
  subst hA
  have hkl : k < σ.length := (List.getElem?_eq_some_iff.1 hk).1
  have st : ∀ (τ : Sto) (j n : Nat) (l : List D) (R : Root), m0 ≤ τ.length → noSub τ → τ[k]? = some (some R) → R.cells[j]? = some (.tr (.sl n l)) →
      Wk m0 e τ e (τ.set k (some { R with cells := R.cells.set j (.own τ.length 0 n) }) ++ [some ⟨1, false, l.map cellT⟩]) := fun τ j n l R h1 h2 h3 h4 =>
    Wk.split k j 1 n h1 (by simp [at_, h3]) h4 (he _ _ _ _) (spS_eq h2 h3)
  have h1 := st σ A.length n0 l0 _ hm hσ hk (by simp)
  have q1 := hσ.split (j := A.length) (n := n0) (e := 1) (l := l0) hk
  have c1 : (A ++ [AV.tr (.sl n0 l0), .tr (.sl n1 l1), .tr (.sl n2 l2)] ++ B).set A.length (.own σ.length 0 n0) = A ++ [AV.own σ.length 0 n0, .tr (.sl n1 l1), .tr (.sl n2 l2)] ++ B := by simp [List.set_append]
  simp only [c1] at h1 q1
  generalize hτ1 : σ.set k (some ⟨z, g, A ++ [.own σ.length 0 n0, .tr (.sl n1 l1), .tr (.sl n2 l2)] ++ B⟩) ++ [some ⟨1, false, l0.map cellT⟩] = τ1 at h1 q1
  have k1 : τ1[k]? = some (some ⟨z, g, A ++ [.own σ.length 0 n0, .tr (.sl n1 l1), .tr (.sl n2 l2)] ++ B⟩) := by rw [← hτ1, List.getElem?_append_left (by simpa using hkl)]; simp [hkl]
  have l1' : τ1.length = σ.length + 1 := by rw [← hτ1]; simp
  have h2 := st τ1 (A.length + 1) n1 l1 _ (by omega) q1 k1 (by simp)
  have q2 := q1.split (j := A.length + 1) (n := n1) (e := 1) (l := l1) k1
  have c2 : (A ++ [AV.own σ.length 0 n0, .tr (.sl n1 l1), .tr (.sl n2 l2)] ++ B).set (A.length + 1) (.own τ1.length 0 n1) = A ++ [.own σ.length 0 n0, .own (σ.length + 1) 0 n1, .tr (.sl n2 l2)] ++ B := by rw [l1']; simp [List.set_append]
  simp only [c2] at h2 q2
  generalize hτ2 : τ1.set k (some ⟨z, g, A ++ [.own σ.length 0 n0, .own (σ.length + 1) 0 n1, .tr (.sl n2 l2)] ++ B⟩) ++ [some ⟨1, false, l1.map cellT⟩] = τ2 at h2 q2
  have k2 : τ2[k]? = some (some ⟨z, g, A ++ [.own σ.length 0 n0, .own (σ.length + 1) 0 n1, .tr (.sl n2 l2)] ++ B⟩) := by rw [← hτ2, List.getElem?_append_left (by simp; omega)]; simp [show k < τ1.length by omega]
  have l2' : τ2.length = σ.length + 2 := by rw [← hτ2]; simp [l1']
  have h3 := st τ2 (A.length + 2) n2 l2 _ (by omega) q2 k2 (by simp)
  have c3 : (A ++ [AV.own σ.length 0 n0, .own (σ.length + 1) 0 n1, .tr (.sl n2 l2)] ++ B).set (A.length + 2) (.own τ2.length 0 n2) = A ++ [.own σ.length 0 n0, .own (σ.length + 1) 0 n1, .own (σ.length + 2) 0 n2] ++ B := by rw [l2']; simp [List.set_append]
  simp only [c3] at h3
  refine ((h1.trans h2).trans h3).eq rfl ?_
  rw [← hτ2, ← hτ1]
  simp [List.set_append, hkl]
end Go.Lift

/-
  LIFT: results that nobody writes any more; rounds' ends seen otherwise. No condition.
-/
namespace Go.Lift
open Go.RowKit
theorem Next.wk {m0 n k : Nat} {E : Nat → List AV} {S : Nat → Sto} {e e' : List AV} {σ σ' : Sto} (h : Wk m0 e σ e' σ') (h' : Next m0 n E S k e' σ') : Next m0 n E S k e σ := by
  obtain ⟨m', e2, σ2, h1, h2, h3⟩ := h'
  exact ⟨m', e2, σ2, h1, h.trans h2, h3⟩
theorem NextI.wk {m0 n k : Nat} {I : Nat → Prop} {E : Nat → List AV} {S : Nat → Sto} {e e' : List AV} {σ σ' : Sto} (h : Wk m0 e σ e' σ') (h' : NextI m0 n I E S k e' σ') : NextI m0 n I E S k e σ := by
  obtain ⟨m', e2, σ2, h1, h2, h3⟩ := h'
  exact ⟨m', e2, σ2, h1, h.trans h2, h3⟩
theorem Does.wk0 {P : Program} {f : FuncId} {args : List AV} {res res' : AV} {σ1 σ1' : Sto} (h : Does P f args [] res σ1) (hw : Wk 0 [res] σ1 [res'] σ1') : Does P f args [] res' σ1' := by
  intro γ φ w vals hS hr
  refine (h γ φ w vals hS hr).mono fun en w' hq => ?_
  obtain ⟨v, γ', φ', rfl, hK, h1, h2, h3⟩ := hq
  obtain ⟨γ2, φ2, hK2, hS2, hE2, _⟩ := hw γ' φ' w' [v] h2 (by simp only [RelL]; exact ⟨_, _, rfl, h3, rfl⟩)
  refine ⟨v, γ2, φ2, rfl, hK.trans hK2, fun k R e => by simp [at_] at e, hS2, ?_⟩
  simp only [RelL] at hE2
  obtain ⟨v', vs', e, hr', rfl⟩ := hE2
  simp only [List.cons.injEq, and_true] at e
  subst e
  exact hr'
theorem at_none1 : at_ [none] = at_ [] := by
  funext k
  cases k <;> simp [at_]
theorem Does.noneS {P : Program} {f : FuncId} {args : List AV} {res : AV} (h : Does P f args [] res [none]) : Does P f args [] res [] := by
  unfold Does at *
  rw [at_none1] at h
  exact h
/-- A result that nobody writes any more. -/
theorem Does.fz {P : Program} {f : FuncId} {args : List AV} {n e : Nat} {g : Bool} {c : List AV} {ls : List D} (h : Does P f args [] (.own 0 0 n) [some ⟨e, g, c⟩]) (hc : cellsD c = some ls) (hn : ls.length = n * e) : Does P f args [] (.d (.sl n ls)) [] := by
  refine Does.noneS (Does.wk0 h (Wk.freeze 0 (R := ⟨e, g, c⟩) (ls := ls) (Nat.le_refl _) rfl hc ?_ rfl))
  simp only [mapL, mapA, fzG, if_true, List.drop_zero]
  rw [List.take_of_length_le (by rw [hn]; exact Nat.le_refl _)]
theorem Does.fzI {P : Program} {f : FuncId} {args : List AV} {g : Bool} {xs : List Int} (h : Does P f args [] (.own 0 0 xs.length) [some ⟨1, g, iv xs⟩]) : Does P f args [] (.d (ints xs)) [] := Does.fz h cellsD_iv (by rw [dv_len, Nat.mul_one])
/-- A nil slice is data of no cells. -/
theorem Wk.nilD {m0 : Nat} (t : Nat) (e : List AV) (σ : Sto) (h : e[t]? = some .nil) : Wk m0 e σ (e.set t (.d (.sl 0 []))) σ := by
  intro γ φ w vs hS hE
  refine ⟨γ, φ, Kst.refl _ _, hS, RelL.of_get (by have := hE.len; simpa using this) fun i x hx => ?_, fun k R _ hk hg => ⟨Stay.refl, R, hk, hg⟩⟩
  rw [List.getElem?_set] at hx
  split at hx
  · rename_i hti
    subst hti
    split at hx
    · simp only [Option.some.injEq] at hx
      subst hx
      obtain ⟨v, hv, hr⟩ := hE.get h
      refine ⟨v, hv, ?_⟩
      rw [rel_nil hr]
      simp only [Rel]
      unfold Rd
      exact ⟨none, 0, rfl, Nat.le_refl _, .inl ⟨rfl, rfl⟩⟩
    · cases hx
  · exact hE.get hx
end Go.Lift

/-
  Contracts: lists of labels, buckets, eliminations. No condition.
-/
namespace Go.Proofs.Ytjncdanegoileaa
open Go.RowKit Go.Lift Plain
set_option linter.unusedSimpArgs false
set_option linter.unusedVariables false
set_option maxRecDepth 100000

def ldv (L : List (List Int)) : List D := L.map ints
def lists (L : List (List Int)) : D := .sl L.length (ldv L)
def lsA (L : List (List Int)) : List AV := L.map fun l => .d (ints l)
section
variable {L M : List (List Int)} {l : List Int} {k : Nat}
theorem ldv_len : (ldv L).length = L.length := by simp [ldv]
theorem ldv_get (i : Nat) : (ldv L)[i]? = L[i]?.map ints := by simp [ldv]
theorem lsA_len : (lsA L).length = L.length := by simp [lsA]
theorem lsA_snoc : lsA L ++ [.d (.sl l.length (dv l))] = lsA (L ++ [l]) := by simp [lsA, ints]
theorem cellsD_lsA : cellsD (lsA L) = some (ldv L) := by
  induction L with
  | nil => rfl
  | cons x l ih => simp only [lsA, ldv, List.map_cons, cellsD, cellD] at ih ⊢; rw [ih]
theorem rnL_lsA (ρ : Nat → Option Nat) : rnL ρ (lsA L) = lsA L := by
  induction L with
  | nil => rfl
  | cons x l ih => simp only [lsA, List.map_cons, rnL, rn] at ih ⊢; rw [ih]
theorem mapL_fz_lsA (k e : Nat) (ls : List D) : mapL (fzG k e ls) (lsA L) = lsA L := by
  rw [mapL_eq, lsA, List.map_map]
  exact List.map_congr_left fun x _ => rfl
theorem mapL_fz_iv (k e : Nat) (ls : List D) (xs : List Int) : mapL (fzG k e ls) (iv xs) = iv xs := by
  rw [mapL_eq, iv, List.map_map]
  exact List.map_congr_left fun x _ => rfl
end
attribute [go_sem] lists ldv_len ldv_get lsA_len rnL_lsA cellsD_lsA mapL_fz_lsA mapL_fz_iv lsA_snoc
theorem copyInts_f {xs : List Int} (h : xs.length ≤ 1099511627776) : Does Try.prog 85 [.d (ints xs)] [] (.d (ints xs)) [] := (copyInts_d h).fzI
end Go.Proofs.Ytjncdanegoileaa

/-
  Contracts: products of elements, scaled tensors. No condition.
-/
namespace Go.Proofs.Ytjncdanegoileaa
open Go.RowKit Go.Lift Plain
set_option linter.unusedSimpArgs false
set_option linter.unusedVariables false
set_option maxRecDepth 100000

end Go.Proofs.Ytjncdanegoileaa

/-
  Contracts: scaled tensors. No condition.
-/
namespace Go.Proofs.Ytjncdanegoileaa
open Go.RowKit Go.Lift Plain
set_option linter.unusedSimpArgs false
set_option linter.unusedVariables false
set_option maxRecDepth 100000

theorem fits_cut {r : Rg} {xs : List Int} (h : fits r xs) (a b : Nat) : fits r ((xs.drop a).take b) := by
  intro k hk
  have hk' : k < b ∧ k < xs.length - a := by simpa [Nat.lt_min] using hk
  have := h (a + k) (by omega)
  rw [getD_of hk]
  simp only [List.getElem_take, List.getElem_drop]
  rwa [getD_of (by omega)] at this
theorem mul_step {i n wd : Nat} (h : i < n) : i * wd + wd ≤ n * wd := by
  have : (i + 1) * wd ≤ n * wd := Nat.mul_le_mul_right wd h
  rw [Nat.add_mul, Nat.one_mul] at this
  exact this
end Go.Proofs.Ytjncdanegoileaa

/-
  Contracts: strides, sums of products, the next index, the index at an offset. No condition.
-/
namespace Go.Proofs.Ytjncdanegoileaa
open Go.RowKit Go.Lift Plain
set_option linter.unusedSimpArgs false
set_option linter.unusedVariables false
set_option maxRecDepth 100000

theorem zeros_one (z : List AV) : Go.Lift.zeros 1 z = z := by simp [Go.Lift.zeros]
theorem zeros_zero (z : List AV) : Go.Lift.zeros 0 z = [] := by simp [Go.Lift.zeros]
theorem zeros_two (z : List AV) : Go.Lift.zeros 2 z = z ++ z := by simp [Go.Lift.zeros, List.replicate]
attribute [go_sem high] zeros_zero zeros_one zeros_two
end Go.Proofs.Ytjncdanegoileaa

/-
  Contracts: permuted tensors. No condition.
-/
namespace Go.Proofs.Ytjncdanegoileaa
open Go.RowKit Go.Lift Plain
set_option linter.unusedSimpArgs false
set_option linter.unusedVariables false
set_option maxRecDepth 100000

/-! ### A tensor with its axes in another order -/
def permD (t : Ten) (L : List Int) : List Int := L.map (dimAt t)
def permOff (t : Ten) (L : List Int) (i : Nat) : Nat := (dotI (L.map (strideL t.labels t.dims)) (digits (permD t L) i)).toNat
def permN (t : Ten) (L : List Int) : Nat := (prodI (permD t L)).toNat
def permR (wd : Nat) (t : Ten) (L : List Int) : Ten := ⟨L, permD t L, gath t.data wd (permOff t L) (permN t L)⟩
/-- What is known of an order of the axes. -/
structure PermOk (t : Ten) (L : List Int) (wd n : Nat) : Prop where
  ax : axOk t.labels t.dims
  pn : prodI t.dims = n
  n1 : 1 ≤ n ∧ n ≤ 4096
  w1 : 1 ≤ wd ∧ wd ≤ 6
  dl : t.data.length = n * wd
  same : sameB t.labels L = true
namespace PermOk
variable {t : Ten} {L : List Int} {wd n : Nat}
theorem len (h : PermOk t L wd n) : L.length = t.labels.length := (of_decide_eq_true h.same).1
theorem sub (h : PermOk t L wd n) : ∀ x ∈ L, x ∈ t.labels := fun x hx => by
  obtain ⟨k, hk, rfl⟩ := List.mem_iff_getElem.1 hx
  exact ((of_decide_eq_true h.same).2 k hk).1
theorem nodup (h : PermOk t L wd n) : L.Nodup := nodup_of_fresh fun k hk => ((of_decide_eq_true h.same).2 k hk).2
theorem sup (h : PermOk t L wd n) : ∀ x ∈ t.labels, x ∈ L := sub_back h.nodup h.sub (Nat.le_of_eq h.len.symm)
theorem dbd (h : PermOk t L wd n) : ∀ d ∈ permD t L, 1 ≤ d ∧ d ≤ 8 := fun d hd => by
  simp only [permD, List.mem_map] at hd
  obtain ⟨x, hx, rfl⟩ := hd
  exact dimAt_bd h.ax (h.sub x hx)
theorem pbd (h : PermOk t L wd n) : 1 ≤ prodI (permD t L) ∧ prodI (permD t L) ≤ n := by
  refine ⟨prodI_pos _ (fun d hd => (h.dbd d hd).1), ?_⟩
  have := prodI_sub_le (f := dimAt t) h.nodup h.sub (fun x hx => (dimAt_bd h.ax hx).1)
  rw [dims_map h.ax, h.pn] at this
  exact this
theorem pN (h : PermOk t L wd n) : prodI (permD t L) = permN t L := by have := h.pbd; unfold permN; omega
theorem idx (h : PermOk t L wd n) (i : Nat) : idxOk t.dims (t.labels.map (atL L (digits (permD t L) i))) := by
  refine ⟨by simp [h.ax.len], fun k hk => ?_⟩
  have hk' : k < t.labels.length := by have := h.ax.len; omega
  have hm := h.sup t.labels[k] (List.getElem_mem hk')
  obtain ⟨q, h1, h2, h3, h4⟩ := atL_mem (xs := digits (permD t L) i) hm (by simp [digits_len, permD])
  have h5 := digits_bd (permD t L) i (fun d hd => (h.dbd d hd).1) q (by simpa [permD] using h1)
  have h6 : (permD t L).getD q 0 = t.dims.getD k 0 := by
    rw [getD_of (by simpa [permD] using h1), getD_of hk]
    have h7 : L[q] = t.labels[k] := by rw [List.getElem?_eq_getElem h1] at h3; simpa using h3
    simp only [permD, List.getElem_map, h7]
    exact dimAt_at h.ax hk' hk
  unfold idxAt
  have h8 : (t.labels.map (atL L (digits (permD t L) i))).getD k 0 = atL L (digits (permD t L) i) t.labels[k] := by rw [getD_of (by simpa using hk')]; simp
  rw [h8, h4, ← h6]
  exact h5
theorem off (h : PermOk t L wd n) (i : Nat) : dotI (L.map (strideL t.labels t.dims)) (digits (permD t L) i) = permOff t L i ∧ permOff t L i < n ∧ offs t.dims (t.labels.map (atL L (digits (permD t L) i))) = permOff t L i := by
  have h1 := off_labels h.ax.len (axOk_nodup h.ax) h.nodup h.sup (xs := digits (permD t L) i) (by simp [digits_len, permD])
  have h2 := offs_bd _ _ _ h.ax (h.idx i)
  have h3 := h.pn
  unfold permOff
  rw [h1]
  omega
theorem cut (h : PermOk t L wd n) (i : Nat) : permOff t L i * wd + wd ≤ t.data.length := by
  rw [h.dl]; exact mul_step (h.off i).2.1
end PermOk
end Go.Proofs.Ytjncdanegoileaa

/-
  Contracts: permuted tensors, by the reference. No condition.
-/
namespace Go.Proofs.Ytjncdanegoileaa
open Go.RowKit Go.Lift Plain
set_option linter.unusedSimpArgs false
set_option linter.unusedVariables false
set_option maxRecDepth 100000

end Go.Proofs.Ytjncdanegoileaa

/-
  Contracts: PermuteTensor. No condition.
-/
namespace Go.Proofs.Ytjncdanegoileaa
open Go.RowKit Go.Lift Plain
set_option linter.unusedSimpArgs false
set_option linter.unusedVariables false
set_option maxRecDepth 100000

end Go.Proofs.Ytjncdanegoileaa

/-
  The state of an order as cells: the table of dimensions, the open labels, the tensors that are there, the next number. No condition.
-/
namespace Go.Proofs.Ytjncdanegoileaa
open Go.RowKit Go.Lift Plain
set_option linter.unusedSimpArgs false
set_option linter.unusedVariables false

def osB (T : List Int) (x y z : AV) : List AV := iv T ++ [x, y, z]
def osD (T : List Int) (x y z : D) : List D := dv T ++ [x, y, z]
section
variable {T : List Int} {x y z : AV} {a b c : D}
theorem osB_len (h : T.length = 100) : (osB T x y z).length = 103 := by simp [osB, iv_len, h]
theorem osB_100 (h : T.length = 100) : (osB T x y z)[100]? = some x := by simp [osB, iv_len, h, List.getElem?_append_right]
theorem osB_101 (h : T.length = 100) : (osB T x y z)[101]? = some y := by simp [osB, iv_len, h, List.getElem?_append_right]
theorem osB_102 (h : T.length = 100) : (osB T x y z)[102]? = some z := by simp [osB, iv_len, h, List.getElem?_append_right]
theorem osB_t100 (h : T.length = 100) : (osB T x y z).take 100 = iv T := by
  have : (iv T).length = 100 := by simp [iv_len, dv_len, h]
  rw [osB, List.take_left' this]
theorem osB_p100 (h : T.length = 100) (u : AV) : (osB T x y z).take 100 ++ [u] ++ (osB T x y z).drop 101 = osB T u y z := by
  have h1 : (iv T).length = 100 := by simp [iv_len, dv_len, h]
  have h2 : (iv T ++ [x]).length = 101 := by simp [iv_len, dv_len, h]
  rw [osB_t100 h, osB, show iv T ++ [x, y, z] = (iv T ++ [x]) ++ [y, z] by simp, List.drop_left' h2]
  simp [osB]
theorem osB_p101 (h : T.length = 100) (u : AV) : (osB T x y z).take 101 ++ [u] ++ (osB T x y z).drop 102 = osB T x u z := by
  have h1 : (iv T ++ [x]).length = 101 := by simp [iv_len, dv_len, h]
  have h2 : (iv T ++ [x, y]).length = 102 := by simp [iv_len, dv_len, h]
  rw [osB, show iv T ++ [x, y, z] = (iv T ++ [x]) ++ [y, z] by simp, List.take_left' h1, show iv T ++ [x] ++ [y, z] = (iv T ++ [x, y]) ++ [z] by simp, List.drop_left' h2]
  simp [osB]
theorem osB_p102 (h : T.length = 100) (u : AV) : (osB T x y z).take 102 ++ [u] ++ (osB T x y z).drop 103 = osB T x y u := by
  have h1 : (iv T ++ [x, y]).length = 102 := by simp [iv_len, dv_len, h]
  have h2 : (iv T ++ [x, y, z]).length = 103 := by simp [iv_len, dv_len, h]
  rw [osB, List.drop_eq_nil_of_le (Nat.le_of_eq h2), show iv T ++ [x, y, z] = (iv T ++ [x, y]) ++ [z] by simp, List.take_left' h1]
  simp [osB]
theorem osB_d101 (h : T.length = 100) : ((osB T x y z).drop 101).take 1 = [y] := by
  have h1 : (iv T ++ [x]).length = 101 := by simp [iv_len, dv_len, h]
  rw [osB, show iv T ++ [x, y, z] = (iv T ++ [x]) ++ [y, z] by simp, List.drop_left' h1]; rfl
theorem osB_d102 (h : T.length = 100) : ((osB T x y z).drop 102).take 1 = [z] := by
  have h1 : (iv T ++ [x, y]).length = 102 := by simp [iv_len, dv_len, h]
  rw [osB, show iv T ++ [x, y, z] = (iv T ++ [x, y]) ++ [z] by simp, List.drop_left' h1]; rfl
theorem rnL_osB (ρ : Nat → Option Nat) : rnL ρ (osB T x y z) = osB T (rn ρ x) (rn ρ y) (rn ρ z) := by
  rw [rnL_eq, osB, List.map_append, ← rnL_eq, rnL_iv]; rfl
theorem cgL_osB (gv M : List Nat) : cgL gv M (osB T x y z) = osB T (cgA gv M x) (cgA gv M y) (cgA gv M z) := by
  rw [cgL_eq, osB, List.map_append, ← cgL_eq, cgL_iv]; rfl
theorem mapL_osB (k e : Nat) (ls : List D) : mapL (fzG k e ls) (osB T x y z) = osB T (mapA (fzG k e ls) x) (mapA (fzG k e ls) y) (mapA (fzG k e ls) z) := by
  rw [mapL_eq, osB, List.map_append, ← mapL_eq, mapL_fz_iv]; rfl
theorem cellsE_append (s : St) : ∀ (l m : List AV), cellsE s (l ++ m) = match cellsE s l, cellsE s m with
    | some a, some b => some (a ++ b)
    | _, _ => none
  | [], m => by
    rw [List.nil_append, cellsE]
    cases cellsE s m <;> rfl
  | x :: l, m => by
    rw [List.cons_append]
    simp only [cellsE]
    rw [cellsE_append s l m]
    cases cellE s x <;> cases cellsE s l <;> cases cellsE s m <;> rfl
theorem cellsE_iv (s : St) : ∀ xs : List Int, cellsE s (iv xs) = some (dv xs)
  | [] => rfl
  | x :: l => by
    have := cellsE_iv s l
    simp only [iv, dv, List.map_cons, cellsE, cellE, exp1] at this ⊢
    rw [this]
theorem cellsE_osB (s : St) : cellsE s (osB T (.d a) (.d b) (.d c)) = some (osD T a b c) := by
  rw [osB, cellsE_append, cellsE_iv]; rfl
theorem osD_ne : (osD T a b c).isEmpty = false := by
  rw [osD]; cases dv T <;> rfl
theorem osD_len (h : T.length = 100) : (osD T a b c).length = 103 := by simp [osD, dv_len, h]
theorem osD_100 (h : T.length = 100) : (osD T a b c)[100]? = some a := by simp [osD, dv_len, h, List.getElem?_append_right]
theorem osD_101 (h : T.length = 100) : (osD T a b c)[101]? = some b := by simp [osD, dv_len, h, List.getElem?_append_right]
theorem osD_102 (h : T.length = 100) : (osD T a b c)[102]? = some c := by simp [osD, dv_len, h, List.getElem?_append_right]
theorem osD_t100 (h : T.length = 100) : (osD T a b c).take 100 = dv T := by
  have : (dv T).length = 100 := by simp [iv_len, dv_len, h]
  rw [osD, List.take_left' this]
end
attribute [go_sem] osB_len osB_100 osB_101 osB_102 osB_t100 osB_p100 osB_p101 osB_p102 osB_d101 osB_d102 rnL_osB cgL_osB mapL_osB cellsE_osB osD_ne osD_len osD_100 osD_101 osD_102 osD_t100

/-! ### Rows of a number and a list of labels -/
def lvD (f : Nat → List Int) (l : List Nat) : List D := l.flatMap fun (i : Nat) => [.int (i : Int), ints (f i)]
def lvA (f : Nat → List Int) (l : List Nat) : List AV := l.flatMap fun (i : Nat) => [.d (.int (i : Int)), .d (ints (f i))]
section
variable {f g : Nat → List Int} {l m : List Nat} {k : Nat}
theorem lvD_len : (lvD f l).length = l.length * 2 := by
  induction l with
  | nil => rfl
  | cons x l ih => rw [lvD, List.flatMap_cons, List.length_append, ← lvD, ih]; simp; omega
theorem lvA_len : (lvA f l).length = l.length * 2 := by
  induction l with
  | nil => rfl
  | cons x l ih => rw [lvA, List.flatMap_cons, List.length_append, ← lvA, ih]; simp; omega
theorem lvA_nil : lvA f [] = [] := nr rfl
theorem lvD_drop : ∀ {l : List Nat} {k : Nat} (h : k < l.length), (lvD f l).drop (k * 2) = .int l[k] :: ints (f l[k]) :: lvD f (l.drop (k + 1))
  | x :: l, 0, _ => by simp [lvD]
  | x :: l, k + 1, h => by
    have := lvD_drop (l := l) (k := k) (by simpa using h)
    rw [lvD, List.flatMap_cons, ← lvD, show (k + 1) * 2 = 2 + k * 2 by omega, ← List.drop_drop]
    simpa using this
theorem lvD_cut (h : k < l.length) : ((lvD f l).drop (k * 2)).take 2 = [.int l[k], ints (f l[k])] := by rw [lvD_drop h]; rfl
theorem lvD_get0 (h : k < l.length) : (lvD f l)[k * 2]? = some (.int l[k]) := by
  have := congrArg (fun x => x[0]?) (lvD_drop (f := f) h)
  simpa using this
theorem lvD_get1 (h : k < l.length) : (lvD f l)[k * 2 + 1]? = some (ints (f l[k])) := by
  have := congrArg (fun x => x[1]?) (lvD_drop (f := f) h)
  simpa using this
theorem lvA_app : lvA f (l ++ m) = lvA f l ++ lvA f m := by simp [lvA]
theorem lvA_snoc (i : Nat) : lvA f l ++ [.d (.int i), .d (.sl (f i).length (dv (f i)))] = lvA f (l ++ [i]) := by simp [lvA, ints]
theorem lvA_congr (h : ∀ i ∈ l, f i = g i) : lvA f l = lvA g l := by
  unfold lvA
  exact flatMap_congr' fun x hx => by rw [h x hx]
theorem lvA_map : lvA f l = (lvD f l).map .d := by
  induction l with
  | nil => rfl
  | cons x l ih => simp only [lvA, lvD, List.flatMap_cons, List.map_append] at ih ⊢; rw [ih]; rfl
theorem cellsD_d : ∀ L : List D, cellsD (L.map .d) = some L
  | [] => rfl
  | x :: l => by simp only [List.map_cons, cellsD, cellD, cellsD_d l]
theorem cellsD_lvA : cellsD (lvA f l) = some (lvD f l) := by rw [lvA_map, cellsD_d]
theorem rnL_lvA (ρ : Nat → Option Nat) : rnL ρ (lvA f l) = lvA f l := by
  rw [rnL_eq, lvA_map, List.map_map]; exact List.map_congr_left fun x _ => rfl
theorem cgL_lvA (gv M : List Nat) : cgL gv M (lvA f l) = lvA f l := by
  rw [cgL_eq, lvA_map, List.map_map]; exact List.map_congr_left fun x _ => rfl
theorem mapL_lvA (k e : Nat) (ls : List D) : mapL (fzG k e ls) (lvA f l) = lvA f l := by
  rw [mapL_eq, lvA_map, List.map_map]; exact List.map_congr_left fun x _ => rfl
end
theorem mapL_app (g : AV → AV) (l m : List AV) : mapL g (l ++ m) = mapL g l ++ mapL g m := by rw [mapL_eq, mapL_eq, mapL_eq, List.map_append]
attribute [go_sem] mapL_app lvD_len lvA_len rnL_lvA cgL_lvA mapL_lvA cellsD_lvA lvA_snoc
/-- The tensors that are there. -/
def lvS (s : Osd) : D := .sl s.nums.length (lvD s.lab s.nums)
theorem natb_ne (q i : Nat) : ((q : Int) != (i : Int)) = (q != i) := by rw [Bool.eq_iff_iff, bne_iff_ne, bne_iff_ne]; omega
theorem putG {α : Type} {xs : List α} {i : Nat} {v : α} (h : i < xs.length) : xs.take i ++ [v] ++ xs.drop (i + 1) = xs.set i v := by
  rw [List.append_assoc, List.singleton_append, List.set_eq_take_append_cons_drop, if_pos h]
end Go.Proofs.Ytjncdanegoileaa

/-
  Contracts: the state of an order, by the program. No condition.
-/
namespace Go.Proofs.Ytjncdanegoileaa
open Go.RowKit Go.Lift Plain
set_option linter.unusedSimpArgs false
set_option linter.unusedVariables false
set_option maxRecDepth 100000

/-- The state of an order, as a callee that reads sees it. -/
def osP (D os : List Int) (s : Osd) : AV := .rptr (osD D (ints os) (lvS s) (.int s.all.length)) 0
/-- The same as a block that may be written. -/
def osR (D os : List Int) (s : Osd) : Option Root := some ⟨0, false, osB D (.d (ints os)) (.d (lvS s)) (.d (.int s.all.length))⟩
theorem orderState_place_d {D os : List Int} {s : Osd} {m : Nat} {x : Int} (hD : D.length = 100) (h : OsOk s m) (hm : m ≤ 1000) :
    Does Try.prog 102 [osP D os s, .d (.int x)] [] (.d (.int (place (natI s.nums) x))) [] := by
  have hnl := nums_len h
  (refine spec_of (by kernel_rfl) Try.func102 k_impl_orderState_place (fnOk (Nat.le_of_ble_eq_true rfl) ?_); unfold C_impl_orderState_place)
  simp only [osP, lvS]
  (simp only [Nat.reduceSub, List.length_cons, List.length_nil, Nat.reduceAdd, ch_init1, ch_init2, ch_init3, ch_init4, ch_init5, ch_init6, ch_init7, ch_init8]; try simp only [ch_rep]); (simp only [go_sem, seval, reduceCtorEq, List.replicate])
  simp (disch := omega) only [go_sem, seval, reduceCtorEq]
  refine wpN_lpI (s.nums.length) [false, false, false, false, true, true, true, false, false, false, false, false, false, true, true, true, true, true, true, true, true, true, true] (fun k => x ∉ natI (s.nums.take k)) (fun k => [(12, .d (.int k))]) (fun k => []) (fun _ => by (simp only [go_sem, seval, reduceCtorEq, dropF_ch, dropF_cons, dropF_nil, cut, cond_true, cond_false]); first | done | rfl) (fun _ => by (simp only [go_sem, seval, reduceCtorEq, cut]); first | done | rfl) (by simp [natI]) (Nat.le_of_ble_eq_true rfl) (by first | (simp only [go_sem, seval, reduceCtorEq, dropF_ch, dropF_cons, dropF_nil, cut, cond_true, cond_false, Int.natCast_zero, Int.natCast_add, Int.natCast_one]; done) | rfl | (simp only [go_sem, seval, reduceCtorEq, dropF_ch, dropF_cons, dropF_nil, cut, cond_true, cond_false, Int.natCast_zero, Int.natCast_add, Int.natCast_one]; rfl)) (by first | (simp only [go_sem, seval, reduceCtorEq, dropF_ch, dropF_cons, dropF_nil, cut, cond_true, cond_false, Int.natCast_zero, Int.natCast_add, Int.natCast_one]; done) | rfl | (simp only [go_sem, seval, reduceCtorEq, dropF_ch, dropF_cons, dropF_nil, cut, cond_true, cond_false, Int.natCast_zero, Int.natCast_add, Int.natCast_one]; rfl)) fun k hk hi => ?_
  unfold L0_impl_orderState_place
  by_cases hlt : k < s.nums.length
  · have d1 : (k : Int) < s.nums.length := by omega
    have g := lvD_cut (f := s.lab) hlt
    simp (disch := omega) only [go_sem, seval, reduceCtorEq, d1, g]
    refine ⟨by omega, ?_⟩
    by_cases hx : (s.nums[k] : Int) = x
    · have c : ((s.nums[k] : Int) == x) = true := by simp [hx]
      have hp : place (natI s.nums) x = k := by
        have hk' : k < (natI s.nums).length := by rw [natI_len]; exact hlt
        have := place_at hk' (by rw [natI_get hlt]; rw [show List.take k (natI s.nums) = natI (s.nums.take k) by simp [natI]]; rw [hx]; exact hi)
        rwa [natI_get hlt, hx] at this
      simp (disch := omega) only [go_sem, seval, reduceCtorEq, c, hp]
      (refine FnEnd.mk (Nat.le_of_ble_eq_true rfl) rfl (of_decide_eq_true rfl) ?_ ?_ <;> try simp only [go_sem, seval, reduceCtorEq])
    · have c : ((s.nums[k] : Int) == x) = false := by simp [hx]
      simp (disch := omega) only [go_sem, seval, reduceCtorEq, c]
      have hi' : x ∉ natI (s.nums.take (k + 1)) := by
        rw [take_ss hlt]
        simp only [natI, List.map_append, List.map_cons, List.map_nil, List.mem_append, List.mem_singleton]
        exact fun e => e.elim hi (fun e => hx e.symm)
      (refine NextI.drop [false, false, false, false, true, true, true, false, false, false, false, false, false, true, true, true, true, true, true, true, true, true, true] (by omega) (hi') (Nat.le_of_ble_eq_true rfl) ?_ ?_ <;> first | (simp only [go_sem, seval, reduceCtorEq, dropF_ch, dropF_cons, dropF_nil, cut, cond_true, cond_false, Int.natCast_zero, Int.natCast_add, Int.natCast_one]; done) | rfl | (simp only [go_sem, seval, reduceCtorEq, dropF_ch, dropF_cons, dropF_nil, cut, cond_true, cond_false, Int.natCast_zero, Int.natCast_add, Int.natCast_one]; rfl) | skip)
  · have d1 : ¬ (k : Int) < s.nums.length := by omega
    have hp : place (natI s.nums) x = -1 := place_no (by rw [List.take_of_length_le (by omega)] at hi; exact hi)
    simp (disch := omega) only [go_sem, seval, reduceCtorEq, d1, hp]
    (refine FnEnd.mk (Nat.le_of_ble_eq_true rfl) rfl (of_decide_eq_true rfl) ?_ ?_ <;> try simp only [go_sem, seval, reduceCtorEq])
theorem orderState_resultLabels_o {D os : List Int} {s : Osd} {m i j : Nat} (hD : D.length = 100) (h : OsOk s m) (hm : m ≤ 1000) (ho : os.length ≤ 1048576) (hi : i < s.nums.length) (hj : j < s.nums.length) :
    Does Try.prog 126 [osP D os s, .d (.int i), .d (.int j)] [] (.own 0 0 (s.res os s.nums[i] s.nums[j]).length) [some ⟨1, true, iv (s.res os s.nums[i] s.nums[j])⟩] := by
  have hnl := nums_len h
  have li : (i : Int) < s.nums.length := by omega
  have lj : (j : Int) < s.nums.length := by omega
  have gi := lvD_get1 (f := s.lab) hi
  have gj := lvD_get1 (f := s.lab) hj
  have la := h.len s.nums[i]
  have lb := h.len s.nums[j]
  obtain ⟨hjn, hjb, hjl⟩ := h.join s.nums[i] s.nums[j]
  (refine spec_of (by kernel_rfl) Try.func126 k_impl_orderState_resultLabels (fnOk (Nat.le_of_ble_eq_true rfl) ?_); unfold C_impl_orderState_resultLabels)
  simp only [osP, lvS]
  (simp only [Nat.reduceSub, List.length_cons, List.length_nil, Nat.reduceAdd, ch_init1, ch_init2, ch_init3, ch_init4, ch_init5, ch_init6, ch_init7, ch_init8]; try simp only [ch_rep]); (simp only [go_sem, seval, reduceCtorEq, List.replicate])
  simp (disch := omega) only [go_sem, seval, reduceCtorEq, li, lj, gi, gj]
  (refine gi_call (joinLabels_d (a := s.lab s.nums[i]) (b := s.lab s.nums[j]) (by omega) (by omega)) ?_ ?_ ?_; (focus (simp only [go_sem, seval, reduceCtorEq]; done)); (first | rfl | (focus (simp only [go_sem]; done))))
  simp only [go_sem, seval, reduceCtorEq]
  generalize hJ : joinL (s.lab s.nums[i]) (s.lab s.nums[j]) = J at *
  have hres : s.res os s.nums[i] s.nums[j] = J.filter (has (s.keep os s.nums[i] s.nums[j])) := by rw [Osd.res, hJ]
  rw [hres]
  (refine wpN_lwk (Wk.nilE 7 1 _ _ rfl) ?_; simp only [go_sem, seval, reduceCtorEq])
  refine wpN_lp (J.length) [false, false, false, false, false, false, false, false, false, true, true, true, true, false, false, false, false, false, false, false, false, false, false, false, false, false, false, false, false, false, false, false, true, true, true, true, true, true, true, true, true, true, true, true, true, true, true, true, true, true, true, true, true, true, true, true, true, true, true, true, true, true, true, true, true, true, true, true, true, true, true, true, false] (fun k => [(31, .d (.int k)), (7, .own 1 0 ((J.take k).filter (has (s.keep os s.nums[i] s.nums[j]))).length)]) (fun k => [(1, iv ((J.take k).filter (has (s.keep os s.nums[i] s.nums[j]))))]) (fun _ => by (simp only [go_sem, seval, reduceCtorEq, dropF_ch, dropF_cons, dropF_nil, cut, cond_true, cond_false]); first | done | rfl) (fun _ => by (simp only [go_sem, seval, reduceCtorEq, cut]); first | done | rfl) (Nat.le_of_ble_eq_true rfl) (by first | (simp only [go_sem, seval, reduceCtorEq, dropF_ch, dropF_cons, dropF_nil, cut, cond_true, cond_false, Int.natCast_zero, Int.natCast_add, Int.natCast_one, List.take_zero, List.filter_nil, iv_nil]; done) | rfl | (simp only [go_sem, seval, reduceCtorEq, dropF_ch, dropF_cons, dropF_nil, cut, cond_true, cond_false, Int.natCast_zero, Int.natCast_add, Int.natCast_one, List.take_zero, List.filter_nil, iv_nil]; rfl)) (by first | (simp only [go_sem, seval, reduceCtorEq, dropF_ch, dropF_cons, dropF_nil, cut, cond_true, cond_false, Int.natCast_zero, Int.natCast_add, Int.natCast_one, List.take_zero, List.filter_nil, iv_nil]; done) | rfl | (simp only [go_sem, seval, reduceCtorEq, dropF_ch, dropF_cons, dropF_nil, cut, cond_true, cond_false, Int.natCast_zero, Int.natCast_add, Int.natCast_one, List.take_zero, List.filter_nil, iv_nil]; rfl)) fun k hk => ?_
  unfold L1_impl_orderState_resultLabels
  have hfl := filter_len J k (has (s.keep os s.nums[i] s.nums[j]))
  by_cases hlt : k < J.length
  · have d1 : (k : Int) < J.length := by omega
    have g : J[k]? = some J[k] := List.getElem?_eq_getElem hlt
    simp (disch := omega) only [go_sem, seval, reduceCtorEq, d1, g]
    (refine ti_call (hasInt_d (xs := os) (x := J[k]) (by omega)) ?_ ?_ ?_; (focus (simp only [go_sem, seval, reduceCtorEq]; done)); (first | rfl | (focus (simp only [go_sem]; done))))
    simp (disch := omega) only [go_sem, seval, reduceCtorEq]
    refine wpN_lp (s.nums.length) [false, false, false, false, false, false, false, false, false, false, false, true, true, false, false, false, false, false, false, false, false, false, false, false, false, false, false, false, false, false, false, false, false, false, false, false, false, false, false, false, false, false, false, false, false, false, false, true, true, true, true, true, true, true, true, true, true, true, true, true, true, true, true, true, true, true, false, false, false, false, false, false, false] (fun q => [(46, .d (.int q)), (10, .d (.bool (keptQ s os s.nums[i] s.nums[j] J[k] q)))]) (fun q => []) (fun _ => by (simp only [go_sem, seval, reduceCtorEq, dropF_ch, dropF_cons, dropF_nil, cut, cond_true, cond_false]); first | done | rfl) (fun _ => by (simp only [go_sem, seval, reduceCtorEq, cut]); first | done | rfl) (Nat.le_of_ble_eq_true rfl) (by first | (simp only [go_sem, seval, reduceCtorEq, dropF_ch, dropF_cons, dropF_nil, cut, cond_true, cond_false, Int.natCast_zero, Int.natCast_add, Int.natCast_one, keptQ_zero]; done) | rfl | (simp only [go_sem, seval, reduceCtorEq, dropF_ch, dropF_cons, dropF_nil, cut, cond_true, cond_false, Int.natCast_zero, Int.natCast_add, Int.natCast_one, keptQ_zero]; rfl)) (by first | (simp only [go_sem, seval, reduceCtorEq, dropF_ch, dropF_cons, dropF_nil, cut, cond_true, cond_false, Int.natCast_zero, Int.natCast_add, Int.natCast_one, keptQ_zero]; done) | rfl | (simp only [go_sem, seval, reduceCtorEq, dropF_ch, dropF_cons, dropF_nil, cut, cond_true, cond_false, Int.natCast_zero, Int.natCast_add, Int.natCast_one, keptQ_zero]; rfl)) fun q hq => ?_
    unfold L0_impl_orderState_resultLabels
    by_cases hltq : q < s.nums.length
    · have d2 : (q : Int) < s.nums.length := by omega
      have g2 := lvD_cut (f := s.lab) hltq
      have hop := off_place (nums_nodup s) hi hj hltq
      have lq := h.len s.nums[q]
      simp (disch := omega) only [go_sem, seval, reduceCtorEq, d2, g2]
      refine ⟨by omega, ?_⟩
      by_cases h1 : q = i
      · have e1 : (q != i) = false := by simp [h1]
        have c1 := natb_ne q i
        rw [e1] at c1
        have hn := keptQ_no (os := os) (a := s.nums[i]) (b := s.nums[j]) (l := J[k]) hltq (by rw [hop, e1]; rfl)
        simp (disch := omega) only [go_sem, seval, reduceCtorEq, c1]
        (refine Next.drop [false, false, false, false, false, false, false, false, false, false, false, true, true, false, false, false, false, false, false, false, false, false, false, false, false, false, false, false, false, false, false, false, false, false, false, false, false, false, false, false, false, false, false, false, false, false, false, true, true, true, true, true, true, true, true, true, true, true, true, true, true, true, true, true, true, true, false, false, false, false, false, false, false] (by omega) (Nat.le_of_ble_eq_true rfl) ?_ ?_ <;> first | (simp only [go_sem, seval, reduceCtorEq, dropF_ch, dropF_cons, dropF_nil, cut, cond_true, cond_false, Int.natCast_zero, Int.natCast_add, Int.natCast_one, hn]; done) | rfl | (simp only [go_sem, seval, reduceCtorEq, dropF_ch, dropF_cons, dropF_nil, cut, cond_true, cond_false, Int.natCast_zero, Int.natCast_add, Int.natCast_one, hn]; rfl) | skip)
      · have e1 : (q != i) = true := by simp [h1]
        have c1 := natb_ne q i
        rw [e1] at c1
        by_cases h2 : q = j
        · have e2 : (q != j) = false := by simp [h2]
          have c2 := natb_ne q j
          rw [e2] at c2
          have hn := keptQ_no (os := os) (a := s.nums[i]) (b := s.nums[j]) (l := J[k]) hltq (by rw [hop, e1, e2]; rfl)
          simp (disch := omega) only [go_sem, seval, reduceCtorEq, c1, c2]
          (refine Next.drop [false, false, false, false, false, false, false, false, false, false, false, true, true, false, false, false, false, false, false, false, false, false, false, false, false, false, false, false, false, false, false, false, false, false, false, false, false, false, false, false, false, false, false, false, false, false, false, true, true, true, true, true, true, true, true, true, true, true, true, true, true, true, true, true, true, true, false, false, false, false, false, false, false] (by omega) (Nat.le_of_ble_eq_true rfl) ?_ ?_ <;> first | (simp only [go_sem, seval, reduceCtorEq, dropF_ch, dropF_cons, dropF_nil, cut, cond_true, cond_false, Int.natCast_zero, Int.natCast_add, Int.natCast_one, hn]; done) | rfl | (simp only [go_sem, seval, reduceCtorEq, dropF_ch, dropF_cons, dropF_nil, cut, cond_true, cond_false, Int.natCast_zero, Int.natCast_add, Int.natCast_one, hn]; rfl) | skip)
        · have e2 : (q != j) = true := by simp [h2]
          have c2 := natb_ne q j
          rw [e2] at c2
          simp (disch := omega) only [go_sem, seval, reduceCtorEq, c1, c2]
          (refine ti_call (hasInt_d (xs := s.lab s.nums[q]) (x := J[k]) (by omega)) ?_ ?_ ?_; (focus (simp only [go_sem, seval, reduceCtorEq]; done)); (first | rfl | (focus (simp only [go_sem]; done))))
          cases e3 : has (s.lab s.nums[q]) J[k]
          · have hn := keptQ_no (os := os) (a := s.nums[i]) (b := s.nums[j]) (l := J[k]) hltq (by rw [e3, Bool.and_false])
            simp (disch := omega) only [go_sem, seval, reduceCtorEq, e3]
            (refine Next.drop [false, false, false, false, false, false, false, false, false, false, false, true, true, false, false, false, false, false, false, false, false, false, false, false, false, false, false, false, false, false, false, false, false, false, false, false, false, false, false, false, false, false, false, false, false, false, false, true, true, true, true, true, true, true, true, true, true, true, true, true, true, true, true, true, true, true, false, false, false, false, false, false, false] (by omega) (Nat.le_of_ble_eq_true rfl) ?_ ?_ <;> first | (simp only [go_sem, seval, reduceCtorEq, dropF_ch, dropF_cons, dropF_nil, cut, cond_true, cond_false, Int.natCast_zero, Int.natCast_add, Int.natCast_one, hn]; done) | rfl | (simp only [go_sem, seval, reduceCtorEq, dropF_ch, dropF_cons, dropF_nil, cut, cond_true, cond_false, Int.natCast_zero, Int.natCast_add, Int.natCast_one, hn]; rfl) | skip)
          · have hn := keptQ_yes (os := os) (a := s.nums[i]) (b := s.nums[j]) (l := J[k]) hltq (by rw [hop, e1, e2, e3]; rfl)
            simp (disch := omega) only [go_sem, seval, reduceCtorEq, e3]
            (refine Next.drop [false, false, false, false, false, false, false, false, false, false, false, true, true, false, false, false, false, false, false, false, false, false, false, false, false, false, false, false, false, false, false, false, false, false, false, false, false, false, false, false, false, false, false, false, false, false, false, true, true, true, true, true, true, true, true, true, true, true, true, true, true, true, true, true, true, true, false, false, false, false, false, false, false] (by omega) (Nat.le_of_ble_eq_true rfl) ?_ ?_ <;> first | (simp only [go_sem, seval, reduceCtorEq, dropF_ch, dropF_cons, dropF_nil, cut, cond_true, cond_false, Int.natCast_zero, Int.natCast_add, Int.natCast_one, hn]; done) | rfl | (simp only [go_sem, seval, reduceCtorEq, dropF_ch, dropF_cons, dropF_nil, cut, cond_true, cond_false, Int.natCast_zero, Int.natCast_add, Int.natCast_one, hn]; rfl) | skip)
    · have d2 : ¬ (q : Int) < s.nums.length := by omega
      have hall := keptQ_all (os := os) (a := s.nums[i]) (b := s.nums[j]) (l := J[k]) (show s.nums.length ≤ q by omega)
      simp (disch := omega) only [go_sem, seval, reduceCtorEq, d2, hall]
      cases hh : has (s.keep os s.nums[i] s.nums[j]) J[k]
      · have e := filter_no (p := has (s.keep os s.nums[i] s.nums[j])) hlt hh
        simp (disch := omega) only [go_sem, seval, reduceCtorEq, hh]
        (refine Next.drop [false, false, false, false, false, false, false, false, false, true, true, true, true, false, false, false, false, false, false, false, false, false, false, false, false, false, false, false, false, false, false, false, true, true, true, true, true, true, true, true, true, true, true, true, true, true, true, true, true, true, true, true, true, true, true, true, true, true, true, true, true, true, true, true, true, true, true, true, true, true, true, true, false] (by omega) (Nat.le_of_ble_eq_true rfl) ?_ ?_ <;> first | (simp only [go_sem, seval, reduceCtorEq, dropF_ch, dropF_cons, dropF_nil, cut, cond_true, cond_false, Int.natCast_zero, Int.natCast_add, Int.natCast_one, e]; done) | rfl | (simp only [go_sem, seval, reduceCtorEq, dropF_ch, dropF_cons, dropF_nil, cut, cond_true, cond_false, Int.natCast_zero, Int.natCast_add, Int.natCast_one, e]; rfl) | skip)
      · have e := filter_yes (p := has (s.keep os s.nums[i] s.nums[j])) hlt hh
        simp (disch := omega) only [go_sem, seval, reduceCtorEq, hh]
        (repeat (refine And.intro (by omega) ?_))
        (refine Next.drop [false, false, false, false, false, false, false, false, false, true, true, true, true, false, false, false, false, false, false, false, false, false, false, false, false, false, false, false, false, false, false, false, true, true, true, true, true, true, true, true, true, true, true, true, true, true, true, true, true, true, true, true, true, true, true, true, true, true, true, true, true, true, true, true, true, true, true, true, true, true, true, true, false] (by omega) (Nat.le_of_ble_eq_true rfl) ?_ ?_ <;> first | (simp only [go_sem, seval, reduceCtorEq, dropF_ch, dropF_cons, dropF_nil, cut, cond_true, cond_false, Int.natCast_zero, Int.natCast_add, Int.natCast_one, e, List.length_append]; done) | rfl | (simp only [go_sem, seval, reduceCtorEq, dropF_ch, dropF_cons, dropF_nil, cut, cond_true, cond_false, Int.natCast_zero, Int.natCast_add, Int.natCast_one, e, List.length_append]; rfl) | skip)
  · have d1 : ¬ (k : Int) < J.length := by omega
    obtain rfl : k = J.length := by omega
    simp (disch := omega) only [go_sem, seval, reduceCtorEq, d1, List.take_length]
    (refine FnEnd.mk (Nat.le_of_ble_eq_true rfl) rfl (of_decide_eq_true rfl) ?_ ?_ <;> try simp only [go_sem, seval, reduceCtorEq])
theorem orderState_contract_d {D os : List Int} {s : Osd} {m i j : Nat} (hD : D.length = 100) (h : OsOk s m) (hm : m ≤ 1000) (ho : os.length ≤ 1048576) (hi : i < s.nums.length) (hj : j < s.nums.length) :
    Does Try.prog 104 [.ptr 0 0, .d (.int i), .d (.int j)] [osR D os s] (.agg [.d (.int s.nums[i]), .d (.int s.nums[j])]) [osR D os (s.step os s.nums[i] s.nums[j])] := by
  have hnl := nums_len h
  have hall := h.n
  have li : (i : Int) < s.nums.length := by omega
  have lj : (j : Int) < s.nums.length := by omega
  have gi := lvD_get0 (f := s.lab) hi
  have gj := lvD_get0 (f := s.lab) hj
  (refine spec_of (by kernel_rfl) Try.func104 k_impl_orderState_contract (fnOk (Nat.le_of_ble_eq_true rfl) ?_); unfold C_impl_orderState_contract)
  simp only [osR, lvS]
  (simp only [Nat.reduceSub, List.length_cons, List.length_nil, Nat.reduceAdd, ch_init1, ch_init2, ch_init3, ch_init4, ch_init5, ch_init6, ch_init7, ch_init8]; try simp only [ch_rep]); (simp only [go_sem, seval, reduceCtorEq, List.replicate])
  simp (disch := omega) only [go_sem, seval, reduceCtorEq, li, lj, gi, gj]
  (refine gi_call (orderState_resultLabels_o (D := D) (os := os) (i := i) (j := j) hD h hm ho hi hj) ?_ ?_ ?_; (focus (simp only [go_sem, seval, reduceCtorEq, osP, lvS]; done)); (first | rfl | (focus (simp only [go_sem]; done))))
  simp (disch := omega) only [go_sem, seval, reduceCtorEq]
  (refine wpN_lwk (Wk.nilE 9 2 _ _ rfl) ?_; simp only [go_sem, seval, reduceCtorEq])
  refine wpN_lp (s.nums.length) [false, false, false, false, false, false, false, false, false, false, true, true, false, false, false, false, false, false, false, false, false, false, false, false, false, false, false, false, false, false, false, false, false, false, false, false, false, false, false, false, false, false, false, false, true, true, true, true, true, true, true, true, true, true, true, true, true, true, true, true, true, false, false, false, false, false, false, false, false, false, false, false, false, false, false, false] (fun k => [(43, .d (.int k)), (9, .own 5 0 ((s.nums.take k).filter (Osd.off s.nums[i] s.nums[j])).length)]) (fun k => [(5, lvA s.lab ((s.nums.take k).filter (Osd.off s.nums[i] s.nums[j])))]) (fun _ => by (simp only [go_sem, seval, reduceCtorEq, dropF_ch, dropF_cons, dropF_nil, cut, cond_true, cond_false]); first | done | rfl) (fun _ => by (simp only [go_sem, seval, reduceCtorEq, cut]); first | done | rfl) (Nat.le_of_ble_eq_true rfl) (by first | (simp only [go_sem, seval, reduceCtorEq, dropF_ch, dropF_cons, dropF_nil, cut, cond_true, cond_false, Int.natCast_zero, Int.natCast_add, Int.natCast_one, List.take_zero, List.filter_nil, lvA_nil]; done) | rfl | (simp only [go_sem, seval, reduceCtorEq, dropF_ch, dropF_cons, dropF_nil, cut, cond_true, cond_false, Int.natCast_zero, Int.natCast_add, Int.natCast_one, List.take_zero, List.filter_nil, lvA_nil]; rfl)) (by first | (simp only [go_sem, seval, reduceCtorEq, dropF_ch, dropF_cons, dropF_nil, cut, cond_true, cond_false, Int.natCast_zero, Int.natCast_add, Int.natCast_one, List.take_zero, List.filter_nil, lvA_nil]; done) | rfl | (simp only [go_sem, seval, reduceCtorEq, dropF_ch, dropF_cons, dropF_nil, cut, cond_true, cond_false, Int.natCast_zero, Int.natCast_add, Int.natCast_one, List.take_zero, List.filter_nil, lvA_nil]; rfl)) fun k hk => ?_
  unfold L0_impl_orderState_contract
  have hfl := filter_len s.nums k (Osd.off s.nums[i] s.nums[j])
  by_cases hlt : k < s.nums.length
  · have d1 : (k : Int) < s.nums.length := by omega
    have g := lvD_cut (f := s.lab) hlt
    have hop := off_place (nums_nodup s) hi hj hlt
    simp (disch := omega) only [go_sem, seval, reduceCtorEq, d1, g]
    refine ⟨by omega, ?_⟩
    by_cases h1 : k = i
    · have e1 : (k != i) = false := by simp [h1]
      have c1 := natb_ne k i
      rw [e1] at c1
      have e := filter_no (p := Osd.off s.nums[i] s.nums[j]) hlt (by rw [hop, e1]; rfl)
      simp (disch := omega) only [go_sem, seval, reduceCtorEq, c1]
      (refine Next.drop [false, false, false, false, false, false, false, false, false, false, true, true, false, false, false, false, false, false, false, false, false, false, false, false, false, false, false, false, false, false, false, false, false, false, false, false, false, false, false, false, false, false, false, false, true, true, true, true, true, true, true, true, true, true, true, true, true, true, true, true, true, false, false, false, false, false, false, false, false, false, false, false, false, false, false, false] (by omega) (Nat.le_of_ble_eq_true rfl) ?_ ?_ <;> first | (simp only [go_sem, seval, reduceCtorEq, dropF_ch, dropF_cons, dropF_nil, cut, cond_true, cond_false, Int.natCast_zero, Int.natCast_add, Int.natCast_one, e]; done) | rfl | (simp only [go_sem, seval, reduceCtorEq, dropF_ch, dropF_cons, dropF_nil, cut, cond_true, cond_false, Int.natCast_zero, Int.natCast_add, Int.natCast_one, e]; rfl) | skip)
    · have e1 : (k != i) = true := by simp [h1]
      have c1 := natb_ne k i
      rw [e1] at c1
      by_cases h2 : k = j
      · have e2 : (k != j) = false := by simp [h2]
        have c2 := natb_ne k j
        rw [e2] at c2
        have e := filter_no (p := Osd.off s.nums[i] s.nums[j]) hlt (by rw [hop, e1, e2]; rfl)
        simp (disch := omega) only [go_sem, seval, reduceCtorEq, c1, c2]
        (refine Next.drop [false, false, false, false, false, false, false, false, false, false, true, true, false, false, false, false, false, false, false, false, false, false, false, false, false, false, false, false, false, false, false, false, false, false, false, false, false, false, false, false, false, false, false, false, true, true, true, true, true, true, true, true, true, true, true, true, true, true, true, true, true, false, false, false, false, false, false, false, false, false, false, false, false, false, false, false] (by omega) (Nat.le_of_ble_eq_true rfl) ?_ ?_ <;> first | (simp only [go_sem, seval, reduceCtorEq, dropF_ch, dropF_cons, dropF_nil, cut, cond_true, cond_false, Int.natCast_zero, Int.natCast_add, Int.natCast_one, e]; done) | rfl | (simp only [go_sem, seval, reduceCtorEq, dropF_ch, dropF_cons, dropF_nil, cut, cond_true, cond_false, Int.natCast_zero, Int.natCast_add, Int.natCast_one, e]; rfl) | skip)
      · have e2 : (k != j) = true := by simp [h2]
        have c2 := natb_ne k j
        rw [e2] at c2
        have e := filter_yes (p := Osd.off s.nums[i] s.nums[j]) hlt (by rw [hop, e1, e2]; rfl)
        simp (disch := omega) only [go_sem, seval, reduceCtorEq, c1, c2]
        (repeat (refine And.intro (by omega) ?_))
        (refine Next.drop [false, false, false, false, false, false, false, false, false, false, true, true, false, false, false, false, false, false, false, false, false, false, false, false, false, false, false, false, false, false, false, false, false, false, false, false, false, false, false, false, false, false, false, false, true, true, true, true, true, true, true, true, true, true, true, true, true, true, true, true, true, false, false, false, false, false, false, false, false, false, false, false, false, false, false, false] (by omega) (Nat.le_of_ble_eq_true rfl) ?_ ?_ <;> first | (simp only [go_sem, seval, reduceCtorEq, dropF_ch, dropF_cons, dropF_nil, cut, cond_true, cond_false, Int.natCast_zero, Int.natCast_add, Int.natCast_one, e, List.length_append]; done) | rfl | (simp only [go_sem, seval, reduceCtorEq, dropF_ch, dropF_cons, dropF_nil, cut, cond_true, cond_false, Int.natCast_zero, Int.natCast_add, Int.natCast_one, e, List.length_append]; rfl) | skip)
  · have d1 : ¬ (k : Int) < s.nums.length := by omega
    obtain rfl : k = s.nums.length := by omega
    simp (disch := omega) only [go_sem, seval, reduceCtorEq, d1, List.take_length]
    have hfl2 := List.length_filter_le (Osd.off s.nums[i] s.nums[j]) s.nums
    refine ⟨by omega, ?_⟩
    have hns := nums_step (os := os) (a := s.nums[i]) (b := s.nums[j]) h
    have hrow : lvA s.lab (s.nums.filter (Osd.off s.nums[i] s.nums[j])) ++ [.d (.int s.all.length), .d (.sl (s.res os s.nums[i] s.nums[j]).length (dv (s.res os s.nums[i] s.nums[j])))] = lvA (s.step os s.nums[i] s.nums[j]).lab (s.step os s.nums[i] s.nums[j]).nums := by
      rw [hns, lvA_app, lvA_congr (f := (s.step os s.nums[i] s.nums[j]).lab) (g := s.lab) (fun q hq => lab_step h (by have := nums_mem.1 (List.mem_filter.1 hq).1; omega)), hall]
      simp only [lvA, List.flatMap_cons, List.flatMap_nil, List.append_nil, lab_step_new h, ints]
    have hlen : (s.nums.filter (Osd.off s.nums[i] s.nums[j])).length + 1 = (s.step os s.nums[i] s.nums[j]).nums.length := by rw [hns]; simp
    have hal : (s.all.length : Int) + 1 = ((s.step os s.nums[i] s.nums[j]).all.length : Int) := by simp [Osd.step]
    (refine FnEnd.wk (Wk.freeze 3 (Nat.le_of_ble_eq_true rfl) rfl (cellsD_iv) rfl rfl) ?_); (simp only [go_sem, seval, reduceCtorEq, hrow, hlen, hal])
    generalize s.step os s.nums[i] s.nums[j] = s' at *
    have htk : List.take (s'.nums.length * 2) (lvD s'.lab s'.nums) = lvD s'.lab s'.nums := List.take_of_length_le (by rw [lvD_len]; exact Nat.le_refl _)
    have htd : List.take s.nums.length s.nums = s.nums := List.take_length
    (refine FnEnd.wk (Wk.freeze 5 (Nat.le_of_ble_eq_true rfl) rfl (cellsD_lvA) rfl rfl) ?_); (simp only [go_sem, seval, reduceCtorEq, htk])
    (refine FnEnd.mk (Nat.le_of_ble_eq_true rfl) rfl (of_decide_eq_true rfl) ?_ ?_ <;> try simp only [go_sem, seval, reduceCtorEq])
theorem orderState_follow_yes {D os : List Int} {s : Osd} {m : Nat} {a b : Int} (hD : D.length = 100) (h : OsOk s m) (hm : m ≤ 1000) (ho : os.length ≤ 1048576) (hf : followB s a b = true) :
    Does Try.prog 81 [.ptr 0 0, .agg [.d (.int a), .d (.int b)]] [osR D os s] (.d (.bool true)) [osR D os (s.step os a.toNat b.toNat)] := by
  obtain ⟨x, y, rfl, rfl, hx, hy, hxy⟩ := followB_nat hf
  have hnl := nums_len h
  obtain ⟨i, hi, hix⟩ := List.mem_iff_getElem.1 hx
  obtain ⟨j, hj, hjy⟩ := List.mem_iff_getElem.1 hy
  have hpl : ∀ (q : Nat) (hq : q < s.nums.length), place (natI s.nums) s.nums[q] = q := fun q hq => by
    have hq' : q < (natI s.nums).length := by rw [natI_len]; exact hq
    have := place_at hq' (fresh_of (natI_nodup (nums_nodup s)) hq')
    rwa [natI_get hq] at this
  have pi := hpl i hi
  have pj := hpl j hj
  rw [hix] at pi
  rw [hjy] at pj
  have c1 : ¬ (i : Int) < 0 := by omega
  have c2 : ¬ (j : Int) < 0 := by omega
  have c3 : ¬ (x : Int) ≥ y := by omega
  subst hix hjy
  simp only [Int.toNat_natCast]
  (refine spec_of (by kernel_rfl) Try.func81 k_impl_orderState_follow (fnOk (Nat.le_of_ble_eq_true rfl) ?_); unfold C_impl_orderState_follow)
  simp only [osR, lvS]
  (simp only [Nat.reduceSub, List.length_cons, List.length_nil, Nat.reduceAdd, ch_init1, ch_init2, ch_init3, ch_init4, ch_init5, ch_init6, ch_init7, ch_init8]; try simp only [ch_rep]); (simp only [go_sem, seval, reduceCtorEq, List.replicate])
  (refine gi_call (orderState_place_d (D := D) (os := os) (s := s) (x := s.nums[i]) hD h hm) ?_ ?_ ?_; (focus (simp only [go_sem, seval, reduceCtorEq, osP, lvS]; done)); (first | rfl | (focus (simp only [go_sem]; done))))
  simp only [go_sem, seval, reduceCtorEq, pi]
  (refine ti_call (orderState_place_d (D := D) (os := os) (s := s) (x := s.nums[j]) hD h hm) ?_ ?_ ?_; (focus (simp only [go_sem, seval, reduceCtorEq, osP, lvS]; done)); (first | rfl | (focus (simp only [go_sem]; done))))
  simp only [go_sem, seval, reduceCtorEq, pj, c1, c2, c3]
  (refine ti_callcg [0] [] false (of_decide_eq_true rfl) ?_ _ ?_ (orderState_contract_d (D := D) (os := os) (s := s) hD h hm ho hi hj) ?_ ?_; (focus (simp only [go_sem, seval, reduceCtorEq, osR, lvS]; done)); (focus (simp only [go_sem, seval, reduceCtorEq, osR, lvS]; done)); (focus (first | rfl | (simp only [go_sem, seval, reduceCtorEq, osR, lvS]; done))))
  simp only [go_sem, seval, reduceCtorEq, osR, lvS]
  (refine FnEnd.mk (Nat.le_of_ble_eq_true rfl) rfl (of_decide_eq_true rfl) ?_ ?_ <;> try simp only [go_sem, seval, reduceCtorEq])
theorem orderState_follow_no {D os : List Int} {s : Osd} {m : Nat} {a b : Int} (hD : D.length = 100) (h : OsOk s m) (hm : m ≤ 1000) (ho : os.length ≤ 1048576) (hf : followB s a b = false) :
    Does Try.prog 81 [.ptr 0 0, .agg [.d (.int a), .d (.int b)]] [osR D os s] (.d (.bool false)) [osR D os s] := by
  have hnl := nums_len h
  (refine spec_of (by kernel_rfl) Try.func81 k_impl_orderState_follow (fnOk (Nat.le_of_ble_eq_true rfl) ?_); unfold C_impl_orderState_follow)
  simp only [osR, lvS]
  (simp only [Nat.reduceSub, List.length_cons, List.length_nil, Nat.reduceAdd, ch_init1, ch_init2, ch_init3, ch_init4, ch_init5, ch_init6, ch_init7, ch_init8]; try simp only [ch_rep]); (simp only [go_sem, seval, reduceCtorEq, List.replicate])
  (refine gi_call (orderState_place_d (D := D) (os := os) (s := s) (x := a) hD h hm) ?_ ?_ ?_; (focus (simp only [go_sem, seval, reduceCtorEq, osP, lvS]; done)); (first | rfl | (focus (simp only [go_sem]; done))))
  simp only [go_sem, seval, reduceCtorEq]
  (refine ti_call (orderState_place_d (D := D) (os := os) (s := s) (x := b) hD h hm) ?_ ?_ ?_; (focus (simp only [go_sem, seval, reduceCtorEq, osP, lvS]; done)); (first | rfl | (focus (simp only [go_sem]; done))))
  by_cases ha : a ∈ natI s.nums
  rotate_left
  · have c1 : place (natI s.nums) a < 0 := place_neg.2 ha
    simp only [go_sem, seval, reduceCtorEq, c1]
    (refine FnEnd.mk (Nat.le_of_ble_eq_true rfl) rfl (of_decide_eq_true rfl) ?_ ?_ <;> try simp only [go_sem, seval, reduceCtorEq])
  have c1 : ¬ place (natI s.nums) a < 0 := fun e => place_neg.1 e ha
  by_cases hb : b ∈ natI s.nums
  rotate_left
  · have c2 : place (natI s.nums) b < 0 := place_neg.2 hb
    simp only [go_sem, seval, reduceCtorEq, c1, c2]
    (refine FnEnd.mk (Nat.le_of_ble_eq_true rfl) rfl (of_decide_eq_true rfl) ?_ ?_ <;> try simp only [go_sem, seval, reduceCtorEq])
  have c2 : ¬ place (natI s.nums) b < 0 := fun e => place_neg.1 e hb
  have c3 : a ≥ b := by
    by_cases e : a < b
    · rw [followB, decide_eq_true ⟨ha, hb, e⟩] at hf; cases hf
    · omega
  simp only [go_sem, seval, reduceCtorEq, c1, c2, c3]
  (refine FnEnd.mk (Nat.le_of_ble_eq_true rfl) rfl (of_decide_eq_true rfl) ?_ ?_ <;> try simp only [go_sem, seval, reduceCtorEq])
end Go.Proofs.Ytjncdanegoileaa

/-
  The compiled code of functions of the seat (written by mkcode.py). No condition.
-/
namespace Go.Proofs.Ytjncdanegoileaa
open Go.Lift

def L0_laws_eqStepS : C :=
 .seq (
 .seq (
 .reg [⟨some 11, none, .mv (.t 5)⟩,
 ⟨some 12, none, .mv (.t 0)⟩,
 ⟨some 13, none, .len (.t 12)⟩,
 ⟨some 14, none, .bin .lss (.t 11) (.t 13)⟩]) (
 .cond (.t 14) (
 .skip) (
 .exit 0))) (
 .seq (
 .block 1 (
 .seq (
 .draw [⟨some 17, none, .mv (.t 0)⟩,
 ⟨some 18, none, .mv (.t 5)⟩,
 ⟨some 19, none, .idx 2 (.t 17) (.t 18)⟩,
 ⟨some 20, none, .ldn 2 (.t 19)⟩,
 ⟨some 21, none, .mv (.t 1)⟩,
 ⟨some 22, none, .mv (.t 5)⟩,
 ⟨some 23, none, .idx 2 (.t 21) (.t 22)⟩,
 ⟨some 24, none, .ldn 2 (.t 23)⟩]
 [⟨some 25, none, .call 76 [(.t 20), (.t 24)]⟩,
 ⟨some 26, none, .not (.t 25)⟩]) (
 .cond (.t 26) (
 .seq (
 .reg [⟨some 4, none, .mv (.c (.d (.bool false)))⟩]) (
 .ret)) (
 .skip)))) (
 .reg [⟨some 15, none, .mv (.t 5)⟩,
 ⟨some 16, none, .bin .add (.t 15) (.c (.d (.int 1)))⟩,
 ⟨some 5, none, .mv (.t 16)⟩]))

def C_laws_eqStepS : Fun := ⟨2, 27,
 .seq (
 .reg [⟨some 4, none, .mv (.c (.d (.bool false)))⟩]) (
 .seq (
 .seq (
 .reg [⟨some 6, none, .mv (.t 0)⟩,
 ⟨some 7, none, .len (.t 6)⟩,
 ⟨some 8, none, .mv (.t 1)⟩,
 ⟨some 9, none, .len (.t 8)⟩,
 ⟨some 10, none, .bin .neq (.t 7) (.t 9)⟩]) (
 .cond (.t 10) (
 .seq (
 .reg [⟨some 4, none, .mv (.c (.d (.bool false)))⟩]) (
 .ret)) (
 .skip))) (
 .seq (
 .seq (
 .reg [⟨some 5, none, .mv (.c (.d (.int 0)))⟩]) (
 .block 0 (
 .loop L0_laws_eqStepS))) (
 .seq (
 .reg [⟨some 4, none, .mv (.c (.d (.bool true)))⟩]) (
 .ret)))),
 [.t 4]⟩

theorem k_laws_eqStepS : cFun Try.prog Try.f27 = some C_laws_eqStepS.erase := by kernel_rfl

def C_laws_szStepS : Fun := ⟨2, 12,
 .seq (
 .reg [⟨some 4, none, .mv (.c (.d (.int 0)))⟩]) (
 .seq (
 .reg [⟨some 5, none, .mv (.t 1)⟩,
 ⟨some 6, none, .mv (.t 0)⟩,
 ⟨some 7, none, .len (.t 6)⟩,
 ⟨some 8, none, .bin .sub (.t 5) (.t 7)⟩,
 ⟨some 1, none, .mv (.t 8)⟩]) (
 .seq (
 .seq (
 .reg [⟨some 9, none, .mv (.t 1)⟩,
 ⟨some 10, none, .bin .lss (.t 9) (.c (.d (.int 0)))⟩]) (
 .cond (.t 10) (
 .seq (
 .reg [⟨some 4, none, .mv (.c (.d (.int (-1))))⟩]) (
 .ret)) (
 .skip))) (
 .seq (
 .reg [⟨some 11, none, .mv (.t 1)⟩,
 ⟨some 4, none, .mv (.t 11)⟩]) (
 .ret)))),
 [.t 4]⟩

theorem k_laws_szStepS : cFun Try.prog Try.f30 = some C_laws_szStepS.erase := by kernel_rfl

def L0_laws_toStepS : C :=
 .seq (
 .seq (
 .reg [⟨some 8, none, .mv (.t 4)⟩,
 ⟨some 9, none, .mv (.t 0)⟩,
 ⟨some 10, none, .len (.t 9)⟩,
 ⟨some 11, none, .bin .lss (.t 8) (.t 10)⟩]) (
 .cond (.t 11) (
 .skip) (
 .exit 0))) (
 .seq (
 .block 1 (
 .reg [⟨some 14, none, .mv (.t 3)⟩,
 ⟨some 15, none, .mv (.t 4)⟩,
 ⟨some 16, none, .mv (.t 0)⟩,
 ⟨some 17, none, .mv (.t 4)⟩,
 ⟨some 18, none, .idx 2 (.t 16) (.t 17)⟩,
 ⟨some 19, none, .ldn 2 (.t 18)⟩,
 ⟨some 20, none, .call 79 [(.t 19)]⟩,
 ⟨some 21, none, .idx 2 (.t 14) (.t 15)⟩,
 ⟨none, none, .st 2 (.t 21) (.t 20)⟩])) (
 .reg [⟨some 12, none, .mv (.t 4)⟩,
 ⟨some 13, none, .bin .add (.t 12) (.c (.d (.int 1)))⟩,
 ⟨some 4, none, .mv (.t 13)⟩]))

def C_laws_toStepS : Fun := ⟨1, 23,
 .seq (
 .reg [⟨some 2, none, .mv (.c (.nil))⟩]) (
 .seq (
 .reg [⟨some 5, none, .mv (.t 0)⟩,
 ⟨some 6, none, .len (.t 5)⟩,
 ⟨some 7, none, .make 2 16 [.d (.int 0), .d (.int 0)] (.t 6) (.t 6)⟩,
 ⟨some 3, none, .mv (.t 7)⟩]) (
 .seq (
 .seq (
 .reg [⟨some 4, none, .mv (.c (.d (.int 0)))⟩]) (
 .block 0 (
 .loop L0_laws_toStepS))) (
 .seq (
 .reg [⟨some 22, none, .mv (.t 3)⟩,
 ⟨some 2, none, .mv (.t 22)⟩]) (
 .ret)))),
 [.t 2]⟩

theorem k_laws_toStepS : cFun Try.prog Try.f32 = some C_laws_toStepS.erase := by kernel_rfl

def C_laws_eqStep : Fun := ⟨2, 15,
 .seq (
 .reg [⟨some 2, none, .box (.t 0)⟩,
 ⟨some 3, none, .box (.t 1)⟩,
 ⟨some 4, none, .mv (.c (.d (.bool false)))⟩]) (
 .seq (
 .seq (
 .reg [⟨some 5, none, .fld 0 (.t 2)⟩,
 ⟨some 6, none, .ld (.t 5)⟩,
 ⟨some 7, none, .fld 0 (.t 3)⟩,
 ⟨some 8, none, .ld (.t 7)⟩,
 ⟨some 9, none, .bin .neq (.t 6) (.t 8)⟩]) (
 .cond (.t 9) (
 .seq (
 .reg [⟨some 4, none, .mv (.c (.d (.bool false)))⟩]) (
 .ret)) (
 .skip))) (
 .seq (
 .seq (
 .reg [⟨some 10, none, .fld 1 (.t 2)⟩,
 ⟨some 11, none, .ld (.t 10)⟩,
 ⟨some 12, none, .fld 1 (.t 3)⟩,
 ⟨some 13, none, .ld (.t 12)⟩,
 ⟨some 14, none, .bin .neq (.t 11) (.t 13)⟩]) (
 .cond (.t 14) (
 .seq (
 .reg [⟨some 4, none, .mv (.c (.d (.bool false)))⟩]) (
 .ret)) (
 .skip))) (
 .seq (
 .reg [⟨some 4, none, .mv (.c (.d (.bool true)))⟩]) (
 .ret)))),
 [.t 4]⟩

theorem k_laws_eqStep : cFun Try.prog Try.f76 = some C_laws_eqStep.erase := by kernel_rfl

def C_laws_toStep : Fun := ⟨1, 11,
 .seq (
 .reg [⟨some 1, none, .box (.t 0)⟩,
 ⟨some 2, none, .zer [.d (.int 0), .d (.int 0)]⟩]) (
 .seq (
 .reg [⟨some 3, none, .zer [.d (.int 0), .d (.int 0)]⟩]) (
 .seq (
 .reg [⟨some 4, none, .fld 0 (.t 1)⟩,
 ⟨some 5, none, .ld (.t 4)⟩,
 ⟨some 6, none, .fld 0 (.t 3)⟩,
 ⟨none, none, .st 1 (.t 6) (.t 5)⟩]) (
 .seq (
 .reg [⟨some 7, none, .fld 1 (.t 1)⟩,
 ⟨some 8, none, .ld (.t 7)⟩,
 ⟨some 9, none, .fld 1 (.t 3)⟩,
 ⟨none, none, .st 1 (.t 9) (.t 8)⟩]) (
 .seq (
 .reg [⟨some 10, none, .ldn 2 (.t 3)⟩,
 ⟨none, none, .st 2 (.t 2) (.t 10)⟩]) (
 .ret))))),
 [.cell 2 2]⟩

theorem k_laws_toStep : cFun Try.prog Try.f79 = some C_laws_toStep.erase := by kernel_rfl

end Go.Proofs.Ytjncdanegoileaa

/-
  The compiled code of functions of the seat (written by mkcode.py). No condition.
-/
namespace Go.Proofs.Ytjncdanegoileaa
open Go.Lift

end Go.Proofs.Ytjncdanegoileaa

/-
  Contracts: networks that are marked. No condition.
-/
namespace Go.Proofs.Ytjncdanegoileaa
open Go.RowKit Go.Lift Plain
set_option linter.unusedSimpArgs false
set_option linter.unusedVariables false
set_option maxRecDepth 100000

def markTs : List Ten → Int → List Ten
  | [], _ => []
  | t :: l, m => markT t m :: markTs l (m + lenT t)
theorem markTs_len : ∀ (ts : List Ten) (m : Int), (markTs ts m).length = ts.length
  | [], _ => rfl
  | t :: l, m => by simp [markTs, markTs_len l]
section
variable {ts : List Ten} {m : Int} {k : Nat}
end
def markN (N : Net) (m : Int) : Net := ⟨N.k, N.p, N.n, markTs N.ts m, markL N.os (m + totT N.ts)⟩
attribute [go_sem] markN markTs_len
end Go.Proofs.Ytjncdanegoileaa

/-
  Contracts: steps of orders, as flat lists of ints; plain orders. No condition.
-/
namespace Go.Proofs.Ytjncdanegoileaa
open Go.RowKit Go.Lift Plain
set_option linter.unusedSimpArgs false
set_option linter.unusedVariables false
set_option maxRecDepth 100000

/-- n steps: 2 n ints. -/
structure StpSz (m n : Nat) (F : List Int) : Prop where
  l : F.length = n * 2
  n : n ≤ m
  wf : ∀ x ∈ F, I64 x
theorem StpSz.up {m m' n : Nat} {F : List Int} (h : StpSz m n F) (hm : m ≤ m') : StpSz m' n F := ⟨h.l, Nat.le_trans h.n hm, h.wf⟩
theorem stp_all {m n : Nat} {F : List Int} (h : StpSz m n F) : F.take (n * 2) = F := List.take_of_length_le (by rw [h.l]; exact Nat.le_refl _)
def stp (n : Nat) (F : List Int) : D := .sl n (dv F)
attribute [go_sem] stp
section
variable {F : List Int} {n k : Nat}
theorem take_cut2 (h : k * 2 + 2 ≤ F.length) : (F.drop (k * 2)).take 2 = [F[k * 2]'(by omega), F[k * 2 + 1]'(by omega)] := by
  rw [List.drop_eq_getElem_cons (i := k * 2) (by omega), List.drop_eq_getElem_cons (i := k * 2 + 1) (by omega)]
  rfl
theorem zeros_int2 (n : Nat) : Go.Lift.zeros n [.d (.int 0), .d (.int 0)] = iv (List.replicate (n * 2) 0) := by
  induction n with
  | zero => rfl
  | succ n ih =>
    rw [zeros_succ, ih, show (n + 1) * 2 = n * 2 + 1 + 1 by omega]
    simp [iv, List.replicate_succ]
theorem iv_mid2 {A B : List Int} (a b : Int) : iv A ++ [.d (.int a), .d (.int b)] ++ iv B = iv (A ++ [a, b] ++ B) := by simp [iv]
theorem next2 (k : Nat) : (k + 1) * 2 = k * 2 + 2 := by omega
theorem dv_two (a b : Int) : dv [a, b] = [.int a, .int b] := rfl
theorem mix_next2 {l r : List Int} (h : l.length = r.length) (hk : k * 2 + 2 ≤ l.length) : (mix l r (k * 2)).take (k * 2) ++ [l[k * 2]'(by omega), l[k * 2 + 1]'(by omega)] ++ (mix l r (k * 2)).drop (k * 2 + 2) = mix l r (k * 2 + 2) := by
  have h1 := mix_next (k := k * 2) h (List.getElem?_eq_getElem (show k * 2 < l.length by omega))
  have h2 := mix_next (k := k * 2 + 1) h (List.getElem?_eq_getElem (show k * 2 + 1 < l.length by omega))
  have hl := mix_len (k := k * 2) h
  rw [← h2, ← h1]
  generalize mix l r (k * 2) = M at *
  have a : (M.take (k * 2) ++ [l[k * 2]] ++ M.drop (k * 2 + 1)).take (k * 2 + 1) = M.take (k * 2) ++ [l[k * 2]] := by
    rw [List.take_append_of_le_length (by simp; omega), List.take_of_length_le (by simp; omega)]
  have b : (M.take (k * 2) ++ [l[k * 2]] ++ M.drop (k * 2 + 1)).drop (k * 2 + 1 + 1) = M.drop (k * 2 + 2) := by
    rw [List.drop_append, List.drop_of_length_le (by simp; omega), List.nil_append, List.drop_drop]
    congr 1
    simp
    omega
  rw [a, b]
  simp
end
theorem eqStep_d {a b : Int} : Does Try.prog 76 [.agg [.d (.int a), .d (.int b)], .agg [.d (.int a), .d (.int b)]] [] (.d (.bool true)) [] := by
  (refine spec_of (by kernel_rfl) Try.func76 k_laws_eqStep (fnOk (Nat.le_of_ble_eq_true rfl) ?_); unfold C_laws_eqStep)
  (simp only [Nat.reduceSub, List.length_cons, List.length_nil, Nat.reduceAdd, ch_init1, ch_init2, ch_init3, ch_init4, ch_init5, ch_init6, ch_init7, ch_init8]; try simp only [ch_rep]); (simp only [go_sem, seval, reduceCtorEq, List.replicate])
  (refine FnEnd.mk (Nat.le_of_ble_eq_true rfl) rfl (of_decide_eq_true rfl) ?_ ?_ <;> try simp only [go_sem, seval, reduceCtorEq])
theorem toStep_d {a b : Int} : Does Try.prog 79 [.agg [.d (.int a), .d (.int b)]] [] (.agg [.d (.int a), .d (.int b)]) [] := by
  (refine spec_of (by kernel_rfl) Try.func79 k_laws_toStep (fnOk (Nat.le_of_ble_eq_true rfl) ?_); unfold C_laws_toStep)
  (simp only [Nat.reduceSub, List.length_cons, List.length_nil, Nat.reduceAdd, ch_init1, ch_init2, ch_init3, ch_init4, ch_init5, ch_init6, ch_init7, ch_init8]; try simp only [ch_rep]); (simp only [go_sem, seval, reduceCtorEq, List.replicate])
  (refine FnEnd.mk (Nat.le_of_ble_eq_true rfl) rfl (of_decide_eq_true rfl) ?_ ?_ <;> try simp only [go_sem, seval, reduceCtorEq])
theorem eqStepS_d {n : Nat} {F : List Int} (h : StpSz 1048576 n F) : Does Try.prog 27 [.d (stp n F), .d (stp n F)] [] (.d (.bool true)) [] := by
  have hn := h.n
  have hl := h.l
  (refine spec_of (by kernel_rfl) Try.func27 k_laws_eqStepS (fnOk (Nat.le_of_ble_eq_true rfl) ?_); unfold C_laws_eqStepS)
  (simp only [Nat.reduceSub, List.length_cons, List.length_nil, Nat.reduceAdd, ch_init1, ch_init2, ch_init3, ch_init4, ch_init5, ch_init6, ch_init7, ch_init8]; try simp only [ch_rep]); (simp only [go_sem, seval, reduceCtorEq, List.replicate])
  refine wpN_lp (n) [false, false, false, false, true, false, false, false, false, false, false, true, true, true, true, true, true, true, true, true, true, true, true, true, true, true, true] (fun k => [(5, .d (.int k))]) (fun k => []) (fun _ => by (simp only [go_sem, seval, reduceCtorEq, dropF_ch, dropF_cons, dropF_nil, cut, cond_true, cond_false]); first | done | rfl) (fun _ => by (simp only [go_sem, seval, reduceCtorEq, cut]); first | done | rfl) (Nat.le_of_ble_eq_true rfl) (by first | (simp only [go_sem, seval, reduceCtorEq, dropF_ch, dropF_cons, dropF_nil, cut, cond_true, cond_false, Int.natCast_zero, Int.natCast_add, Int.natCast_one]; done) | rfl | (simp only [go_sem, seval, reduceCtorEq, dropF_ch, dropF_cons, dropF_nil, cut, cond_true, cond_false, Int.natCast_zero, Int.natCast_add, Int.natCast_one]; rfl)) (by first | (simp only [go_sem, seval, reduceCtorEq, dropF_ch, dropF_cons, dropF_nil, cut, cond_true, cond_false, Int.natCast_zero, Int.natCast_add, Int.natCast_one]; done) | rfl | (simp only [go_sem, seval, reduceCtorEq, dropF_ch, dropF_cons, dropF_nil, cut, cond_true, cond_false, Int.natCast_zero, Int.natCast_add, Int.natCast_one]; rfl)) fun k hk => ?_
  unfold L0_laws_eqStepS
  by_cases hlt : k < n
  · have d1 : (k : Int) < n := by omega
    have g := take_cut2 (F := F) (k := k) (by omega)
    simp (disch := omega) only [go_sem, seval, reduceCtorEq, d1, g, dv_two]
    (repeat (refine And.intro (by omega) ?_))
    (refine ti_call (eqStep_d (a := F[k * 2]) (b := F[k * 2 + 1])) ?_ ?_ ?_; (focus (simp only [go_sem, seval, reduceCtorEq]; done)); (first | rfl | (focus (simp only [go_sem]; done))))
    simp (disch := omega) only [go_sem, seval, reduceCtorEq]
    (refine Next.drop [false, false, false, false, true, false, false, false, false, false, false, true, true, true, true, true, true, true, true, true, true, true, true, true, true, true, true] (by omega) (Nat.le_of_ble_eq_true rfl) ?_ ?_ <;> first | (simp only [go_sem, seval, reduceCtorEq, dropF_ch, dropF_cons, dropF_nil, cut, cond_true, cond_false, Int.natCast_zero, Int.natCast_add, Int.natCast_one]; done) | rfl | (simp only [go_sem, seval, reduceCtorEq, dropF_ch, dropF_cons, dropF_nil, cut, cond_true, cond_false, Int.natCast_zero, Int.natCast_add, Int.natCast_one]; rfl) | skip)
  · have d1 : ¬ (k : Int) < n := by omega
    simp (disch := omega) only [go_sem, seval, reduceCtorEq, d1]
    (refine FnEnd.mk (Nat.le_of_ble_eq_true rfl) rfl (of_decide_eq_true rfl) ?_ ?_ <;> try simp only [go_sem, seval, reduceCtorEq])
theorem toStepS_d {n : Nat} {F : List Int} (h : StpSz 1048576 n F) : Does Try.prog 32 [.d (stp n F)] [] (.own 0 0 n) [some ⟨2, true, iv F⟩] := by
  have hn := h.n
  have hl := h.l
  have hrl : (List.replicate (n * 2) (0 : Int)).length = n * 2 := by simp
  have hfl : F.length = (List.replicate (n * 2) (0 : Int)).length := by omega
  (refine spec_of (by kernel_rfl) Try.func32 k_laws_toStepS (fnOk (Nat.le_of_ble_eq_true rfl) ?_); unfold C_laws_toStepS)
  (simp only [Nat.reduceSub, List.length_cons, List.length_nil, Nat.reduceAdd, ch_init1, ch_init2, ch_init3, ch_init4, ch_init5, ch_init6, ch_init7, ch_init8]; try simp only [ch_rep]); (simp only [go_sem, seval, reduceCtorEq, List.replicate])
  simp (disch := omega) only [go_sem, seval, reduceCtorEq, zeros_int2]
  (repeat (refine And.intro (by omega) ?_))
  refine wpN_lp (n) [false, false, false, false, false, false, false, false, true, true, true, true, true, true, true, true, true, true, true, true, true, true, false] (fun k => [(4, .d (.int k))]) (fun k => [(0, iv (mix F (List.replicate (n * 2) 0) (k * 2)))]) (fun _ => by (simp only [go_sem, seval, reduceCtorEq, dropF_ch, dropF_cons, dropF_nil, cut, cond_true, cond_false]); first | done | rfl) (fun _ => by (simp only [go_sem, seval, reduceCtorEq, cut]); first | done | rfl) (Nat.le_of_ble_eq_true rfl) (by first | (simp only [go_sem, seval, reduceCtorEq, dropF_ch, dropF_cons, dropF_nil, cut, cond_true, cond_false, Int.natCast_zero, Int.natCast_add, Int.natCast_one, Nat.zero_mul, mix_zero]; done) | rfl | (simp only [go_sem, seval, reduceCtorEq, dropF_ch, dropF_cons, dropF_nil, cut, cond_true, cond_false, Int.natCast_zero, Int.natCast_add, Int.natCast_one, Nat.zero_mul, mix_zero]; rfl)) (by first | (simp only [go_sem, seval, reduceCtorEq, dropF_ch, dropF_cons, dropF_nil, cut, cond_true, cond_false, Int.natCast_zero, Int.natCast_add, Int.natCast_one, Nat.zero_mul, mix_zero]; done) | rfl | (simp only [go_sem, seval, reduceCtorEq, dropF_ch, dropF_cons, dropF_nil, cut, cond_true, cond_false, Int.natCast_zero, Int.natCast_add, Int.natCast_one, Nat.zero_mul, mix_zero]; rfl)) fun k hk => ?_
  unfold L0_laws_toStepS
  have hml := mix_len (k := k * 2) hfl
  by_cases hlt : k < n
  · have d1 : (k : Int) < n := by omega
    have g := take_cut2 (F := F) (k := k) (by omega)
    have hm := mix_next2 (k := k) hfl (by omega)
    simp (disch := omega) only [go_sem, seval, reduceCtorEq, d1, g, dv_two]
    (repeat (refine And.intro (by omega) ?_))
    (refine ti_call (toStep_d (a := F[k * 2]) (b := F[k * 2 + 1])) ?_ ?_ ?_; (focus (simp only [go_sem, seval, reduceCtorEq]; done)); (first | rfl | (focus (simp only [go_sem]; done))))
    simp (disch := omega) only [go_sem, seval, reduceCtorEq]
    (repeat (refine And.intro (by omega) ?_))
    (refine Next.drop [false, false, false, false, false, false, false, false, true, true, true, true, true, true, true, true, true, true, true, true, true, true, false] (by omega) (Nat.le_of_ble_eq_true rfl) ?_ ?_ <;> first | (simp only [go_sem, seval, reduceCtorEq, dropF_ch, dropF_cons, dropF_nil, cut, cond_true, cond_false, Int.natCast_zero, Int.natCast_add, Int.natCast_one, iv_mid2, hm, next2]; done) | rfl | (simp only [go_sem, seval, reduceCtorEq, dropF_ch, dropF_cons, dropF_nil, cut, cond_true, cond_false, Int.natCast_zero, Int.natCast_add, Int.natCast_one, iv_mid2, hm, next2]; rfl) | skip)
  · have d1 : ¬ (k : Int) < n := by omega
    have hm : mix F (List.replicate (n * 2) 0) (k * 2) = F := mix_full (by omega) (by omega)
    simp (disch := omega) only [go_sem, seval, reduceCtorEq, d1, hm]
    (refine FnEnd.mk (Nat.le_of_ble_eq_true rfl) rfl (of_decide_eq_true rfl) ?_ ?_ <;> try simp only [go_sem, seval, reduceCtorEq])
def szStp (n : Nat) (left : Int) : Int := if left - n < 0 then -1 else left - n
theorem szStepS_d {n : Nat} {F : List Int} {left : Int} (hn : (n : Int) ≤ 9223372036854775807) (hl : 0 ≤ left ∧ left ≤ 1099511627776) : Does Try.prog 30 [.d (stp n F), .d (.int left)] [] (.d (.int (szStp n left))) [] := by
  (refine spec_of (by kernel_rfl) Try.func30 k_laws_szStepS (fnOk (Nat.le_of_ble_eq_true rfl) ?_); unfold C_laws_szStepS)
  (simp only [Nat.reduceSub, List.length_cons, List.length_nil, Nat.reduceAdd, ch_init1, ch_init2, ch_init3, ch_init4, ch_init5, ch_init6, ch_init7, ch_init8]; try simp only [ch_rep]); (simp only [go_sem, seval, reduceCtorEq, List.replicate])
  by_cases b : left - n < 0
  · have e : szStp n left = -1 := if_pos b
    simp (disch := omega) only [go_sem, seval, reduceCtorEq, b, e]
    (refine FnEnd.mk (Nat.le_of_ble_eq_true rfl) rfl (of_decide_eq_true rfl) ?_ ?_ <;> try simp only [go_sem, seval, reduceCtorEq])
  · have e : szStp n left = left - n := if_neg b
    simp (disch := omega) only [go_sem, seval, reduceCtorEq, b, e]
    (refine FnEnd.mk (Nat.le_of_ble_eq_true rfl) rfl (of_decide_eq_true rfl) ?_ ?_ <;> try simp only [go_sem, seval, reduceCtorEq])

/-! ### Plain orders -/
end Go.Proofs.Ytjncdanegoileaa

/-
  Lists and arrays of Bools as cells; arrays of marked labels. No condition.
-/
namespace Go.Proofs.Ytjncdanegoileaa
open Go.RowKit Go.Lift Plain
set_option linter.unusedSimpArgs false
def bv (xs : List Bool) : List AV := xs.map fun x => .d (.bool x)
def dbv (xs : List Bool) : List D := xs.map .bool
section
variable {xs ys : List Bool}
theorem bv_len : (bv xs).length = xs.length := by simp [bv]
theorem dbv_len : (dbv xs).length = xs.length := by simp [dbv]
theorem bv_get (i : Nat) : (bv xs)[i]? = xs[i]?.map fun x => .d (.bool x) := by simp [bv]
theorem dbv_get (i : Nat) : (dbv xs)[i]? = xs[i]?.map .bool := by simp [dbv]
theorem bv_take (n : Nat) : (bv xs).take n = bv (xs.take n) := by simp [bv, List.map_take]
theorem bv_drop (n : Nat) : (bv xs).drop n = bv (xs.drop n) := by simp [bv, List.map_drop]
theorem bv_app : bv xs ++ bv ys = bv (xs ++ ys) := by simp [bv]
theorem bv_mid (x : Bool) : bv xs ++ [.d (.bool x)] ++ bv ys = bv (xs ++ [x] ++ ys) := by simp [bv]
theorem bv_snoc (x : Bool) : bv xs ++ [.d (.bool x)] = bv (xs ++ [x]) := by simp [bv]
theorem dbv_map : (dbv xs).map .d = bv xs := by simp [bv, dbv]
theorem rnL_bv (f : Nat → Option Nat) : rnL f (bv xs) = bv xs := by
  induction xs with
  | nil => rfl
  | cons x l ih => simp only [bv, List.map_cons, rnL, rn] at ih ⊢; rw [ih]
theorem cellsD_bv : cellsD (bv xs) = some (dbv xs) := by
  induction xs with
  | nil => rfl
  | cons x l ih => simp only [bv, dbv, List.map_cons, cellsD, cellD] at ih ⊢; rw [ih]
theorem cellsI_bv : cellsI (bv xs) = some (bv xs) := by
  induction xs with
  | nil => rfl
  | cons x l ih => simp only [bv, List.map_cons, cellsI] at ih ⊢; rw [ih]; rfl
theorem trB_bv : (bv xs).all trB = true := by
  induction xs with
  | nil => rfl
  | cons x l ih => simp only [bv, List.map_cons, List.all_cons] at ih ⊢; rw [ih]; rfl
theorem okC_bv : (bv xs).all okC = true := by
  induction xs with
  | nil => rfl
  | cons x l ih => simp only [bv, List.map_cons, List.all_cons] at ih ⊢; rw [ih]; rfl
theorem flatB_bv : (bv xs).all flatB = true := by
  induction xs with
  | nil => rfl
  | cons x l ih => simp only [bv, List.map_cons, List.all_cons] at ih ⊢; rw [ih]; rfl
theorem flatS_bv : (bv xs).all flatS = true := by
  induction xs with
  | nil => rfl
  | cons x l ih => simp only [bv, List.map_cons, List.all_cons] at ih ⊢; rw [ih]; rfl
theorem scalL_bv : scalL (bv xs) = true := by
  induction xs with
  | nil => rfl
  | cons x l ih => simp only [bv, List.map_cons, scalL] at ih ⊢; rw [ih]; rfl
theorem zeros_bv (n : Nat) (x : Bool) : Go.Lift.zeros n [.d (.bool x)] = bv (List.replicate n x) := by
  unfold Go.Lift.zeros bv
  induction n with
  | zero => rfl
  | succ n ih => rw [List.replicate_succ, List.flatten_cons, ih, List.replicate_succ]; rfl
theorem cvL_bv (k : Nat) : ∀ (xs : List Bool) (j : Nat), cvL k j (bv xs) = bv xs
  | [], _ => rfl
  | x :: l, j => by
    have := cvL_bv k l (j + 1)
    simp only [bv, List.map_cons, cvL, cv] at this ⊢
    rw [this]
theorem expC_bv (s : St) : ∀ (xs : List Bool), expC s (bv xs) = some (bv xs)
  | [] => rfl
  | x :: l => by
    have := expC_bv s l
    simp only [bv, List.map_cons, expC, exp1] at this ⊢
    rw [this]
theorem rwC_bv (s : St) (M : List Nat) : ∀ (xs : List Bool), rwC s M (bv xs) = some (bv xs)
  | [] => rfl
  | x :: l => by
    have := rwC_bv s M l
    simp only [bv, List.map_cons, rwC, rw1, exp1, Option.map_some] at this ⊢
    rw [this]
theorem plainL_bv : ∀ (xs : List Bool), plainL (bv xs) = true
  | [] => rfl
  | x :: l => by
    have := plainL_bv l
    simp only [bv, List.map_cons, plainL, plain] at this ⊢
    rw [this]; rfl
theorem idsL_bv : ∀ (xs : List Bool), idsL (bv xs) = []
  | [] => rfl
  | x :: l => by
    have := idsL_bv l
    simp only [bv, List.map_cons, idsL, idsA] at this ⊢
    rw [this]; rfl
theorem cgL_bv (gv : List Nat) (M : List Nat) : cgL gv M (bv xs) = bv xs := by
  rw [cgL_eq, bv, List.map_map]
  exact List.map_congr_left fun x _ => rfl
theorem bv_nil : bv [] = [] := nr rfl
end
attribute [go_sem] bv_len dbv_len bv_get dbv_get bv_take bv_drop bv_app bv_mid bv_snoc dbv_map rnL_bv cellsD_bv cellsI_bv trB_bv okC_bv flatB_bv flatS_bv scalL_bv zeros_bv cvL_bv expC_bv rwC_bv plainL_bv idsL_bv cgL_bv
/-- The bits of a predicate. -/
def bits (n : Nat) (f : Nat → Bool) : List Bool := (List.range n).map f
theorem bits_len (n : Nat) (f : Nat → Bool) : (bits n f).length = n := by simp [bits]
theorem bits_const (n : Nat) (b : Bool) : List.replicate n b = bits n fun _ => b := by
  refine List.ext_getElem (by simp [bits]) fun i h1 h2 => by simp [bits]
theorem reps_bool (n : Nat) (x : Bool) : reps n (.d (.bool x)) = bv (bits n fun _ => x) := by
  rw [← bits_const]
  unfold reps bv
  simp
attribute [go_sem] reps_bool bits_len
end Go.Proofs.Ytjncdanegoileaa

/-
  Contracts: the first state of an order, whether an order is valid, by the program. No condition.
-/
namespace Go.Proofs.Ytjncdanegoileaa
open Go.RowKit Go.Lift Plain
set_option linter.unusedSimpArgs false
set_option linter.unusedVariables false
set_option maxRecDepth 100000

theorem osB_d100 {T : List Int} {x y z : AV} (h : T.length = 100) : (osB T x y z).drop 100 = [x, y, z] := by
  have h1 : (iv T).length = 100 := by simp [iv_len, h]
  rw [osB, List.drop_left' h1]
theorem osB_fold (T : List Int) (x y z : AV) : iv T ++ [x, y, z] = osB T x y z := nr rfl
theorem osB_q100 {T : List Int} {x y z : AV} (h : T.length = 100) (u : AV) : iv T ++ [u] ++ (osB T x y z).drop 101 = osB T u y z := by rw [← osB_p100 h u, osB_t100 h]
theorem osB_s101 {T : List Int} {x y z : AV} (h : T.length = 100) (u : AV) : (osB T x y z).set 101 u = osB T x u z := by
  have h1 : (iv T ++ [x]).length = 101 := by simp [iv_len, h]
  rw [osB, show iv T ++ [x, y, z] = (iv T ++ [x]) ++ [y, z] by simp, List.set_append_right _ _ (by omega), h1]
  simp [osB]
theorem osInit_nums (ts : List Ten) : (osInit ts).nums = List.range ts.length := by
  unfold Osd.nums
  rw [show (osInit ts).all.length = ts.length by simp [osInit]]
  refine List.filter_eq_self.2 fun i hi => ?_
  have hi : i < ts.length := by simpa using hi
  simp [Osd.alive, osInit, hi]
theorem osInit_lab {ts : List Ten} {i : Nat} (h : i < ts.length) : (osInit ts).lab i = ts[i].labels := by simp [Osd.lab, osInit, h]
theorem startState_d {N : Net} (h : NSz 1048576 N) (hok : netOk N = true) :
    Does Try.prog 75 [netA N] [] (.ptr 0 0) [osR (dimsR N.ts).1 N.os (osInit N.ts)] := by
  have hD := dimsR_len N.ts
  have hnl := h.l
  have hax := netOk_ax hok
  have htD : List.take 100 (dimsR N.ts).1 = (dimsR N.ts).1 := List.take_of_length_le (by omega)
  have hal : (osInit N.ts).all.length = N.ts.length := by simp [osInit]
  (refine spec_ofK (by kernel_rfl) Try.func75 k_impl_startState (fnOk (Nat.le_of_ble_eq_true rfl) ?_); unfold C_impl_startState)
  simp only [osR, lvS]
  (simp only [Nat.reduceSub, List.length_cons, List.length_nil, Nat.reduceAdd, ch_init1, ch_init2, ch_init3, ch_init4, ch_init5, ch_init6, ch_init7, ch_init8]; try simp only [ch_rep]); (simp only [go_sem, seval, reduceCtorEq, List.replicate])
  (refine ti_call (dimsOf_d (ts := N.ts) h.l h.t hax) ?_ ?_ ?_; (focus (simp only [go_sem, seval, reduceCtorEq]; done)); (first | rfl | (focus (simp only [go_sem]; done))))
  generalize hT : (dimsR N.ts).1 = T at *
  have hrl : (repI 100 0).length = 100 := repI_len 100 0
  have hdr : List.drop 100 (repI 100 0) = [] := List.drop_of_length_le (by omega)
  simp (disch := omega) only [go_sem, seval, reduceCtorEq, htD, hdr, hrl, osB_d100, osB_fold, osB_q100, hD]
  refine wpN_lwk (Wk.nilS 2 101 2 _ _ _ rfl (osB_101 hD)) ?_
  simp (disch := omega) only [go_sem, seval, reduceCtorEq, osB_s101]
  have hr0 : lvA (osInit N.ts).lab (List.range 0) = [] := rfl
  refine wpN_lp (N.ts.length) [false, false, false, false, false, false, true, true, false, false, false, false, false, false, false, false, false, false, false, false, false, false, false, false, false, false, true, true, true, true, true, true, true, true, true, true, true, true, true, true, true, true, true, true, true, false] (fun k => [(25, .d (.int k))]) (fun k => [(2, osB T (.d (ints N.os)) (.own 3 0 k) (.d (.int N.ts.length))), (3, lvA (osInit N.ts).lab (List.range k))]) (fun _ => by (simp only [go_sem, seval, reduceCtorEq, dropF_ch, dropF_cons, dropF_nil, cut, cond_true, cond_false]); first | done | rfl) (fun _ => by (simp only [go_sem, seval, reduceCtorEq, cut]); first | done | rfl) (Nat.le_of_ble_eq_true rfl) (by first | (simp only [go_sem, seval, reduceCtorEq, dropF_ch, dropF_cons, dropF_nil, cut, cond_true, cond_false, Int.natCast_zero, Int.natCast_add, Int.natCast_one, hr0]; done) | rfl | (simp only [go_sem, seval, reduceCtorEq, dropF_ch, dropF_cons, dropF_nil, cut, cond_true, cond_false, Int.natCast_zero, Int.natCast_add, Int.natCast_one, hr0]; rfl)) (by first | (simp only [go_sem, seval, reduceCtorEq, dropF_ch, dropF_cons, dropF_nil, cut, cond_true, cond_false, Int.natCast_zero, Int.natCast_add, Int.natCast_one, hr0]; done) | rfl | (simp only [go_sem, seval, reduceCtorEq, dropF_ch, dropF_cons, dropF_nil, cut, cond_true, cond_false, Int.natCast_zero, Int.natCast_add, Int.natCast_one, hr0]; rfl)) fun k hk => ?_
  unfold L0_impl_startState
  by_cases hlt : k < N.ts.length
  · have d1 : (k : Int) < N.ts.length := by omega
    have g3 := tcs_cut (List.getElem?_eq_getElem hlt)
    have hst := h.t N.ts[k] (List.getElem_mem hlt)
    simp (disch := omega) only [go_sem, seval, reduceCtorEq, d1, g3]
    (repeat (refine And.intro (by omega) ?_))
    (refine gi_call (copyInts_f (xs := N.ts[k].labels) hst.l.up.len) ?_ ?_ ?_; (focus (simp only [go_sem, seval, reduceCtorEq]; done)); (first | rfl | (focus (simp only [go_sem]; done))))
    have hrl : (List.range k).length = k := List.length_range
    have hrow : lvA (osInit N.ts).lab (List.range k) ++ [.d (.int k), .d (.sl N.ts[k].labels.length (dv N.ts[k].labels))] = lvA (osInit N.ts).lab (List.range (k + 1)) := by
      rw [List.range_succ, lvA_app]
      simp only [lvA, List.flatMap_cons, List.flatMap_nil, List.append_nil, osInit_lab hlt, ints]
    simp (disch := omega) only [go_sem, seval, reduceCtorEq, hrl]
    (repeat (refine And.intro (by omega) ?_))
    (refine Next.drop [false, false, false, false, false, false, true, true, false, false, false, false, false, false, false, false, false, false, false, false, false, false, false, false, false, false, true, true, true, true, true, true, true, true, true, true, true, true, true, true, true, true, true, true, true, false] (by omega) (Nat.le_of_ble_eq_true rfl) ?_ ?_ <;> first | (simp only [go_sem, seval, reduceCtorEq, dropF_ch, dropF_cons, dropF_nil, cut, cond_true, cond_false, Int.natCast_zero, Int.natCast_add, Int.natCast_one, hrow]; done) | rfl | (simp only [go_sem, seval, reduceCtorEq, dropF_ch, dropF_cons, dropF_nil, cut, cond_true, cond_false, Int.natCast_zero, Int.natCast_add, Int.natCast_one, hrow]; rfl) | skip)
  · have d1 : ¬ (k : Int) < N.ts.length := by omega
    obtain rfl : k = N.ts.length := by omega
    have hln : lvS (osInit N.ts) = .sl N.ts.length (lvD (osInit N.ts).lab (List.range N.ts.length)) := by rw [lvS, osInit_nums, List.length_range]
    have htk : List.take (N.ts.length * 2) (lvD (osInit N.ts).lab (List.range N.ts.length)) = lvD (osInit N.ts).lab (List.range N.ts.length) := List.take_of_length_le (by rw [lvD_len, List.length_range]; exact Nat.le_refl _)
    simp (disch := omega) only [go_sem, seval, reduceCtorEq, d1]
    (refine FnEnd.wk (Wk.freeze 3 (Nat.le_of_ble_eq_true rfl) rfl (cellsD_lvA) rfl rfl) ?_); (simp only [go_sem, seval, reduceCtorEq, htk])
    (refine FnEnd.mk (Nat.le_of_ble_eq_true rfl) rfl (of_decide_eq_true rfl) ?_ ?_ <;> try simp only [go_sem, seval, reduceCtorEq])
    all_goals simp only [osInit_nums, List.length_range, hal]
/-! ### Whether an order is valid -/
theorem stp_cut {n k : Nat} {m : Nat} {F : List Int} (h : StpSz m n F) (hk : k < n) : (F.drop (k * 2)).take 2 = [F.getD (k * 2) 0, F.getD (k * 2 + 1) 0] := by
  have hl := h.l
  rw [take_cut2 (by omega), getD_of (by omega), getD_of (by omega)]
theorem iOrderOk_d {N : Net} {n : Nat} {F : List Int} (h : NSz 1048576 N) (hF : StpSz 1048576 n F) :
    Does Try.prog 44 [netA N, .d (stp n F)] [] (.d (.bool (orderOk N n F))) [] := by
  have hD := dimsR_len N.ts
  have hn := hF.n
  have hFl := hF.l
  have hol := h.o.len
  have hnl := h.l
  (refine spec_of (by kernel_rfl) Try.func44 k_impl_OrderOk (fnOk (Nat.le_of_ble_eq_true rfl) ?_); unfold C_impl_OrderOk)
  (simp only [Nat.reduceSub, List.length_cons, List.length_nil, Nat.reduceAdd, ch_init1, ch_init2, ch_init3, ch_init4, ch_init5, ch_init6, ch_init7, ch_init8]; try simp only [ch_rep]); (simp only [go_sem, seval, reduceCtorEq, List.replicate])
  (refine ti_call (iNetworkOk_d h) ?_ ?_ ?_; (focus (simp only [go_sem, seval, reduceCtorEq]; done)); (first | rfl | (focus (simp only [go_sem]; done))))
  cases h1 : netOk N
  · have e : orderOk N n F = false := by simp only [orderOk, h1, Bool.false_and]
    simp only [go_sem, seval, reduceCtorEq, h1, e]
    (refine FnEnd.mk (Nat.le_of_ble_eq_true rfl) rfl (of_decide_eq_true rfl) ?_ ?_ <;> try simp only [go_sem, seval, reduceCtorEq])
  have h12 := (netOk_iff.1 h1).2.1
  by_cases h2 : n = N.ts.length - 1
  rotate_left
  · have e : orderOk N n F = false := by simp only [orderOk, decide_eq_false h2, Bool.and_false, Bool.false_and]
    have c : ((n : Int) != max ((N.ts.length : Int) - 1) 0) = true := by simp; omega
    simp (disch := omega) only [go_sem, seval, reduceCtorEq, h1, c, e]
    (refine FnEnd.mk (Nat.le_of_ble_eq_true rfl) rfl (of_decide_eq_true rfl) ?_ ?_ <;> try simp only [go_sem, seval, reduceCtorEq])
  have c : ((n : Int) != max ((N.ts.length : Int) - 1) 0) = false := by simp; omega
  simp (disch := omega) only [go_sem, seval, reduceCtorEq, h1, c]
  (refine ti_call (startState_d h h1) ?_ ?_ ?_; (focus (simp only [go_sem, seval, reduceCtorEq, osR, lvS]; done)); (first | rfl | (focus (simp only [go_sem]; done))))
  have hs0 := osInit_ok (netOk_ax h1)
  simp only [go_sem, seval, reduceCtorEq, osR, lvS]
  generalize hT : (dimsR N.ts).1 = T at *
  have hz1 : (ordTo N.os F (osInit N.ts) 0).1 = osInit N.ts := rfl
  refine wpN_lpI (n) [false, false, false, false, true, false, false, true, false, false, false, false, false, false, false, false, false, false, false, false, false, false, false, false, false, false, true, true, true, true, true, true, true, true] (fun k => (ordTo N.os F (osInit N.ts) k).2 = true) (fun k => [(25, .d (.int k))]) (fun k => [(1, osB T (.d (ints N.os)) (.d (lvS (ordTo N.os F (osInit N.ts) k).1)) (.d (.int (ordTo N.os F (osInit N.ts) k).1.all.length)))]) (fun _ => by (simp only [go_sem, seval, reduceCtorEq, dropF_ch, dropF_cons, dropF_nil, cut, cond_true, cond_false]); first | done | rfl) (fun _ => by (simp only [go_sem, seval, reduceCtorEq, cut]); first | done | rfl) (rfl) (Nat.le_of_ble_eq_true rfl) (by first | (simp only [go_sem, seval, reduceCtorEq, dropF_ch, dropF_cons, dropF_nil, cut, cond_true, cond_false, Int.natCast_zero, Int.natCast_add, Int.natCast_one, hz1, lvS]; done) | rfl | (simp only [go_sem, seval, reduceCtorEq, dropF_ch, dropF_cons, dropF_nil, cut, cond_true, cond_false, Int.natCast_zero, Int.natCast_add, Int.natCast_one, hz1, lvS]; rfl)) (by first | (simp only [go_sem, seval, reduceCtorEq, dropF_ch, dropF_cons, dropF_nil, cut, cond_true, cond_false, Int.natCast_zero, Int.natCast_add, Int.natCast_one, hz1, lvS]; done) | rfl | (simp only [go_sem, seval, reduceCtorEq, dropF_ch, dropF_cons, dropF_nil, cut, cond_true, cond_false, Int.natCast_zero, Int.natCast_add, Int.natCast_one, hz1, lvS]; rfl)) fun k hk hi => ?_
  unfold L0_impl_OrderOk
  by_cases hlt : k < n
  · have d1 : (k : Int) < n := by omega
    have g := stp_cut hF hlt
    have hok := ordTo_ok hs0 k hi
    simp (disch := omega) only [go_sem, seval, reduceCtorEq, d1, g, dv_two]
    refine ⟨by omega, ?_⟩
    cases hf : followB (ordTo N.os F (osInit N.ts) k).1 (F.getD (k * 2) 0) (F.getD (k * 2 + 1) 0)
    · have e : orderOk N n F = false := by
        cases e : orderOk N n F
        · rfl
        · have := ordTo_fol (orderOk_iff.1 e).2.2 hlt
          rw [hf] at this; cases this
      (refine ti_callcg [1] [] false (of_decide_eq_true rfl) ?_ _ ?_ (orderState_follow_no (D := T) (os := N.os) hD hok (by omega) (by omega) hf) ?_ ?_; (focus (simp only [go_sem, seval, reduceCtorEq, osR]; done)); (focus (simp only [go_sem, seval, reduceCtorEq, osR]; done)); (focus (first | rfl | (simp only [go_sem, seval, reduceCtorEq, osR]; done))))
      simp only [go_sem, seval, reduceCtorEq, e]
      (refine FnEnd.mk (Nat.le_of_ble_eq_true rfl) rfl (of_decide_eq_true rfl) ?_ ?_ <;> try simp only [go_sem, seval, reduceCtorEq])
    · have hy := ordTo_yes hi hf
      (refine ti_callcg [1] [] false (of_decide_eq_true rfl) ?_ _ ?_ (orderState_follow_yes (D := T) (os := N.os) hD hok (by omega) (by omega) hf) ?_ ?_; (focus (simp only [go_sem, seval, reduceCtorEq, osR]; done)); (focus (simp only [go_sem, seval, reduceCtorEq, osR]; done)); (focus (first | rfl | (simp only [go_sem, seval, reduceCtorEq, osR]; done))))
      have hy1 := congrArg Prod.fst hy
      simp only at hy1
      simp (disch := omega) only [go_sem, seval, reduceCtorEq, osR]
      (refine NextI.drop [false, false, false, false, true, false, false, true, false, false, false, false, false, false, false, false, false, false, false, false, false, false, false, false, false, false, true, true, true, true, true, true, true, true] (by omega) (by rw [hy]) (Nat.le_of_ble_eq_true rfl) ?_ ?_ <;> first | (simp only [go_sem, seval, reduceCtorEq, dropF_ch, dropF_cons, dropF_nil, cut, cond_true, cond_false, Int.natCast_zero, Int.natCast_add, Int.natCast_one, hy1, lvS]; done) | rfl | (simp only [go_sem, seval, reduceCtorEq, dropF_ch, dropF_cons, dropF_nil, cut, cond_true, cond_false, Int.natCast_zero, Int.natCast_add, Int.natCast_one, hy1, lvS]; rfl) | skip)
  · have d1 : ¬ (k : Int) < n := by omega
    obtain rfl : k = n := by omega
    have e : orderOk N k F = true := orderOk_iff.2 ⟨h1, h2, hi⟩
    simp (disch := omega) only [go_sem, seval, reduceCtorEq, d1, e]
    (refine FnEnd.mk (Nat.le_of_ble_eq_true rfl) rfl (of_decide_eq_true rfl) ?_ ?_ <;> try simp only [go_sem, seval, reduceCtorEq])
/-! ### By the reference -/
/-- The numbers that are used, of q in all. -/
def usedS (s : Osd) (q : Nat) : List Bool := s.gone ++ List.replicate (q - s.gone.length) false
theorem usedS_len {s : Osd} {q : Nat} (h : s.gone.length ≤ q) : (usedS s q).length = q := by simp [usedS]; omega
theorem usedS_get {s : Osd} {q i : Nat} (h : i < s.gone.length) : (usedS s q)[i]? = some (s.gone.getD i true) := by
  rw [usedS, List.getElem?_append_left h, List.getElem?_eq_getElem h, List.getD_eq_getElem?_getD, List.getElem?_eq_getElem h]; rfl
theorem usedS_step {s : Osd} {os : List Int} {m q a b : Nat} (h : OsOk s m) (hq : m < q) (ha : a < m) (hb : b < m) : ((usedS s q).set a true).set b true = usedS (s.step os a b) q := by
  have hg := h.gl
  have hn := h.n
  have e : q - s.gone.length = (q - (s.gone.length + 1)) + 1 := by omega
  have hl : (s.step os a b).gone.length = s.gone.length + 1 := by simp [Osd.step]
  rw [usedS, usedS, hl, e, List.replicate_succ, List.set_append_left _ _ (by omega), List.set_append_left _ _ (by simp; omega)]
  simp [Osd.step]
theorem follow_facts {s : Osd} {m : Nat} {a b : Int} (h : OsOk s m) : followB s a b = true ↔ 0 ≤ a ∧ a < b ∧ b < m ∧ s.gone.getD a.toNat true = false ∧ s.gone.getD b.toNat true = false := by
  have hn := h.n
  unfold followB
  rw [decide_eq_true_eq, natI_mem, natI_mem]
  constructor
  · rintro ⟨⟨i, hi, rfl⟩, ⟨j, hj, rfl⟩, hij⟩
    have := nums_mem.1 hi
    have := nums_mem.1 hj
    simp only [Int.toNat_natCast]
    exact ⟨by omega, by omega, by omega, by simp_all, by simp_all⟩
  · rintro ⟨h1, h2, h3, h4, h5⟩
    exact ⟨⟨a.toNat, nums_mem.2 ⟨by omega, h4⟩, by omega⟩, ⟨b.toNat, nums_mem.2 ⟨by omega, h5⟩, by omega⟩, h2⟩
theorem sOrderOk_d {N : Net} {n : Nat} {F : List Int} (h : NSz 1048576 N) (hF : StpSz 1048576 n F) :
    Does Try.prog 77 [netA N, .d (stp n F)] [] (.d (.bool (orderOk N n F))) [] := by
  have hn := hF.n
  have hFl := hF.l
  have hol := h.o.len
  have hnl := h.l
  (refine spec_of (by kernel_rfl) Try.func77 k_spec_OrderOk (fnOk (Nat.le_of_ble_eq_true rfl) ?_); unfold C_spec_OrderOk)
  (simp only [Nat.reduceSub, List.length_cons, List.length_nil, Nat.reduceAdd, ch_init1, ch_init2, ch_init3, ch_init4, ch_init5, ch_init6, ch_init7, ch_init8]; try simp only [ch_rep]); (simp only [go_sem, seval, reduceCtorEq, List.replicate])
  (refine ti_call (sNetworkOk_d h) ?_ ?_ ?_; (focus (simp only [go_sem, seval, reduceCtorEq]; done)); (first | rfl | (focus (simp only [go_sem]; done))))
  cases h1 : netOk N
  · have e : orderOk N n F = false := by simp only [orderOk, h1, Bool.false_and]
    simp (disch := omega) only [go_sem, seval, reduceCtorEq, h1, e]
    (refine FnEnd.mk (Nat.le_of_ble_eq_true rfl) rfl (of_decide_eq_true rfl) ?_ ?_ <;> try simp only [go_sem, seval, reduceCtorEq])
  have h12 := (netOk_iff.1 h1).2.1
  by_cases h2 : n = N.ts.length - 1
  rotate_left
  · have e : orderOk N n F = false := by simp only [orderOk, decide_eq_false h2, Bool.and_false, Bool.false_and]
    have c : ((n : Int) != max 0 ((N.ts.length : Int) - 1)) = true := by simp; omega
    simp (disch := omega) only [go_sem, seval, reduceCtorEq, h1, c, e]
    (refine FnEnd.mk (Nat.le_of_ble_eq_true rfl) rfl (of_decide_eq_true rfl) ?_ ?_ <;> try simp only [go_sem, seval, reduceCtorEq])
  have c : ((n : Int) != max 0 ((N.ts.length : Int) - 1)) = false := by simp; omega
  have c2 : (N.ts.length : Int) + n = ((N.ts.length + n : Nat) : Int) := by push_cast; rfl
  have hs0 := osInit_ok (netOk_ax h1)
  simp (disch := omega) only [go_sem, seval, reduceCtorEq, h1, c, c2]
  (repeat (refine And.intro (by omega) ?_))
  have hz1 : (ordTo N.os F (osInit N.ts) 0).1 = osInit N.ts := rfl
  have hz2 : usedS (osInit N.ts) (N.ts.length + n) = List.replicate (N.ts.length + n) false := by simp [usedS, osInit]
  refine wpN_lpI (n) [false, false, false, false, true, false, false, true, true, false, false, false, false, false, false, false, false, false, false, false, false, false, false, false, false, false, false, false, false, false, false, true, true, true, true, true, true, true, true, true, true, true, true, true, true, true, true, true, true, true, true, true, true, true, true, true, true, true, true, true, true, true, true, true, true, true, true, true, true, true, true, true, true, true, true, true] (fun k => (ordTo N.os F (osInit N.ts) k).2 = true) (fun k => [(30, .d (.int k))]) (fun k => [(1, bv (usedS (ordTo N.os F (osInit N.ts) k).1 (N.ts.length + n)))]) (fun _ => by (simp only [go_sem, seval, reduceCtorEq, dropF_ch, dropF_cons, dropF_nil, cut, cond_true, cond_false]); first | done | rfl) (fun _ => by (simp only [go_sem, seval, reduceCtorEq, cut]); first | done | rfl) (rfl) (Nat.le_of_ble_eq_true rfl) (by first | (simp only [go_sem, seval, reduceCtorEq, dropF_ch, dropF_cons, dropF_nil, cut, cond_true, cond_false, Int.natCast_zero, Int.natCast_add, Int.natCast_one, hz1, hz2]; done) | rfl | (simp only [go_sem, seval, reduceCtorEq, dropF_ch, dropF_cons, dropF_nil, cut, cond_true, cond_false, Int.natCast_zero, Int.natCast_add, Int.natCast_one, hz1, hz2]; rfl)) (by first | (simp only [go_sem, seval, reduceCtorEq, dropF_ch, dropF_cons, dropF_nil, cut, cond_true, cond_false, Int.natCast_zero, Int.natCast_add, Int.natCast_one, hz1, hz2]; done) | rfl | (simp only [go_sem, seval, reduceCtorEq, dropF_ch, dropF_cons, dropF_nil, cut, cond_true, cond_false, Int.natCast_zero, Int.natCast_add, Int.natCast_one, hz1, hz2]; rfl)) fun k hk hi => ?_
  unfold L0_spec_OrderOk
  by_cases hlt : k < n
  · have d1 : (k : Int) < n := by omega
    have g := stp_cut hF hlt
    have hok := ordTo_ok hs0 k hi
    have hgl := hok.gl
    have hal := hok.n
    have hff := follow_facts (a := F.getD (k * 2) 0) (b := F.getD (k * 2 + 1) 0) hok
    have hno : followB (ordTo N.os F (osInit N.ts) k).1 (F.getD (k * 2) 0) (F.getD (k * 2 + 1) 0) = false → orderOk N n F = false := fun hf => by
      cases e : orderOk N n F
      · rfl
      · have := ordTo_fol (orderOk_iff.1 e).2.2 hlt
        rw [hf] at this; cases this
    have hy := ordTo_yes (os := N.os) (s := osInit N.ts) (F := F) (k := k) hi
    have hul := usedS_len (s := (ordTo N.os F (osInit N.ts) k).1) (q := N.ts.length + n) (by omega)
    have hug := fun i => usedS_get (s := (ordTo N.os F (osInit N.ts) k).1) (q := N.ts.length + n) (i := i)
    have hus := fun a b => usedS_step (os := N.os) (q := N.ts.length + n) (a := a) (b := b) hok (by omega)
    generalize F.getD (k * 2) 0 = A at *
    generalize F.getD (k * 2 + 1) 0 = B at *
    generalize (ordTo N.os F (osInit N.ts) k).1 = s at *
    have e5 : (N.ts.length : Int) + k = ((N.ts.length + k : Nat) : Int) := by push_cast; rfl
    simp (disch := omega) only [go_sem, seval, reduceCtorEq, d1, g, dv_two]
    refine ⟨by omega, ?_⟩
    by_cases c1 : A < 0
    · have hf : followB s A B = false := Bool.eq_false_iff.2 fun hf => absurd (hff.1 hf).1 (by omega)
      simp (disch := omega) only [go_sem, seval, reduceCtorEq, c1, hno hf]
      (refine FnEnd.mk (Nat.le_of_ble_eq_true rfl) rfl (of_decide_eq_true rfl) ?_ ?_ <;> try simp only [go_sem, seval, reduceCtorEq])
    by_cases c2 : A ≥ B
    · have hf : followB s A B = false := Bool.eq_false_iff.2 fun hf => absurd (hff.1 hf).2.1 (by omega)
      simp (disch := omega) only [go_sem, seval, reduceCtorEq, c1, c2, hno hf]
      (refine FnEnd.mk (Nat.le_of_ble_eq_true rfl) rfl (of_decide_eq_true rfl) ?_ ?_ <;> try simp only [go_sem, seval, reduceCtorEq])
    by_cases c3 : B ≥ (N.ts.length : Int) + k
    · have hf : followB s A B = false := Bool.eq_false_iff.2 fun hf => absurd (hff.1 hf).2.2.1 (by omega)
      simp (disch := omega) only [go_sem, seval, reduceCtorEq, c1, c2, c3, hno hf]
      (refine FnEnd.mk (Nat.le_of_ble_eq_true rfl) rfl (of_decide_eq_true rfl) ?_ ?_ <;> try simp only [go_sem, seval, reduceCtorEq])
    obtain ⟨a, rfl⟩ : ∃ a : Nat, A = a := ⟨A.toNat, by omega⟩
    obtain ⟨b, rfl⟩ : ∃ b : Nat, B = b := ⟨B.toNat, by omega⟩
    have ga := hug a (by omega)
    have gb := hug b (by omega)
    simp only [Int.toNat_natCast] at hff hy
    have ia : (a : Int) < ((N.ts.length + n : Nat) : Int) := by omega
    have ib : (b : Int) < ((N.ts.length + n : Nat) : Int) := by omega
    cases ca : s.gone.getD a true
    rotate_left
    · have hf : followB s a b = false := Bool.eq_false_iff.2 fun hf => by have := (hff.1 hf).2.2.2.1; rw [ca] at this; cases this
      rw [ca] at ga
      simp (disch := omega) only [go_sem, seval, reduceCtorEq, c1, c2, c3, ga, ia, hno hf]
      (refine FnEnd.mk (Nat.le_of_ble_eq_true rfl) rfl (of_decide_eq_true rfl) ?_ ?_ <;> try simp only [go_sem, seval, reduceCtorEq])
    rw [ca] at ga
    cases cb : s.gone.getD b true
    rotate_left
    · have hf : followB s a b = false := Bool.eq_false_iff.2 fun hf => by have := (hff.1 hf).2.2.2.2; rw [cb] at this; cases this
      rw [cb] at gb
      simp (disch := omega) only [go_sem, seval, reduceCtorEq, c1, c2, c3, ga, ia, gb, ib, hno hf]
      (refine FnEnd.mk (Nat.le_of_ble_eq_true rfl) rfl (of_decide_eq_true rfl) ?_ ?_ <;> try simp only [go_sem, seval, reduceCtorEq])
    rw [cb] at gb
    have hf : followB s a b = true := hff.2 ⟨by omega, by omega, by omega, ca, cb⟩
    have hy1 := congrArg Prod.fst (hy hf)
    simp only at hy1
    have p1 := putG (xs := usedS s (N.ts.length + n)) (i := a) (v := true) (by omega)
    have p2 := putG (xs := (usedS s (N.ts.length + n)).set a true) (i := b) (v := true) (by simp; omega)
    have p3 := hus a b (by omega) (by omega)
    have p4 : ((usedS s (N.ts.length + n)).set a true).length = N.ts.length + n := by simp; omega
    simp (disch := omega) only [go_sem, seval, reduceCtorEq, c1, c2, c3, ga, ia, gb, ib, p1]
    refine ⟨by omega, ?_⟩
    simp (disch := omega) only [go_sem, seval, reduceCtorEq, ib, p2, p3]
    refine ⟨by omega, ?_⟩
    (refine NextI.drop [false, false, false, false, true, false, false, true, true, false, false, false, false, false, false, false, false, false, false, false, false, false, false, false, false, false, false, false, false, false, false, true, true, true, true, true, true, true, true, true, true, true, true, true, true, true, true, true, true, true, true, true, true, true, true, true, true, true, true, true, true, true, true, true, true, true, true, true, true, true, true, true, true, true, true, true] (by omega) (by rw [hy hf]) (Nat.le_of_ble_eq_true rfl) ?_ ?_ <;> first | (simp only [go_sem, seval, reduceCtorEq, dropF_ch, dropF_cons, dropF_nil, cut, cond_true, cond_false, Int.natCast_zero, Int.natCast_add, Int.natCast_one, hy1]; done) | rfl | (simp only [go_sem, seval, reduceCtorEq, dropF_ch, dropF_cons, dropF_nil, cut, cond_true, cond_false, Int.natCast_zero, Int.natCast_add, Int.natCast_one, hy1]; rfl) | skip)
  · have d1 : ¬ (k : Int) < n := by omega
    obtain rfl : k = n := by omega
    have e : orderOk N k F = true := orderOk_iff.2 ⟨h1, h2, hi⟩
    simp (disch := omega) only [go_sem, seval, reduceCtorEq, d1, e]
    (refine FnEnd.mk (Nat.le_of_ble_eq_true rfl) rfl (of_decide_eq_true rfl) ?_ ?_ <;> try simp only [go_sem, seval, reduceCtorEq])
end Go.Proofs.Ytjncdanegoileaa

/-
  The compiled code of functions of the seat (written by mkcode.py). No condition.
-/
namespace Go.Proofs.Ytjncdanegoileaa
open Go.Lift

def L0_impl_cappedProduct : C :=
 .seq (
 .reg [⟨some 11, none, .bin .lss (.t 10) (.t 9)⟩]) (
 .seq (
 .cond (.t 11) (
 .skip) (
 .exit 0)) (
 .seq (
 .block 1 (
 .seq (
 .reg [⟨some 12, none, .idx 1 (.t 8) (.t 10)⟩,
 ⟨some 13, none, .ld (.t 12)⟩,
 ⟨some 7, none, .mv (.t 13)⟩]) (
 .reg [⟨some 14, none, .mv (.t 5)⟩,
 ⟨some 15, none, .mv (.t 7)⟩,
 ⟨some 16, none, .bin .mul (.t 14) (.t 15)⟩,
 ⟨some 17, none, .mv (.t 1)⟩,
 ⟨some 18, none, .mnx false (.t 16) (.t 17)⟩,
 ⟨some 5, none, .mv (.t 18)⟩]))) (
 .reg [⟨some 19, none, .bin .add (.t 10) (.c (.d (.int 1)))⟩,
 ⟨some 10, none, .mv (.t 19)⟩])))

def C_impl_cappedProduct : Fun := ⟨2, 21,
 .seq (
 .reg [⟨some 4, none, .mv (.c (.d (.int 0)))⟩]) (
 .seq (
 .reg [⟨some 5, none, .mv (.c (.d (.int 1)))⟩]) (
 .seq (
 .seq (
 .reg [⟨some 8, none, .mv (.t 0)⟩,
 ⟨some 9, none, .len (.t 8)⟩,
 ⟨some 10, none, .mv (.c (.d (.int 0)))⟩]) (
 .block 0 (
 .loop L0_impl_cappedProduct))) (
 .seq (
 .reg [⟨some 20, none, .mv (.t 5)⟩,
 ⟨some 4, none, .mv (.t 20)⟩]) (
 .ret)))),
 [.t 4]⟩

theorem k_impl_cappedProduct : cFun Try.prog Try.f128 = some C_impl_cappedProduct.erase := by kernel_rfl

def L0_spec_l17Keep : C :=
 .seq (
 .reg [⟨some 20, none, .bin .lss (.t 19) (.t 18)⟩]) (
 .seq (
 .cond (.t 20) (
 .skip) (
 .exit 0)) (
 .seq (
 .block 1 (
 .seq (
 .reg [⟨some 21, none, .mv (.t 19)⟩,
 ⟨some 22, none, .idx 3 (.t 17) (.t 19)⟩,
 ⟨some 23, none, .ldn 3 (.t 22)⟩,
 ⟨some 11, none, .zer [.nil, .nil, .nil]⟩,
 ⟨some 10, none, .mv (.t 21)⟩,
 ⟨none, none, .st 3 (.t 11) (.t 23)⟩]) (
 .seq (
 .reg [⟨some 24, none, .mv (.t 0)⟩,
 ⟨some 25, none, .nck (.t 24)⟩,
 ⟨some 26, none, .fld 1 (.t 25)⟩,
 ⟨some 27, none, .ld (.t 26)⟩,
 ⟨some 28, none, .mv (.t 10)⟩,
 ⟨some 29, none, .idx 1 (.t 27) (.t 28)⟩,
 ⟨some 30, none, .ld (.t 29)⟩,
 ⟨some 31, none, .not (.t 30)⟩,
 ⟨some 32, none, .mv (.t 31)⟩,
 ⟨some 33, some (32, true), .mv (.t 10)⟩,
 ⟨some 34, some (32, true), .mv (.t 2)⟩,
 ⟨some 35, some (32, true), .bin .neq (.t 33) (.t 34)⟩,
 ⟨some 36, none, .pick (.t 32) (.t 35) (.c (.d (.bool false)))⟩,
 ⟨some 37, none, .mv (.t 36)⟩,
 ⟨some 38, some (37, true), .mv (.t 10)⟩,
 ⟨some 39, some (37, true), .mv (.t 3)⟩,
 ⟨some 40, some (37, true), .bin .neq (.t 38) (.t 39)⟩,
 ⟨some 41, none, .pick (.t 37) (.t 40) (.c (.d (.bool false)))⟩]) (
 .cond (.t 41) (
 .reg [⟨some 42, none, .mv (.t 9)⟩,
 ⟨some 43, none, .fld 0 (.t 11)⟩,
 ⟨some 44, none, .ld (.t 43)⟩,
 ⟨some 45, none, .app 1 8 [.d (.int 0)] (.t 42) (.t 44)⟩,
 ⟨some 9, none, .mv (.t 45)⟩]) (
 .skip))))) (
 .reg [⟨some 46, none, .bin .add (.t 19) (.c (.d (.int 1)))⟩,
 ⟨some 19, none, .mv (.t 46)⟩])))

def C_spec_l17Keep : Fun := ⟨4, 48,
 .seq (
 .reg [⟨some 8, none, .mv (.c (.nil))⟩]) (
 .seq (
 .reg [⟨some 12, none, .mv (.t 1)⟩,
 ⟨some 13, none, .call 89 [(.t 12)]⟩,
 ⟨some 9, none, .mv (.t 13)⟩]) (
 .seq (
 .seq (
 .reg [⟨some 14, none, .mv (.t 0)⟩,
 ⟨some 15, none, .nck (.t 14)⟩,
 ⟨some 16, none, .fld 0 (.t 15)⟩,
 ⟨some 17, none, .ld (.t 16)⟩,
 ⟨some 18, none, .len (.t 17)⟩,
 ⟨some 19, none, .mv (.c (.d (.int 0)))⟩]) (
 .block 0 (
 .loop L0_spec_l17Keep))) (
 .seq (
 .reg [⟨some 47, none, .mv (.t 9)⟩,
 ⟨some 8, none, .mv (.t 47)⟩]) (
 .ret)))),
 [.t 8]⟩

theorem k_spec_l17Keep : cFun Try.prog Try.f123 = some C_spec_l17Keep.erase := by kernel_rfl

end Go.Proofs.Ytjncdanegoileaa

/-
  The compiled code of functions of the seat (written by mkcode.py). No condition.
-/
namespace Go.Proofs.Ytjncdanegoileaa
open Go.Lift

def L0_spec_l08Keep : C :=
 .seq (
 .reg [⟨some 14, none, .bin .lss (.t 13) (.t 12)⟩]) (
 .seq (
 .cond (.t 14) (
 .skip) (
 .exit 0)) (
 .seq (
 .block 1 (
 .seq (
 .reg [⟨some 15, none, .mv (.t 13)⟩,
 ⟨some 16, none, .idx 1 (.t 11) (.t 13)⟩,
 ⟨some 17, none, .ld (.t 16)⟩,
 ⟨some 8, none, .mv (.t 15)⟩,
 ⟨some 9, none, .mv (.t 17)⟩]) (
 .seq (
 .reg [⟨some 18, none, .mv (.t 2)⟩,
 ⟨some 19, none, .mv (.t 9)⟩,
 ⟨some 20, none, .call 88 [(.t 18), (.t 19)]⟩,
 ⟨some 21, none, .bin .geq (.t 20) (.c (.d (.int 0)))⟩]) (
 .cond (.t 21) (
 .seq (
 .reg [⟨some 22, none, .fld 0 (.t 7)⟩,
 ⟨some 23, none, .ld (.t 22)⟩,
 ⟨some 24, none, .mv (.t 9)⟩,
 ⟨some 25, none, .mksl 1 1 [.d (.int 0)] [(0, 1, (.t 24))]⟩,
 ⟨some 26, none, .app 1 8 [.d (.int 0)] (.t 23) (.t 25)⟩,
 ⟨some 27, none, .fld 0 (.t 7)⟩,
 ⟨none, none, .st 1 (.t 27) (.t 26)⟩]) (
 .draw [⟨some 28, none, .fld 1 (.t 7)⟩,
 ⟨some 29, none, .ld (.t 28)⟩,
 ⟨some 30, none, .mv (.t 1)⟩,
 ⟨some 31, none, .mv (.t 8)⟩,
 ⟨some 32, none, .idx 1 (.t 30) (.t 31)⟩,
 ⟨some 33, none, .ld (.t 32)⟩,
 ⟨some 34, none, .mksl 1 1 [.d (.int 0)] [(0, 1, (.t 33))]⟩]
 [⟨some 35, none, .app 1 8 [.d (.int 0)] (.t 29) (.t 34)⟩,
 ⟨some 36, none, .fld 1 (.t 7)⟩,
 ⟨none, none, .st 1 (.t 36) (.t 35)⟩])) (
 .skip))))) (
 .reg [⟨some 37, none, .bin .add (.t 13) (.c (.d (.int 1)))⟩,
 ⟨some 13, none, .mv (.t 37)⟩])))

def C_spec_l08Keep : Fun := ⟨3, 39,
 .seq (
 .reg [⟨some 6, none, .zer [.nil, .nil, .nil]⟩]) (
 .seq (
 .reg [⟨some 10, none, .agg [.nil, .nil, .nil] []⟩,
 ⟨some 7, none, .zer [.nil, .nil, .nil]⟩,
 ⟨none, none, .st 3 (.t 7) (.t 10)⟩]) (
 .seq (
 .seq (
 .reg [⟨some 11, none, .mv (.t 0)⟩,
 ⟨some 12, none, .len (.t 11)⟩,
 ⟨some 13, none, .mv (.c (.d (.int 0)))⟩]) (
 .block 0 (
 .loop L0_spec_l08Keep))) (
 .seq (
 .reg [⟨some 38, none, .ldn 3 (.t 7)⟩,
 ⟨none, none, .st 3 (.t 6) (.t 38)⟩]) (
 .ret)))),
 [.cell 6 3]⟩

theorem k_spec_l08Keep : cFun Try.prog Try.f122 = some C_spec_l08Keep.erase := by kernel_rfl

end Go.Proofs.Ytjncdanegoileaa

/-
  The compiled code of functions of the seat (written by mkcode.py). No condition.
-/
namespace Go.Proofs.Ytjncdanegoileaa
open Go.Lift

end Go.Proofs.Ytjncdanegoileaa

/-
  Plain lists: labels without some, axes fused. No condition.
-/
namespace Go.Proofs.Ytjncdanegoileaa
open Go.RowKit Go.Lift Plain
set_option linter.unusedSimpArgs false
set_option linter.unusedVariables false

set_option maxRecDepth 100000
end Go.Proofs.Ytjncdanegoileaa

/-
  The compiled code of functions of the seat (written by mkcode.py). No condition.
-/
namespace Go.Proofs.Ytjncdanegoileaa
open Go.Lift

end Go.Proofs.Ytjncdanegoileaa

/-
  Contracts: slices of tensors. No condition.
-/
namespace Go.Proofs.Ytjncdanegoileaa
open Go.RowKit Go.Lift Plain
set_option linter.unusedSimpArgs false
set_option linter.unusedVariables false
set_option maxRecDepth 100000

/-- The labels but one. -/
def wo (ls : List Int) (x : Int) : List Int := ls.filter (· != x)
theorem wo_erase : ∀ {ls : List Int} {j : Nat} (hj : j < ls.length), ls.Nodup → wo ls ls[j] = ls.eraseIdx j
  | [], j, h, _ => by simp at h
  | l :: ls, 0, _, hn => by
    simp only [List.nodup_cons] at hn
    simp only [wo, List.getElem_cons_zero, List.filter_cons, bne_self_eq_false, Bool.false_eq_true, if_false, List.eraseIdx_cons_zero]
    refine List.filter_eq_self.2 fun y hy => ?_
    simp only [bne_iff_ne, ne_eq]
    exact fun e => hn.1 (e ▸ hy)
  | l :: ls, j + 1, hj, hn => by
    simp only [List.nodup_cons] at hn
    have hj' : j < ls.length := by simpa using hj
    have ih := wo_erase hj' hn.2
    have hne : l ≠ ls[j] := fun e => hn.1 (e ▸ List.getElem_mem hj')
    simp only [wo, List.getElem_cons_succ, List.filter_cons, List.eraseIdx_cons_succ]
    rw [if_pos (by simpa using hne), ← ih]; rfl
theorem eraseIdx_map {α β : Type} (f : α → β) : ∀ (l : List α) (j : Nat), (l.map f).eraseIdx j = (l.eraseIdx j).map f
  | [], _ => by simp
  | x :: l, 0 => rfl
  | x :: l, j + 1 => by simp [eraseIdx_map f l j]
/-- A slice: where it can be taken. -/
structure SliOk (t : Ten) (x : Int) (v wd n j : Nat) : Prop where
  ax : axOk t.labels t.dims
  pn : prodI t.dims = n
  n1 : 1 ≤ n ∧ n ≤ 4096
  w1 : 1 ≤ wd ∧ wd ≤ 6
  dl : t.data.length = n * wd
  jl : j < t.labels.length
  jx : t.labels[j]? = some x
  vd : (v : Int) < t.dims.getD j 0
def sliD (t : Ten) (j : Nat) : List Int := t.dims.eraseIdx j
def sliN (t : Ten) (j : Nat) : Nat := prodN (sliD t j)
namespace SliOk
variable {t : Ten} {x : Int} {v wd n j : Nat}
theorem lx (h : SliOk t x v wd n j) : t.labels[j]'h.jl = x := by have := h.jx; rw [List.getElem?_eq_getElem h.jl] at this; simpa using this
theorem nodup (h : SliOk t x v wd n j) : t.labels.Nodup := axOk_nodup h.ax
theorem W (h : SliOk t x v wd n j) : wo t.labels x = t.labels.eraseIdx j := by have := wo_erase h.jl h.nodup; rwa [h.lx] at this
theorem place (h : SliOk t x v wd n j) : Plain.place t.labels x = j := by have := place_at h.jl (fresh_of h.nodup h.jl); rwa [h.lx] at this
theorem jd (h : SliOk t x v wd n j) : j < t.dims.length := by have := h.jl; have := h.ax.len; omega
theorem len (h : SliOk t x v wd n j) : (wo t.labels x).length = t.labels.length - 1 := by rw [h.W, List.length_eraseIdx_of_lt h.jl]
theorem dims (h : SliOk t x v wd n j) : (wo t.labels x).map (dimAt t) = sliD t j := by
  rw [h.W, ← eraseIdx_map, dims_map h.ax]; rfl
theorem strides (h : SliOk t x v wd n j) : (wo t.labels x).map (strideL t.labels t.dims) = (stridesR t.dims).eraseIdx j := by
  rw [h.W, ← eraseIdx_map, strideL_map _ _ h.ax.len h.nodup]
theorem stride (h : SliOk t x v wd n j) : strideL t.labels t.dims x = (stridesR t.dims).getD j 0 := by
  rw [← strideL_map _ _ h.ax.len h.nodup, getD_of (by simpa using h.jl), List.getElem_map, h.lx]
theorem d1 (h : SliOk t x v wd n j) : ∀ d ∈ t.dims, 1 ≤ d := fun d hd => (h.ax.dim d hd).1
theorem dbd (h : SliOk t x v wd n j) : ∀ d ∈ sliD t j, 1 ≤ d ∧ d ≤ 8 := fun d hd => h.ax.dim d (List.mem_of_mem_eraseIdx hd)
theorem pN (h : SliOk t x v wd n j) : prodI (sliD t j) = sliN t j ∧ 1 ≤ sliN t j := prodN_eq (fun d hd => (h.dbd d hd).1)
theorem off (h : SliOk t x v wd n j) {i : Nat} (hi : i < sliN t j) : (v : Int) * strideL t.labels t.dims x + dotI ((wo t.labels x).map (strideL t.labels t.dims)) (digits (sliD t j) i) = offJ v t.dims j i := by
  rw [h.stride, h.strides]
  exact offJ_dot v t.dims j i h.d1 h.jd hi
theorem offn (h : SliOk t x v wd n j) {i : Nat} (hi : i < sliN t j) : offJ v t.dims j i < n := by
  have h1 := offJ_filter v t.dims j h.d1 h.jd h.vd
  have h2 : offJ v t.dims j i ∈ (List.range (prodN (t.dims.eraseIdx j))).map (offJ v t.dims j) := List.mem_map.2 ⟨i, List.mem_range.2 hi, rfl⟩
  rw [← h1, List.mem_filter] at h2
  have h3 := (prodN_eq h.d1).1
  have h4 : offJ v t.dims j i < prodN t.dims := by simpa using h2.1
  have := h.pn
  omega
theorem cut (h : SliOk t x v wd n j) {i : Nat} (hi : i < sliN t j) : offJ v t.dims j i * wd + wd ≤ t.data.length := by
  rw [h.dl]; exact mul_step (h.offn hi)
end SliOk
end Go.Proofs.Ytjncdanegoileaa

/-
  Contracts: labels fused. No condition.
-/
namespace Go.Proofs.Ytjncdanegoileaa
open Go.RowKit Go.Lift Plain
set_option linter.unusedSimpArgs false
set_option linter.unusedVariables false
set_option maxRecDepth 100000

def fuL (t : Ten) (L : List Int) (x : Int) : List Int := wol t.labels L ++ [x]
def fuD (t : Ten) (L : List Int) : List Int := permD t (wol t.labels L) ++ [prodI (permD t L)]
structure FuOk (r : Rg) (t : Ten) (L : List Int) (x : Int) (wd n : Nat) : Prop where
  w : width r = wd
  p : PermOk t (wol t.labels L ++ L) wd n
  ok : ∀ x, tensorOk r (fuL t L x) (fuD t L) (permR wd t (wol t.labels L ++ L)).data = decide (tsize (fuL t L x) (fuD t L) ≠ -1)
  pl : prodI (permD t L) ≤ 4096 ∧ 1 ≤ prodI (permD t L)
  dl : ∀ d ∈ permD t L, 1 ≤ d ∧ d ≤ 8
  len : (wol t.labels L).length ≤ 12 ∧ L.length ≤ 12
  dle : ((permR wd t (wol t.labels L ++ L)).data.length) ≤ 24576
end Go.Proofs.Ytjncdanegoileaa

/-
  Plain lists: sums of elements, tensors joined element by element. No condition.
-/
namespace Go.Proofs.Ytjncdanegoileaa
open Go.RowKit Go.Lift Plain
set_option linter.unusedSimpArgs false
set_option linter.unusedVariables false

def add1 (r : Rg) (a b : Int) : Int :=
  if r.k = 1 ∨ r.k = 5 then max a b else if r.k = 3 then min (a + b) r.p else if r.k = 4 then min a b else if r.k = 6 then orI a b else (a + b).tmod r.p
def addE (r : Rg) (x y : List Int) : List Int := List.zipWith (add1 r) x y
theorem addE_len {r : Rg} {x y : List Int} {n : Nat} (h : x.length = n) (h' : y.length = n) : (addE r x y).length = n := by simp [addE, h, h']
/-! ### Joined element by element -/
def cutE (x : List Int) (wd k : Nat) : List Int := (x.drop (k * wd)).take wd
section
variable {f : List Int → List Int → List Int} {x y z : List Int} {wd n k : Nat}
theorem cutE_len (h : x.length = n * wd) (hk : k < n) : (cutE x wd k).length = wd := by
  have := mul_step (wd := wd) hk
  unfold cutE
  rw [List.length_take, List.length_drop]
  omega
end

/-! ### Aligned -/
/-- b, with its axes in the order of a's. -/
def alT (r : Rg) (a b : Ten) : Ten := permR (width r).toNat b a.labels
structure AlOk (r : Rg) (a b : Ten) (wd n : Nat) : Prop where
  ring : ringOk r = true
  w : width r = wd
  wb : 1 ≤ wd ∧ wd ≤ 6
  pa : prodI a.dims = n
  n1 : 1 ≤ n ∧ n ≤ 4096
  ax : axOk a.labels a.dims
  la : a.data.length = n * wd
  lb : (alT r a b).data.length = n * wd
  fa : fits r a.data
  fb : fits r (alT r a b).data
  dims : permD b a.labels = a.dims
theorem fits_cutE {r : Rg} {x : List Int} (h : fits r x) (wd k : Nat) : fits r (cutE x wd k) := fits_cut h (k * wd) wd
namespace AlOk
variable {r : Rg} {a b : Ten} {wd n : Nat}
theorem add (h : AlOk r a b wd n) : ∀ k, k < n → (addE r (cutE a.data wd k) (cutE (alT r a b).data wd k)).length = wd := fun k hk => addE_len (cutE_len h.la hk) (cutE_len h.lb hk)
theorem mul (h : AlOk r a b wd n) : ∀ k, k < n → (mulE r (cutE a.data wd k) (cutE (alT r a b).data wd k)).length = wd := fun k hk => (mulE_facts h.ring h.w (fits_cutE h.fa wd k) (fits_cutE h.fb wd k) (cutE_len h.la hk) (cutE_len h.lb hk)).1
end AlOk
end Go.Proofs.Ytjncdanegoileaa

/-
  Contracts: sums of elements, tensors aligned and joined. No condition.
-/
namespace Go.Proofs.Ytjncdanegoileaa
open Go.RowKit Go.Lift Plain
set_option linter.unusedSimpArgs false
set_option linter.unusedVariables false
set_option maxRecDepth 100000

/-! ### Sums -/
/-! ### Aligned -/
/-! ### Joined element by element -/
end Go.Proofs.Ytjncdanegoileaa

/-
  Plain lists: the contraction of two tensors. No condition.
-/
namespace Go.Proofs.Ytjncdanegoileaa
open Plain
set_option linter.unusedSimpArgs false
set_option linter.unusedVariables false

/-! ### Products and sums fit the ring -/
/-! ### A tensor's axes among a list of labels -/
structure InOk (ls ds L D : List Int) (n : Nat) : Prop where
  ax : axOk ls ds
  pn : prodI ds = n
  n1 : 1 ≤ n ∧ n ≤ 4096
  nodup : L.Nodup
  sup : ∀ x ∈ ls, x ∈ L
  dl : D.length = L.length
  dbd : ∀ d ∈ D, 1 ≤ d ∧ d ≤ 8
  same : ∀ q (h : q < L.length), L[q] ∈ ls → D.getD q 0 = dimAt ⟨ls, ds, []⟩ L[q]
def inOff (ls ds L D : List Int) (i : Nat) : Nat := (dotI (L.map (strideL ls ds)) (digits D i)).toNat
namespace InOk
variable {ls ds L D : List Int} {n : Nat}
theorem idx (h : InOk ls ds L D n) (i : Nat) : idxOk ds (ls.map (atL L (digits D i))) := by
  have ha : axOk (⟨ls, ds, []⟩ : Ten).labels (⟨ls, ds, []⟩ : Ten).dims := h.ax
  refine ⟨by simp [h.ax.len], fun k hk => ?_⟩
  have hk' : k < ls.length := by have := h.ax.len; omega
  have hm := h.sup ls[k] (List.getElem_mem hk')
  obtain ⟨q, h1, h2, h3, h4⟩ := atL_mem (xs := digits D i) hm (by simp [digits_len, h.dl])
  have h5 := digits_bd D i (fun d hd => (h.dbd d hd).1) q (by rw [h.dl]; exact h1)
  have h7 : L[q] = ls[k] := by rw [List.getElem?_eq_getElem h1] at h3; simpa using h3
  have h6 : D.getD q 0 = ds.getD k 0 := by
    rw [h.same q h1 (by rw [h7]; exact List.getElem_mem hk'), getD_of hk, h7]
    exact dimAt_at (t := ⟨ls, ds, []⟩) ha hk' hk
  unfold idxAt
  have h8 : (ls.map (atL L (digits D i))).getD k 0 = atL L (digits D i) ls[k] := by rw [getD_of (by simpa using hk')]; simp
  rw [h8, h4, ← h6]
  exact h5
theorem off (h : InOk ls ds L D n) (i : Nat) : dotI (L.map (strideL ls ds)) (digits D i) = inOff ls ds L D i ∧ inOff ls ds L D i < n := by
  have h1 := off_labels h.ax.len (axOk_nodup h.ax) h.nodup h.sup (xs := digits D i) (by simp [digits_len, h.dl])
  have h2 := offs_bd _ _ _ h.ax (h.idx i)
  have h3 := h.pn
  unfold inOff
  rw [h1]
  omega
theorem cut (h : InOk ls ds L D n) {data : List Int} {wd : Nat} (hl : data.length = n * wd) (i : Nat) : inOff ls ds L D i * wd + wd ≤ data.length := by
  rw [hl]; exact mul_step (h.off i).2
end InOk

/-! ### The contraction -/
/-- The dimension that stands beside a label. -/
def dAt (L D : List Int) (x : Int) : Int := D.getD (place L x).toNat 0
theorem dAt_at {L D : List Int} {k : Nat} (hn : L.Nodup) (h : k < L.length) : dAt L D L[k] = D.getD k 0 := by
  rw [dAt, place_at h (fresh_of hn h)]; rfl
def conL (a b : Ten) : List Int := joinL a.labels b.labels
def conK (a b : Ten) (keep : List Int) : List Int := (conL a b).filter (has keep)
def conD (a b : Ten) (keep : List Int) : List Int := (conK a b keep).map (dAt (conL a b) (joinD a b))
def conE (r : Rg) (wd : Nat) (a b : Ten) (i : Nat) : List Int := mulE r (cutE a.data wd (inOff a.labels a.dims (conL a b) (joinD a b) i)) (cutE b.data wd (inOff b.labels b.dims (conL a b) (joinD a b) i))
/-- What is known of two tensors that are contracted. -/
structure ConOk (r : Rg) (a b : Ten) (keep : List Int) (wd na nb n N : Nat) : Prop where
  ring : ringOk r = true
  w : width r = wd
  wb : 1 ≤ wd ∧ wd ≤ 6
  ja : joinOk a b = true
  la : a.data.length = na * wd
  lb : b.data.length = nb * wd
  fa : fits r a.data
  fb : fits r b.data
  ia : InOk a.labels a.dims (conL a b) (joinD a b) na
  ib : InOk b.labels b.dims (conL a b) (joinD a b) nb
  io : InOk (conK a b keep) (conD a b keep) (conL a b) (joinD a b) n
  pN : prodI (joinD a b) = N
  N1 : 1 ≤ N ∧ N ≤ 65536
section
variable {r : Rg} {a b : Ten} {keep : List Int} {wd na nb n N : Nat}
theorem ConOk.ca (h : ConOk r a b keep wd na nb n N) (i : Nat) : (cutE a.data wd (inOff a.labels a.dims (conL a b) (joinD a b) i)).length = wd := cutE_len h.la (h.ia.off i).2
theorem ConOk.cb (h : ConOk r a b keep wd na nb n N) (i : Nat) : (cutE b.data wd (inOff b.labels b.dims (conL a b) (joinD a b) i)).length = wd := cutE_len h.lb (h.ib.off i).2
theorem ConOk.el (h : ConOk r a b keep wd na nb n N) (i : Nat) : (conE r wd a b i).length = wd := (mulE_facts h.ring h.w (fits_cutE h.fa wd _) (fits_cutE h.fb wd _) (h.ca i) (h.cb i)).1
end
end Go.Proofs.Ytjncdanegoileaa

/-
  Contracts: what the contraction of two tensors calls. No condition.
-/
namespace Go.Proofs.Ytjncdanegoileaa
open Go.RowKit Go.Lift Plain
set_option linter.unusedSimpArgs false
set_option linter.unusedVariables false
set_option maxRecDepth 100000

/-! ### Labels that are kept -/
theorem l08Keep_d {ls ds keep : List Int} (hn : ls.Nodup) (h : ls.length ≤ 1048576) (hl : ls.length = ds.length) (hk : keep.length ≤ 1073741824) : Does Try.prog 122 [.d (ints ls), .d (ints ds), .d (ints keep)] [] (.agg [.own 0 0 (ls.filter (has keep)).length, .own 1 0 (ls.filter (has keep)).length, .nil]) [some ⟨1, true, iv (ls.filter (has keep))⟩, some ⟨1, true, iv ((ls.filter (has keep)).map (dAt ls ds))⟩] := by
  (refine spec_of (by kernel_rfl) Try.func122 k_spec_l08Keep (fnOk (Nat.le_of_ble_eq_true rfl) ?_); unfold C_spec_l08Keep)
  (simp only [Nat.reduceSub, List.length_cons, List.length_nil, Nat.reduceAdd, ch_init1, ch_init2, ch_init3, ch_init4, ch_init5, ch_init6, ch_init7, ch_init8]; try simp only [ch_rep]); (simp only [go_sem, seval, reduceCtorEq, List.replicate])
  (refine wpN_lwk (Wk.nilS 1 0 1 _ _ _ rfl rfl) ?_; simp only [go_sem, seval, reduceCtorEq])
  (refine wpN_lwk (Wk.nilS 1 1 1 _ _ _ rfl rfl) ?_; simp only [go_sem, seval, reduceCtorEq])
  refine wpN_lp (ls.length) [false, false, false, false, false, false, false, false, true, true, false, false, false, false, true, true, true, true, true, true, true, true, true, true, true, true, true, true, true, true, true, true, true, true, true, true, true, true, false] (fun k => [(13, .d (.int k))]) (fun k => [(1, [.own 2 0 ((ls.take k).filter (has keep)).length, .own 3 0 ((ls.take k).filter (has keep)).length, .nil]), (2, iv ((ls.take k).filter (has keep))), (3, iv (((ls.take k).filter (has keep)).map (dAt ls ds)))]) (fun _ => by (simp only [go_sem, seval, reduceCtorEq, dropF_ch, dropF_cons, dropF_nil, cut, cond_true, cond_false]); first | done | rfl) (fun _ => by (simp only [go_sem, seval, reduceCtorEq, cut]); first | done | rfl) (Nat.le_of_ble_eq_true rfl) (by first | (simp only [go_sem, seval, reduceCtorEq, dropF_ch, dropF_cons, dropF_nil, cut, cond_true, cond_false, Int.natCast_zero, Int.natCast_add, Int.natCast_one, List.take_zero, List.filter_nil, List.map_nil, iv_nil]; done) | rfl | (simp only [go_sem, seval, reduceCtorEq, dropF_ch, dropF_cons, dropF_nil, cut, cond_true, cond_false, Int.natCast_zero, Int.natCast_add, Int.natCast_one, List.take_zero, List.filter_nil, List.map_nil, iv_nil]; rfl)) (by first | (simp only [go_sem, seval, reduceCtorEq, dropF_ch, dropF_cons, dropF_nil, cut, cond_true, cond_false, Int.natCast_zero, Int.natCast_add, Int.natCast_one, List.take_zero, List.filter_nil, List.map_nil, iv_nil]; done) | rfl | (simp only [go_sem, seval, reduceCtorEq, dropF_ch, dropF_cons, dropF_nil, cut, cond_true, cond_false, Int.natCast_zero, Int.natCast_add, Int.natCast_one, List.take_zero, List.filter_nil, List.map_nil, iv_nil]; rfl)) fun k hk => ?_
  unfold L0_spec_l08Keep
  have hfl := filter_len ls k (has keep)
  have hkl : (((ls.take k).filter (has keep)).map (dAt ls ds)).length = ((ls.take k).filter (has keep)).length := List.length_map ..
  by_cases hlt : k < ls.length
  · have d1 : (k : Int) < ls.length := by omega
    have d2 : (k : Int) < ds.length := by omega
    have g : ls[k]? = some ls[k] := List.getElem?_eq_getElem hlt
    have g2 : ds[k]? = some (dAt ls ds ls[k]) := by rw [dAt_at hn hlt, getD_of (by omega)]; exact List.getElem?_eq_getElem (by omega)
    simp (disch := omega) only [go_sem, seval, reduceCtorEq, d1, g]
    (refine ti_call (l05Find_d (xs := keep) (x := ls[k]) (by omega)) ?_ ?_ ?_; (focus (simp only [go_sem, seval, reduceCtorEq]; done)); (first | rfl | (focus (simp only [go_sem]; done))))
    by_cases hm : ls[k] ∈ keep
    · have hh : has keep ls[k] = true := has_true.2 hm
      have c : place keep ls[k] ≥ 0 := by
        have h0 : ¬ place keep ls[k] < 0 := fun e => place_neg.1 e hm
        omega
      have e := filter_yes (p := has keep) hlt hh
      simp (disch := omega) only [go_sem, seval, reduceCtorEq, c, d2, g2, hkl]
      (repeat (refine And.intro (by omega) ?_))
      (refine Next.drop [false, false, false, false, false, false, false, false, true, true, false, false, false, false, true, true, true, true, true, true, true, true, true, true, true, true, true, true, true, true, true, true, true, true, true, true, true, true, false] (by omega) (Nat.le_of_ble_eq_true rfl) ?_ ?_ <;> first | (simp only [go_sem, seval, reduceCtorEq, dropF_ch, dropF_cons, dropF_nil, cut, cond_true, cond_false, Int.natCast_zero, Int.natCast_add, Int.natCast_one, e, List.length_append, List.map_append, List.map_cons, List.map_nil]; done) | rfl | (simp only [go_sem, seval, reduceCtorEq, dropF_ch, dropF_cons, dropF_nil, cut, cond_true, cond_false, Int.natCast_zero, Int.natCast_add, Int.natCast_one, e, List.length_append, List.map_append, List.map_cons, List.map_nil]; rfl) | skip)
    · have hh : has keep ls[k] = false := has_false.2 hm
      have c : ¬ place keep ls[k] ≥ 0 := by have := place_neg.2 hm; omega
      have e := filter_no (p := has keep) hlt hh
      simp (disch := omega) only [go_sem, seval, reduceCtorEq, c]
      (refine Next.drop [false, false, false, false, false, false, false, false, true, true, false, false, false, false, true, true, true, true, true, true, true, true, true, true, true, true, true, true, true, true, true, true, true, true, true, true, true, true, false] (by omega) (Nat.le_of_ble_eq_true rfl) ?_ ?_ <;> first | (simp only [go_sem, seval, reduceCtorEq, dropF_ch, dropF_cons, dropF_nil, cut, cond_true, cond_false, Int.natCast_zero, Int.natCast_add, Int.natCast_one, e]; done) | rfl | (simp only [go_sem, seval, reduceCtorEq, dropF_ch, dropF_cons, dropF_nil, cut, cond_true, cond_false, Int.natCast_zero, Int.natCast_add, Int.natCast_one, e]; rfl) | skip)
  · have d1 : ¬ (k : Int) < ls.length := by omega
    obtain rfl : k = ls.length := by omega
    simp (disch := omega) only [go_sem, seval, reduceCtorEq, d1, List.take_length]
    (refine FnEnd.mk (Nat.le_of_ble_eq_true rfl) rfl (of_decide_eq_true rfl) ?_ ?_ <;> try simp only [go_sem, seval, reduceCtorEq])
/-! ### Tensors of one value -/
/-! ### Strides, by the reference -/
theorem map_set {L : List Int} {f : Int → Int} {k : Nat} {v : Int} (hn : L.Nodup) (hk : k < L.length) : (L.map f).set k v = L.map fun x => if x = L[k] then v else f x := by
  refine List.ext_getElem (by simp) fun i h1 h2 => ?_
  have hi : i < L.length := by simpa using h2
  rw [List.getElem_set, List.getElem_map, List.getElem_map]
  by_cases e : k = i
  · subst e; simp
  · rw [if_neg e, if_neg (fun e2 => e (nodup_at hn hk hi e2.symm))]
end Go.Proofs.Ytjncdanegoileaa

/-
  Contracts: the state of an order, by the reference. No condition.
-/
namespace Go.Proofs.Ytjncdanegoileaa
open Go.RowKit Go.Lift Plain
set_option linter.unusedSimpArgs false
set_option linter.unusedVariables false
set_option maxRecDepth 100000

/-! ### Shapes: labels and their dimensions -/
def shT (T : List Int) (l : List Int) : Ten := ⟨l, l.map (atT T), []⟩
def shA (T : List Int) (L : List (List Int)) : List AV := L.flatMap fun l => [.d (ints l), .d (ints (l.map (atT T))), .nil]
def shD (T : List Int) (L : List (List Int)) : List D := tcs (L.map (shT T))
section
variable {T : List Int} {L : List (List Int)} {k : Nat}
theorem shA_len : (shA T L).length = L.length * 3 := by
  induction L with
  | nil => rfl
  | cons x l ih => rw [shA, List.flatMap_cons, List.length_append, ← shA, ih]; simp; omega
theorem shD_len : (shD T L).length = L.length * 3 := by rw [shD, tcs_len, List.length_map]
theorem shA_drop : ∀ {L : List (List Int)} {k : Nat} (h : k < L.length), (shA T L).drop (k * 3) = .d (ints L[k]) :: .d (ints (L[k].map (atT T))) :: .nil :: shA T (L.drop (k + 1))
  | x :: l, 0, _ => by simp [shA]
  | x :: l, k + 1, h => by
    have := shA_drop (L := l) (k := k) (by simpa using h)
    rw [shA, List.flatMap_cons, ← shA, show (k + 1) * 3 = 3 + k * 3 by omega, ← List.drop_drop]
    simpa using this
theorem shA_cut (h : k < L.length) : ((shA T L).drop (k * 3)).take 3 = [.d (ints L[k]), .d (ints (L[k].map (atT T))), .nil] := by rw [shA_drop h]; rfl
theorem shD_cut (h : k < L.length) : ((shD T L).drop (k * 3)).take 3 = [ints L[k], ints (L[k].map (atT T)), .sl 0 []] := by
  rw [shD, tcs_cut (t := shT T L[k]) (by simp [h])]; rfl
theorem shA_snoc (l : List Int) : shA T L ++ [.d (.sl l.length (dv l)), .d (.sl (l.map (atT T)).length (dv (l.map (atT T)))), .nil] = shA T (L ++ [l]) := by simp [shA, ints]
theorem cellsD_shA : cellsD (shA T L) = some (shD T L) := by
  induction L with
  | nil => rfl
  | cons x l ih => simp only [shA, shD, List.flatMap_cons, List.map_cons, tcs, List.cons_append, List.nil_append, cellsD, cellD] at ih ⊢; rw [ih]; rfl
theorem rnL_shA (ρ : Nat → Option Nat) : rnL ρ (shA T L) = shA T L := by
  induction L with
  | nil => rfl
  | cons x l ih => simp only [shA, List.flatMap_cons, List.cons_append, List.nil_append, rnL, rn] at ih ⊢; rw [ih]
theorem cgL_shA (gv M : List Nat) : cgL gv M (shA T L) = shA T L := by
  induction L with
  | nil => rfl
  | cons x l ih => simp only [shA, List.flatMap_cons, List.cons_append, List.nil_append, cgL, cgA] at ih ⊢; rw [ih]
theorem mapL_shA (k e : Nat) (ls : List D) : mapL (fzG k e ls) (shA T L) = shA T L := by
  induction L with
  | nil => rfl
  | cons x l ih => simp only [shA, List.flatMap_cons, List.cons_append, List.nil_append, mapL, mapA] at ih ⊢; rw [ih]; rfl
theorem mapL_bv (k e : Nat) (ls : List D) (xs : List Bool) : mapL (fzG k e ls) (bv xs) = bv xs := by
  rw [mapL_eq, bv, List.map_map]
  exact List.map_congr_left fun x _ => rfl
end
attribute [go_sem] shA_len shD_len rnL_shA cgL_shA mapL_shA cellsD_shA shA_snoc mapL_bv
theorem l08Join_t {T A B : List Int} (ha : A.Nodup) (la : A.length ≤ 100) (hb : B.Nodup) (lb : B.length ≤ 100) :
    Does Try.prog 121 [.agg [.d (ints A), .d (ints (A.map (atT T))), .d (.sl 0 [])], .agg [.d (ints B), .d (ints (B.map (atT T))), .d (.sl 0 [])]] []
      (.tup [.own 0 0 (joinL A B).length, .own 1 0 (joinL A B).length, .d (.bool true)]) [some ⟨1, true, iv (joinL A B)⟩, some ⟨1, true, iv ((joinL A B).map (atT T))⟩] := by
  have lA : (A.map (atT T)).length = A.length := List.length_map ..
  have lB : (B.map (atT T)).length = B.length := List.length_map ..
  (refine spec_of (by kernel_rfl) Try.func121 k_spec_l08Join (fnOk (Nat.le_of_ble_eq_true rfl) ?_); unfold C_spec_l08Join)
  (simp only [Nat.reduceSub, List.length_cons, List.length_nil, Nat.reduceAdd, ch_init1, ch_init2, ch_init3, ch_init4, ch_init5, ch_init6, ch_init7, ch_init8]; try simp only [ch_rep]); (simp only [go_sem, seval, reduceCtorEq, List.replicate])
  (refine ti_call (l05Ints_d (xs := A) (by omega)) ?_ ?_ ?_; (focus (simp only [go_sem, seval, reduceCtorEq]; done)); (first | rfl | (focus (simp only [go_sem]; done))))
  simp only [go_sem, seval, reduceCtorEq]
  (refine ti_call (l05Ints_d (xs := A.map (atT T)) (by omega)) ?_ ?_ ?_; (focus (simp only [go_sem, seval, reduceCtorEq]; done)); (first | rfl | (focus (simp only [go_sem]; done))))
  simp only [go_sem, seval, reduceCtorEq, lA, lB]
  refine wpN_lp (B.length) [false, false, false, false, true, true, true, false, false, true, true, true, false, false, true, false, false, true, false, false, false, false, true, true, true, true, true, true, true, true, true, true, true, true, true, true, true, true, true, true, true, true, true, true, true, true, true, true, true, true, true, true, true, true, true, true, true, true, false, false] (fun k => [(21, .d (.int k)), (7, .own 2 0 (joinLT A B k).length), (8, .own 3 0 (joinLT A B k).length)]) (fun k => [(2, iv (joinLT A B k)), (3, iv ((joinLT A B k).map (atT T)))]) (fun _ => by (simp only [go_sem, seval, reduceCtorEq, dropF_ch, dropF_cons, dropF_nil, cut, cond_true, cond_false]); first | done | rfl) (fun _ => by (simp only [go_sem, seval, reduceCtorEq, cut]); first | done | rfl) (Nat.le_of_ble_eq_true rfl) (by first | (simp only [go_sem, seval, reduceCtorEq, dropF_ch, dropF_cons, dropF_nil, cut, cond_true, cond_false, Int.natCast_zero, Int.natCast_add, Int.natCast_one, joinLT_zero]; done) | rfl | (simp only [go_sem, seval, reduceCtorEq, dropF_ch, dropF_cons, dropF_nil, cut, cond_true, cond_false, Int.natCast_zero, Int.natCast_add, Int.natCast_one, joinLT_zero]; rfl)) (by first | (simp only [go_sem, seval, reduceCtorEq, dropF_ch, dropF_cons, dropF_nil, cut, cond_true, cond_false, Int.natCast_zero, Int.natCast_add, Int.natCast_one, joinLT_zero]; done) | rfl | (simp only [go_sem, seval, reduceCtorEq, dropF_ch, dropF_cons, dropF_nil, cut, cond_true, cond_false, Int.natCast_zero, Int.natCast_add, Int.natCast_one, joinLT_zero]; rfl)) fun k hk => ?_
  unfold L0_spec_l08Join
  by_cases hlt : k < B.length
  · have h1 : (k : Int) < B.length := by omega
    have hx : B[k]? = some B[k] := List.getElem?_eq_getElem hlt
    have hf := fresh_of hb hlt
    have hdx : (B.map (atT T))[k]? = some (atT T B[k]) := by simp [hlt]
    have n1 := joinLT_len A B k
    have n2 : ((joinLT A B k).map (atT T)).length = (joinLT A B k).length := List.length_map ..
    simp (disch := omega) only [go_sem, seval, reduceCtorEq, h1, hx]
    (refine ti_call (l05Find_d (xs := joinLT A B k) (x := B[k]) (by omega)) ?_ ?_ ?_; (focus (simp only [go_sem, seval, reduceCtorEq]; done)); (first | rfl | (focus (simp only [go_sem]; done))))
    by_cases hma : B[k] ∈ A
    · obtain ⟨i, hi, hp, hi2, _⟩ := place_mem (xs := joinLT A B k) (x := B[k]) (by rw [joinLT]; exact List.mem_append_left _ hma)
      have c1 : (i : Int) ≥ 0 := by omega
      have c0 : ¬ (i : Int) < 0 := by omega
      have c2 : (i : Int) < (joinLT A B k).length := by omega
      have hi5 : ((joinLT A B k).map (atT T))[i]? = some (atT T B[k]) := by rw [List.getElem?_map, List.getElem?_eq_getElem hi, hi2]; rfl
      have he : (atT T B[k] != atT T B[k]) = false := by simp
      simp (disch := omega) only [go_sem, seval, reduceCtorEq, hp, c0, c1, c2, ← List.getElem?_map, hi5, h1, hdx, he]
      (refine Next.drop [false, false, false, false, true, true, true, false, false, true, true, true, false, false, true, false, false, true, false, false, false, false, true, true, true, true, true, true, true, true, true, true, true, true, true, true, true, true, true, true, true, true, true, true, true, true, true, true, true, true, true, true, true, true, true, true, true, true, false, false] (by omega) (Nat.le_of_ble_eq_true rfl) ?_ ?_ <;> first | (simp only [go_sem, seval, reduceCtorEq, dropF_ch, dropF_cons, dropF_nil, cut, cond_true, cond_false, Int.natCast_zero, Int.natCast_add, Int.natCast_one, joinLT_yes hlt hma]; done) | rfl | (simp only [go_sem, seval, reduceCtorEq, dropF_ch, dropF_cons, dropF_nil, cut, cond_true, cond_false, Int.natCast_zero, Int.natCast_add, Int.natCast_one, joinLT_yes hlt hma]; rfl) | skip)
    · have hp := place_no (joinLT_fresh hlt hf hma)
      simp (disch := omega) only [go_sem, seval, reduceCtorEq, hp, h1, hdx, n2]
      (repeat (refine And.intro (by omega) ?_))
      (refine Next.drop [false, false, false, false, true, true, true, false, false, true, true, true, false, false, true, false, false, true, false, false, false, false, true, true, true, true, true, true, true, true, true, true, true, true, true, true, true, true, true, true, true, true, true, true, true, true, true, true, true, true, true, true, true, true, true, true, true, true, false, false] (by omega) (Nat.le_of_ble_eq_true rfl) ?_ ?_ <;> first | (simp only [go_sem, seval, reduceCtorEq, dropF_ch, dropF_cons, dropF_nil, cut, cond_true, cond_false, Int.natCast_zero, Int.natCast_add, Int.natCast_one, joinLT_no hlt hma, List.length_append, List.map_append, List.map_cons, List.map_nil]; done) | rfl | (simp only [go_sem, seval, reduceCtorEq, dropF_ch, dropF_cons, dropF_nil, cut, cond_true, cond_false, Int.natCast_zero, Int.natCast_add, Int.natCast_one, joinLT_no hlt hma, List.length_append, List.map_append, List.map_cons, List.map_nil]; rfl) | skip)
  · have h1 : ¬ (k : Int) < B.length := by omega
    obtain rfl : k = B.length := by omega
    simp (disch := omega) only [go_sem, seval, reduceCtorEq, h1, joinLT_all]
    (refine FnEnd.mk (Nat.le_of_ble_eq_true rfl) rfl (of_decide_eq_true rfl) ?_ ?_ <;> try simp only [go_sem, seval, reduceCtorEq])
/-! ### What is kept -/
/-- The state, as a callee that reads sees it. -/
def osQ (T : List Int) (s : Osd) : AV := .rptr [.sl s.all.length (shD T s.all), .sl s.gone.length (dbv s.gone)] 0
/-- The same as blocks that may be written. -/
def stoQ (T : List Int) (s : Osd) : Sto := [some ⟨0, false, [.own 1 0 s.all.length, .own 2 0 s.gone.length]⟩, some ⟨3, true, shA T s.all⟩, some ⟨1, true, bv s.gone⟩]
def keepR (s : Osd) (a b q : Nat) : List Int := ((List.range q).filter fun i => Osd.off a b i && s.alive i).flatMap s.lab
section
variable {s : Osd} {os : List Int} {a b q m : Nat}
theorem keepR_zero : keepR s a b 0 = [] := rfl
theorem keepR_yes (h : (Osd.off a b q && s.alive q) = true) : keepR s a b (q + 1) = keepR s a b q ++ s.lab q := by
  unfold keepR
  rw [List.range_succ, List.filter_append, List.flatMap_append]
  simp [h]
theorem keepR_no (h : (Osd.off a b q && s.alive q) = false) : keepR s a b (q + 1) = keepR s a b q := by
  unfold keepR
  rw [List.range_succ, List.filter_append, List.flatMap_append]
  simp [h]
theorem keepR_all : os ++ keepR s a b s.all.length = s.keep os a b := by
  unfold keepR Osd.keep Osd.nums
  rw [List.filter_filter]
theorem keepR_len (h : OsOk s m) : ∀ q, (keepR s a b q).length ≤ q * 100
  | 0 => by simp [keepR]
  | q + 1 => by
    have ih := keepR_len h q
    have hl := h.len q
    cases e : Osd.off a b q && s.alive q
    · rw [keepR_no e]; omega
    · rw [keepR_yes e, List.length_append]; omega
end
theorem l17Keep_d {T os : List Int} {s : Osd} {m a b : Nat} (h : OsOk s m) (hm : m ≤ 1000) (ho : os.length ≤ 1048576) :
    Does Try.prog 123 [osQ T s, .d (ints os), .d (.int a), .d (.int b)] [] (.own 0 0 (s.keep os a b).length) [some ⟨1, true, iv (s.keep os a b)⟩] := by
  have hn := h.n
  have hg := h.gl
  (refine spec_of (by kernel_rfl) Try.func123 k_spec_l17Keep (fnOk (Nat.le_of_ble_eq_true rfl) ?_); unfold C_spec_l17Keep)
  simp only [osQ]
  (simp only [Nat.reduceSub, List.length_cons, List.length_nil, Nat.reduceAdd, ch_init1, ch_init2, ch_init3, ch_init4, ch_init5, ch_init6, ch_init7, ch_init8]; try simp only [ch_rep]); (simp only [go_sem, seval, reduceCtorEq, List.replicate])
  (refine ti_call (l05Ints_d (xs := os) (by omega)) ?_ ?_ ?_; (focus (simp only [go_sem, seval, reduceCtorEq]; done)); (first | rfl | (focus (simp only [go_sem]; done))))
  simp only [go_sem, seval, reduceCtorEq]
  refine wpN_lp (s.all.length) [false, false, false, false, false, false, false, false, false, false, true, true, false, true, false, false, false, false, false, false, true, true, true, true, true, true, true, true, true, true, true, true, true, true, true, true, true, true, true, true, true, true, true, true, true, true, true, false] (fun k => [(19, .d (.int k)), (9, .own 0 0 (os ++ keepR s a b k).length)]) (fun k => [(0, iv (os ++ keepR s a b k))]) (fun _ => by (simp only [go_sem, seval, reduceCtorEq, dropF_ch, dropF_cons, dropF_nil, cut, cond_true, cond_false]); first | done | rfl) (fun _ => by (simp only [go_sem, seval, reduceCtorEq, cut]); first | done | rfl) (Nat.le_of_ble_eq_true rfl) (by first | (simp only [go_sem, seval, reduceCtorEq, dropF_ch, dropF_cons, dropF_nil, cut, cond_true, cond_false, Int.natCast_zero, Int.natCast_add, Int.natCast_one, keepR_zero, List.append_nil]; done) | rfl | (simp only [go_sem, seval, reduceCtorEq, dropF_ch, dropF_cons, dropF_nil, cut, cond_true, cond_false, Int.natCast_zero, Int.natCast_add, Int.natCast_one, keepR_zero, List.append_nil]; rfl)) (by first | (simp only [go_sem, seval, reduceCtorEq, dropF_ch, dropF_cons, dropF_nil, cut, cond_true, cond_false, Int.natCast_zero, Int.natCast_add, Int.natCast_one, keepR_zero, List.append_nil]; done) | rfl | (simp only [go_sem, seval, reduceCtorEq, dropF_ch, dropF_cons, dropF_nil, cut, cond_true, cond_false, Int.natCast_zero, Int.natCast_add, Int.natCast_one, keepR_zero, List.append_nil]; rfl)) fun k hk => ?_
  unfold L0_spec_l17Keep
  have hkl := keepR_len h (a := a) (b := b) k
  have hkl2 : (os ++ keepR s a b k).length = os.length + (keepR s a b k).length := List.length_append
  by_cases hlt : k < s.all.length
  · have d1 : (k : Int) < s.all.length := by omega
    have d2 : (k : Int) < s.gone.length := by omega
    have g := shD_cut (T := T) hlt
    have hlab : s.lab k = s.all[k] := by simp [Osd.lab, hlt]
    have hlk := h.len k
    have gg : s.gone[k]? = some (!s.alive k) := by
      rw [List.getElem?_eq_getElem (by omega), Osd.alive, List.getD_eq_getElem?_getD, List.getElem?_eq_getElem (by omega)]; simp
    rw [← hlab] at g
    simp (disch := omega) only [go_sem, seval, reduceCtorEq, d1, g, d2, gg]
    refine ⟨by omega, ?_⟩
    cases e0 : s.alive k
    · have e := keepR_no (s := s) (a := a) (b := b) (q := k) (by rw [e0, Bool.and_false])
      simp (disch := omega) only [go_sem, seval, reduceCtorEq, e0]
      (refine Next.drop [false, false, false, false, false, false, false, false, false, false, true, true, false, true, false, false, false, false, false, false, true, true, true, true, true, true, true, true, true, true, true, true, true, true, true, true, true, true, true, true, true, true, true, true, true, true, true, false] (by omega) (Nat.le_of_ble_eq_true rfl) ?_ ?_ <;> first | (simp only [go_sem, seval, reduceCtorEq, dropF_ch, dropF_cons, dropF_nil, cut, cond_true, cond_false, Int.natCast_zero, Int.natCast_add, Int.natCast_one, e]; done) | rfl | (simp only [go_sem, seval, reduceCtorEq, dropF_ch, dropF_cons, dropF_nil, cut, cond_true, cond_false, Int.natCast_zero, Int.natCast_add, Int.natCast_one, e]; rfl) | skip)
    · by_cases h1 : k = a
      · have e1 : (k != a) = false := by simp [h1]
        have c1 := natb_ne k a
        rw [e1] at c1
        have e := keepR_no (s := s) (a := a) (b := b) (q := k) (by simp [Osd.off, e1])
        simp (disch := omega) only [go_sem, seval, reduceCtorEq, e0, c1]
        (refine Next.drop [false, false, false, false, false, false, false, false, false, false, true, true, false, true, false, false, false, false, false, false, true, true, true, true, true, true, true, true, true, true, true, true, true, true, true, true, true, true, true, true, true, true, true, true, true, true, true, false] (by omega) (Nat.le_of_ble_eq_true rfl) ?_ ?_ <;> first | (simp only [go_sem, seval, reduceCtorEq, dropF_ch, dropF_cons, dropF_nil, cut, cond_true, cond_false, Int.natCast_zero, Int.natCast_add, Int.natCast_one, e]; done) | rfl | (simp only [go_sem, seval, reduceCtorEq, dropF_ch, dropF_cons, dropF_nil, cut, cond_true, cond_false, Int.natCast_zero, Int.natCast_add, Int.natCast_one, e]; rfl) | skip)
      · have e1 : (k != a) = true := by simp [h1]
        have c1 := natb_ne k a
        rw [e1] at c1
        by_cases h2 : k = b
        · have e2 : (k != b) = false := by simp [h2]
          have c2 := natb_ne k b
          rw [e2] at c2
          have e := keepR_no (s := s) (a := a) (b := b) (q := k) (by simp [Osd.off, e2])
          simp (disch := omega) only [go_sem, seval, reduceCtorEq, e0, c1, c2]
          (refine Next.drop [false, false, false, false, false, false, false, false, false, false, true, true, false, true, false, false, false, false, false, false, true, true, true, true, true, true, true, true, true, true, true, true, true, true, true, true, true, true, true, true, true, true, true, true, true, true, true, false] (by omega) (Nat.le_of_ble_eq_true rfl) ?_ ?_ <;> first | (simp only [go_sem, seval, reduceCtorEq, dropF_ch, dropF_cons, dropF_nil, cut, cond_true, cond_false, Int.natCast_zero, Int.natCast_add, Int.natCast_one, e]; done) | rfl | (simp only [go_sem, seval, reduceCtorEq, dropF_ch, dropF_cons, dropF_nil, cut, cond_true, cond_false, Int.natCast_zero, Int.natCast_add, Int.natCast_one, e]; rfl) | skip)
        · have e2 : (k != b) = true := by simp [h2]
          have c2 := natb_ne k b
          rw [e2] at c2
          have e := keepR_yes (s := s) (a := a) (b := b) (q := k) (by simp [Osd.off, e1, e2, e0])
          simp (disch := omega) only [go_sem, seval, reduceCtorEq, e0, c1, c2]
          (repeat (refine And.intro (by omega) ?_))
          (refine Next.drop [false, false, false, false, false, false, false, false, false, false, true, true, false, true, false, false, false, false, false, false, true, true, true, true, true, true, true, true, true, true, true, true, true, true, true, true, true, true, true, true, true, true, true, true, true, true, true, false] (by omega) (Nat.le_of_ble_eq_true rfl) ?_ ?_ <;> first | (simp only [go_sem, seval, reduceCtorEq, dropF_ch, dropF_cons, dropF_nil, cut, cond_true, cond_false, Int.natCast_zero, Int.natCast_add, Int.natCast_one, e, ← List.append_assoc, List.length_append]; done) | rfl | (simp only [go_sem, seval, reduceCtorEq, dropF_ch, dropF_cons, dropF_nil, cut, cond_true, cond_false, Int.natCast_zero, Int.natCast_add, Int.natCast_one, e, ← List.append_assoc, List.length_append]; rfl) | skip)
  · have d1 : ¬ (k : Int) < s.all.length := by omega
    obtain rfl : k = s.all.length := by omega
    simp (disch := omega) only [go_sem, seval, reduceCtorEq, d1, keepR_all]
    (refine FnEnd.mk (Nat.le_of_ble_eq_true rfl) rfl (of_decide_eq_true rfl) ?_ ?_ <;> try simp only [go_sem, seval, reduceCtorEq])
/-! ### The first state -/
theorem dimAt_netO {N : Net} (h : netOk N = true) {t : Ten} (ht : t ∈ N.ts) {x : Int} (hx : x ∈ t.labels) : dimAt t x = dimN N.ts x := by
  obtain ⟨k, hk, rfl⟩ := List.mem_iff_getElem.1 ht
  have hax := netOk_ax h
  have hc := (netOk_iff.1 h).2.2.2.1 k hk x hk hx
  have hd := dimAt_bd (hax _ (List.getElem_mem hk)) hx
  have h1 : dimN (N.ts.take (k + 1)) x = dimAt N.ts[k] x := by
    rw [dimN_next hax hk, if_pos hx]
    split
    · rfl
    · rcases hc with e | e
      · rename_i h0; exact absurd e h0
      · exact e
  have h2 := dimN_app (N.ts.take (k + 1)) (N.ts.drop (k + 1)) x fun t ht hx => by
    have := dimAt_bd (hax t (List.mem_of_mem_take ht)) hx
    omega
  rw [List.take_append_drop, h1, if_neg (by omega)] at h2
  exact h2.symm
theorem dims_net {N : Net} (h : netOk N = true) {t : Ten} (ht : t ∈ N.ts) : t.labels.map (atT (dimsR N.ts).1) = t.dims := by
  have hax := netOk_ax h
  have hok := (netOk_iff.1 h).2.2.2.1
  have hD := dimsR_ok hax
  rw [← dims_map (hax t ht)]
  refine List.map_congr_left fun x hx => ?_
  have hb : 0 ≤ x ∧ x ≤ 99 := by
    obtain ⟨k, hk, rfl⟩ := List.getElem_of_mem hx
    have := (hax t ht).2.2 k hk
    unfold axAt at this
    rw [getD_of hk] at this
    omega
  rw [hD.2 (hD.1.2 hok) x hb, dimAt_netO h ht hx]
theorem l17New_d {N : Net} (h : NSz 1048576 N) (hok : netOk N = true) :
    Does Try.prog 70 [netA N] [] (.ptr 0 0) (stoQ (dimsR N.ts).1 (osInit N.ts)) := by
  have hnl := h.l
  have h12 := (netOk_iff.1 hok).2.1
  (refine spec_ofK (by kernel_rfl) Try.func70 k_spec_l17New (fnOk (Nat.le_of_ble_eq_true rfl) ?_); unfold C_spec_l17New)
  simp only [stoQ]
  (simp only [Nat.reduceSub, List.length_cons, List.length_nil, Nat.reduceAdd, ch_init1, ch_init2, ch_init3, ch_init4, ch_init5, ch_init6, ch_init7, ch_init8]; try simp only [ch_rep]); (simp only [go_sem, seval, reduceCtorEq, List.replicate])
  (refine wpN_lwk (Wk.nilS 1 0 3 _ _ _ rfl rfl) ?_; simp only [go_sem, seval, reduceCtorEq])
  (refine wpN_lwk (Wk.nilS 1 1 1 _ _ _ rfl rfl) ?_; simp only [go_sem, seval, reduceCtorEq])
  generalize hT : (dimsR N.ts).1 = T at *
  have hz : shA T ((osInit N.ts).all.take 0) = [] := rfl
  have hal : (osInit N.ts).all.length = N.ts.length := by simp [osInit]
  have hgl : (osInit N.ts).gone.length = N.ts.length := by simp [osInit]
  refine wpN_lp (N.ts.length) [false, false, false, false, false, true, false, false, false, false, false, false, true, true, true, true, true, true, true, true, true, true, true, true, true, true, true, true, true, true, true, true, true, true, true, true, true, true, true, false] (fun k => [(11, .d (.int k))]) (fun k => [(1, [.own 2 0 k, .own 3 0 k]), (2, shA T ((osInit N.ts).all.take k)), (3, bv (List.replicate k false))]) (fun _ => by (simp only [go_sem, seval, reduceCtorEq, dropF_ch, dropF_cons, dropF_nil, cut, cond_true, cond_false]); first | done | rfl) (fun _ => by (simp only [go_sem, seval, reduceCtorEq, cut]); first | done | rfl) (Nat.le_of_ble_eq_true rfl) (by first | (simp only [go_sem, seval, reduceCtorEq, dropF_ch, dropF_cons, dropF_nil, cut, cond_true, cond_false, Int.natCast_zero, Int.natCast_add, Int.natCast_one, hz, List.replicate_zero, bv_nil]; done) | rfl | (simp only [go_sem, seval, reduceCtorEq, dropF_ch, dropF_cons, dropF_nil, cut, cond_true, cond_false, Int.natCast_zero, Int.natCast_add, Int.natCast_one, hz, List.replicate_zero, bv_nil]; rfl)) (by first | (simp only [go_sem, seval, reduceCtorEq, dropF_ch, dropF_cons, dropF_nil, cut, cond_true, cond_false, Int.natCast_zero, Int.natCast_add, Int.natCast_one, hz, List.replicate_zero, bv_nil]; done) | rfl | (simp only [go_sem, seval, reduceCtorEq, dropF_ch, dropF_cons, dropF_nil, cut, cond_true, cond_false, Int.natCast_zero, Int.natCast_add, Int.natCast_one, hz, List.replicate_zero, bv_nil]; rfl)) fun k hk => ?_
  unfold L0_spec_l17New
  by_cases hlt : k < N.ts.length
  · have d1 : (k : Int) < N.ts.length := by omega
    have g3 := tcs_cut (List.getElem?_eq_getElem hlt)
    have hst := h.t N.ts[k] (List.getElem_mem hlt)
    have hdm := dims_net hok (List.getElem_mem hlt)
    rw [hT] at hdm
    have htl : ((osInit N.ts).all.take k).length = k := by simp [hal]; omega
    have hrl : (List.replicate k false).length = k := List.length_replicate
    have hrow : shA T ((osInit N.ts).all.take k) ++ [.d (.sl N.ts[k].labels.length (dv N.ts[k].labels)), .d (.sl N.ts[k].dims.length (dv N.ts[k].dims)), .nil] = shA T ((osInit N.ts).all.take (k + 1)) := by
      rw [take_ss (by omega), ← hdm]
      simp [shA, ints, osInit]
    have hrep : List.replicate k false ++ [false] = List.replicate (k + 1) false := List.replicate_succ'.symm
    simp (disch := omega) only [go_sem, seval, reduceCtorEq, d1, g3, htl]
    (repeat (refine And.intro (by omega) ?_))
    simp (disch := omega) only [go_sem, seval, reduceCtorEq, hrow, htl, hrl]
    (repeat (refine And.intro (by omega) ?_))
    simp (disch := omega) only [go_sem, seval, reduceCtorEq, hrep, htl, hrl]
    (repeat (refine And.intro (by omega) ?_))
    (refine Next.drop [false, false, false, false, false, true, false, false, false, false, false, false, true, true, true, true, true, true, true, true, true, true, true, true, true, true, true, true, true, true, true, true, true, true, true, true, true, true, true, false] (by omega) (Nat.le_of_ble_eq_true rfl) ?_ ?_ <;> first | (simp only [go_sem, seval, reduceCtorEq, dropF_ch, dropF_cons, dropF_nil, cut, cond_true, cond_false, Int.natCast_zero, Int.natCast_add, Int.natCast_one, hrow, hrep]; done) | rfl | (simp only [go_sem, seval, reduceCtorEq, dropF_ch, dropF_cons, dropF_nil, cut, cond_true, cond_false, Int.natCast_zero, Int.natCast_add, Int.natCast_one, hrow, hrep]; rfl) | skip)
  · have d1 : ¬ (k : Int) < N.ts.length := by omega
    obtain rfl : k = N.ts.length := by omega
    have hat : (osInit N.ts).all.take N.ts.length = (osInit N.ts).all := List.take_of_length_le (by omega)
    have hgn : List.replicate N.ts.length false = (osInit N.ts).gone := rfl
    simp (disch := omega) only [go_sem, seval, reduceCtorEq, d1, hat, hgn]
    (refine FnEnd.mkI [1, 2, 3] (Nat.le_of_ble_eq_true rfl) rfl (of_decide_eq_true rfl) rfl ?_ ?_ <;> try simp only [go_sem, seval, reduceCtorEq])
    all_goals simp only [hal, hgl]
/-! ### A step -/
theorem atT_join {T J K : List Int} (hn : J.Nodup) (hs : ∀ x ∈ K, x ∈ J) : K.map (dAt J (J.map (atT T))) = K.map (atT T) := List.map_congr_left fun x hx => by
  obtain ⟨i, hi, e1, e2, _⟩ := place_mem (hs x hx)
  rw [dAt, e1]
  simp [List.getD_eq_getElem?_getD, hi, e2]
def capP (T L : List Int) : Int := min (prodI (L.map (atT T))) 1000000000
theorem l17Step_d {T os : List Int} {s : Osd} {m a b : Nat} (h : OsOk s m) (hm : m ≤ 1000) (ho : os.length ≤ 1048576) (ha : a < m) (hb : b < m) (hT : ∀ i, i < m → ∀ x ∈ s.lab i, 1 ≤ atT T x ∧ atT T x ≤ 8) :
    Does Try.prog 73 [.ptr 0 0, .d (ints os), .agg [.d (.int a), .d (.int b)]] (stoQ T s) (.d (.int (capP T (joinL (s.lab a) (s.lab b))))) (stoQ T (s.step os a b)) := by
  have hn := h.n
  have hg := h.gl
  have la : s.lab a = s.all[a] := by simp [Osd.lab, show a < s.all.length by omega]
  have lb : s.lab b = s.all[b] := by simp [Osd.lab, show b < s.all.length by omega]
  have ga := shA_cut (T := T) (show a < s.all.length by omega)
  have gb := shA_cut (T := T) (show b < s.all.length by omega)
  rw [← la] at ga
  rw [← lb] at gb
  have ia : (a : Int) < s.all.length := by omega
  have ib : (b : Int) < s.all.length := by omega
  have ja : (a : Int) < s.gone.length := by omega
  have jb : (b : Int) < s.gone.length := by omega
  obtain ⟨hjn, hjb, hjl⟩ := h.join a b
  (refine spec_ofK (by kernel_rfl) Try.func73 k_spec_l17Step (fnOk (Nat.le_of_ble_eq_true rfl) ?_); unfold C_spec_l17Step)
  simp only [stoQ]
  (simp only [Nat.reduceSub, List.length_cons, List.length_nil, Nat.reduceAdd, ch_init1, ch_init2, ch_init3, ch_init4, ch_init5, ch_init6, ch_init7, ch_init8]; try simp only [ch_rep]); (simp only [go_sem, seval, reduceCtorEq, List.replicate])
  simp (disch := omega) only [go_sem, seval, reduceCtorEq, ia, ib, ga, gb]
  (repeat (refine And.intro (by omega) ?_))
  (refine gi_call (l08Join_t (T := T) (h.at a).1 (h.len a) (h.at b).1 (h.len b)) ?_ ?_ ?_; (focus (simp only [go_sem, seval, reduceCtorEq]; done)); (first | rfl | (focus (simp only [go_sem]; done))))
  simp only [go_sem, seval, reduceCtorEq]
  have hta : List.take (s.all.length * 3) (shA T s.all) = shA T s.all := List.take_of_length_le (by rw [shA_len]; exact Nat.le_refl _)
  (refine ti_call (l17Keep_d (T := T) (a := a) (b := b) h hm ho) ?_ ?_ ?_; (focus (simp only [go_sem, seval, reduceCtorEq, osQ, hta, List.take_length]; done)); (first | rfl | (focus (simp only [go_sem]; done))))
  have hkl : (s.keep os a b).length ≤ 1048576 + 100000 := by
    rw [← keepR_all, List.length_append]
    have := keepR_len h (a := a) (b := b) s.all.length
    omega
  generalize hK : s.keep os a b = K at *
  simp only [go_sem, seval, reduceCtorEq]
  generalize hJ : joinL (s.lab a) (s.lab b) = J at *
  have hres : s.res os a b = J.filter (has K) := by rw [Osd.res, hJ, hK]
  have hml : (J.map (atT T)).length = J.length := List.length_map ..
  have htj : List.take J.length (J.map (atT T)) = J.map (atT T) := List.take_of_length_le (by omega)
  (refine ti_call (l08Keep_d (ls := J) (ds := J.map (atT T)) (keep := K) hjn (by omega) (by omega) (by omega)) ?_ ?_ ?_; (focus (simp only [go_sem, seval, reduceCtorEq, hml, htj, List.take_length]; done)); (first | rfl | (focus (simp only [go_sem]; done))))
  have hdm : (J.filter (has K)).map (dAt J (J.map (atT T))) = (J.filter (has K)).map (atT T) := atT_join hjn fun x hx => (List.mem_filter.1 hx).1
  simp (disch := omega) only [go_sem, seval, reduceCtorEq, hdm, ja, jb]
  rw [← hres]
  generalize hX : s.res os a b = X at *
  have p1 := putG (xs := s.gone) (i := a) (v := true) (by omega)
  have p2 := putG (xs := s.gone.set a true) (i := b) (v := true) (by simp; omega)
  have p4 : (s.gone.set a true).length = s.gone.length := by simp
  have p5 : ((s.gone.set a true).set b true).length = s.gone.length := by simp
  simp (disch := omega) only [go_sem, seval, reduceCtorEq, p1, p4]
  (repeat (refine And.intro (by omega) ?_))
  simp (disch := omega) only [go_sem, seval, reduceCtorEq, p2, p5, jb]
  (repeat (refine And.intro (by omega) ?_))
  have hJb : ∀ d ∈ J.map (atT T), 1 ≤ d ∧ d ≤ 100 := fun d hd => by
    obtain ⟨x, hx, rfl⟩ := List.mem_map.1 hd
    rw [← hJ] at hx
    rcases mem_joinL.1 hx with hx | hx
    · have := hT a ha x hx; omega
    · have := hT b hb x hx; omega
  (refine ti_call (l05Product_d (ds := J.map (atT T)) (lim := 1000000000) (by omega) hJb (by omega)) ?_ ?_ ?_; (focus (simp only [go_sem, seval, reduceCtorEq, hml, htj]; done)); (first | rfl | (focus (simp only [go_sem]; done))))
  have hmin : min 1000000000 (min (prodI (J.map (atT T))) 1000000001) = capP T J := by unfold capP; omega
  have hst : s.step os a b = ⟨s.all ++ [X], (s.gone.set a true).set b true ++ [false]⟩ := by rw [Osd.step, hX]
  simp (disch := omega) only [go_sem, seval, reduceCtorEq, hmin]
  (refine FnEnd.wk (Wk.freeze 7 (Nat.le_of_ble_eq_true rfl) rfl (cellsD_iv) rfl rfl) ?_); (simp only [go_sem, seval, reduceCtorEq, List.take_length])
  have hmx : (X.map (atT T)).length = X.length := List.length_map ..
  have htx : List.take X.length (X.map (atT T)) = X.map (atT T) := List.take_of_length_le (by omega)
  (refine FnEnd.wk (Wk.freeze 8 (Nat.le_of_ble_eq_true rfl) rfl (cellsD_iv) rfl rfl) ?_); (simp only [go_sem, seval, reduceCtorEq, htx])
  have hsn : shA T s.all ++ [.d (.sl X.length (dv X)), .d (.sl X.length (dv (X.map (atT T)))), .nil] = shA T (s.all ++ [X]) := by rw [← shA_snoc, hmx]
  have q1 : (s.all ++ [X]).length = s.all.length + 1 := by simp
  have q2 : ((s.gone.set a true).set b true ++ [false]).length = s.gone.length + 1 := by simp
  (refine FnEnd.mk (Nat.le_of_ble_eq_true rfl) rfl (of_decide_eq_true rfl) ?_ ?_ <;> try simp only [go_sem, seval, reduceCtorEq])
  all_goals simp only [hst, hsn, q1, q2]
end Go.Proofs.Ytjncdanegoileaa

/-
  Contracts: costs of orders. No condition.
-/
namespace Go.Proofs.Ytjncdanegoileaa
open Go.RowKit Go.Lift Plain
set_option linter.unusedSimpArgs false
set_option linter.unusedVariables false
set_option maxRecDepth 100000

/-- All labels have dimensions. -/
def OsT (T : List Int) (s : Osd) : Prop := ∀ i, ∀ x ∈ s.lab i, 1 ≤ atT T x ∧ atT T x ≤ 8
section
variable {T os : List Int} {s : Osd} {m a b : Nat}
theorem OsT.res (h : OsT T s) : ∀ x ∈ s.res os a b, 1 ≤ atT T x ∧ atT T x ≤ 8 := fun x hx =>
  (mem_joinL.1 (List.mem_filter.1 hx).1).elim (h a x) (h b x)
theorem OsT.join (h : OsT T s) : ∀ x ∈ joinL (s.lab a) (s.lab b), 1 ≤ atT T x ∧ atT T x ≤ 8 := fun x hx => (mem_joinL.1 hx).elim (h a x) (h b x)
theorem OsT.step (hs : OsOk s m) (h : OsT T s) : OsT T (s.step os a b) := fun i x hx => by
  rcases Nat.lt_trichotomy i m with hi | rfl | hi
  · rw [lab_step hs hi] at hx; exact h i x hx
  · rw [lab_step_new hs] at hx; exact h.res x hx
  · have : (s.step os a b).lab i = [] := by
      have := (hs.step os a b).n
      unfold Osd.lab
      rw [List.getD_eq_getElem?_getD, List.getElem?_eq_none (by omega)]; rfl
    rw [this] at hx; cases hx
theorem osInit_T {N : Net} (h : netOk N = true) : OsT (dimsR N.ts).1 (osInit N.ts) := fun i x hx => by
  by_cases hi : i < N.ts.length
  · rw [osInit_lab hi] at hx
    have hd := dims_net h (List.getElem_mem hi)
    have : atT (dimsR N.ts).1 x ∈ N.ts[i].dims := by rw [← hd]; exact List.mem_map_of_mem hx
    have := (netOk_ax h _ (List.getElem_mem hi)).dim _ this
    omega
  · have : (osInit N.ts).lab i = [] := by
      unfold Osd.lab
      rw [List.getD_eq_getElem?_getD, List.getElem?_eq_none (by simp [osInit]; omega)]; rfl
    rw [this] at hx; cases hx
end
theorem cappedProduct_d {ds : List Int} (h : ds.length ≤ 1048576) (hd : ∀ d ∈ ds, 1 ≤ d ∧ d ≤ 100) : Does Try.prog 128 [.d (ints ds), .d (.int 1000000000)] [] (.d (.int (min (prodI ds) 1000000000))) [] := by
  have h1 : min (prodI (ds.take 0)) 1000000000 = 1 := by simp [prodI]; omega
  (refine spec_of (by kernel_rfl) Try.func128 k_impl_cappedProduct (fnOk (Nat.le_of_ble_eq_true rfl) ?_); unfold C_impl_cappedProduct)
  (simp only [Nat.reduceSub, List.length_cons, List.length_nil, Nat.reduceAdd, ch_init1, ch_init2, ch_init3, ch_init4, ch_init5, ch_init6, ch_init7, ch_init8]; try simp only [ch_rep]); (simp only [go_sem, seval, reduceCtorEq, List.replicate])
  refine wpN_lp (ds.length) [false, false, false, false, false, false, false, true, false, false, false, true, true, true, true, true, true, true, true, true, false] (fun k => [(5, .d (.int (min (prodI (ds.take k)) 1000000000))), (10, .d (.int k))]) (fun k => []) (fun _ => by (simp only [go_sem, seval, reduceCtorEq, dropF_ch, dropF_cons, dropF_nil, cut, cond_true, cond_false]); first | done | rfl) (fun _ => by (simp only [go_sem, seval, reduceCtorEq, cut]); first | done | rfl) (Nat.le_of_ble_eq_true rfl) (by first | (simp only [go_sem, seval, reduceCtorEq, dropF_ch, dropF_cons, dropF_nil, cut, cond_true, cond_false, Int.natCast_zero, Int.natCast_add, Int.natCast_one, h1]; done) | rfl | (simp only [go_sem, seval, reduceCtorEq, dropF_ch, dropF_cons, dropF_nil, cut, cond_true, cond_false, Int.natCast_zero, Int.natCast_add, Int.natCast_one, h1]; rfl)) (by first | (simp only [go_sem, seval, reduceCtorEq, dropF_ch, dropF_cons, dropF_nil, cut, cond_true, cond_false, Int.natCast_zero, Int.natCast_add, Int.natCast_one, h1]; done) | rfl | (simp only [go_sem, seval, reduceCtorEq, dropF_ch, dropF_cons, dropF_nil, cut, cond_true, cond_false, Int.natCast_zero, Int.natCast_add, Int.natCast_one, h1]; rfl)) fun k hk => ?_
  unfold L0_impl_cappedProduct
  by_cases hlt : k < ds.length
  · have d1 : (k : Int) < ds.length := by omega
    have g : ds[k]? = some ds[k] := List.getElem?_eq_getElem hlt
    have hdk := hd ds[k] (List.getElem_mem hlt)
    have hp := prodI_pos (ds.take k) fun d hm => (hd d (List.mem_of_mem_take hm)).1
    have hs := prodI_take_succ ds k hlt
    rw [getD_of hlt] at hs
    have hm := min_mul (prodI (ds.take k)) ds[k] 1000000000 hdk.1 (by omega)
    rw [← hs] at hm
    have hb1 : 0 ≤ min (prodI (ds.take k)) 1000000000 * ds[k] := Int.mul_nonneg (by omega) (by omega)
    have hb2 : min (prodI (ds.take k)) 1000000000 * ds[k] ≤ 1000000000 * 100 := Int.mul_le_mul (by omega) hdk.2 (by omega) (by omega)
    simp (disch := omega) only [go_sem, seval, reduceCtorEq, d1, g]
    (refine Next.drop [false, false, false, false, false, false, false, true, false, false, false, true, true, true, true, true, true, true, true, true, false] (by omega) (Nat.le_of_ble_eq_true rfl) ?_ ?_ <;> first | (simp only [go_sem, seval, reduceCtorEq, dropF_ch, dropF_cons, dropF_nil, cut, cond_true, cond_false, Int.natCast_zero, Int.natCast_add, Int.natCast_one, hm]; done) | rfl | (simp only [go_sem, seval, reduceCtorEq, dropF_ch, dropF_cons, dropF_nil, cut, cond_true, cond_false, Int.natCast_zero, Int.natCast_add, Int.natCast_one, hm]; rfl) | skip)
  · have d1 : ¬ (k : Int) < ds.length := by omega
    have ht : ds.take k = ds := List.take_of_length_le (by omega)
    simp (disch := omega) only [go_sem, seval, reduceCtorEq, d1, ht]
    (refine FnEnd.mk (Nat.le_of_ble_eq_true rfl) rfl (of_decide_eq_true rfl) ?_ ?_ <;> try simp only [go_sem, seval, reduceCtorEq])
theorem orderState_size_d {T os L : List Int} {s : Osd} (hD : T.length = 100) (hl : L.length ≤ 1048576) (hx : ∀ x ∈ L, 0 ≤ x ∧ x ≤ 99) (hT : ∀ x ∈ L, 1 ≤ atT T x ∧ atT T x ≤ 8) :
    Does Try.prog 80 [osP T os s, .d (ints L)] [] (.d (.int (capP T L))) [] := by
  have htk : List.take 100 (dv T) = dv T := List.take_of_length_le (by rw [dv_len]; omega)
  have hml : (L.map (atT T)).length = L.length := List.length_map ..
  have htm : List.take L.length (L.map (atT T)) = L.map (atT T) := List.take_of_length_le (by omega)
  (refine spec_of (by kernel_rfl) Try.func80 k_impl_orderState_size (fnOk (Nat.le_of_ble_eq_true rfl) ?_); unfold C_impl_orderState_size)
  simp only [osP]
  (simp only [Nat.reduceSub, List.length_cons, List.length_nil, Nat.reduceAdd, ch_init1, ch_init2, ch_init3, ch_init4, ch_init5, ch_init6, ch_init7, ch_init8]; try simp only [ch_rep]); (simp only [go_sem, seval, reduceCtorEq, List.replicate])
  simp (disch := omega) only [go_sem, seval, reduceCtorEq, htk]
  (repeat (refine And.intro (by omega) ?_))
  (refine ti_call (axesOf_d (D := T) (L := L) hD hl hx) ?_ ?_ ?_; (focus (simp only [go_sem, seval, reduceCtorEq]; done)); (first | rfl | (focus (simp only [go_sem]; done))))
  simp (disch := omega) only [go_sem, seval, reduceCtorEq]
  (refine ti_call (cappedProduct_d (ds := L.map (atT T)) (by omega) (fun d hd => by obtain ⟨x, hx, rfl⟩ := List.mem_map.1 hd; have := hT x hx; omega)) ?_ ?_ ?_; (focus (simp only [go_sem, seval, reduceCtorEq, hml, htm]; done)); (first | rfl | (focus (simp only [go_sem]; done))))
  simp only [go_sem, seval, reduceCtorEq, capP]
  (refine FnEnd.mk (Nat.le_of_ble_eq_true rfl) rfl (of_decide_eq_true rfl) ?_ ?_ <;> try simp only [go_sem, seval, reduceCtorEq])
/-! ### A valid order, step by step -/
section
variable {N : Net} {n : Nat} {F : List Int}
def stA (F : List Int) (k : Nat) : Nat := (F.getD (k * 2) 0).toNat
def stB (F : List Int) (k : Nat) : Nat := (F.getD (k * 2 + 1) 0).toNat
/-- What is known before step k of a valid order. -/
structure OrdOk (N : Net) (F : List Int) (k : Nat) : Prop where
  ok : OsOk (ordS N F k) (N.ts.length + k)
  t : OsT (dimsR N.ts).1 (ordS N F k)
theorem ord_zero (N : Net) (F : List Int) : ordS N F 0 = osInit N.ts := rfl
structure OrdStep (N : Net) (F : List Int) (k : Nat) : Prop where
  a : F.getD (k * 2) 0 = stA F k
  b : F.getD (k * 2 + 1) 0 = stB F k
  ma : stA F k ∈ (ordS N F k).nums
  mb : stB F k ∈ (ordS N F k).nums
  lt : stA F k < stB F k
  nx : ordS N F (k + 1) = (ordS N F k).step N.os (stA F k) (stB F k)
  fol : followB (ordS N F k) (F.getD (k * 2) 0) (F.getD (k * 2 + 1) 0) = true
theorem ordStep (h : orderOk N n F = true) {k : Nat} (hk : k < n) : OrdStep N F k := by
  have h2 := (orderOk_iff.1 h).2.2
  have hf := ordTo_fol h2 hk
  obtain ⟨a, b, e1, e2, ha, hb, hab⟩ := followB_nat hf
  have ea : stA F k = a := by rw [stA, e1]; rfl
  have eb : stB F k = b := by rw [stB, e2]; rfl
  have hy := congrArg Prod.fst (ordTo_yes (ordTo_down h2 (Nat.le_of_lt hk)) hf)
  exact ⟨by rw [ea, e1], by rw [eb, e2], by rw [ea]; exact ha, by rw [eb]; exact hb, by rw [ea, eb]; exact hab, hy, hf⟩
theorem ordOk (h : orderOk N n F = true) : ∀ k, k ≤ n → OrdOk N F k
  | 0, _ => ⟨osInit_ok (netOk_ax (orderOk_iff.1 h).1), osInit_T (orderOk_iff.1 h).1⟩
  | k + 1, hk => by
    have ih := ordOk h k (by omega)
    have hs := ordStep h (show k < n by omega)
    exact ⟨by rw [hs.nx]; exact ih.ok.step _ _ _, by rw [hs.nx]; exact OsT.step ih.ok ih.t⟩
theorem OrdStep.at {k : Nat} (h : OrdStep N F k) (ho : OrdOk N F k) : stA F k < N.ts.length + k ∧ stB F k < N.ts.length + k := by
  have hn := ho.ok.n
  have h1 := (nums_mem.1 h.ma).1
  have h2 := (nums_mem.1 h.mb).1
  omega
/-- The cost of step k. -/
def costAt (N : Net) (F : List Int) (k : Nat) : Int := capP (dimsR N.ts).1 (joinL ((ordS N F k).lab (stA F k)) ((ordS N F k).lab (stB F k)))
def costsTo (N : Net) (F : List Int) (k : Nat) : List Int := (List.range k).map (costAt N F)
theorem costsTo_len (k : Nat) : (costsTo N F k).length = k := by simp [costsTo]
theorem costsTo_next (k : Nat) : costsTo N F (k + 1) = costsTo N F k ++ [costAt N F k] := by simp [costsTo, List.range_succ]
end
theorem l17Run_d {N : Net} {n : Nat} {F : List Int} (h : NSz 1048576 N) (hF : StpSz 1048576 n F) (hok : orderOk N n F = true) :
    Does Try.prog 127 [netA N, .d (stp n F)] [] (.tup [.ptr 0 0, .own 3 0 n])
      [some ⟨0, false, [.own 1 0 (ordS N F n).all.length, .own 2 0 (ordS N F n).gone.length]⟩, some ⟨3, true, shA (dimsR N.ts).1 (ordS N F n).all⟩, some ⟨1, true, bv (ordS N F n).gone⟩, some ⟨1, true, iv (costsTo N F n)⟩] := by
  have hn := hF.n
  have hFl := hF.l
  have hol := h.o.len
  obtain ⟨h1, h2, _⟩ := orderOk_iff.1 hok
  have h12 := (netOk_iff.1 h1).2.1
  (refine spec_of (by kernel_rfl) Try.func127 k_spec_l17Run (fnOk (Nat.le_of_ble_eq_true rfl) ?_); unfold C_spec_l17Run)
  (simp only [Nat.reduceSub, List.length_cons, List.length_nil, Nat.reduceAdd, ch_init1, ch_init2, ch_init3, ch_init4, ch_init5, ch_init6, ch_init7, ch_init8]; try simp only [ch_rep]); (simp only [go_sem, seval, reduceCtorEq, List.replicate])
  (refine ti_call (l17New_d h h1) ?_ ?_ ?_; (focus (simp only [go_sem, seval, reduceCtorEq, stoQ]; done)); (first | rfl | (focus (simp only [go_sem]; done))))
  simp only [go_sem, seval, reduceCtorEq, stoQ]
  have hz : costsTo N F 0 = [] := rfl
  have hz2 := ord_zero N F
  refine wpN_lp (n) [false, false, false, false, false, false, false, false, false, true, false, false, true, false, false, false, true, true, true, true, true, true, true, true, true, true, true, true, false, false] (fun k => [(15, .d (.int k)), (7, .own 4 0 k)]) (fun k => [(1, [.own 2 0 (ordS N F k).all.length, .own 3 0 (ordS N F k).gone.length]), (2, shA (dimsR N.ts).1 (ordS N F k).all), (3, bv (ordS N F k).gone), (4, iv (costsTo N F k))]) (fun _ => by (simp only [go_sem, seval, reduceCtorEq, dropF_ch, dropF_cons, dropF_nil, cut, cond_true, cond_false]); first | done | rfl) (fun _ => by (simp only [go_sem, seval, reduceCtorEq, cut]); first | done | rfl) (Nat.le_of_ble_eq_true rfl) (by first | (simp only [go_sem, seval, reduceCtorEq, dropF_ch, dropF_cons, dropF_nil, cut, cond_true, cond_false, Int.natCast_zero, Int.natCast_add, Int.natCast_one, hz, hz2, iv_nil]; done) | rfl | (simp only [go_sem, seval, reduceCtorEq, dropF_ch, dropF_cons, dropF_nil, cut, cond_true, cond_false, Int.natCast_zero, Int.natCast_add, Int.natCast_one, hz, hz2, iv_nil]; rfl)) (by first | (simp only [go_sem, seval, reduceCtorEq, dropF_ch, dropF_cons, dropF_nil, cut, cond_true, cond_false, Int.natCast_zero, Int.natCast_add, Int.natCast_one, hz, hz2, iv_nil]; done) | rfl | (simp only [go_sem, seval, reduceCtorEq, dropF_ch, dropF_cons, dropF_nil, cut, cond_true, cond_false, Int.natCast_zero, Int.natCast_add, Int.natCast_one, hz, hz2, iv_nil]; rfl)) fun k hk => ?_
  unfold L0_spec_l17Run
  have hcl := costsTo_len (N := N) (F := F) k
  by_cases hlt : k < n
  · have d1 : (k : Int) < n := by omega
    have g := stp_cut hF hlt
    have hs := ordStep hok hlt
    have ho := ordOk hok k (by omega)
    have ht := hs.at ho
    have hnx := hs.nx
    have hcn := costsTo_next (N := N) (F := F) k
    have hca : capP (dimsR N.ts).1 (joinL ((ordS N F k).lab (stA F k)) ((ordS N F k).lab (stB F k))) = costAt N F k := rfl
    rw [hs.a, hs.b] at g
    simp (disch := omega) only [go_sem, seval, reduceCtorEq, d1, g, dv_two]
    (repeat (refine And.intro (by omega) ?_))
    (refine ti_callcg [1, 2, 3] [2, 3] false (of_decide_eq_true rfl) ?_ _ ?_ (l17Step_d (T := (dimsR N.ts).1) (os := N.os) (s := ordS N F k) (a := stA F k) (b := stB F k) ho.ok (by omega) (by omega) ht.1 ht.2 (fun i _ => ho.t i)) ?_ ?_; (focus (simp only [go_sem, seval, reduceCtorEq, stoQ]; done)); (focus (simp only [go_sem, seval, reduceCtorEq, stoQ]; done)); (focus (first | rfl | (simp only [go_sem, seval, reduceCtorEq, stoQ]; done))))
    simp (disch := omega) only [go_sem, seval, reduceCtorEq, stoQ, hca, ← hnx]
    (repeat (refine And.intro (by omega) ?_))
    (refine Next.drop [false, false, false, false, false, false, false, false, false, true, false, false, true, false, false, false, true, true, true, true, true, true, true, true, true, true, true, true, false, false] (by omega) (Nat.le_of_ble_eq_true rfl) ?_ ?_ <;> first | (simp only [go_sem, seval, reduceCtorEq, dropF_ch, dropF_cons, dropF_nil, cut, cond_true, cond_false, Int.natCast_zero, Int.natCast_add, Int.natCast_one, hcn]; done) | rfl | (simp only [go_sem, seval, reduceCtorEq, dropF_ch, dropF_cons, dropF_nil, cut, cond_true, cond_false, Int.natCast_zero, Int.natCast_add, Int.natCast_one, hcn]; rfl) | skip)
  · have d1 : ¬ (k : Int) < n := by omega
    obtain rfl : k = n := by omega
    simp (disch := omega) only [go_sem, seval, reduceCtorEq, d1]
    (refine FnEnd.mkI [1, 2, 3, 4] (Nat.le_of_ble_eq_true rfl) rfl (of_decide_eq_true rfl) rfl ?_ ?_ <;> try simp only [go_sem, seval, reduceCtorEq])
/-! ### By the program -/
end Go.Proofs.Ytjncdanegoileaa

/-
  Networks among the arguments, opened as plain data. No condition.
-/
namespace Go.Proofs.Ytjncdanegoileaa
open Go.RowKit Go.Lift Go.ChangeShapes Go.WideShapes Plain
set_option maxRecDepth 100000

theorem hasD_int {d : D} (h : HasD d .int) : ∃ n, d = .int n ∧ I64 n := by
  cases d <;> simp only [HasD] at h
  exact ⟨_, rfl, h⟩
theorem hasDL_ints : ∀ {l : List D} {j : Nat}, HasDL l j [.int] → ∃ xs : List Int, l = dv xs ∧ ∀ x ∈ xs, I64 x
  | [], _, _ => ⟨[], rfl, by simp⟩
  | x :: l, j, h => by
    simp only [HasDL, List.length_cons, List.length_nil, Nat.zero_add, Nat.mod_one, List.getD_cons_zero] at h
    obtain ⟨n, rfl, hn⟩ := hasD_int h.1
    obtain ⟨xs, rfl, hx⟩ := hasDL_ints h.2
    exact ⟨n :: xs, rfl, by simpa using ⟨hn, hx⟩⟩
theorem hasD_ints {d : D} (h : HasD d (.sl [.int])) : ∃ xs : List Int, d = ints xs ∧ Sz 9223372036854775807 xs := by
  cases d <;> simp only [HasD] at h
  obtain ⟨h1, h2, h3⟩ := h
  obtain ⟨xs, rfl, hx⟩ := hasDL_ints h3
  simp only [dv, List.length_map, List.length_cons, List.length_nil, Nat.zero_add, Nat.mul_one] at h2
  subst h2
  exact ⟨xs, rfl, h1, hx⟩
theorem hasDL_tens : ∀ {n : Nat} {l : List D} {j : Nat}, j % 3 = 0 → l.length = n * 3 → HasDL l j [.sl [.int], .sl [.int], .sl [.int]] → ∃ ts : List Ten, l = tcs ts ∧ ts.length = n ∧ ∀ t ∈ ts, TSz 9223372036854775807 t
  | 0, l, _, _, hl, _ => by
    obtain rfl := List.eq_nil_of_length_eq_zero (by simpa using hl)
    exact ⟨[], rfl, rfl, by simp⟩
  | n + 1, l, j, hj, hl, h => by
    match l, hl with
    | x :: y :: z :: l, hl =>
      simp only [HasDL, List.length_cons, List.length_nil] at h
      obtain ⟨h0, h1, h2, h3⟩ := h
      rw [show j % (0 + 1 + 1 + 1) = 0 by simpa using hj] at h0
      rw [show (j + 1) % (0 + 1 + 1 + 1) = 1 by simp; omega] at h1
      rw [show (j + 1 + 1) % (0 + 1 + 1 + 1) = 2 by simp; omega] at h2
      obtain ⟨a, rfl, ha⟩ := hasD_ints (by simpa using h0)
      obtain ⟨b, rfl, hb⟩ := hasD_ints (by simpa using h1)
      obtain ⟨c, rfl, hc⟩ := hasD_ints (by simpa using h2)
      obtain ⟨ts, rfl, ht, hs⟩ := hasDL_tens (n := n) (j := j + 1 + 1 + 1) (by omega) (by simp at hl; omega) h3
      refine ⟨⟨a, b, c⟩ :: ts, rfl, by simp [ht], fun t hm => ?_⟩
      rcases List.mem_cons.1 hm with rfl | hm
      · exact ⟨ha, hb, hc⟩
      · exact hs t hm
    | [], hl => simp at hl
    | [_], hl => simp at hl; omega
    | [_, _], hl => simp at hl; omega
theorem hasD_tens {d : D} (h : HasD d (.sl [.sl [.int], .sl [.int], .sl [.int]])) : ∃ ts : List Ten, d = tens ts ∧ ts.length ≤ 9223372036854775807 ∧ ∀ t ∈ ts, TSz 9223372036854775807 t := by
  cases d <;> simp only [HasD] at h
  obtain ⟨h1, h2, h3⟩ := h
  obtain ⟨ts, rfl, ht, hs⟩ := hasDL_tens (by omega) (by simpa using h2) h3
  subst ht
  exact ⟨ts, rfl, h1, hs⟩
/-- An argument reads as a network. -/
structure NetIn (w : World) (v : Value) (N : Net) : Prop where
  rel : Rel w (topL w) id (at_ []) (netA N) v
  sz : NSz 9223372036854775807 N
theorem reads_rel {w : World} {cs : Array Value} {ds : List D} {shs : List Sh} (h : Reads w cs.toList ds shs) : Rel w (topL w) id (at_ []) (.agg (ds.map .d)) (.agg cs) := by
  rw [Rel]
  refine ⟨cs, rfl, RelL.of_get (by simpa using h.1.symm) fun i x hx => ?_⟩
  simp only [List.getElem?_map, Option.map_eq_some_iff] at hx
  obtain ⟨d, hd, rfl⟩ := hx
  have hi : i < cs.toList.length := by rw [← h.1]; exact (List.getElem?_eq_some_iff.1 hd).1
  obtain ⟨d', e1, e2, _⟩ := h.2.2 i _ _ (List.getElem?_eq_getElem hi) (List.getElem?_eq_getElem (by rw [h.2.1]; exact hi))
  rw [hd] at e1
  simp only [Option.some.injEq] at e1
  subst e1
  exact ⟨_, List.getElem?_eq_getElem hi, by rw [Rel]; exact e2⟩
section
variable {H : Type} {enc : TypeId × Value → H} {w : World} {base : Nat} {held : Bool} {r : Reach}
theorem open_network {b0 : Nat} {v : Value} {d : DataW H} {p : List MemPlace} (hv : Value.okWide Try.prog w r b0 43 v) (h : DataW.Trod enc Try.prog w base (fun _ => true) held 43 v d p) :
    ∃ N, NetIn w v N := by
  obtain ⟨cs, rfl, hsz⟩ := okWide_struct Try.underlying43 hv
  obtain ⟨fuel, hf⟩ := h
  obtain ⟨ds, hR⟩ := reads_of 5 43 [.int, .int, .int, .sl [.sl [.int], .sl [.int], .sl [.int]], .sl [.int]] (by kernel_rfl) fuel cs.toList _ (by simpa [Value.cells] using hf) (by kernel_rfl)
  have hrel := reads_rel hR
  obtain ⟨h1, h2, h3⟩ := hR
  have hl : ds.length = 5 := by rw [h1, ← h2]; rfl
  match ds, hl with
  | [d0, d1, d2, d3, d4], _ =>
    have get : ∀ (i : Nat) (x : D) (s : Sh), [d0, d1, d2, d3, d4][i]? = some x → ([.int, .int, .int, .sl [.sl [.int], .sl [.int], .sl [.int]], .sl [.int]] : List Sh)[i]? = some s → HasD x s := fun i x s hx hs => by
      have hi : i < cs.toList.length := by rw [← h2]; exact (List.getElem?_eq_some_iff.1 hs).1
      obtain ⟨d', e1, _, e3⟩ := h3 i _ s (List.getElem?_eq_getElem hi) hs
      rw [hx] at e1
      simp only [Option.some.injEq] at e1
      subst e1
      exact e3
    obtain ⟨k, rfl, hk⟩ := hasD_int (get 0 _ _ rfl rfl)
    obtain ⟨p, rfl, hp⟩ := hasD_int (get 1 _ _ rfl rfl)
    obtain ⟨n, rfl, hn⟩ := hasD_int (get 2 _ _ rfl rfl)
    obtain ⟨ts, rfl, hl, ht⟩ := hasD_tens (get 3 _ _ rfl rfl)
    obtain ⟨os, rfl, ho⟩ := hasD_ints (get 4 _ _ rfl rfl)
    exact ⟨⟨k, p, n, ts, os⟩, hrel, ⟨hk, hp, hn, hl, ht, ho⟩⟩
end
theorem szNet_go {N : Net} {left : Int} (h : NSz 9223372036854775807 N) (hl : left ≤ 1048576) (hs : ¬ szNet N left < 0) : NSz 1048576 N ∧ (N.ts.length + totT N.ts + N.os.length : Int) ≤ left ∧ szNet N left = left - (N.ts.length + totT N.ts + N.os.length) := by
  have hs' := hs
  unfold szNet at hs'
  have hb : (N.ts.length + totT N.ts + N.os.length : Int) ≤ left := by split at hs' <;> omega
  refine ⟨⟨h.k, h.p, h.n, by omega, fun t ht => ?_, ⟨by omega, h.o.wf⟩⟩, hb, by unfold szNet; rw [if_neg (by omega)]⟩
  have h1 := totT_mem ht
  unfold lenT at h1
  have h2 := h.t t ht
  exact ⟨⟨by omega, h2.l.wf⟩, ⟨by omega, h2.d.wf⟩, ⟨by omega, h2.x.wf⟩⟩
end Go.Proofs.Ytjncdanegoileaa

/-
  Lists of steps among the arguments, opened as plain data. No condition.
-/
namespace Go.Proofs.Ytjncdanegoileaa
open Go.RowKit Go.Lift Go.ChangeShapes Go.WideShapes Plain
set_option maxRecDepth 100000

theorem getD_int2 : ∀ i : Nat, ([.int, .int] : List Sh).getD i .int = .int
  | 0 => rfl
  | 1 => rfl
  | _ + 2 => rfl
theorem hasDL_int2 : ∀ {l : List D} {j : Nat}, HasDL l j [.int, .int] → ∃ xs : List Int, l = dv xs ∧ ∀ x ∈ xs, I64 x
  | [], _, _ => ⟨[], rfl, by simp⟩
  | x :: l, j, h => by
    simp only [HasDL, getD_int2] at h
    obtain ⟨n, rfl, hn⟩ := hasD_int h.1
    obtain ⟨xs, rfl, hx⟩ := hasDL_int2 h.2
    exact ⟨n :: xs, rfl, by simpa using ⟨hn, hx⟩⟩
theorem hasD_stp {d : D} (h : HasD d (.sl [.int, .int])) : ∃ (n : Nat) (F : List Int), d = stp n F ∧ StpSz 9223372036854775807 n F := by
  cases d <;> simp only [HasD] at h
  obtain ⟨h1, h2, h3⟩ := h
  obtain ⟨xs, rfl, hx⟩ := hasDL_int2 h3
  exact ⟨_, xs, rfl, by simpa [dv] using h2, h1, hx⟩
/-- An argument reads as a list of steps. -/
structure StpIn (w : World) (v : Value) (n : Nat) (F : List Int) : Prop where
  rel : Rel w (topL w) id (at_ []) (.d (stp n F)) v
  sz : StpSz 9223372036854775807 n F
section
variable {H : Type} {enc : TypeId × Value → H} {w : World} {base : Nat} {held : Bool} {r : Reach}
theorem open_steps {b0 : Nat} {v : Value} {d : DataW H} {p : List MemPlace} (hv : Value.okWide Try.prog w r b0 55 v) (h : DataW.Trod enc Try.prog w base (fun _ => true) held 55 v d p) :
    ∃ n F, StpIn w v n F := by
  obtain ⟨A, n, c, rfl⟩ := okWide_slice Try.underlying55 hv
  obtain ⟨fuel, hf⟩ := h
  obtain ⟨ds, hR⟩ := reads_of 5 55 [.sl [.int, .int]] (by kernel_rfl) fuel [.slice A n c] _ hf (by kernel_rfl)
  obtain ⟨h1, h2, h3⟩ := hR
  match ds, h1 with
  | [d0], _ =>
    obtain ⟨d', e1, e2, e3⟩ := h3 0 _ (.sl [.int, .int]) rfl rfl
    simp only [List.getElem?_cons_zero, Option.some.injEq] at e1
    subst e1
    obtain ⟨n', F, rfl, hs⟩ := hasD_stp e3
    exact ⟨n', F, by rw [Rel]; exact e2, hs⟩
end
end Go.Proofs.Ytjncdanegoileaa

/-
  The law of OrderCost: it returns true. No condition.
-/
namespace Go.Proofs.Ytjncdanegoileaa
open Go.RowKit Go.Lift Plain
set_option linter.unusedSimpArgs false
set_option linter.unusedVariables false
set_option maxRecDepth 100000

set_option maxHeartbeats 1600000 in
theorem lawOrderCost_d {N : Net} {n_F : Nat} {F : List Int} (z_N : NSz 9223372036854775807 N) (z_F : StpSz 9223372036854775807 n_F F) :
    Does Try.prog 7 [netA N, .d (stp n_F F)] [] (.d (.bool true)) [] := by
  (refine spec_of (by kernel_rfl) Try.func7 k_laws_FnExactOrderCost (fnOk (Nat.le_of_ble_eq_true rfl) ?_); unfold C_laws_FnExactOrderCost)
  (simp only [Nat.reduceSub, List.length_cons, List.length_nil, Nat.reduceAdd, ch_init1, ch_init2, ch_init3, ch_init4, ch_init5, ch_init6, ch_init7, ch_init8]; try simp only [ch_rep]); (simp only [go_sem, seval, reduceCtorEq, List.replicate])
  (refine ti_call (szNetwork_d (N := N) (left := 1048576) z_N (by omega)) ?_ ?_ ?_; (focus (simp only [go_sem, seval, reduceCtorEq]; done)); (first | rfl | (focus (simp only [go_sem]; done))))
  simp only [go_sem, seval, reduceCtorEq]
  by_cases b1 : szNet N 1048576 < 0
  · simp only [go_sem, seval, reduceCtorEq, b1]
    (refine FnEnd.mk (Nat.le_of_ble_eq_true rfl) rfl (of_decide_eq_true rfl) ?_ ?_ <;> try simp only [go_sem, seval, reduceCtorEq])
  simp only [go_sem, seval, reduceCtorEq, b1]
  obtain ⟨h_N, q1, e1⟩ := szNet_go z_N (by omega) b1
  (refine ti_call (szStepS_d (n := n_F) (F := F) (left := szNet N 1048576) (by have := z_F.n; omega) (by omega)) ?_ ?_ ?_; (focus (simp only [go_sem, seval, reduceCtorEq]; done)); (first | rfl | (focus (simp only [go_sem]; done))))
  simp only [go_sem, seval, reduceCtorEq]
  by_cases b2 : szStp n_F (szNet N 1048576) < 0
  · simp only [go_sem, seval, reduceCtorEq, b2]
    (refine FnEnd.mk (Nat.le_of_ble_eq_true rfl) rfl (of_decide_eq_true rfl) ?_ ?_ <;> try simp only [go_sem, seval, reduceCtorEq])
  simp only [go_sem, seval, reduceCtorEq, b2]
  have q2 : (n_F : Int) ≤ szNet N 1048576 ∧ szStp n_F (szNet N 1048576) = szNet N 1048576 - n_F := by have hb := b2; unfold szStp at hb ⊢; split at hb <;> (first | (exfalso; omega) | (rename_i hc; rw [if_neg hc]; omega))
  have h_F : StpSz 1048576 n_F F := ⟨z_F.l, by omega, z_F.wf⟩
  (refine ti_call (toNetwork_d (N := N) h_N) ?_ ?_ ?_; (focus (simp only [go_sem, seval, reduceCtorEq]; done)); (first | rfl | (focus (simp only [go_sem]; done))))
  simp only [go_sem, seval, reduceCtorEq]
  (refine ti_call (toStepS_d (n := n_F) (F := F) h_F) ?_ ?_ ?_; (focus (simp only [go_sem, seval, reduceCtorEq]; done)); (first | rfl | (focus (simp only [go_sem]; done))))
  simp only [go_sem, seval, reduceCtorEq]
  (refine ti_call (sOrderCost_d h_N h_F) ?_ ?_ ?_; (focus (simp only [go_sem, seval, reduceCtorEq, stp_all h_F]; done)); (first | rfl | (focus (simp only [go_sem]; done))))
  simp only [go_sem, seval, reduceCtorEq]
  (refine ti_call (toNetwork_d (N := N) h_N) ?_ ?_ ?_; (focus (simp only [go_sem, seval, reduceCtorEq]; done)); (first | rfl | (focus (simp only [go_sem]; done))))
  simp only [go_sem, seval, reduceCtorEq]
  (refine ti_call (toStepS_d (n := n_F) (F := F) h_F) ?_ ?_ ?_; (focus (simp only [go_sem, seval, reduceCtorEq]; done)); (first | rfl | (focus (simp only [go_sem]; done))))
  simp only [go_sem, seval, reduceCtorEq]
  (refine ti_call (iOrderCost_d h_N h_F) ?_ ?_ ?_; (focus (simp only [go_sem, seval, reduceCtorEq, stp_all h_F]; done)); (first | rfl | (focus (simp only [go_sem]; done))))
  simp only [go_sem, seval, reduceCtorEq]
  (refine gi_call (toNetwork_d (N := N) h_N) ?_ ?_ ?_; (focus (simp only [go_sem, seval, reduceCtorEq]; done)); (first | rfl | (focus (simp only [go_sem]; done))))
  simp only [go_sem, seval, reduceCtorEq]
  (refine ti_call (eqNetwork_d (N := N) h_N) ?_ ?_ ?_; (focus (simp only [go_sem, seval, reduceCtorEq]; done)); (first | rfl | (focus (simp only [go_sem]; done))))
  simp only [go_sem, seval, reduceCtorEq]
  (refine ti_call (toStepS_d (n := n_F) (F := F) h_F) ?_ ?_ ?_; (focus (simp only [go_sem, seval, reduceCtorEq]; done)); (first | rfl | (focus (simp only [go_sem]; done))))
  simp only [go_sem, seval, reduceCtorEq]
  (refine ti_call (eqStepS_d (n := n_F) (F := F) h_F) ?_ ?_ ?_; (focus (simp only [go_sem, seval, reduceCtorEq, stp_all h_F]; done)); (first | rfl | (focus (simp only [go_sem]; done))))
  simp only [go_sem, seval, reduceCtorEq]
  (refine FnEnd.mk (Nat.le_of_ble_eq_true rfl) rfl (of_decide_eq_true rfl) ?_ ?_ <;> try simp only [go_sem, seval, reduceCtorEq])
theorem law_OrderCost (W : World) {v0 : Value} {N : Net} {v1 : Value} {n_F : Nat} {F : List Int} (w0 : NetIn W v0 N) (w1 : StpIn W v1 n_F F) :
    Calls Try.prog 7 #[v0, v1] W (RetV W (.bool true)) := by
  refine Does.calls (lawOrderCost_d w0.sz w1.sz) W [_, _] ?_
  simp only [RelL]
  exact ⟨_, _, rfl, w0.rel, _, _, rfl, w1.rel, rfl⟩
end Go.Proofs.Ytjncdanegoileaa
