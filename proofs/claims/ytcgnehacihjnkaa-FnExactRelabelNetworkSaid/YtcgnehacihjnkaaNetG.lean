/-
  Contracts: networks copied, opened, scaled; networks that are held. No condition.
-/
import Derived.Test.YtcgnehacihjnkaaCodeG
import Derived.Test.YtcgnehacihjnkaaNetM
import Derived.Test.YtcgnehacihjnkaaNetC
import Derived.Test.YtcgnehacihjnkaaLiftI
namespace Go.Proofs.Ytcgnehacihjnkaa
open Go.RowKit Go.Lift Plain
set_option linter.unusedSimpArgs false
set_option linter.unusedVariables false
set_option maxRecDepth 100000

/-! ### Held -/
theorem markTs_get {ts : List Ten} {m : Int} {k : Nat} (hk : k < ts.length) : (markTs ts m)[k]? = some (markT ts[k] (m + totT (ts.take k))) := by
  induction ts generalizing m k with
  | nil => simp at hk
  | cons t l ih =>
    cases k with
    | zero => simp [markTs, totT]
    | succ k =>
      have := ih (m := m + lenT t) (k := k) (by simpa using hk)
      simp only [markTs, List.getElem?_cons_succ, this, List.getElem_cons_succ, List.take_succ_cons, totT, Int.natCast_add, Int.add_assoc]
theorem heldTensorS_d {ts : List Ten} {m : Int} (h : ts.length ≤ 1048576) (ht : ∀ t ∈ ts, TSz 1048576 t) (h0 : 0 ≤ m ∧ m + totT ts ≤ 1073741824) :
    Does Try.prog 73 [.d (tens (markTs ts m)), .d (.int m)] [] (.d (.int (m + totT ts))) [] := by
  have hml := markTs_len ts m
  (refine spec_of (by kernel_rfl) Try.func73 k_laws_heldTensorS (fnOk (Nat.le_of_ble_eq_true rfl) ?_); unfold C_laws_heldTensorS)
  (simp only [Nat.reduceSub, List.length_cons, List.length_nil, Nat.reduceAdd, ch_init1, ch_init2, ch_init3, ch_init4, ch_init5, ch_init6, ch_init7, ch_init8]; try simp only [ch_rep]); (simp only [go_sem, seval, reduceCtorEq, List.replicate])
  refine wpN_lp (ts.length) [false, false, false, false, true, false, true, true, true, true, true, true, true, true, true, true, true, true, true, true, true, true, true, true, true, true, true, true, true, true, true, true, true, true, true, true, true, true, true, false] (fun k => [(1, .d (.int (m + totT (ts.take k)))), (5, .d (.int k))]) (fun k => []) (fun _ => by (simp only [go_sem, seval, reduceCtorEq, dropF_ch, dropF_cons, dropF_nil, cut, cond_true, cond_false]); first | done | rfl) (fun _ => by (simp only [go_sem, seval, reduceCtorEq, cut]); first | done | rfl) (Nat.le_of_ble_eq_true rfl) (by first | (simp only [go_sem, seval, reduceCtorEq, dropF_ch, dropF_cons, dropF_nil, cut, cond_true, cond_false, Int.natCast_zero, Int.natCast_add, Int.natCast_one, List.take_zero, totT, Int.add_zero]; done) | rfl | (simp only [go_sem, seval, reduceCtorEq, dropF_ch, dropF_cons, dropF_nil, cut, cond_true, cond_false, Int.natCast_zero, Int.natCast_add, Int.natCast_one, List.take_zero, totT, Int.add_zero]; rfl)) (by first | (simp only [go_sem, seval, reduceCtorEq, dropF_ch, dropF_cons, dropF_nil, cut, cond_true, cond_false, Int.natCast_zero, Int.natCast_add, Int.natCast_one, List.take_zero, totT, Int.add_zero]; done) | rfl | (simp only [go_sem, seval, reduceCtorEq, dropF_ch, dropF_cons, dropF_nil, cut, cond_true, cond_false, Int.natCast_zero, Int.natCast_add, Int.natCast_one, List.take_zero, totT, Int.add_zero]; rfl)) fun k hk => ?_
  unfold L0_laws_heldTensorS
  by_cases hlt : k < ts.length
  · have d1 : (k : Int) < ts.length := by omega
    have hst := ht ts[k] (List.getElem_mem hlt)
    have hl1 := hst.l.len
    have hl2 := hst.d.len
    have hl3 := hst.x.len
    have hn := totT_next hlt
    have hle := totT_take ts (k + 1)
    unfold lenT at hn
    obtain ⟨g0, g1, g2⟩ := tcs_get (markTs_get (m := m) hlt)
    simp (disch := omega) only [go_sem, seval, reduceCtorEq, d1, g0]
    (repeat (refine And.intro (by omega) ?_))
    (refine ti_call (heldIntS_d (xs := markL ts[k].labels (m + totT (ts.take k))) (m := m + totT (ts.take k)) (by rw [markL_len]; omega) (by omega)) ?_ ?_ ?_; (focus (simp only [go_sem, seval, reduceCtorEq]; done)); (first | rfl | (focus (simp only [go_sem]; done))))
    have n1 : ¬ (m + (totT (ts.take k) : Int) + ts[k].labels.length < 0) := by omega
    simp (disch := omega) only [go_sem, seval, reduceCtorEq, d1, g1, heldR_mark, n1]
    (repeat (refine And.intro (by omega) ?_))
    (refine ti_call (heldIntS_d (xs := markL ts[k].dims (m + totT (ts.take k) + ts[k].labels.length)) (m := m + totT (ts.take k) + ts[k].labels.length) (by rw [markL_len]; omega) (by omega)) ?_ ?_ ?_; (focus (simp only [go_sem, seval, reduceCtorEq]; done)); (first | rfl | (focus (simp only [go_sem]; done))))
    have n2 : ¬ (m + (totT (ts.take k) : Int) + ts[k].labels.length + ts[k].dims.length < 0) := by omega
    simp (disch := omega) only [go_sem, seval, reduceCtorEq, d1, g2, heldR_mark, n2]
    (repeat (refine And.intro (by omega) ?_))
    (refine ti_call (heldIntS_d (xs := markL ts[k].data (m + totT (ts.take k) + ts[k].labels.length + ts[k].dims.length)) (m := m + totT (ts.take k) + ts[k].labels.length + ts[k].dims.length) (by rw [markL_len]; omega) (by omega)) ?_ ?_ ?_; (focus (simp only [go_sem, seval, reduceCtorEq]; done)); (first | rfl | (focus (simp only [go_sem]; done))))
    have n3 : ¬ (m + (totT (ts.take k) : Int) + ts[k].labels.length + ts[k].dims.length + ts[k].data.length < 0) := by omega
    have hsum : m + (totT (ts.take k) : Int) + ts[k].labels.length + ts[k].dims.length + ts[k].data.length = m + totT (ts.take (k + 1)) := by omega
    simp (disch := omega) only [go_sem, seval, reduceCtorEq, heldR_mark, n3]
    (refine Next.drop [false, false, false, false, true, false, true, true, true, true, true, true, true, true, true, true, true, true, true, true, true, true, true, true, true, true, true, true, true, true, true, true, true, true, true, true, true, true, true, false] (by omega) (Nat.le_of_ble_eq_true rfl) ?_ ?_ <;> first | (simp only [go_sem, seval, reduceCtorEq, dropF_ch, dropF_cons, dropF_nil, cut, cond_true, cond_false, Int.natCast_zero, Int.natCast_add, Int.natCast_one, hsum]; done) | rfl | (simp only [go_sem, seval, reduceCtorEq, dropF_ch, dropF_cons, dropF_nil, cut, cond_true, cond_false, Int.natCast_zero, Int.natCast_add, Int.natCast_one, hsum]; rfl) | skip)
  · have d1 : ¬ (k : Int) < ts.length := by omega
    have htk : ts.take k = ts := List.take_of_length_le (by omega)
    simp (disch := omega) only [go_sem, seval, reduceCtorEq, d1, htk]
    (refine FnEnd.mk (Nat.le_of_ble_eq_true rfl) rfl (of_decide_eq_true rfl) ?_ ?_ <;> try simp only [go_sem, seval, reduceCtorEq])
theorem heldNetwork_d {N : Net} {m : Int} (h : NSz 1048576 N) (h0 : 0 ≤ m ∧ m + totT N.ts + N.os.length ≤ 1073741824) :
    Does Try.prog 23 [netA (markN N m), .d (.int m)] [] (.d (.int (m + totT N.ts + N.os.length))) [] := by
  have hol := h.o.len
  (refine spec_of (by kernel_rfl) Try.func23 k_laws_heldNetwork (fnOk (Nat.le_of_ble_eq_true rfl) ?_); unfold C_laws_heldNetwork)
  (simp only [Nat.reduceSub, List.length_cons, List.length_nil, Nat.reduceAdd, ch_init1, ch_init2, ch_init3, ch_init4, ch_init5, ch_init6, ch_init7, ch_init8]; try simp only [ch_rep]); (simp only [go_sem, seval, reduceCtorEq, List.replicate])
  (refine ti_call (heldTensorS_d (ts := N.ts) (m := m) h.l h.t (by omega)) ?_ ?_ ?_; (focus (simp only [go_sem, seval, reduceCtorEq]; done)); (first | rfl | (focus (simp only [go_sem]; done))))
  have n1 : ¬ (m + (totT N.ts : Int) < 0) := by omega
  simp only [go_sem, seval, reduceCtorEq, n1]
  (refine ti_call (heldIntS_d (xs := markL N.os (m + totT N.ts)) (m := m + totT N.ts) (by rw [markL_len]; omega) (by omega)) ?_ ?_ ?_; (focus (simp only [go_sem, seval, reduceCtorEq]; done)); (first | rfl | (focus (simp only [go_sem]; done))))
  have n2 : ¬ (m + (totT N.ts : Int) + N.os.length < 0) := by omega
  simp only [go_sem, seval, reduceCtorEq, heldR_mark, n2]
  (refine FnEnd.mk (Nat.le_of_ble_eq_true rfl) rfl (of_decide_eq_true rfl) ?_ ?_ <;> try simp only [go_sem, seval, reduceCtorEq])

/-! ### Copies -/
theorem copyNetwork_d {N : Net} (h : NSz 1048576 N) : Does Try.prog 81 [netA N] [] (ownN 0 N) (stoN N) := by
  have hnl := h.l
  (refine spec_of (by kernel_rfl) Try.func81 k_impl_copyNetwork (fnOk (Nat.le_of_ble_eq_true rfl) ?_); unfold C_impl_copyNetwork)
  (simp only [Nat.reduceSub, List.length_cons, List.length_nil, Nat.reduceAdd, ch_init1, ch_init2, ch_init3, ch_init4, ch_init5, ch_init6, ch_init7, ch_init8]; try simp only [ch_rep]); (simp only [go_sem, seval, reduceCtorEq, List.replicate])
  (refine gi_call (copyInts_d (xs := N.os) h.o.up.len) ?_ ?_ ?_; (focus (simp only [go_sem, seval, reduceCtorEq]; done)); (first | rfl | (focus (simp only [go_sem]; done))))
  simp only [go_sem, seval, reduceCtorEq]
  (refine wpN_lwk (Wk.nilS 3 3 3 _ _ _ rfl rfl) ?_; simp only [go_sem, seval, reduceCtorEq])
  refine wpN_lp (N.ts.length) [false, false, false, false, false, true, false, false, false, false, false, false, false, false, false, false, true, true, true, true, true, true, true, true, true, true, true, false] (fun k => [(15, .d (.int k))]) (fun k => [(3, [.d (.int N.k), .d (.int N.p), .d (.int N.n), .own 4 0 k, .own 2 0 N.os.length]), (4, tcA (N.ts.take k))]) (fun _ => by (simp only [go_sem, seval, reduceCtorEq, dropF_ch, dropF_cons, dropF_nil, cut, cond_true, cond_false]); first | done | rfl) (fun _ => by (simp only [go_sem, seval, reduceCtorEq, cut]); first | done | rfl) (Nat.le_of_ble_eq_true rfl) (by first | (simp only [go_sem, seval, reduceCtorEq, dropF_ch, dropF_cons, dropF_nil, cut, cond_true, cond_false, Int.natCast_zero, Int.natCast_add, Int.natCast_one, List.take_zero, tcA_nil]; done) | rfl | (simp only [go_sem, seval, reduceCtorEq, dropF_ch, dropF_cons, dropF_nil, cut, cond_true, cond_false, Int.natCast_zero, Int.natCast_add, Int.natCast_one, List.take_zero, tcA_nil]; rfl)) (by first | (simp only [go_sem, seval, reduceCtorEq, dropF_ch, dropF_cons, dropF_nil, cut, cond_true, cond_false, Int.natCast_zero, Int.natCast_add, Int.natCast_one, List.take_zero, tcA_nil]; done) | rfl | (simp only [go_sem, seval, reduceCtorEq, dropF_ch, dropF_cons, dropF_nil, cut, cond_true, cond_false, Int.natCast_zero, Int.natCast_add, Int.natCast_one, List.take_zero, tcA_nil]; rfl)) fun k hk => ?_
  unfold L0_impl_copyNetwork
  by_cases hlt : k < N.ts.length
  · have d1 : (k : Int) < N.ts.length := by omega
    have g3 := tcs_cut (List.getElem?_eq_getElem hlt)
    have hst := h.t N.ts[k] (List.getElem_mem hlt)
    simp (disch := omega) only [go_sem, seval, reduceCtorEq, d1, g3]
    (repeat (refine And.intro (by omega) ?_))
    (refine gi_call (copyTensor_d (t := N.ts[k]) hst) ?_ ?_ ?_; (focus (simp only [go_sem, seval, reduceCtorEq]; done)); (first | rfl | (focus (simp only [go_sem]; done))))
    have htl : (N.ts.take k).length = k := by rw [List.length_take]; omega
    simp (disch := omega) only [go_sem, seval, reduceCtorEq, htl]
    (repeat (refine And.intro (by omega) ?_))
    (refine Next.mk (by omega) (Wk.trans (Wk.drG [6, 7, 8] 5 (Nat.le_of_ble_eq_true rfl) (Nat.le_of_ble_eq_true rfl) (of_decide_eq_true rfl) (of_decide_eq_true rfl)) ?_)); (simp only [go_sem, seval, reduceCtorEq, dropG_ch, dropG_cons, dropG_nil, cond_true, cond_false, Int.natCast_zero, Int.natCast_add, Int.natCast_one, take_ss hlt, tcA_app, tcA_one]); (refine Wk.eq (Wk.ad3s [false, false, false, false, false, true, false, false, false, false, false, false, false, false, false, false, true, true, true, true, true, true, true, true, true, true, true, false] 4 3 (k * 3) true (τ := [_, _, _, _, _]) (Nat.le_of_ble_eq_true rfl) rfl (take3_len hk) rfl (treL_iv _) (treL_iv _) (treL_iv _) (by simp only [go_sem, seval, reduceCtorEq]) (by simp only [go_sem, seval, reduceCtorEq]) (by simp only [go_sem, seval, reduceCtorEq]) (fun _ => rnL_iv _) (fun _ => rnL_iv _)) ?_ ?_ <;> first | (simp only [go_sem, seval, reduceCtorEq, dropF_ch, dropF_cons, dropF_nil, cut, cond_true, cond_false, Int.natCast_zero, Int.natCast_add, Int.natCast_one, take_ss hlt, tcA_app, tcA_one]; done) | rfl | (simp only [go_sem, seval, reduceCtorEq, dropF_ch, dropF_cons, dropF_nil, cut, cond_true, cond_false, Int.natCast_zero, Int.natCast_add, Int.natCast_one, take_ss hlt, tcA_app, tcA_one]; rfl) | skip)
  · have d1 : ¬ (k : Int) < N.ts.length := by omega
    obtain rfl : k = N.ts.length := by omega
    simp (disch := omega) only [go_sem, seval, reduceCtorEq, d1, List.take_length]
    (refine FnEnd.mk (Nat.le_of_ble_eq_true rfl) rfl (of_decide_eq_true rfl) ?_ ?_ <;> try simp only [go_sem, seval, reduceCtorEq])
theorem l14Copy_d {N : Net} (h : NSz 1048576 N) : Does Try.prog 78 [netA N] [] (ownN 0 N) (stoN N) := by
  have hnl := h.l
  (refine spec_of (by kernel_rfl) Try.func78 k_spec_l14Copy (fnOk (Nat.le_of_ble_eq_true rfl) ?_); unfold C_spec_l14Copy)
  (simp only [Nat.reduceSub, List.length_cons, List.length_nil, Nat.reduceAdd, ch_init1, ch_init2, ch_init3, ch_init4, ch_init5, ch_init6, ch_init7, ch_init8]; try simp only [ch_rep]); (simp only [go_sem, seval, reduceCtorEq, List.replicate])
  (refine gi_call (l05Ints_d (xs := N.os) h.o.up.len) ?_ ?_ ?_; (focus (simp only [go_sem, seval, reduceCtorEq]; done)); (first | rfl | (focus (simp only [go_sem]; done))))
  simp only [go_sem, seval, reduceCtorEq]
  (refine wpN_lwk (Wk.nilS 3 3 3 _ _ _ rfl rfl) ?_; simp only [go_sem, seval, reduceCtorEq])
  refine wpN_lp (N.ts.length) [false, false, false, false, false, true, false, false, false, false, false, false, false, false, false, false, true, true, true, true, true, true, true, true, true, true, true, false] (fun k => [(15, .d (.int k))]) (fun k => [(3, [.d (.int N.k), .d (.int N.p), .d (.int N.n), .own 4 0 k, .own 2 0 N.os.length]), (4, tcA (N.ts.take k))]) (fun _ => by (simp only [go_sem, seval, reduceCtorEq, dropF_ch, dropF_cons, dropF_nil, cut, cond_true, cond_false]); first | done | rfl) (fun _ => by (simp only [go_sem, seval, reduceCtorEq, cut]); first | done | rfl) (Nat.le_of_ble_eq_true rfl) (by first | (simp only [go_sem, seval, reduceCtorEq, dropF_ch, dropF_cons, dropF_nil, cut, cond_true, cond_false, Int.natCast_zero, Int.natCast_add, Int.natCast_one, List.take_zero, tcA_nil]; done) | rfl | (simp only [go_sem, seval, reduceCtorEq, dropF_ch, dropF_cons, dropF_nil, cut, cond_true, cond_false, Int.natCast_zero, Int.natCast_add, Int.natCast_one, List.take_zero, tcA_nil]; rfl)) (by first | (simp only [go_sem, seval, reduceCtorEq, dropF_ch, dropF_cons, dropF_nil, cut, cond_true, cond_false, Int.natCast_zero, Int.natCast_add, Int.natCast_one, List.take_zero, tcA_nil]; done) | rfl | (simp only [go_sem, seval, reduceCtorEq, dropF_ch, dropF_cons, dropF_nil, cut, cond_true, cond_false, Int.natCast_zero, Int.natCast_add, Int.natCast_one, List.take_zero, tcA_nil]; rfl)) fun k hk => ?_
  unfold L0_spec_l14Copy
  by_cases hlt : k < N.ts.length
  · have d1 : (k : Int) < N.ts.length := by omega
    have g3 := tcs_cut (List.getElem?_eq_getElem hlt)
    have hst := h.t N.ts[k] (List.getElem_mem hlt)
    simp (disch := omega) only [go_sem, seval, reduceCtorEq, d1, g3]
    (repeat (refine And.intro (by omega) ?_))
    (refine gi_call (l05Copy_d (t := N.ts[k]) hst) ?_ ?_ ?_; (focus (simp only [go_sem, seval, reduceCtorEq]; done)); (first | rfl | (focus (simp only [go_sem]; done))))
    have htl : (N.ts.take k).length = k := by rw [List.length_take]; omega
    simp (disch := omega) only [go_sem, seval, reduceCtorEq, htl]
    (repeat (refine And.intro (by omega) ?_))
    (refine Next.mk (by omega) (Wk.trans (Wk.drG [6, 7, 8] 5 (Nat.le_of_ble_eq_true rfl) (Nat.le_of_ble_eq_true rfl) (of_decide_eq_true rfl) (of_decide_eq_true rfl)) ?_)); (simp only [go_sem, seval, reduceCtorEq, dropG_ch, dropG_cons, dropG_nil, cond_true, cond_false, Int.natCast_zero, Int.natCast_add, Int.natCast_one, take_ss hlt, tcA_app, tcA_one]); (refine Wk.eq (Wk.ad3s [false, false, false, false, false, true, false, false, false, false, false, false, false, false, false, false, true, true, true, true, true, true, true, true, true, true, true, false] 4 3 (k * 3) true (τ := [_, _, _, _, _]) (Nat.le_of_ble_eq_true rfl) rfl (take3_len hk) rfl (treL_iv _) (treL_iv _) (treL_iv _) (by simp only [go_sem, seval, reduceCtorEq]) (by simp only [go_sem, seval, reduceCtorEq]) (by simp only [go_sem, seval, reduceCtorEq]) (fun _ => rnL_iv _) (fun _ => rnL_iv _)) ?_ ?_ <;> first | (simp only [go_sem, seval, reduceCtorEq, dropF_ch, dropF_cons, dropF_nil, cut, cond_true, cond_false, Int.natCast_zero, Int.natCast_add, Int.natCast_one, take_ss hlt, tcA_app, tcA_one]; done) | rfl | (simp only [go_sem, seval, reduceCtorEq, dropF_ch, dropF_cons, dropF_nil, cut, cond_true, cond_false, Int.natCast_zero, Int.natCast_add, Int.natCast_one, take_ss hlt, tcA_app, tcA_one]; rfl) | skip)
  · have d1 : ¬ (k : Int) < N.ts.length := by omega
    obtain rfl : k = N.ts.length := by omega
    simp (disch := omega) only [go_sem, seval, reduceCtorEq, d1, List.take_length]
    (refine FnEnd.mk (Nat.le_of_ble_eq_true rfl) rfl (of_decide_eq_true rfl) ?_ ?_ <;> try simp only [go_sem, seval, reduceCtorEq])

/-! ### Opened -/
def zeroN : Net := ⟨0, 0, 0, [], []⟩
attribute [go_sem] zeroN
def Net.withO (N : Net) (L : List Int) : Net := ⟨N.k, N.p, N.n, N.ts, L⟩
noncomputable def openB (N : Net) (L : List Int) : Bool := netOk N && netOk (N.withO L)
noncomputable def openNet (N : Net) (L : List Int) : Net := bif openB N L then N.withO L else zeroN
theorem zeroN_sz : NSz 1048576 zeroN := ⟨⟨by decide, by decide⟩, ⟨by decide, by decide⟩, ⟨by decide, by decide⟩, Nat.zero_le _, (fun t ht => by cases ht), ⟨Nat.zero_le _, fun x hx => by cases hx⟩⟩
theorem NSz.withO {N : Net} {L : List Int} (h : NSz 1048576 N) (hL : Sz 1048576 L) : NSz 1048576 (N.withO L) := ⟨h.k, h.p, h.n, h.l, h.t, hL⟩
theorem openNet_sz {N : Net} {L : List Int} (h : NSz 1048576 N) (hL : Sz 1048576 L) : NSz 1048576 (openNet N L) := by
  unfold openNet
  cases openB N L
  · exact zeroN_sz
  · exact h.withO hL
/-! ### Scaled -/
def scal (x : List Int) : Ten := ⟨[], [], x⟩
theorem scal_ok {r : Rg} {x : List Int} (h : elemOk r x = true) : tensorOk r [] [] x = true := by
  unfold elemOk at h
  simp only [Bool.and_eq_true, decide_eq_true_eq] at h
  have e : tsize [] [] = 1 := rfl
  unfold tensorOk
  simp only [Bool.and_eq_true, decide_eq_true_eq, e]
  exact ⟨⟨h.1.1, by omega, by omega⟩, h.2⟩
theorem consT_app {ts : List Ten} (t : Ten) {k : Nat} (hk : k < ts.length) : consT (ts ++ [t]) k ↔ consT ts k := by
  unfold consT
  rw [List.take_append_of_le_length (by omega)]
  constructor
  · intro h x hk' hx
    have := h x (by simp; omega) (by rw [List.getElem_append_left hk']; exact hx)
    rwa [List.getElem_append_left hk'] at this
  · intro h x hk' hx
    rw [List.getElem_append_left hk] at hx ⊢
    exact h x hk hx
theorem netOk_scal {N : Net} {x : List Int} (h : netOk N = true) (hx : elemOk N.rg x = true) : netOk ⟨N.k, N.p, N.n, N.ts ++ [scal x], N.os⟩ = decide (N.ts.length < 12) := by
  obtain ⟨a, b, c, d, e⟩ := netOk_iff.1 h
  have hd : ∀ y, dimN (N.ts ++ [scal x]) y = dimN N.ts y := fun y => by
    rw [dimN_app _ _ _ c.ax.ne]
    split
    · rename_i h0; rw [h0]; simp [dimN, scal]
    · rfl
  have hm : N.os.map (dimN (N.ts ++ [scal x])) = N.os.map (dimN N.ts) := List.map_congr_left fun y _ => hd y
  by_cases hl : N.ts.length < 12
  · rw [decide_eq_true hl]
    refine netOk_iff.2 ⟨a, by simp; omega, fun t ht => ?_, fun k hk => ?_, by rw [hm]; exact e⟩
    · rcases List.mem_append.1 ht with ht | ht
      · exact c t ht
      · simp only [List.mem_singleton] at ht
        subst ht
        exact scal_ok hx
    · by_cases hk' : k < N.ts.length
      · exact (consT_app _ hk').2 (d k hk')
      · intro y hk2 hy
        simp only [List.length_append, List.length_cons, List.length_nil] at hk
        rw [List.getElem_append_right (by omega)] at hy
        simp [scal] at hy
  · rw [decide_eq_false hl]
    exact netOk_no fun e => by have := e.2.1; simp at this; omega
noncomputable def scaleB (N : Net) (x : List Int) : Bool := netOk N && elemOk N.rg x && decide (N.ts.length < 12)
noncomputable def scaleN (N : Net) (x : List Int) : Net := bif scaleB N x then ⟨N.k, N.p, N.n, N.ts ++ [scal x], N.os⟩ else zeroN
theorem scaleN_up {N : Net} {x : List Int} (h : NSz 1048576 N) (hl : N.ts.length ≤ 12) (hx : Sz 1048576 x) : NSz 1048576 ⟨N.k, N.p, N.n, N.ts ++ [scal x], N.os⟩ := by
  refine ⟨h.k, h.p, h.n, by simp; omega, fun t ht => ?_, h.o⟩
  rcases List.mem_append.1 ht with ht | ht
  · exact h.t t ht
  · simp only [List.mem_singleton] at ht
    subst ht
    exact ⟨⟨by simp [scal], fun y hy => by simp [scal] at hy⟩, ⟨by simp [scal], fun y hy => by simp [scal] at hy⟩, hx⟩
theorem scaleN_sz {N : Net} {x : List Int} (h : NSz 1048576 N) (hx : Sz 1048576 x) : NSz 1048576 (scaleN N x) := by
  unfold scaleN
  cases e : scaleB N x
  · exact zeroN_sz
  · simp only [scaleB, Bool.and_eq_true, decide_eq_true_eq] at e
    exact scaleN_up h (by omega) hx
/-! ### Without units -/
def selTo (p : Nat → Bool) (xs : List Int) : Nat → List Int
  | 0 => []
  | k + 1 => selTo p xs k ++ (if p k = true then [xs.getD k 0] else [])
section
variable {p : Nat → Bool} {xs : List Int} {k : Nat}
theorem selTo_zero : selTo p xs 0 = [] := rfl
theorem selTo_yes (hk : k < xs.length) (h : p k = true) : selTo p xs (k + 1) = selTo p xs k ++ [xs[k]] := by simp [selTo, h, hk]
theorem selTo_no (h : p k = false) : selTo p xs (k + 1) = selTo p xs k := by simp [selTo, h]
theorem selTo_len (p : Nat → Bool) (xs : List Int) : ∀ k, (selTo p xs k).length ≤ k
  | 0 => Nat.le_refl _
  | k + 1 => by
    have := selTo_len p xs k
    simp only [selTo, List.length_append]
    split <;> simp <;> omega
theorem selTo_mem (hk : k ≤ xs.length) : ∀ x ∈ selTo p xs k, x ∈ xs := by
  induction k with
  | zero => simp [selTo]
  | succ k ih =>
    intro x hx
    simp only [selTo, List.mem_append] at hx
    rcases hx with hx | hx
    · exact ih (by omega) x hx
    · split at hx
      · simp only [List.mem_singleton] at hx; subst hx; exact mem_of_get xs k (by omega)
      · cases hx
end
def unitP (os : List Int) (t : Ten) (i : Nat) : Bool := decide (t.dims.getD i 0 > 1) || has os (t.labels.getD i 0)
def dropT (os : List Int) (t : Ten) : Ten := ⟨selTo (unitP os t) t.labels t.labels.length, selTo (unitP os t) t.dims t.labels.length, t.data⟩
theorem dropT_sz {os : List Int} {t : Ten} (h : TSz 1048576 t) (hl : t.labels.length = t.dims.length) : TSz 1048576 (dropT os t) := by
  have h1 := h.l.len
  have a := selTo_len (unitP os t) t.labels t.labels.length
  have b := selTo_len (unitP os t) t.dims t.labels.length
  exact ⟨⟨by show (selTo _ _ _).length ≤ _; omega, fun x hx => h.l.wf x (selTo_mem (Nat.le_refl _) x hx)⟩, ⟨by show (selTo _ _ _).length ≤ _; omega, fun x hx => h.d.wf x (selTo_mem (by omega) x hx)⟩, h.x⟩
noncomputable def dropN (N : Net) : Net := bif netOk N then ⟨N.k, N.p, N.n, N.ts.map (dropT N.os), N.os⟩ else zeroN
theorem dropN_sz {N : Net} (h : NSz 1048576 N) : NSz 1048576 (dropN N) := by
  unfold dropN
  cases e : netOk N
  · exact zeroN_sz
  · refine ⟨h.k, h.p, h.n, by simpa using h.l, fun t ht => ?_, h.o⟩
    simp only [cond_true, List.mem_map] at ht
    obtain ⟨u, hu, rfl⟩ := ht
    exact dropT_sz (h.t u hu) (netOk_ax e u hu).len
def mapTo (f : Ten → Ten) (ts : List Ten) (k : Nat) : List AV := tcA ((ts.take k).map f ++ ts.drop k)
section
variable {f : Ten → Ten} {ts : List Ten} {k : Nat}
theorem mapTo_zero : mapTo f ts 0 = tcA ts := by simp [mapTo]
theorem mapTo_all (h : ts.length ≤ k) : mapTo f ts k = tcA (ts.map f) := by simp [mapTo, List.take_of_length_le h, List.drop_of_length_le h]
theorem mapTo_len : (mapTo f ts k).length = ts.length * 3 := by rw [mapTo, tcA_len, List.length_append, List.length_map, List.length_take, List.length_drop]; congr 1; omega
theorem map3_len (h : k ≤ ts.length) : (tcA ((ts.take k).map f)).length = k * 3 := by rw [tcA_len, List.length_map, List.length_take]; congr 1; omega
theorem mapTo_split (h : k < ts.length) : mapTo f ts k = tcA ((ts.take k).map f) ++ tcA [ts[k]] ++ tcA (ts.drop (k + 1)) := by
  rw [mapTo, List.drop_eq_getElem_cons h, ← List.singleton_append (l := ts.drop (k + 1)), tcA_app, tcA_app, List.append_assoc]
theorem mapTo_take (h : k < ts.length) : (mapTo f ts k).take (k * 3) = tcA ((ts.take k).map f) := by
  rw [mapTo_split h, List.append_assoc, List.take_append_of_le_length (by rw [map3_len (by omega)]; exact Nat.le_refl _), List.take_of_length_le (by rw [map3_len (by omega)]; exact Nat.le_refl _)]
theorem mapTo_drop (h : k < ts.length) : (mapTo f ts k).drop (k * 3 + 3) = tcA (ts.drop (k + 1)) := by
  have e : (tcA ((ts.take k).map f) ++ tcA [ts[k]]).length = k * 3 + 3 := by rw [List.length_append, map3_len (by omega)]; rfl
  rw [mapTo_split h, List.drop_append_of_le_length (by rw [e]; exact Nat.le_refl _), List.drop_of_length_le (by rw [e]; exact Nat.le_refl _), List.nil_append]
theorem mapTo_next (h : k < ts.length) : mapTo f ts (k + 1) = tcA ((ts.take k).map f) ++ tcA [f ts[k]] ++ tcA (ts.drop (k + 1)) := by
  rw [mapTo, take_ss h, List.map_append, tcA_app, tcA_app]
  rfl
theorem rnL_mapTo (ρ : Nat → Option Nat) : rnL ρ (mapTo f ts k) = mapTo f ts k := rnL_tcA ρ
end
attribute [go_sem] rnL_mapTo mapTo_len
end Go.Proofs.Ytcgnehacihjnkaa
