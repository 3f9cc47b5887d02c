/-
  Contracts: networks copied, opened, scaled; networks that are held. No condition.
-/
import Derived.Test.YtlijfhfhonalgaaMgJoinNetworksA
import Derived.Test.YtlijfhfhonalgaaNetM
import Derived.Test.YtlijfhfhonalgaaNetC
import Derived.Test.YtlijfhfhonalgaaLiftI
namespace Go.Proofs.Ytlijfhfhonalgaa
open Go.RowKit Go.Lift Plain
set_option linter.unusedSimpArgs false
set_option linter.unusedVariables false
set_option maxRecDepth 100000

/-! ### Held -/
theorem markTs_get {ts : List Ten} {m : Int} {k : Nat} (hk : k < ts.length) : (markTs ts m)[k]? = some (markT ts[k] (m + totT (ts.take k))) := by
  induction ts generalizing m k with
  | nil => simp at hk
  | cons t l ih =>
    cases k with
    | zero => simp [markTs, totT]
    | succ k =>
      have := ih (m := m + lenT t) (k := k) (by simpa using hk)
      simp only [markTs, List.getElem?_cons_succ, this, List.getElem_cons_succ, List.take_succ_cons, totT, Int.natCast_add, Int.add_assoc]
theorem heldTensorS_d {ts : List Ten} {m : Int} (h : ts.length ≤ 1048576) (ht : ∀ t ∈ ts, TSz 1048576 t) (h0 : 0 ≤ m ∧ m + totT ts ≤ 1073741824) :
    Does Try.prog 67 [.d (tens (markTs ts m)), .d (.int m)] [] (.d (.int (m + totT ts))) [] := by
  have hml := markTs_len ts m
  (refine spec_of (by kernel_rfl) Try.func67 k_laws_heldTensorS (fnOk (Nat.le_of_ble_eq_true rfl) ?_); unfold C_laws_heldTensorS)
  (simp only [Nat.reduceSub, List.length_cons, List.length_nil, Nat.reduceAdd, ch_init1, ch_init2, ch_init3, ch_init4, ch_init5, ch_init6, ch_init7, ch_init8]; try simp only [ch_rep]); (simp only [go_sem, seval, reduceCtorEq, List.replicate])
  refine wpN_lp (ts.length) [false, false, false, false, true, false, true, true, true, true, true, true, true, true, true, true, true, true, true, true, true, true, true, true, true, true, true, true, true, true, true, true, true, true, true, true, true, true, true, false] (fun k => [(1, .d (.int (m + totT (ts.take k)))), (5, .d (.int k))]) (fun k => []) (fun _ => by (simp only [go_sem, seval, reduceCtorEq, dropF_ch, dropF_cons, dropF_nil, cut, cond_true, cond_false]); first | done | rfl) (fun _ => by (simp only [go_sem, seval, reduceCtorEq, cut]); first | done | rfl) (Nat.le_of_ble_eq_true rfl) (by first | (simp only [go_sem, seval, reduceCtorEq, dropF_ch, dropF_cons, dropF_nil, cut, cond_true, cond_false, Int.natCast_zero, Int.natCast_add, Int.natCast_one, List.take_zero, totT, Int.add_zero]; done) | rfl | (simp only [go_sem, seval, reduceCtorEq, dropF_ch, dropF_cons, dropF_nil, cut, cond_true, cond_false, Int.natCast_zero, Int.natCast_add, Int.natCast_one, List.take_zero, totT, Int.add_zero]; rfl)) (by first | (simp only [go_sem, seval, reduceCtorEq, dropF_ch, dropF_cons, dropF_nil, cut, cond_true, cond_false, Int.natCast_zero, Int.natCast_add, Int.natCast_one, List.take_zero, totT, Int.add_zero]; done) | rfl | (simp only [go_sem, seval, reduceCtorEq, dropF_ch, dropF_cons, dropF_nil, cut, cond_true, cond_false, Int.natCast_zero, Int.natCast_add, Int.natCast_one, List.take_zero, totT, Int.add_zero]; rfl)) fun k hk => ?_
  unfold L0_laws_heldTensorS
  by_cases hlt : k < ts.length
  · have d1 : (k : Int) < ts.length := by omega
    have hst := ht ts[k] (List.getElem_mem hlt)
    have hl1 := hst.l.len
    have hl2 := hst.d.len
    have hl3 := hst.x.len
    have hn := totT_next hlt
    have hle := totT_take ts (k + 1)
    unfold lenT at hn
    obtain ⟨g0, g1, g2⟩ := tcs_get (markTs_get (m := m) hlt)
    simp (disch := omega) only [go_sem, seval, reduceCtorEq, d1, g0]
    (repeat (refine And.intro (by omega) ?_))
    (refine ti_call (heldIntS_d (xs := markL ts[k].labels (m + totT (ts.take k))) (m := m + totT (ts.take k)) (by rw [markL_len]; omega) (by omega)) ?_ ?_ ?_; (focus (simp only [go_sem, seval, reduceCtorEq]; done)); (first | rfl | (focus (simp only [go_sem]; done))))
    have n1 : ¬ (m + (totT (ts.take k) : Int) + ts[k].labels.length < 0) := by omega
    simp (disch := omega) only [go_sem, seval, reduceCtorEq, d1, g1, heldR_mark, n1]
    (repeat (refine And.intro (by omega) ?_))
    (refine ti_call (heldIntS_d (xs := markL ts[k].dims (m + totT (ts.take k) + ts[k].labels.length)) (m := m + totT (ts.take k) + ts[k].labels.length) (by rw [markL_len]; omega) (by omega)) ?_ ?_ ?_; (focus (simp only [go_sem, seval, reduceCtorEq]; done)); (first | rfl | (focus (simp only [go_sem]; done))))
    have n2 : ¬ (m + (totT (ts.take k) : Int) + ts[k].labels.length + ts[k].dims.length < 0) := by omega
    simp (disch := omega) only [go_sem, seval, reduceCtorEq, d1, g2, heldR_mark, n2]
    (repeat (refine And.intro (by omega) ?_))
    (refine ti_call (heldIntS_d (xs := markL ts[k].data (m + totT (ts.take k) + ts[k].labels.length + ts[k].dims.length)) (m := m + totT (ts.take k) + ts[k].labels.length + ts[k].dims.length) (by rw [markL_len]; omega) (by omega)) ?_ ?_ ?_; (focus (simp only [go_sem, seval, reduceCtorEq]; done)); (first | rfl | (focus (simp only [go_sem]; done))))
    have n3 : ¬ (m + (totT (ts.take k) : Int) + ts[k].labels.length + ts[k].dims.length + ts[k].data.length < 0) := by omega
    have hsum : m + (totT (ts.take k) : Int) + ts[k].labels.length + ts[k].dims.length + ts[k].data.length = m + totT (ts.take (k + 1)) := by omega
    simp (disch := omega) only [go_sem, seval, reduceCtorEq, heldR_mark, n3]
    (refine Next.drop [false, false, false, false, true, false, true, true, true, true, true, true, true, true, true, true, true, true, true, true, true, true, true, true, true, true, true, true, true, true, true, true, true, true, true, true, true, true, true, false] (by omega) (Nat.le_of_ble_eq_true rfl) ?_ ?_ <;> first | (simp only [go_sem, seval, reduceCtorEq, dropF_ch, dropF_cons, dropF_nil, cut, cond_true, cond_false, Int.natCast_zero, Int.natCast_add, Int.natCast_one, hsum]; done) | rfl | (simp only [go_sem, seval, reduceCtorEq, dropF_ch, dropF_cons, dropF_nil, cut, cond_true, cond_false, Int.natCast_zero, Int.natCast_add, Int.natCast_one, hsum]; rfl) | skip)
  · have d1 : ¬ (k : Int) < ts.length := by omega
    have htk : ts.take k = ts := List.take_of_length_le (by omega)
    simp (disch := omega) only [go_sem, seval, reduceCtorEq, d1, htk]
    (refine FnEnd.mk (Nat.le_of_ble_eq_true rfl) rfl (of_decide_eq_true rfl) ?_ ?_ <;> try simp only [go_sem, seval, reduceCtorEq])
theorem heldNetwork_d {N : Net} {m : Int} (h : NSz 1048576 N) (h0 : 0 ≤ m ∧ m + totT N.ts + N.os.length ≤ 1073741824) :
    Does Try.prog 32 [netA (markN N m), .d (.int m)] [] (.d (.int (m + totT N.ts + N.os.length))) [] := by
  have hol := h.o.len
  (refine spec_of (by kernel_rfl) Try.func32 k_laws_heldNetwork (fnOk (Nat.le_of_ble_eq_true rfl) ?_); unfold C_laws_heldNetwork)
  (simp only [Nat.reduceSub, List.length_cons, List.length_nil, Nat.reduceAdd, ch_init1, ch_init2, ch_init3, ch_init4, ch_init5, ch_init6, ch_init7, ch_init8]; try simp only [ch_rep]); (simp only [go_sem, seval, reduceCtorEq, List.replicate])
  (refine ti_call (heldTensorS_d (ts := N.ts) (m := m) h.l h.t (by omega)) ?_ ?_ ?_; (focus (simp only [go_sem, seval, reduceCtorEq]; done)); (first | rfl | (focus (simp only [go_sem]; done))))
  have n1 : ¬ (m + (totT N.ts : Int) < 0) := by omega
  simp only [go_sem, seval, reduceCtorEq, n1]
  (refine ti_call (heldIntS_d (xs := markL N.os (m + totT N.ts)) (m := m + totT N.ts) (by rw [markL_len]; omega) (by omega)) ?_ ?_ ?_; (focus (simp only [go_sem, seval, reduceCtorEq]; done)); (first | rfl | (focus (simp only [go_sem]; done))))
  have n2 : ¬ (m + (totT N.ts : Int) + N.os.length < 0) := by omega
  simp only [go_sem, seval, reduceCtorEq, heldR_mark, n2]
  (refine FnEnd.mk (Nat.le_of_ble_eq_true rfl) rfl (of_decide_eq_true rfl) ?_ ?_ <;> try simp only [go_sem, seval, reduceCtorEq])

/-! ### Copies -/
theorem copyNetwork_d {N : Net} (h : NSz 1048576 N) : Does Try.prog 65 [netA N] [] (ownN 0 N) (stoN N) := by
  have hnl := h.l
  (refine spec_of (by kernel_rfl) Try.func65 k_impl_copyNetwork (fnOk (Nat.le_of_ble_eq_true rfl) ?_); unfold C_impl_copyNetwork)
  (simp only [Nat.reduceSub, List.length_cons, List.length_nil, Nat.reduceAdd, ch_init1, ch_init2, ch_init3, ch_init4, ch_init5, ch_init6, ch_init7, ch_init8]; try simp only [ch_rep]); (simp only [go_sem, seval, reduceCtorEq, List.replicate])
  (refine gi_call (copyInts_d (xs := N.os) h.o.up.len) ?_ ?_ ?_; (focus (simp only [go_sem, seval, reduceCtorEq]; done)); (first | rfl | (focus (simp only [go_sem]; done))))
  simp only [go_sem, seval, reduceCtorEq]
  (refine wpN_lwk (Wk.nilS 3 3 3 _ _ _ rfl rfl) ?_; simp only [go_sem, seval, reduceCtorEq])
  refine wpN_lp (N.ts.length) [false, false, false, false, false, true, false, false, false, false, false, false, false, false, false, false, true, true, true, true, true, true, true, true, true, true, true, false] (fun k => [(15, .d (.int k))]) (fun k => [(3, [.d (.int N.k), .d (.int N.p), .d (.int N.n), .own 4 0 k, .own 2 0 N.os.length]), (4, tcA (N.ts.take k))]) (fun _ => by (simp only [go_sem, seval, reduceCtorEq, dropF_ch, dropF_cons, dropF_nil, cut, cond_true, cond_false]); first | done | rfl) (fun _ => by (simp only [go_sem, seval, reduceCtorEq, cut]); first | done | rfl) (Nat.le_of_ble_eq_true rfl) (by first | (simp only [go_sem, seval, reduceCtorEq, dropF_ch, dropF_cons, dropF_nil, cut, cond_true, cond_false, Int.natCast_zero, Int.natCast_add, Int.natCast_one, List.take_zero, tcA_nil]; done) | rfl | (simp only [go_sem, seval, reduceCtorEq, dropF_ch, dropF_cons, dropF_nil, cut, cond_true, cond_false, Int.natCast_zero, Int.natCast_add, Int.natCast_one, List.take_zero, tcA_nil]; rfl)) (by first | (simp only [go_sem, seval, reduceCtorEq, dropF_ch, dropF_cons, dropF_nil, cut, cond_true, cond_false, Int.natCast_zero, Int.natCast_add, Int.natCast_one, List.take_zero, tcA_nil]; done) | rfl | (simp only [go_sem, seval, reduceCtorEq, dropF_ch, dropF_cons, dropF_nil, cut, cond_true, cond_false, Int.natCast_zero, Int.natCast_add, Int.natCast_one, List.take_zero, tcA_nil]; rfl)) fun k hk => ?_
  unfold L0_impl_copyNetwork
  by_cases hlt : k < N.ts.length
  · have d1 : (k : Int) < N.ts.length := by omega
    have g3 := tcs_cut (List.getElem?_eq_getElem hlt)
    have hst := h.t N.ts[k] (List.getElem_mem hlt)
    simp (disch := omega) only [go_sem, seval, reduceCtorEq, d1, g3]
    (repeat (refine And.intro (by omega) ?_))
    (refine gi_call (copyTensor_d (t := N.ts[k]) hst) ?_ ?_ ?_; (focus (simp only [go_sem, seval, reduceCtorEq]; done)); (first | rfl | (focus (simp only [go_sem]; done))))
    have htl : (N.ts.take k).length = k := by rw [List.length_take]; omega
    simp (disch := omega) only [go_sem, seval, reduceCtorEq, htl]
    (repeat (refine And.intro (by omega) ?_))
    (refine Next.mk (by omega) (Wk.trans (Wk.drG [6, 7, 8] 5 (Nat.le_of_ble_eq_true rfl) (Nat.le_of_ble_eq_true rfl) (of_decide_eq_true rfl) (of_decide_eq_true rfl)) ?_)); (simp only [go_sem, seval, reduceCtorEq, dropG_ch, dropG_cons, dropG_nil, cond_true, cond_false, Int.natCast_zero, Int.natCast_add, Int.natCast_one, take_ss hlt, tcA_app, tcA_one]); (refine Wk.eq (Wk.ad3s [false, false, false, false, false, true, false, false, false, false, false, false, false, false, false, false, true, true, true, true, true, true, true, true, true, true, true, false] 4 3 (k * 3) true (τ := [_, _, _, _, _]) (Nat.le_of_ble_eq_true rfl) rfl (take3_len hk) rfl (treL_iv _) (treL_iv _) (treL_iv _) (by simp only [go_sem, seval, reduceCtorEq]) (by simp only [go_sem, seval, reduceCtorEq]) (by simp only [go_sem, seval, reduceCtorEq]) (fun _ => rnL_iv _) (fun _ => rnL_iv _)) ?_ ?_ <;> first | (simp only [go_sem, seval, reduceCtorEq, dropF_ch, dropF_cons, dropF_nil, cut, cond_true, cond_false, Int.natCast_zero, Int.natCast_add, Int.natCast_one, take_ss hlt, tcA_app, tcA_one]; done) | rfl | (simp only [go_sem, seval, reduceCtorEq, dropF_ch, dropF_cons, dropF_nil, cut, cond_true, cond_false, Int.natCast_zero, Int.natCast_add, Int.natCast_one, take_ss hlt, tcA_app, tcA_one]; rfl) | skip)
  · have d1 : ¬ (k : Int) < N.ts.length := by omega
    obtain rfl : k = N.ts.length := by omega
    simp (disch := omega) only [go_sem, seval, reduceCtorEq, d1, List.take_length]
    (refine FnEnd.mk (Nat.le_of_ble_eq_true rfl) rfl (of_decide_eq_true rfl) ?_ ?_ <;> try simp only [go_sem, seval, reduceCtorEq])
theorem l14Copy_d {N : Net} (h : NSz 1048576 N) : Does Try.prog 61 [netA N] [] (ownN 0 N) (stoN N) := by
  have hnl := h.l
  (refine spec_of (by kernel_rfl) Try.func61 k_spec_l14Copy (fnOk (Nat.le_of_ble_eq_true rfl) ?_); unfold C_spec_l14Copy)
  (simp only [Nat.reduceSub, List.length_cons, List.length_nil, Nat.reduceAdd, ch_init1, ch_init2, ch_init3, ch_init4, ch_init5, ch_init6, ch_init7, ch_init8]; try simp only [ch_rep]); (simp only [go_sem, seval, reduceCtorEq, List.replicate])
  (refine gi_call (l05Ints_d (xs := N.os) h.o.up.len) ?_ ?_ ?_; (focus (simp only [go_sem, seval, reduceCtorEq]; done)); (first | rfl | (focus (simp only [go_sem]; done))))
  simp only [go_sem, seval, reduceCtorEq]
  (refine wpN_lwk (Wk.nilS 3 3 3 _ _ _ rfl rfl) ?_; simp only [go_sem, seval, reduceCtorEq])
  refine wpN_lp (N.ts.length) [false, false, false, false, false, true, false, false, false, false, false, false, false, false, false, false, true, true, true, true, true, true, true, true, true, true, true, false] (fun k => [(15, .d (.int k))]) (fun k => [(3, [.d (.int N.k), .d (.int N.p), .d (.int N.n), .own 4 0 k, .own 2 0 N.os.length]), (4, tcA (N.ts.take k))]) (fun _ => by (simp only [go_sem, seval, reduceCtorEq, dropF_ch, dropF_cons, dropF_nil, cut, cond_true, cond_false]); first | done | rfl) (fun _ => by (simp only [go_sem, seval, reduceCtorEq, cut]); first | done | rfl) (Nat.le_of_ble_eq_true rfl) (by first | (simp only [go_sem, seval, reduceCtorEq, dropF_ch, dropF_cons, dropF_nil, cut, cond_true, cond_false, Int.natCast_zero, Int.natCast_add, Int.natCast_one, List.take_zero, tcA_nil]; done) | rfl | (simp only [go_sem, seval, reduceCtorEq, dropF_ch, dropF_cons, dropF_nil, cut, cond_true, cond_false, Int.natCast_zero, Int.natCast_add, Int.natCast_one, List.take_zero, tcA_nil]; rfl)) (by first | (simp only [go_sem, seval, reduceCtorEq, dropF_ch, dropF_cons, dropF_nil, cut, cond_true, cond_false, Int.natCast_zero, Int.natCast_add, Int.natCast_one, List.take_zero, tcA_nil]; done) | rfl | (simp only [go_sem, seval, reduceCtorEq, dropF_ch, dropF_cons, dropF_nil, cut, cond_true, cond_false, Int.natCast_zero, Int.natCast_add, Int.natCast_one, List.take_zero, tcA_nil]; rfl)) fun k hk => ?_
  unfold L0_spec_l14Copy
  by_cases hlt : k < N.ts.length
  · have d1 : (k : Int) < N.ts.length := by omega
    have g3 := tcs_cut (List.getElem?_eq_getElem hlt)
    have hst := h.t N.ts[k] (List.getElem_mem hlt)
    simp (disch := omega) only [go_sem, seval, reduceCtorEq, d1, g3]
    (repeat (refine And.intro (by omega) ?_))
    (refine gi_call (l05Copy_d (t := N.ts[k]) hst) ?_ ?_ ?_; (focus (simp only [go_sem, seval, reduceCtorEq]; done)); (first | rfl | (focus (simp only [go_sem]; done))))
    have htl : (N.ts.take k).length = k := by rw [List.length_take]; omega
    simp (disch := omega) only [go_sem, seval, reduceCtorEq, htl]
    (repeat (refine And.intro (by omega) ?_))
    (refine Next.mk (by omega) (Wk.trans (Wk.drG [6, 7, 8] 5 (Nat.le_of_ble_eq_true rfl) (Nat.le_of_ble_eq_true rfl) (of_decide_eq_true rfl) (of_decide_eq_true rfl)) ?_)); (simp only [go_sem, seval, reduceCtorEq, dropG_ch, dropG_cons, dropG_nil, cond_true, cond_false, Int.natCast_zero, Int.natCast_add, Int.natCast_one, take_ss hlt, tcA_app, tcA_one]); (refine Wk.eq (Wk.ad3s [false, false, false, false, false, true, false, false, false, false, false, false, false, false, false, false, true, true, true, true, true, true, true, true, true, true, true, false] 4 3 (k * 3) true (τ := [_, _, _, _, _]) (Nat.le_of_ble_eq_true rfl) rfl (take3_len hk) rfl (treL_iv _) (treL_iv _) (treL_iv _) (by simp only [go_sem, seval, reduceCtorEq]) (by simp only [go_sem, seval, reduceCtorEq]) (by simp only [go_sem, seval, reduceCtorEq]) (fun _ => rnL_iv _) (fun _ => rnL_iv _)) ?_ ?_ <;> first | (simp only [go_sem, seval, reduceCtorEq, dropF_ch, dropF_cons, dropF_nil, cut, cond_true, cond_false, Int.natCast_zero, Int.natCast_add, Int.natCast_one, take_ss hlt, tcA_app, tcA_one]; done) | rfl | (simp only [go_sem, seval, reduceCtorEq, dropF_ch, dropF_cons, dropF_nil, cut, cond_true, cond_false, Int.natCast_zero, Int.natCast_add, Int.natCast_one, take_ss hlt, tcA_app, tcA_one]; rfl) | skip)
  · have d1 : ¬ (k : Int) < N.ts.length := by omega
    obtain rfl : k = N.ts.length := by omega
    simp (disch := omega) only [go_sem, seval, reduceCtorEq, d1, List.take_length]
    (refine FnEnd.mk (Nat.le_of_ble_eq_true rfl) rfl (of_decide_eq_true rfl) ?_ ?_ <;> try simp only [go_sem, seval, reduceCtorEq])

/-! ### Opened -/
def zeroN : Net := ⟨0, 0, 0, [], []⟩
attribute [go_sem] zeroN
theorem zeroN_sz : NSz 1048576 zeroN := ⟨⟨by decide, by decide⟩, ⟨by decide, by decide⟩, ⟨by decide, by decide⟩, Nat.zero_le _, (fun t ht => by cases ht), ⟨Nat.zero_le _, fun x hx => by cases hx⟩⟩
/-! ### Scaled -/
def scal (x : List Int) : Ten := ⟨[], [], x⟩
/-! ### Without units -/
section
variable {p : Nat → Bool} {xs : List Int} {k : Nat}
end
def mapTo (f : Ten → Ten) (ts : List Ten) (k : Nat) : List AV := tcA ((ts.take k).map f ++ ts.drop k)
section
variable {f : Ten → Ten} {ts : List Ten} {k : Nat}
theorem mapTo_len : (mapTo f ts k).length = ts.length * 3 := by rw [mapTo, tcA_len, List.length_append, List.length_map, List.length_take, List.length_drop]; congr 1; omega
theorem rnL_mapTo (ρ : Nat → Option Nat) : rnL ρ (mapTo f ts k) = mapTo f ts k := rnL_tcA ρ
end
attribute [go_sem] rnL_mapTo mapTo_len
end Go.Proofs.Ytlijfhfhonalgaa
