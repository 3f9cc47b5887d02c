/-
  Contracts: the first state of an order, whether an order is valid, by the program. No condition.
-/
import Derived.Test.YtjncdanegoileaaOrdA
import Derived.Test.YtjncdanegoileaaStp
import Derived.Test.YtjncdanegoileaaBoolA
namespace Go.Proofs.Ytjncdanegoileaa
open Go.RowKit Go.Lift Plain
set_option linter.unusedSimpArgs false
set_option linter.unusedVariables false
set_option maxRecDepth 100000

theorem osB_d100 {T : List Int} {x y z : AV} (h : T.length = 100) : (osB T x y z).drop 100 = [x, y, z] := by
  have h1 : (iv T).length = 100 := by simp [iv_len, h]
  rw [osB, List.drop_left' h1]
theorem osB_fold (T : List Int) (x y z : AV) : iv T ++ [x, y, z] = osB T x y z := nr rfl
theorem osB_q100 {T : List Int} {x y z : AV} (h : T.length = 100) (u : AV) : iv T ++ [u] ++ (osB T x y z).drop 101 = osB T u y z := by rw [← osB_p100 h u, osB_t100 h]
theorem osB_s101 {T : List Int} {x y z : AV} (h : T.length = 100) (u : AV) : (osB T x y z).set 101 u = osB T x u z := by
  have h1 : (iv T ++ [x]).length = 101 := by simp [iv_len, h]
  rw [osB, show iv T ++ [x, y, z] = (iv T ++ [x]) ++ [y, z] by simp, List.set_append_right _ _ (by omega), h1]
  simp [osB]
theorem osInit_nums (ts : List Ten) : (osInit ts).nums = List.range ts.length := by
  unfold Osd.nums
  rw [show (osInit ts).all.length = ts.length by simp [osInit]]
  refine List.filter_eq_self.2 fun i hi => ?_
  have hi : i < ts.length := by simpa using hi
  simp [Osd.alive, osInit, hi]
theorem osInit_lab {ts : List Ten} {i : Nat} (h : i < ts.length) : (osInit ts).lab i = ts[i].labels := by simp [Osd.lab, osInit, h]
theorem startState_d {N : Net} (h : NSz 1048576 N) (hok : netOk N = true) :
    Does Try.prog 75 [netA N] [] (.ptr 0 0) [osR (dimsR N.ts).1 N.os (osInit N.ts)] := by
  have hD := dimsR_len N.ts
  have hnl := h.l
  have hax := netOk_ax hok
  have htD : List.take 100 (dimsR N.ts).1 = (dimsR N.ts).1 := List.take_of_length_le (by omega)
  have hal : (osInit N.ts).all.length = N.ts.length := by simp [osInit]
  (refine spec_ofK (by kernel_rfl) Try.func75 k_impl_startState (fnOk (Nat.le_of_ble_eq_true rfl) ?_); unfold C_impl_startState)
  simp only [osR, lvS]
  (simp only [Nat.reduceSub, List.length_cons, List.length_nil, Nat.reduceAdd, ch_init1, ch_init2, ch_init3, ch_init4, ch_init5, ch_init6, ch_init7, ch_init8]; try simp only [ch_rep]); (simp only [go_sem, seval, reduceCtorEq, List.replicate])
  (refine ti_call (dimsOf_d (ts := N.ts) h.l h.t hax) ?_ ?_ ?_; (focus (simp only [go_sem, seval, reduceCtorEq]; done)); (first | rfl | (focus (simp only [go_sem]; done))))
  generalize hT : (dimsR N.ts).1 = T at *
  have hrl : (repI 100 0).length = 100 := repI_len 100 0
  have hdr : List.drop 100 (repI 100 0) = [] := List.drop_of_length_le (by omega)
  simp (disch := omega) only [go_sem, seval, reduceCtorEq, htD, hdr, hrl, osB_d100, osB_fold, osB_q100, hD]
  refine wpN_lwk (Wk.nilS 2 101 2 _ _ _ rfl (osB_101 hD)) ?_
  simp (disch := omega) only [go_sem, seval, reduceCtorEq, osB_s101]
  have hr0 : lvA (osInit N.ts).lab (List.range 0) = [] := rfl
  refine wpN_lp (N.ts.length) [false, false, false, false, false, false, true, true, false, false, false, false, false, false, false, false, false, false, false, false, false, false, false, false, false, false, true, true, true, true, true, true, true, true, true, true, true, true, true, true, true, true, true, true, true, false] (fun k => [(25, .d (.int k))]) (fun k => [(2, osB T (.d (ints N.os)) (.own 3 0 k) (.d (.int N.ts.length))), (3, lvA (osInit N.ts).lab (List.range k))]) (fun _ => by (simp only [go_sem, seval, reduceCtorEq, dropF_ch, dropF_cons, dropF_nil, cut, cond_true, cond_false]); first | done | rfl) (fun _ => by (simp only [go_sem, seval, reduceCtorEq, cut]); first | done | rfl) (Nat.le_of_ble_eq_true rfl) (by first | (simp only [go_sem, seval, reduceCtorEq, dropF_ch, dropF_cons, dropF_nil, cut, cond_true, cond_false, Int.natCast_zero, Int.natCast_add, Int.natCast_one, hr0]; done) | rfl | (simp only [go_sem, seval, reduceCtorEq, dropF_ch, dropF_cons, dropF_nil, cut, cond_true, cond_false, Int.natCast_zero, Int.natCast_add, Int.natCast_one, hr0]; rfl)) (by first | (simp only [go_sem, seval, reduceCtorEq, dropF_ch, dropF_cons, dropF_nil, cut, cond_true, cond_false, Int.natCast_zero, Int.natCast_add, Int.natCast_one, hr0]; done) | rfl | (simp only [go_sem, seval, reduceCtorEq, dropF_ch, dropF_cons, dropF_nil, cut, cond_true, cond_false, Int.natCast_zero, Int.natCast_add, Int.natCast_one, hr0]; rfl)) fun k hk => ?_
  unfold L0_impl_startState
  by_cases hlt : k < N.ts.length
  · have d1 : (k : Int) < N.ts.length := by omega
    have g3 := tcs_cut (List.getElem?_eq_getElem hlt)
    have hst := h.t N.ts[k] (List.getElem_mem hlt)
    simp (disch := omega) only [go_sem, seval, reduceCtorEq, d1, g3]
    (repeat (refine And.intro (by omega) ?_))
    (refine gi_call (copyInts_f (xs := N.ts[k].labels) hst.l.up.len) ?_ ?_ ?_; (focus (simp only [go_sem, seval, reduceCtorEq]; done)); (first | rfl | (focus (simp only [go_sem]; done))))
    have hrl : (List.range k).length = k := List.length_range
    have hrow : lvA (osInit N.ts).lab (List.range k) ++ [.d (.int k), .d (.sl N.ts[k].labels.length (dv N.ts[k].labels))] = lvA (osInit N.ts).lab (List.range (k + 1)) := by
      rw [List.range_succ, lvA_app]
      simp only [lvA, List.flatMap_cons, List.flatMap_nil, List.append_nil, osInit_lab hlt, ints]
    simp (disch := omega) only [go_sem, seval, reduceCtorEq, hrl]
    (repeat (refine And.intro (by omega) ?_))
    (refine Next.drop [false, false, false, false, false, false, true, true, false, false, false, false, false, false, false, false, false, false, false, false, false, false, false, false, false, false, true, true, true, true, true, true, true, true, true, true, true, true, true, true, true, true, true, true, true, false] (by omega) (Nat.le_of_ble_eq_true rfl) ?_ ?_ <;> first | (simp only [go_sem, seval, reduceCtorEq, dropF_ch, dropF_cons, dropF_nil, cut, cond_true, cond_false, Int.natCast_zero, Int.natCast_add, Int.natCast_one, hrow]; done) | rfl | (simp only [go_sem, seval, reduceCtorEq, dropF_ch, dropF_cons, dropF_nil, cut, cond_true, cond_false, Int.natCast_zero, Int.natCast_add, Int.natCast_one, hrow]; rfl) | skip)
  · have d1 : ¬ (k : Int) < N.ts.length := by omega
    obtain rfl : k = N.ts.length := by omega
    have hln : lvS (osInit N.ts) = .sl N.ts.length (lvD (osInit N.ts).lab (List.range N.ts.length)) := by rw [lvS, osInit_nums, List.length_range]
    have htk : List.take (N.ts.length * 2) (lvD (osInit N.ts).lab (List.range N.ts.length)) = lvD (osInit N.ts).lab (List.range N.ts.length) := List.take_of_length_le (by rw [lvD_len, List.length_range]; exact Nat.le_refl _)
    simp (disch := omega) only [go_sem, seval, reduceCtorEq, d1]
    (refine FnEnd.wk (Wk.freeze 3 (Nat.le_of_ble_eq_true rfl) rfl (cellsD_lvA) rfl rfl) ?_); (simp only [go_sem, seval, reduceCtorEq, htk])
    (refine FnEnd.mk (Nat.le_of_ble_eq_true rfl) rfl (of_decide_eq_true rfl) ?_ ?_ <;> try simp only [go_sem, seval, reduceCtorEq])
    all_goals simp only [osInit_nums, List.length_range, hal]
/-! ### Whether an order is valid -/
/-! ### By the reference -/
end Go.Proofs.Ytjncdanegoileaa
