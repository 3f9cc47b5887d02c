/-
 Contracts: the first state of an order, whether an order is valid, by the program. No condition.
-/
import Derived.Test.YtmkdphmjgfbjaaaOrdA
import Derived.Test.YtmkdphmjgfbjaaaStp
import Derived.Test.YtmkdphmjgfbjaaaArrA
set_option linter.unusedSimpArgs false
set_option linter.unusedVariables false
namespace Go.Proofs.Ytmkdphmjgfbjaaa
open Go.RowKit Go.Lift Plain
set_option maxRecDepth 100000
theorem osB_d100 {T : List Int} {x y z : AV} (h : T.length = 100) : (osB T x y z).drop 100 = [x, y, z] := by
 have h1 : (iv T).length = 100 := by simp [iv_len, h]
 rw [osB, List.drop_left' h1]
theorem osB_fold (T : List Int) (x y z : AV) : iv T ++ [x, y, z] = osB T x y z := nr rfl
theorem osB_q100 {T : List Int} {x y z : AV} (h : T.length = 100) (u : AV) : iv T ++ [u] ++ (osB T x y z).drop 101 = osB T u y z := by rw [← osB_p100 h u, osB_t100 h]
theorem osB_s101 {T : List Int} {x y z : AV} (h : T.length = 100) (u : AV) : (osB T x y z).set 101 u = osB T x u z := by
 have h1 : (iv T ++ [x]).length = 101 := by simp [iv_len, h]
 rw [osB, show iv T ++ [x, y, z] = (iv T ++ [x]) ++ [y, z] by simp, List.set_append_right _ _ (by omega), h1]
 simp [osB]
theorem osInit_nums (ts : List Ten) : (osInit ts).nums = List.range ts.length := by
 unfold Osd.nums
 rw [show (osInit ts).all.length = ts.length by simp [osInit]]
 refine List.filter_eq_self.2 fun i hi => ?_
 have hi : i < ts.length := by simpa using hi
 simp [Osd.alive, osInit, hi]
theorem osInit_lab {ts : List Ten} {i : Nat} (h : i < ts.length) : (osInit ts).lab i = ts[i].labels := by simp [Osd.lab, osInit, h]
theorem startState_d {N : Net} (h : NSz 1048576 N) (hok : netOk N = true) :
  Does Try.prog 31 [netA N] [] (.ptr 0 0) [osR (dimsR N.ts).1 N.os (osInit N.ts)] := by
 have hD := dimsR_len N.ts
 have hnl := h.l
 have hax := netOk_ax hok
 have htD : List.take 100 (dimsR N.ts).1 = (dimsR N.ts).1 := List.take_of_length_le (by omega)
 have hal : (osInit N.ts).all.length = N.ts.length := by simp [osInit]
 (refine spec_ofK (by kernel_rfl) Try.func31 k_impl_startState (fnOk (nb rfl) ?_); unfold C_impl_startState)
 simp only [osR, lvS]
 (simp only [Nat.reduceSub, List.length_cons, List.length_nil, Nat.reduceAdd, ch_init1, ch_init2, ch_init3, ch_init4, ch_init5, ch_init6, ch_init7, ch_init8]; try simp only [ch_rep]); (simp only [go_sem, seval, reduceCtorEq, List.replicate])
 (refine ti_call (dimsOf_d (ts := N.ts) h.l h.t hax) ?_ ?_ ?_; (focus (simp only [go_sem, seval, reduceCtorEq]; done)); (first | rfl | (focus (simp only [go_sem]; done))))
 generalize hT : (dimsR N.ts).1 = T at *
 have hrl : (repI 100 0).length = 100 := repI_len 100 0
 have hdr : List.drop 100 (repI 100 0) = [] := List.drop_of_length_le (by omega)
 simp (disch := omega) only [go_sem, seval, reduceCtorEq, htD, hdr, hrl, osB_d100, osB_fold, osB_q100, hD]
 refine wpN_lwk (Wk.nilS 2 101 2 _ _ _ rfl (osB_101 hD)) ?_
 simp (disch := omega) only [go_sem, seval, reduceCtorEq, osB_s101]
 have hr0 : lvA (osInit N.ts).lab (List.range 0) = [] := rfl
 refine wpN_lp (N.ts.length) (mkB 46 35184304980160) (fun k => [(25, .d (.int k))]) (fun k => [(2, osB T (.d (ints N.os)) (.own 3 0 k) (.d (.int N.ts.length))), (3, lvA (osInit N.ts).lab (List.range k))]) (h1 := by first | (simp only [go_sem, seval, reduceCtorEq, nz, na, n1, hr0]; first | done | rfl) | rfl) (h2 := by first | (simp only [go_sem, seval, reduceCtorEq, nz, na, n1, hr0]; first | done | rfl) | rfl) (hr := fun k hk => ?_)
 unfold L0_impl_startState
 by_cases hlt : k < N.ts.length
 ·have d1 : (k : Int) < N.ts.length := by omega
  have g3 := tcs_cut (List.getElem?_eq_getElem hlt)
  have hst := h.t N.ts[k] (List.getElem_mem hlt)
  simp (disch := omega) only [go_sem, seval, reduceCtorEq, d1, g3]
  (repeat (refine And.intro (by omega) ?_))
  (refine gi_call (copyInts_f (xs := N.ts[k].labels) hst.l.up.len) ?_ ?_ ?_; (focus (simp only [go_sem, seval, reduceCtorEq]; done)); (first | rfl | (focus (simp only [go_sem]; done))))
  have hrl : (List.range k).length = k := List.length_range
  have hrow : lvA (osInit N.ts).lab (List.range k) ++ [.d (.int k), .d (.sl N.ts[k].labels.length (dv N.ts[k].labels))] = lvA (osInit N.ts).lab (List.range (k + 1)) := by
   rw [List.range_succ, lvA_app]
   simp only [lvA, List.flatMap_cons, List.flatMap_nil, List.append_nil, osInit_lab hlt, ints]
  simp (disch := omega) only [go_sem, seval, reduceCtorEq, hrl]
  (repeat (refine And.intro (by omega) ?_))
  (refine Next.drop (mkB 46 35184304980160) (by omega) (h1 := ?_) (h2 := ?_) <;> first | (simp only [go_sem, seval, reduceCtorEq, nz, na, n1, hrow]; first | done | rfl) | rfl | skip)
 ·have d1 : ¬ (k : Int) < N.ts.length := by omega
  obtain rfl : k = N.ts.length := by omega
  have hln : lvS (osInit N.ts) = .sl N.ts.length (lvD (osInit N.ts).lab (List.range N.ts.length)) := by rw [lvS, osInit_nums, List.length_range]
  have htk : List.take (N.ts.length * 2) (lvD (osInit N.ts).lab (List.range N.ts.length)) = lvD (osInit N.ts).lab (List.range N.ts.length) := List.take_of_length_le (by rw [lvD_len, List.length_range]; exact Nat.le_refl _)
  simp (disch := omega) only [go_sem, seval, reduceCtorEq, d1]
  (refine FnEnd.wk (Wk.freeze 3 (nb rfl) rfl (cellsD_lvA) rfl rfl) ?_); (simp only [go_sem, seval, reduceCtorEq, htk])
  (refine FnEnd.mk (nb rfl) rfl (of_decide_eq_true rfl) ?_ ?_ <;> try simp only [go_sem, seval, reduceCtorEq])
  all_goals simp only [osInit_nums, List.length_range, hal]
theorem stp_cut {n k : Nat} {m : Nat} {F : List Int} (h : StpSz m n F) (hk : k < n) : (F.drop (k * 2)).take 2 = [F.getD (k * 2) 0, F.getD (k * 2 + 1) 0] := by
 have hl := h.l
 rw [take_cut2 (by omega), getD_of (by omega), getD_of (by omega)]
theorem iOrderOk_d {N : Net} {n : Nat} {F : List Int} (h : NSz 1048576 N) (hF : StpSz 1048576 n F) :
  Does Try.prog 18 [netA N, .d (stp n F)] [] (.d (.bool (orderOk N n F))) [] := by
 have hD := dimsR_len N.ts
 have hn := hF.n
 have hFl := hF.l
 have hol := h.o.len
 have hnl := h.l
 (refine spec_of (by kernel_rfl) Try.func18 k_impl_OrderOk (fnOk (nb rfl) ?_); unfold C_impl_OrderOk)
 (simp only [Nat.reduceSub, List.length_cons, List.length_nil, Nat.reduceAdd, ch_init1, ch_init2, ch_init3, ch_init4, ch_init5, ch_init6, ch_init7, ch_init8]; try simp only [ch_rep]); (simp only [go_sem, seval, reduceCtorEq, List.replicate])
 (refine ti_call (iNetworkOk_d h) ?_ ?_ ?_; (focus (simp only [go_sem, seval, reduceCtorEq]; done)); (first | rfl | (focus (simp only [go_sem]; done))))
 cases h1 : netOk N
 ·have e : orderOk N n F = false := by simp only [orderOk, h1, Bool.false_and]
  simp only [go_sem, seval, reduceCtorEq, h1, e]
  (refine FnEnd.mk (nb rfl) rfl (of_decide_eq_true rfl) ?_ ?_ <;> try simp only [go_sem, seval, reduceCtorEq])
 have h12 := (netOk_iff.1 h1).2.1
 by_cases h2 : n = N.ts.length - 1
 rotate_left
 ·have e : orderOk N n F = false := by simp only [orderOk, decide_eq_false h2, Bool.and_false, Bool.false_and]
  have c : ((n : Int) != max ((N.ts.length : Int) - 1) 0) = true := by simp; omega
  simp (disch := omega) only [go_sem, seval, reduceCtorEq, h1, c, e]
  (refine FnEnd.mk (nb rfl) rfl (of_decide_eq_true rfl) ?_ ?_ <;> try simp only [go_sem, seval, reduceCtorEq])
 have c : ((n : Int) != max ((N.ts.length : Int) - 1) 0) = false := by simp; omega
 simp (disch := omega) only [go_sem, seval, reduceCtorEq, h1, c]
 (refine ti_call (startState_d h h1) ?_ ?_ ?_; (focus (simp only [go_sem, seval, reduceCtorEq, osR, lvS]; done)); (first | rfl | (focus (simp only [go_sem]; done))))
 have hs0 := osInit_ok (netOk_ax h1)
 simp only [go_sem, seval, reduceCtorEq, osR, lvS]
 generalize hT : (dimsR N.ts).1 = T at *
 have hz1 : (ordTo N.os F (osInit N.ts) 0).1 = osInit N.ts := rfl
 refine wpN_lpI (n) (mkB 34 17112760464) (fun k => (ordTo N.os F (osInit N.ts) k).2 = true) (fun k => [(25, .d (.int k))]) (fun k => [(1, osB T (.d (ints N.os)) (.d (lvS (ordTo N.os F (osInit N.ts) k).1)) (.d (.int (ordTo N.os F (osInit N.ts) k).1.all.length)))]) (hi := rfl) (h1 := by first | (simp only [go_sem, seval, reduceCtorEq, nz, na, n1, hz1, lvS]; first | done | rfl) | rfl) (h2 := by first | (simp only [go_sem, seval, reduceCtorEq, nz, na, n1, hz1, lvS]; first | done | rfl) | rfl) (hr := fun k hk hi => ?_)
 unfold L0_impl_OrderOk
 by_cases hlt : k < n
 ·have d1 : (k : Int) < n := by omega
  have g := stp_cut hF hlt
  have hok := ordTo_ok hs0 k hi
  simp (disch := omega) only [go_sem, seval, reduceCtorEq, d1, g, dv_two]
  refine ⟨by omega, ?_⟩
  cases hf : followB (ordTo N.os F (osInit N.ts) k).1 (F.getD (k * 2) 0) (F.getD (k * 2 + 1) 0)
  ·have e : orderOk N n F = false := by
    cases e : orderOk N n F
    ·rfl
    ·have := ordTo_fol (orderOk_iff.1 e).2.2 hlt
     rw [hf] at this; cases this
   (refine ti_callcg [1] [] false (of_decide_eq_true rfl) ?_ _ ?_ (orderState_follow_no (D := T) (os := N.os) hD hok (by omega) (by omega) hf) ?_ ?_; (focus (simp only [go_sem, seval, reduceCtorEq, osR]; done)); (focus (simp only [go_sem, seval, reduceCtorEq, osR]; done)); (focus (first | rfl | (simp only [go_sem, seval, reduceCtorEq, osR]; done))))
   simp only [go_sem, seval, reduceCtorEq, e]
   (refine FnEnd.mk (nb rfl) rfl (of_decide_eq_true rfl) ?_ ?_ <;> try simp only [go_sem, seval, reduceCtorEq])
  ·have hy := ordTo_yes hi hf
   (refine ti_callcg [1] [] false (of_decide_eq_true rfl) ?_ _ ?_ (orderState_follow_yes (D := T) (os := N.os) hD hok (by omega) (by omega) hf) ?_ ?_; (focus (simp only [go_sem, seval, reduceCtorEq, osR]; done)); (focus (simp only [go_sem, seval, reduceCtorEq, osR]; done)); (focus (first | rfl | (simp only [go_sem, seval, reduceCtorEq, osR]; done))))
   have hy1 := congrArg Prod.fst hy
   simp only at hy1
   simp (disch := omega) only [go_sem, seval, reduceCtorEq, osR]
   (refine NextI.drop (mkB 34 17112760464) (by omega) (by rw [hy]) (h1 := ?_) (h2 := ?_) <;> first | (simp only [go_sem, seval, reduceCtorEq, nz, na, n1, hy1, lvS]; first | done | rfl) | rfl | skip)
 ·have d1 : ¬ (k : Int) < n := by omega
  obtain rfl : k = n := by omega
  have e : orderOk N k F = true := orderOk_iff.2 ⟨h1, h2, hi⟩
  simp (disch := omega) only [go_sem, seval, reduceCtorEq, d1, e]
  (refine FnEnd.mk (nb rfl) rfl (of_decide_eq_true rfl) ?_ ?_ <;> try simp only [go_sem, seval, reduceCtorEq])
end Go.Proofs.Ytmkdphmjgfbjaaa
