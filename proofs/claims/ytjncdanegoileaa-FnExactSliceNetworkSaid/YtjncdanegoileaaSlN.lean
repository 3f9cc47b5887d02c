/-
  Contracts: networks sliced. No condition.
-/
import Derived.Test.YtjncdanegoileaaCodeI
import Derived.Test.YtjncdanegoileaaConS
import Derived.Test.YtjncdanegoileaaNetD
import Derived.Test.YtjncdanegoileaaNetH
namespace Go.Proofs.Ytjncdanegoileaa
open Go.RowKit Go.Lift Plain
set_option linter.unusedSimpArgs false
set_option linter.unusedVariables false
set_option maxRecDepth 100000

theorem dimAt_net {N : Net} (h : netOk N = true) {t : Ten} (ht : t ∈ N.ts) {x : Int} (hx : x ∈ t.labels) : dimAt t x = dimN N.ts x := by
  obtain ⟨k, hk, rfl⟩ := List.mem_iff_getElem.1 ht
  have hax := netOk_ax h
  have hc := (netOk_iff.1 h).2.2.2.1 k hk x hk hx
  have hd := dimAt_bd (hax _ (List.getElem_mem hk)) hx
  have h1 : dimN (N.ts.take (k + 1)) x = dimAt N.ts[k] x := by
    rw [dimN_next hax hk, if_pos hx]
    split
    · rfl
    · rcases hc with e | e
      · rename_i h0; exact absurd e h0
      · exact e
  have h2 := dimN_app (N.ts.take (k + 1)) (N.ts.drop (k + 1)) x fun t ht hx => by
    have := dimAt_bd (hax t (List.mem_of_mem_take ht)) hx
    omega
  rw [List.take_append_drop, h1, if_neg (by omega)] at h2
  exact h2.symm
theorem dv_one (x : Int) : dv [x] = [.int x] := rfl
def slcT (r : Rg) (x v : Int) (t : Ten) : Ten := if x ∈ t.labels then sliT r t x v else t
noncomputable def slcB (N : Net) (x v : Int) : Bool := netOk N && decide (0 ≤ v ∧ v < netDim N x)
def slcN0 (N : Net) (x v : Int) : Net := ⟨N.k, N.p, N.n, N.ts.map (slcT N.rg x v), N.os.filter (· != x)⟩
noncomputable def slcN (N : Net) (x v : Int) : Net := bif slcB N x v then slcN0 N x v else zeroN
theorem slc_sli {N : Net} {x v : Int} (h : slcB N x v = true) {t : Ten} (ht : t ∈ N.ts) (hx : x ∈ t.labels) : sliB N.rg t x v = true := by
  simp only [slcB, Bool.and_eq_true, decide_eq_true_eq] at h
  have hd := dimAt_net h.1 ht hx
  rw [netDim_yes h.1, ← hd] at h
  have hok := (netOk_iff.1 h.1).2.2.1 t ht
  simp only [sliB, Bool.and_eq_true, decide_eq_true_eq]
  exact ⟨hok, hx, h.2.1, h.2.2⟩
theorem slc_fix {N : Net} {x v : Int} (h : slcB N x v = true) {t : Ten} (ht : t ∈ N.ts) : fixB N.rg t [x] [v] = true ∧ fixT N.rg t [x] [v] = slcT N.rg x v t := by
  have hok := (netOk_iff.1 (show netOk N = true by simp only [slcB, Bool.and_eq_true] at h; exact h.1)).2.2.1 t ht
  have e0 : fixB N.rg t [x] [v] = true := by
    simp only [fixB, Bool.and_eq_true, decide_eq_true_eq]
    refine ⟨⟨hok, rfl⟩, fun j hj hm => ?_⟩
    obtain rfl : j = 0 := by simp at hj; exact hj
    exact slc_sli h ht hm
  exact ⟨e0, by rw [fixT, if_pos e0]; rfl⟩
theorem slcT_sz {r : Rg} {x v : Int} {t : Ten} (h : TSz 1048576 t) : TSz 1048576 (slcT r x v t) := by
  unfold slcT
  split
  · exact sliT_sz h
  · exact h
theorem slcN_sz {N : Net} {x v : Int} (h : NSz 1048576 N) : NSz 1048576 (slcN N x v) := by
  unfold slcN
  cases e : slcB N x v
  · exact zeroN_sz
  · have hf := List.length_filter_le (· != x) N.os
    have ho := h.o.len
    refine ⟨h.k, h.p, h.n, by simpa [slcN0] using h.l, fun t ht => ?_, ⟨by show (N.os.filter (· != x)).length ≤ _; omega, fun y hy => h.o.wf y (List.mem_filter.1 hy).1⟩⟩
    obtain ⟨u, hu, rfl⟩ := List.mem_map.1 (show t ∈ N.ts.map (slcT N.rg x v) from ht)
    exact slcT_sz (h.t u hu)
theorem slcN_tot {N : Net} {x v : Int} (h : NSz 1048576 N) : totT (slcN N x v).ts + (slcN N x v).os.length ≤ 100000000 := by
  have hsz := slcN_sz (x := x) (v := v) h
  have ho := hsz.o.len
  unfold slcN at *
  cases e : slcB N x v
  · simp [zeroN, totT]
  · rw [e] at hsz ho
    simp only [slcB, Bool.and_eq_true] at e
    have := totT_le (n := 12) (by simp [slcN0]; exact (netOk_iff.1 e.1).2.1) hsz.t
    simp only [cond_true] at ho this ⊢
    omega
set_option maxHeartbeats 1600000 in
theorem iSliceNetwork_d {N : Net} {x v : Int} (h : NSz 1048576 N) (hv : I64 v) : Does Try.prog 21 [netA N, .d (.int x), .d (.int v)] [] (.tup [ownN 0 (slcN N x v), .d (.bool (slcB N x v))]) (stoN (slcN N x v)) := by
  have hnl := h.l
  have hol := h.o.len
  (refine spec_of (by kernel_rfl) Try.func21 k_impl_SliceNetwork (fnOk (Nat.le_of_ble_eq_true rfl) ?_); unfold C_impl_SliceNetwork)
  (simp only [Nat.reduceSub, List.length_cons, List.length_nil, Nat.reduceAdd, ch_init1, ch_init2, ch_init3, ch_init4, ch_init5, ch_init6, ch_init7, ch_init8]; try simp only [ch_rep]); (simp only [go_sem, seval, reduceCtorEq, List.replicate])
  (refine ti_call (iNetworkOk_d h) ?_ ?_ ?_; (focus (simp only [go_sem, seval, reduceCtorEq]; done)); (first | rfl | (focus (simp only [go_sem]; done))))
  cases hok : netOk N
  · have e : slcB N x v = false := by simp [slcB, hok]
    simp only [go_sem, seval, reduceCtorEq, hok, e, slcN, cond_false]
    refine FnEnd.wk (Wk.trans (Wk.nilS 1 3 3 _ _ _ rfl rfl) (Wk.nilS 1 4 1 _ _ _ rfl rfl)) ?_
    (refine FnEnd.mk (Nat.le_of_ble_eq_true rfl) rfl (of_decide_eq_true rfl) ?_ ?_ <;> try simp only [go_sem, seval, reduceCtorEq])
  simp only [go_sem, seval, reduceCtorEq, hok]
  by_cases b1 : v < 0
  · have e : slcB N x v = false := by simp [slcB]; omega
    simp only [go_sem, seval, reduceCtorEq, b1, e, slcN, cond_false]
    refine FnEnd.wk (Wk.trans (Wk.nilS 1 3 3 _ _ _ rfl rfl) (Wk.nilS 1 4 1 _ _ _ rfl rfl)) ?_
    (refine FnEnd.mk (Nat.le_of_ble_eq_true rfl) rfl (of_decide_eq_true rfl) ?_ ?_ <;> try simp only [go_sem, seval, reduceCtorEq])
  simp only [go_sem, seval, reduceCtorEq, b1]
  (refine ti_call (iDimOf_d (x := x) h) ?_ ?_ ?_; (focus (simp only [go_sem, seval, reduceCtorEq]; done)); (first | rfl | (focus (simp only [go_sem]; done))))
  by_cases b2 : v ≥ netDim N x
  · have e : slcB N x v = false := by simp [slcB]; omega
    simp only [go_sem, seval, reduceCtorEq, b2, e, slcN, cond_false]
    refine FnEnd.wk (Wk.trans (Wk.nilS 1 3 3 _ _ _ rfl rfl) (Wk.nilS 1 4 1 _ _ _ rfl rfl)) ?_
    (refine FnEnd.mk (Nat.le_of_ble_eq_true rfl) rfl (of_decide_eq_true rfl) ?_ ?_ <;> try simp only [go_sem, seval, reduceCtorEq])
  have hB : slcB N x v = true := by simp [slcB, hok]; omega
  have hr := (netOk_iff.1 hok).1
  simp only [go_sem, seval, reduceCtorEq, b2]
  (refine gi_call (withoutInt_d (xs := N.os) (x := x) (by omega)) ?_ ?_ ?_; (focus (simp only [go_sem, seval, reduceCtorEq]; done)); (first | rfl | (focus (simp only [go_sem]; done))))
  simp only [go_sem, seval, reduceCtorEq]
  (refine wpN_lwk (Wk.nilS 3 3 3 _ _ _ rfl rfl) ?_; simp only [go_sem, seval, reduceCtorEq])
  refine wpN_lp (N.ts.length) [false, false, false, false, false, false, false, false, false, false, true, true, false, false, false, false, false, false, false, false, false, false, false, false, false, false, false, false, false, false, false, false, false, false, false, false, false, false, true, true, true, true, true, true, true, true, true, true, true, true, true, true, true, true, true, true, true, true, true, true, true, true, true, false] (fun k => [(37, .d (.int k))]) (fun k => [(3, [.d (.int N.k), .d (.int N.p), .d (.int N.n), .own 4 0 k, .own 2 0 (N.os.filter (· != x)).length]), (4, tcA ((N.ts.take k).map (slcT N.rg x v)))]) (fun _ => by (simp only [go_sem, seval, reduceCtorEq, dropF_ch, dropF_cons, dropF_nil, cut, cond_true, cond_false]); first | done | rfl) (fun _ => by (simp only [go_sem, seval, reduceCtorEq, cut]); first | done | rfl) (Nat.le_of_ble_eq_true rfl) (by first | (simp only [go_sem, seval, reduceCtorEq, dropF_ch, dropF_cons, dropF_nil, cut, cond_true, cond_false, Int.natCast_zero, Int.natCast_add, Int.natCast_one, List.take_zero, List.map_nil, tcA_nil]; done) | rfl | (simp only [go_sem, seval, reduceCtorEq, dropF_ch, dropF_cons, dropF_nil, cut, cond_true, cond_false, Int.natCast_zero, Int.natCast_add, Int.natCast_one, List.take_zero, List.map_nil, tcA_nil]; rfl)) (by first | (simp only [go_sem, seval, reduceCtorEq, dropF_ch, dropF_cons, dropF_nil, cut, cond_true, cond_false, Int.natCast_zero, Int.natCast_add, Int.natCast_one, List.take_zero, List.map_nil, tcA_nil]; done) | rfl | (simp only [go_sem, seval, reduceCtorEq, dropF_ch, dropF_cons, dropF_nil, cut, cond_true, cond_false, Int.natCast_zero, Int.natCast_add, Int.natCast_one, List.take_zero, List.map_nil, tcA_nil]; rfl)) fun k hk => ?_
  unfold L0_impl_SliceNetwork
  by_cases hlt : k < N.ts.length
  · have d1 : (k : Int) < N.ts.length := by omega
    have g3 := tcs_cut (List.getElem?_eq_getElem hlt)
    have hmem := List.getElem_mem hlt
    have hst := h.t N.ts[k] hmem
    have hll := hst.l.len
    have htl : (N.ts.take k).length = k := by rw [List.length_take]; omega
    simp (disch := omega) only [go_sem, seval, reduceCtorEq, d1, g3]
    (repeat (refine And.intro (by omega) ?_))
    (refine ti_call (copyTensor_d (t := N.ts[k]) hst) ?_ ?_ ?_; (focus (simp only [go_sem, seval, reduceCtorEq]; done)); (first | rfl | (focus (simp only [go_sem]; done))))
    simp (disch := omega) only [go_sem, seval, reduceCtorEq]
    (refine ti_call (axisOf_d (t := N.ts[k]) (x := x) hst.l.up.len) ?_ ?_ ?_; (focus (simp only [go_sem, seval, reduceCtorEq]; done)); (first | rfl | (focus (simp only [go_sem]; done))))
    by_cases hm : x ∈ N.ts[k].labels
    · have c : place N.ts[k].labels x ≥ 0 := by
        have h0 : ¬ place N.ts[k].labels x < 0 := fun e => place_neg.1 e hm
        omega
      have hsl := slc_sli hB hmem hm
      have es : slcT N.rg x v N.ts[k] = sliT ⟨N.k, N.p, N.n⟩ N.ts[k] x v := if_pos hm
      simp (disch := omega) only [go_sem, seval, reduceCtorEq, c]
      (refine ti_call (iSliceTensor_d (kk := N.k) (pp := N.p) (nn := N.n) (t := N.ts[k]) (x := x) (v := v) h.k h.p h.n hst hv) ?_ ?_ ?_; (focus (simp only [go_sem, seval, reduceCtorEq]; done)); (first | rfl | (focus (simp only [go_sem]; done))))
      simp (disch := omega) only [go_sem, seval, reduceCtorEq, List.length_map, htl]
      (repeat (refine And.intro (by omega) ?_))
      (refine Next.mk (by omega) (Wk.trans (Wk.drG [10, 11, 12] 5 (Nat.le_of_ble_eq_true rfl) (Nat.le_of_ble_eq_true rfl) (of_decide_eq_true rfl) (of_decide_eq_true rfl)) ?_)); (simp only [go_sem, seval, reduceCtorEq, dropG_ch, dropG_cons, dropG_nil, cond_true, cond_false, Int.natCast_zero, Int.natCast_add, Int.natCast_one, take_ss hlt, List.map_append, tcA_app, List.map_cons, List.map_nil, es, tcA_one]); (refine Wk.eq (Wk.ad3s [false, false, false, false, false, false, false, false, false, false, true, true, false, false, false, false, false, false, false, false, false, false, false, false, false, false, false, false, false, false, false, false, false, false, false, false, false, false, true, true, true, true, true, true, true, true, true, true, true, true, true, true, true, true, true, true, true, true, true, true, true, true, true, false] 4 3 (k * 3) true (τ := [_, _, _, _, _]) (Nat.le_of_ble_eq_true rfl) rfl (by rw [tcA_len, List.length_map, htl]) rfl (treL_iv _) (treL_iv _) (treL_iv _) (by simp only [go_sem, seval, reduceCtorEq]) (by simp only [go_sem, seval, reduceCtorEq]) (by simp only [go_sem, seval, reduceCtorEq]) (fun _ => rnL_iv _) (fun _ => rnL_iv _)) ?_ ?_ <;> first | (simp only [go_sem, seval, reduceCtorEq, dropF_ch, dropF_cons, dropF_nil, cut, cond_true, cond_false, Int.natCast_zero, Int.natCast_add, Int.natCast_one, take_ss hlt, List.map_append, tcA_app, List.map_cons, List.map_nil, es, tcA_one]; done) | rfl | (simp only [go_sem, seval, reduceCtorEq, dropF_ch, dropF_cons, dropF_nil, cut, cond_true, cond_false, Int.natCast_zero, Int.natCast_add, Int.natCast_one, take_ss hlt, List.map_append, tcA_app, List.map_cons, List.map_nil, es, tcA_one]; rfl) | skip)
    · have c : ¬ place N.ts[k].labels x ≥ 0 := by have := place_neg.2 hm; omega
      have es : slcT N.rg x v N.ts[k] = N.ts[k] := if_neg hm
      simp (disch := omega) only [go_sem, seval, reduceCtorEq, c, List.length_map, htl]
      (repeat (refine And.intro (by omega) ?_))
      (refine Next.mk (by omega) (Wk.trans (Wk.drG [6, 7, 8] 5 (Nat.le_of_ble_eq_true rfl) (Nat.le_of_ble_eq_true rfl) (of_decide_eq_true rfl) (of_decide_eq_true rfl)) ?_)); (simp only [go_sem, seval, reduceCtorEq, dropG_ch, dropG_cons, dropG_nil, cond_true, cond_false, Int.natCast_zero, Int.natCast_add, Int.natCast_one, take_ss hlt, List.map_append, tcA_app, List.map_cons, List.map_nil, es, tcA_one]); (refine Wk.eq (Wk.ad3s [false, false, false, false, false, false, false, false, false, false, true, true, false, false, false, false, false, false, false, false, false, false, false, false, false, false, false, false, false, false, false, false, false, false, false, false, false, false, true, true, true, true, true, true, true, true, true, true, true, true, true, true, true, true, true, true, true, true, true, true, true, true, true, false] 4 3 (k * 3) true (τ := [_, _, _, _, _]) (Nat.le_of_ble_eq_true rfl) rfl (by rw [tcA_len, List.length_map, htl]) rfl (treL_iv _) (treL_iv _) (treL_iv _) (by simp only [go_sem, seval, reduceCtorEq]) (by simp only [go_sem, seval, reduceCtorEq]) (by simp only [go_sem, seval, reduceCtorEq]) (fun _ => rnL_iv _) (fun _ => rnL_iv _)) ?_ ?_ <;> first | (simp only [go_sem, seval, reduceCtorEq, dropF_ch, dropF_cons, dropF_nil, cut, cond_true, cond_false, Int.natCast_zero, Int.natCast_add, Int.natCast_one, take_ss hlt, List.map_append, tcA_app, List.map_cons, List.map_nil, es, tcA_one]; done) | rfl | (simp only [go_sem, seval, reduceCtorEq, dropF_ch, dropF_cons, dropF_nil, cut, cond_true, cond_false, Int.natCast_zero, Int.natCast_add, Int.natCast_one, take_ss hlt, List.map_append, tcA_app, List.map_cons, List.map_nil, es, tcA_one]; rfl) | skip)
  · have d1 : ¬ (k : Int) < N.ts.length := by omega
    obtain rfl : k = N.ts.length := by omega
    simp (disch := omega) only [go_sem, seval, reduceCtorEq, d1, List.take_length, hB, slcN, cond_true, slcN0, List.length_map]
    (refine FnEnd.mk (Nat.le_of_ble_eq_true rfl) rfl (of_decide_eq_true rfl) ?_ ?_ <;> try simp only [go_sem, seval, reduceCtorEq])
set_option maxHeartbeats 1600000 in
theorem l15Slice_d {N : Net} {x v : Int} (h : NSz 1048576 N) (hx : I64 x) (hv : I64 v) (hB : slcB N x v = true) : Does Try.prog 52 [netA N, .d (ints [x]), .d (ints [v])] [] (ownN 0 (slcN0 N x v)) (stoN (slcN0 N x v)) := by
  have hnl := h.l
  have hol := h.o.len
  have sx : Sz 1048576 [x] := ⟨by simp, fun y hy => by simp at hy; subst hy; exact hx⟩
  have sv : Sz 1048576 [v] := ⟨by simp, fun y hy => by simp at hy; subst hy; exact hv⟩
  (refine spec_of (by kernel_rfl) Try.func52 k_spec_l15Slice (fnOk (Nat.le_of_ble_eq_true rfl) ?_); unfold C_spec_l15Slice)
  (simp only [Nat.reduceSub, List.length_cons, List.length_nil, Nat.reduceAdd, ch_init1, ch_init2, ch_init3, ch_init4, ch_init5, ch_init6, ch_init7, ch_init8]; try simp only [ch_rep]); (simp only [go_sem, seval, reduceCtorEq, List.replicate])
  (refine wpN_lwk (Wk.nilS 2 4 1 _ _ _ rfl rfl) ?_; simp only [go_sem, seval, reduceCtorEq])
  refine wpN_lp (N.os.length) [false, false, false, false, false, false, false, false, false, true, false, false, false, false, false, false, false, false, false, true, true, true, true, true, true, true, true, true, true, true, true, true, true, false, false, false, false, false, false, false, false, false, false, false, false, false, false, false, false, false, false, false, false] (fun k => [(18, .d (.int k))]) (fun k => [(2, [.d (.int N.k), .d (.int N.p), .d (.int N.n), .nil, .own 3 0 ((N.os.take k).filter (· != x)).length]), (3, iv ((N.os.take k).filter (· != x)))]) (fun _ => by (simp only [go_sem, seval, reduceCtorEq, dropF_ch, dropF_cons, dropF_nil, cut, cond_true, cond_false]); first | done | rfl) (fun _ => by (simp only [go_sem, seval, reduceCtorEq, cut]); first | done | rfl) (Nat.le_of_ble_eq_true rfl) (by first | (simp only [go_sem, seval, reduceCtorEq, dropF_ch, dropF_cons, dropF_nil, cut, cond_true, cond_false, Int.natCast_zero, Int.natCast_add, Int.natCast_one, List.take_zero, List.filter_nil, iv_nil]; done) | rfl | (simp only [go_sem, seval, reduceCtorEq, dropF_ch, dropF_cons, dropF_nil, cut, cond_true, cond_false, Int.natCast_zero, Int.natCast_add, Int.natCast_one, List.take_zero, List.filter_nil, iv_nil]; rfl)) (by first | (simp only [go_sem, seval, reduceCtorEq, dropF_ch, dropF_cons, dropF_nil, cut, cond_true, cond_false, Int.natCast_zero, Int.natCast_add, Int.natCast_one, List.take_zero, List.filter_nil, iv_nil]; done) | rfl | (simp only [go_sem, seval, reduceCtorEq, dropF_ch, dropF_cons, dropF_nil, cut, cond_true, cond_false, Int.natCast_zero, Int.natCast_add, Int.natCast_one, List.take_zero, List.filter_nil, iv_nil]; rfl)) fun k hk => ?_
  unfold L1_spec_l15Slice
  have hfl := filter_len N.os k (· != x)
  by_cases hlt : k < N.os.length
  · have d1 : (k : Int) < N.os.length := by omega
    have g : N.os[k]? = some N.os[k] := List.getElem?_eq_getElem hlt
    simp (disch := omega) only [go_sem, seval, reduceCtorEq, d1, g]
    (refine ti_call (l05Find_d (xs := [x]) (x := N.os[k]) (by simp)) ?_ ?_ ?_; (focus (simp only [go_sem, seval, reduceCtorEq]; done)); (first | rfl | (focus (simp only [go_sem]; done))))
    by_cases hm : N.os[k] = x
    · have c : ¬ place [x] N.os[k] < 0 := fun e => place_neg.1 e (by simp [hm])
      have e := filter_no (p := (· != x)) hlt (by simp [hm])
      simp (disch := omega) only [go_sem, seval, reduceCtorEq, c]
      (refine Next.drop [false, false, false, false, false, false, false, false, false, true, false, false, false, false, false, false, false, false, false, true, true, true, true, true, true, true, true, true, true, true, true, true, true, false, false, false, false, false, false, false, false, false, false, false, false, false, false, false, false, false, false, false, false] (by omega) (Nat.le_of_ble_eq_true rfl) ?_ ?_ <;> first | (simp only [go_sem, seval, reduceCtorEq, dropF_ch, dropF_cons, dropF_nil, cut, cond_true, cond_false, Int.natCast_zero, Int.natCast_add, Int.natCast_one, e]; done) | rfl | (simp only [go_sem, seval, reduceCtorEq, dropF_ch, dropF_cons, dropF_nil, cut, cond_true, cond_false, Int.natCast_zero, Int.natCast_add, Int.natCast_one, e]; rfl) | skip)
    · have c : place [x] N.os[k] < 0 := place_neg.2 (by simp [hm])
      have e := filter_yes (p := (· != x)) hlt (by simp [hm])
      simp (disch := omega) only [go_sem, seval, reduceCtorEq, c]
      (repeat (refine And.intro (by omega) ?_))
      (refine Next.drop [false, false, false, false, false, false, false, false, false, true, false, false, false, false, false, false, false, false, false, true, true, true, true, true, true, true, true, true, true, true, true, true, true, false, false, false, false, false, false, false, false, false, false, false, false, false, false, false, false, false, false, false, false] (by omega) (Nat.le_of_ble_eq_true rfl) ?_ ?_ <;> first | (simp only [go_sem, seval, reduceCtorEq, dropF_ch, dropF_cons, dropF_nil, cut, cond_true, cond_false, Int.natCast_zero, Int.natCast_add, Int.natCast_one, e, List.length_append]; done) | rfl | (simp only [go_sem, seval, reduceCtorEq, dropF_ch, dropF_cons, dropF_nil, cut, cond_true, cond_false, Int.natCast_zero, Int.natCast_add, Int.natCast_one, e, List.length_append]; rfl) | skip)
  have d1 : ¬ (k : Int) < N.os.length := by omega
  obtain rfl : k = N.os.length := by omega
  simp (disch := omega) only [go_sem, seval, reduceCtorEq, d1, List.take_length]
  (refine wpN_lwk (Wk.nilS 2 3 3 _ _ _ rfl rfl) ?_; simp only [go_sem, seval, reduceCtorEq])
  refine wpN_lp (N.ts.length) [false, false, false, false, false, false, false, false, false, false, false, true, false, false, false, false, false, false, false, false, false, false, false, false, false, false, false, false, false, false, false, false, false, false, false, false, false, true, true, true, true, true, true, true, true, true, true, true, true, true, true, true, false] (fun k => [(36, .d (.int k))]) (fun k => [(2, [.d (.int N.k), .d (.int N.p), .d (.int N.n), .own 4 0 k, .own 3 0 (N.os.filter (· != x)).length]), (4, tcA ((N.ts.take k).map (slcT N.rg x v)))]) (fun _ => by (simp only [go_sem, seval, reduceCtorEq, dropF_ch, dropF_cons, dropF_nil, cut, cond_true, cond_false]); first | done | rfl) (fun _ => by (simp only [go_sem, seval, reduceCtorEq, cut]); first | done | rfl) (Nat.le_of_ble_eq_true rfl) (by first | (simp only [go_sem, seval, reduceCtorEq, dropF_ch, dropF_cons, dropF_nil, cut, cond_true, cond_false, Int.natCast_zero, Int.natCast_add, Int.natCast_one, List.take_zero, List.map_nil, tcA_nil]; done) | rfl | (simp only [go_sem, seval, reduceCtorEq, dropF_ch, dropF_cons, dropF_nil, cut, cond_true, cond_false, Int.natCast_zero, Int.natCast_add, Int.natCast_one, List.take_zero, List.map_nil, tcA_nil]; rfl)) (by first | (simp only [go_sem, seval, reduceCtorEq, dropF_ch, dropF_cons, dropF_nil, cut, cond_true, cond_false, Int.natCast_zero, Int.natCast_add, Int.natCast_one, List.take_zero, List.map_nil, tcA_nil]; done) | rfl | (simp only [go_sem, seval, reduceCtorEq, dropF_ch, dropF_cons, dropF_nil, cut, cond_true, cond_false, Int.natCast_zero, Int.natCast_add, Int.natCast_one, List.take_zero, List.map_nil, tcA_nil]; rfl)) fun k hk => ?_
  unfold L0_spec_l15Slice
  by_cases hlt : k < N.ts.length
  · have d1 : (k : Int) < N.ts.length := by omega
    have g3 := tcs_cut (List.getElem?_eq_getElem hlt)
    have hmem := List.getElem_mem hlt
    have hst := h.t N.ts[k] hmem
    have htl : (N.ts.take k).length = k := by rw [List.length_take]; omega
    obtain ⟨f1, f2⟩ := slc_fix hB hmem
    have f3 : slcT N.rg x v N.ts[k] = fixT ⟨N.k, N.p, N.n⟩ N.ts[k] [x] [v] := f2.symm
    simp (disch := omega) only [go_sem, seval, reduceCtorEq, d1, g3]
    (repeat (refine And.intro (by omega) ?_))
    (refine gi_call (l09Fix_d (kk := N.k) (pp := N.p) (nn := N.n) (t := N.ts[k]) (L := [x]) (V := [v]) hst sx sv f1) ?_ ?_ ?_; (focus (simp only [go_sem, seval, reduceCtorEq]; done)); (first | rfl | (focus (simp only [go_sem]; done))))
    simp (disch := omega) only [go_sem, seval, reduceCtorEq, List.length_map, htl]
    (repeat (refine And.intro (by omega) ?_))
    (refine Next.mk (by omega) (Wk.trans (Wk.drG [6, 7, 8] 5 (Nat.le_of_ble_eq_true rfl) (Nat.le_of_ble_eq_true rfl) (of_decide_eq_true rfl) (of_decide_eq_true rfl)) ?_)); (simp only [go_sem, seval, reduceCtorEq, dropG_ch, dropG_cons, dropG_nil, cond_true, cond_false, Int.natCast_zero, Int.natCast_add, Int.natCast_one, take_ss hlt, List.map_append, tcA_app, List.map_cons, List.map_nil, f3, tcA_one]); (refine Wk.eq (Wk.ad3s [false, false, false, false, false, false, false, false, false, false, false, true, false, false, false, false, false, false, false, false, false, false, false, false, false, false, false, false, false, false, false, false, false, false, false, false, false, true, true, true, true, true, true, true, true, true, true, true, true, true, true, true, false] 4 3 (k * 3) true (τ := [_, _, _, _, _]) (Nat.le_of_ble_eq_true rfl) rfl (by rw [tcA_len, List.length_map, htl]) rfl (treL_iv _) (treL_iv _) (treL_iv _) (by simp only [go_sem, seval, reduceCtorEq]) (by simp only [go_sem, seval, reduceCtorEq]) (by simp only [go_sem, seval, reduceCtorEq]) (fun _ => rnL_iv _) (fun _ => rnL_iv _)) ?_ ?_ <;> first | (simp only [go_sem, seval, reduceCtorEq, dropF_ch, dropF_cons, dropF_nil, cut, cond_true, cond_false, Int.natCast_zero, Int.natCast_add, Int.natCast_one, take_ss hlt, List.map_append, tcA_app, List.map_cons, List.map_nil, f3, tcA_one]; done) | rfl | (simp only [go_sem, seval, reduceCtorEq, dropF_ch, dropF_cons, dropF_nil, cut, cond_true, cond_false, Int.natCast_zero, Int.natCast_add, Int.natCast_one, take_ss hlt, List.map_append, tcA_app, List.map_cons, List.map_nil, f3, tcA_one]; rfl) | skip)
  · have d1 : ¬ (k : Int) < N.ts.length := by omega
    obtain rfl : k = N.ts.length := by omega
    simp (disch := omega) only [go_sem, seval, reduceCtorEq, d1, List.take_length, slcN0, List.length_map]
    (refine FnEnd.mk (Nat.le_of_ble_eq_true rfl) rfl (of_decide_eq_true rfl) ?_ ?_ <;> try simp only [go_sem, seval, reduceCtorEq])
theorem sSliceNetwork_d {N : Net} {x v : Int} (h : NSz 1048576 N) (hx : I64 x) (hv : I64 v) : Does Try.prog 19 [netA N, .d (.int x), .d (.int v)] [] (.tup [ownN 0 (slcN N x v), .d (.bool (slcB N x v))]) (stoN (slcN N x v)) := by
  (refine spec_of (by kernel_rfl) Try.func19 k_spec_SliceNetwork (fnOk (Nat.le_of_ble_eq_true rfl) ?_); unfold C_spec_SliceNetwork)
  (simp only [Nat.reduceSub, List.length_cons, List.length_nil, Nat.reduceAdd, ch_init1, ch_init2, ch_init3, ch_init4, ch_init5, ch_init6, ch_init7, ch_init8]; try simp only [ch_rep]); (simp only [go_sem, seval, reduceCtorEq, List.replicate])
  (refine ti_call (sDimOf_d (x := x) h) ?_ ?_ ?_; (focus (simp only [go_sem, seval, reduceCtorEq]; done)); (first | rfl | (focus (simp only [go_sem]; done))))
  have hdb : 0 ≤ netDim N x ∧ netDim N x ≤ 8 := by
    unfold netDim
    split
    · rename_i hok
      have := dimN_bd (netOk_ax hok) x
      omega
    · omega
  simp (disch := omega) only [go_sem, seval, reduceCtorEq]
  (refine ti_call (l01In_d v 0 (netDim N x - 1)) ?_ ?_ ?_; (focus (simp only [go_sem, seval, reduceCtorEq]; done)); (first | rfl | (focus (simp only [go_sem]; done))))
  by_cases b1 : 0 ≤ v ∧ v ≤ netDim N x - 1
  rotate_left
  · have e : slcB N x v = false := by simp only [slcB, decide_eq_false (show ¬ (0 ≤ v ∧ v < netDim N x) by omega), Bool.and_false]
    have c : decide (0 ≤ v ∧ v ≤ netDim N x - 1) = false := decide_eq_false b1
    simp (disch := omega) only [go_sem, seval, reduceCtorEq, c, e, slcN, cond_false]
    refine FnEnd.wk (Wk.trans (Wk.nilS 1 3 3 _ _ _ rfl rfl) (Wk.nilS 1 4 1 _ _ _ rfl rfl)) ?_
    (refine FnEnd.mk (Nat.le_of_ble_eq_true rfl) rfl (of_decide_eq_true rfl) ?_ ?_ <;> try simp only [go_sem, seval, reduceCtorEq])
  have c : decide (0 ≤ v ∧ v ≤ netDim N x - 1) = true := decide_eq_true b1
  have hok : netOk N = true := by
    cases e : netOk N
    · rw [netDim_no e] at b1; omega
    · rfl
  have hB : slcB N x v = true := by simp [slcB, hok]; omega
  simp (disch := omega) only [go_sem, seval, reduceCtorEq, c]
  (refine ti_call (l15Slice_d h hx hv hB) ?_ ?_ ?_; (focus (simp only [go_sem, seval, reduceCtorEq, dv_one]; done)); (first | rfl | (focus (simp only [go_sem]; done))))
  simp (disch := omega) only [go_sem, seval, reduceCtorEq, hB, slcN, cond_true]
  (refine FnEnd.mk (Nat.le_of_ble_eq_true rfl) rfl (of_decide_eq_true rfl) ?_ ?_ <;> try simp only [go_sem, seval, reduceCtorEq])
end Go.Proofs.Ytjncdanegoileaa
