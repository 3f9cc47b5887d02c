/-
  Contracts: diagonals of tensors. No condition.
-/
import Derived.Test.YtmgifmgdfldheaaConO
namespace Go.Proofs.Ytmgifmgdfldheaa
open Go.RowKit Go.Lift Plain
set_option linter.unusedSimpArgs false
set_option linter.unusedVariables false
set_option maxRecDepth 100000

theorem iDiagonalTensor_d {kk pp nn : Int} {t : Ten} {x y : Int} (a : I64 kk) (b : I64 pp) (c : I64 nn) (h : TSz 1048576 t) :
    Does Try.prog 46 [ringA kk pp nn, tenA t, .d (.int x), .d (.int y)] [] (.tup [ownT 0 (diaT ⟨kk, pp, nn⟩ t x y), .d (.bool (diaB ⟨kk, pp, nn⟩ t x y))]) (stoF (diaT ⟨kk, pp, nn⟩ t x y)) := by
  have hxl := h.x.len
  (refine spec_of (by kernel_rfl) Try.func46 k_impl_DiagonalTensor (fnOk (Nat.le_of_ble_eq_true rfl) ?_); unfold C_impl_DiagonalTensor)
  (simp only [Nat.reduceSub, List.length_cons, List.length_nil, Nat.reduceAdd, ch_init1, ch_init2, ch_init3, ch_init4, ch_init5, ch_init6, ch_init7, ch_init8]; try simp only [ch_rep]); (simp only [go_sem, seval, reduceCtorEq, List.replicate])
  (refine ti_call (iTensorOk_d (t := t) a b c h.up) ?_ ?_ ?_; (focus (simp only [go_sem, seval, reduceCtorEq]; done)); (first | rfl | (focus (simp only [go_sem]; done))))
  cases h1 : tensorOk ⟨kk, pp, nn⟩ t.labels t.dims t.data
  · have e1 : diaB ⟨kk, pp, nn⟩ t x y = false := by simp [diaB, h1]
    have e2 : diaT ⟨kk, pp, nn⟩ t x y = ⟨[], [], []⟩ := by simp [diaT, e1]
    simp only [go_sem, seval, reduceCtorEq, h1, e1, e2]
    refine FnEnd.wk (Wk.trans (Wk.nilS 2 0 1 _ _ _ rfl rfl) (Wk.trans (Wk.nilS 2 1 1 _ _ _ rfl rfl) (Wk.trans (Wk.nilS 2 2 1 _ _ _ rfl rfl) Wk.nogA))) ?_
    (refine FnEnd.mk (Nat.le_of_ble_eq_true rfl) rfl (of_decide_eq_true rfl) ?_ ?_ <;> try simp only [go_sem, seval, reduceCtorEq])
  simp only [go_sem, seval, reduceCtorEq, h1]
  (refine gi_call (axisOf_d (t := t) (x := x) h.l.up.len) ?_ ?_ ?_; (focus (simp only [go_sem, seval, reduceCtorEq]; done)); (first | rfl | (focus (simp only [go_sem]; done))))
  simp only [go_sem, seval, reduceCtorEq]
  (refine ti_call (axisOf_d (t := t) (x := y) h.l.up.len) ?_ ?_ ?_; (focus (simp only [go_sem, seval, reduceCtorEq]; done)); (first | rfl | (focus (simp only [go_sem]; done))))
  have hax := (tensorOk_facts h1).2.1
  by_cases hmx : x ∈ t.labels
  rotate_left
  · have e1 : diaB ⟨kk, pp, nn⟩ t x y = false := by simp [diaB, hmx]
    have e2 : diaT ⟨kk, pp, nn⟩ t x y = ⟨[], [], []⟩ := by simp [diaT, e1]
    have e3 := place_no hmx
    simp only [go_sem, seval, reduceCtorEq, e3, e1, e2]
    refine FnEnd.wk (Wk.trans (Wk.nilS 2 0 1 _ _ _ rfl rfl) (Wk.trans (Wk.nilS 2 1 1 _ _ _ rfl rfl) (Wk.trans (Wk.nilS 2 2 1 _ _ _ rfl rfl) Wk.nogA))) ?_
    (refine FnEnd.mk (Nat.le_of_ble_eq_true rfl) rfl (of_decide_eq_true rfl) ?_ ?_ <;> try simp only [go_sem, seval, reduceCtorEq])
  obtain ⟨ja, p1, p2, p3, p4⟩ := dimAt_get hax.len hmx
  obtain ⟨ja', p5, p6, p7, _⟩ := place_mem hmx
  obtain rfl : ja = ja' := by omega
  have c1 : ¬ (ja : Int) < 0 := by omega
  have c2 : (ja : Int) < t.dims.length := by omega
  by_cases hmy : y ∈ t.labels
  rotate_left
  · have e1 : diaB ⟨kk, pp, nn⟩ t x y = false := by simp [diaB, hmy]
    have e2 : diaT ⟨kk, pp, nn⟩ t x y = ⟨[], [], []⟩ := by simp [diaT, e1]
    have e3 := place_no hmy
    simp only [go_sem, seval, reduceCtorEq, p3, c1, e3, e1, e2]
    refine FnEnd.wk (Wk.trans (Wk.nilS 2 0 1 _ _ _ rfl rfl) (Wk.trans (Wk.nilS 2 1 1 _ _ _ rfl rfl) (Wk.trans (Wk.nilS 2 2 1 _ _ _ rfl rfl) Wk.nogA))) ?_
    (refine FnEnd.mk (Nat.le_of_ble_eq_true rfl) rfl (of_decide_eq_true rfl) ?_ ?_ <;> try simp only [go_sem, seval, reduceCtorEq])
  obtain ⟨jb, q1, q2, q3, q4⟩ := dimAt_get hax.len hmy
  obtain ⟨jb', q5, q6, q7, _⟩ := place_mem hmy
  obtain rfl : jb = jb' := by omega
  have c3 : ¬ (jb : Int) < 0 := by omega
  have c4 : (jb : Int) < t.dims.length := by omega
  by_cases hjj : ja = jb
  · have hxy : x = y := by subst hjj; exact p7.symm.trans q7
    have e1 : diaB ⟨kk, pp, nn⟩ t x y = false := by simp [diaB, hxy]
    have e2 : diaT ⟨kk, pp, nn⟩ t x y = ⟨[], [], []⟩ := by simp [diaT, e1]
    have e3 : ((ja : Int) == jb) = true := by simp [hjj]
    simp only [go_sem, seval, reduceCtorEq, p3, q3, c1, c3, e3, e1, e2]
    refine FnEnd.wk (Wk.trans (Wk.nilS 2 0 1 _ _ _ rfl rfl) (Wk.trans (Wk.nilS 2 1 1 _ _ _ rfl rfl) (Wk.trans (Wk.nilS 2 2 1 _ _ _ rfl rfl) Wk.nogA))) ?_
    (refine FnEnd.mk (Nat.le_of_ble_eq_true rfl) rfl (of_decide_eq_true rfl) ?_ ?_ <;> try simp only [go_sem, seval, reduceCtorEq])
  have e3 : ((ja : Int) == jb) = false := by simp; omega
  by_cases hdd : dimAt t x = dimAt t y
  rotate_left
  · have e1 : diaB ⟨kk, pp, nn⟩ t x y = false := by simp [diaB, hdd]
    have e2 : diaT ⟨kk, pp, nn⟩ t x y = ⟨[], [], []⟩ := by simp [diaT, e1]
    have e4 : (dimAt t x != dimAt t y) = true := by simp [hdd]
    simp only [go_sem, seval, reduceCtorEq, p3, q3, c1, c2, c3, c4, p4, q4, e3, e4, e1, e2]
    refine FnEnd.wk (Wk.trans (Wk.nilS 2 0 1 _ _ _ rfl rfl) (Wk.trans (Wk.nilS 2 1 1 _ _ _ rfl rfl) (Wk.trans (Wk.nilS 2 2 1 _ _ _ rfl rfl) Wk.nogA))) ?_
    (refine FnEnd.mk (Nat.le_of_ble_eq_true rfl) rfl (of_decide_eq_true rfl) ?_ ?_ <;> try simp only [go_sem, seval, reduceCtorEq])
  have e4 : (dimAt t x != dimAt t y) = false := by simp [hdd]
  have hxy : x ≠ y := fun e => by
    subst e
    omega
  have ho : diaB ⟨kk, pp, nn⟩ t x y = true := by simp only [diaB, h1, Bool.true_and, decide_eq_true_eq]; exact ⟨hmx, hmy, hxy, hdd⟩
  obtain ⟨wd, n, ja', jb', g1, g2, hD, g3⟩ := diaB_ok ho
  have hja := hD.place
  have hjb := hD.s.place
  obtain rfl : ja = ja' := by omega
  obtain rfl : jb = jb' := by omega
  have hS := hD.s
  have hwl := wo_len t.labels y
  have hl12 := hax.1
  simp only [go_sem, seval, reduceCtorEq, p3, q3, c1, c2, c3, c4, p4, q4, e3, e4]
  (refine ti_call (withoutInt_w (xs := t.labels) (x := y) h.l.up.len) ?_ ?_ ?_; (focus (simp only [go_sem, seval, reduceCtorEq]; done)); (first | rfl | (focus (simp only [go_sem]; done))))
  simp only [go_sem, seval, reduceCtorEq]
  have hW : ∀ k, k < (wo t.labels y).length → ∃ i : Nat, i < t.dims.length ∧ place t.labels ((wo t.labels y).getD k 0) = i ∧ t.dims[i]? = some (dimAt t ((wo t.labels y).getD k 0)) := fun k hk => by
    have hm := (wo_mem.1 (List.getElem_mem hk)).1
    obtain ⟨i, h1, h2, h3, h4⟩ := dimAt_get hax.len hm
    rw [getD_of hk]
    exact ⟨i, h2, h3, h4⟩
  have hDl := hS.dlen
  have hDs : ∀ k, k < (wo t.labels y).length → (sliD t jb).take (k + 1) = (sliD t jb).take k ++ [dimAt t ((wo t.labels y).getD k 0)] := fun k hk => by
    rw [take_ss (by omega), getD_of hk]
    have : (sliD t jb)[k]'(by omega) = dimAt t (wo t.labels y)[k] := by
      have h1 := hS.dims
      have h2 : ((wo t.labels y).map (dimAt t))[k]'(by simpa using hk) = dimAt t (wo t.labels y)[k] := by simp
      rw [← h2]
      simp only [h1]
    rw [this]
  have hSl := hD.len
  have hSg : ∀ k (hk : k < (wo t.labels y).length), (diaS t x y)[k]? = some (strideL t.labels t.dims (wo t.labels y)[k] + if (wo t.labels y)[k] = x then strideL t.labels t.dims y else 0) := fun k hk => by simp [diaS, hk]
  have hdotb := hD.dotb
  have hoff0 := hD.off
  generalize hWg : wo t.labels y = W at *
  generalize hSS : diaS t x y = SS at *
  (refine wpN_lwk (Wk.nilS 4 1 1 _ _ _ rfl rfl) ?_; simp only [go_sem, seval, reduceCtorEq])
  refine wpN_lp (W.length) [false, false, false, false, false, false, false, false, false, false, false, false, false, false, true, false, false, false, false, false, false, false, false, false, false, false, false, false, false, false, false, false, false, false, false, false, false, false, false, false, false, false, false, false, false, false, false, false, false, false, false, false, false, false, false, false, false, false, false, false, false, false, false, false, false, true, true, true, true, true, true, true, true, true, true, true, true, true, true, true, true, false, false, false, false, false, false, false, false, false, false, false, false, false, false, false, false, false, false, false, false, false, false, false, false, false, false, false, false, false, false, false, false, false, false, false, false, false, false, false, false, false, false, false, false, false, false, false, false, false] (fun k => [(64, .d (.int k))]) (fun k => [(4, [.own 3 0 W.length, .own 5 0 k, .nil]), (5, iv ((sliD t jb).take k))]) (fun _ => by (simp only [go_sem, seval, reduceCtorEq, dropF_ch, dropF_cons, dropF_nil, cut, cond_true, cond_false]); first | done | rfl) (fun _ => by (simp only [go_sem, seval, reduceCtorEq, cut]); first | done | rfl) (Nat.le_of_ble_eq_true rfl) (by first | (simp only [go_sem, seval, reduceCtorEq, dropF_ch, dropF_cons, dropF_nil, cut, cond_true, cond_false, Int.natCast_zero, Int.natCast_add, Int.natCast_one, List.take_zero, iv_nil]; done) | rfl | (simp only [go_sem, seval, reduceCtorEq, dropF_ch, dropF_cons, dropF_nil, cut, cond_true, cond_false, Int.natCast_zero, Int.natCast_add, Int.natCast_one, List.take_zero, iv_nil]; rfl)) (by first | (simp only [go_sem, seval, reduceCtorEq, dropF_ch, dropF_cons, dropF_nil, cut, cond_true, cond_false, Int.natCast_zero, Int.natCast_add, Int.natCast_one, List.take_zero, iv_nil]; done) | rfl | (simp only [go_sem, seval, reduceCtorEq, dropF_ch, dropF_cons, dropF_nil, cut, cond_true, cond_false, Int.natCast_zero, Int.natCast_add, Int.natCast_one, List.take_zero, iv_nil]; rfl)) fun k hk => ?_
  unfold L2_impl_DiagonalTensor
  by_cases hlt : k < W.length
  · have d1 : (k : Int) < W.length := by omega
    have g : W[k]? = some (W.getD k 0) := by rw [getD_of hlt]; exact List.getElem?_eq_getElem hlt
    obtain ⟨i, hi1, hi2, hi3⟩ := hW k hlt
    have d2 : (i : Int) < t.dims.length := by omega
    have hD := hDs k hlt
    have l1 : ((sliD t jb).take k).length = k := by simp; omega
    simp (disch := omega) only [go_sem, seval, reduceCtorEq, d1, g]
    (refine gi_call (axisOf_d (t := t) (x := W.getD k 0) h.l.up.len) ?_ ?_ ?_; (focus (simp only [go_sem, seval, reduceCtorEq]; done)); (first | rfl | (focus (simp only [go_sem]; done))))
    simp (disch := omega) only [go_sem, seval, reduceCtorEq, hi2, d2, hi3, l1]
    refine ⟨by omega, ?_⟩
    (refine Next.drop [false, false, false, false, false, false, false, false, false, false, false, false, false, false, true, false, false, false, false, false, false, false, false, false, false, false, false, false, false, false, false, false, false, false, false, false, false, false, false, false, false, false, false, false, false, false, false, false, false, false, false, false, false, false, false, false, false, false, false, false, false, false, false, false, false, true, true, true, true, true, true, true, true, true, true, true, true, true, true, true, true, false, false, false, false, false, false, false, false, false, false, false, false, false, false, false, false, false, false, false, false, false, false, false, false, false, false, false, false, false, false, false, false, false, false, false, false, false, false, false, false, false, false, false, false, false, false, false, false, false] (by omega) (Nat.le_of_ble_eq_true rfl) ?_ ?_ <;> first | (simp only [go_sem, seval, reduceCtorEq, dropF_ch, dropF_cons, dropF_nil, cut, cond_true, cond_false, Int.natCast_zero, Int.natCast_add, Int.natCast_one, hD]; done) | rfl | (simp only [go_sem, seval, reduceCtorEq, dropF_ch, dropF_cons, dropF_nil, cut, cond_true, cond_false, Int.natCast_zero, Int.natCast_add, Int.natCast_one, hD]; rfl) | skip)
  · have d1 : ¬ (k : Int) < W.length := by omega
    have hkl : k = W.length := by omega
    subst hkl
    have htD : (sliD t jb).take W.length = sliD t jb := List.take_of_length_le (by omega)
    have hn1 := hS.n1
    have hpn := hS.pn
    have hwb := hS.w1
    have hdl3 := hS.dl
    have hsb := hS.sbd
    simp (disch := omega) only [go_sem, seval, reduceCtorEq, d1, htD]
    (refine ti_call (stridesOf_d (t := t) (L := W) hax (by omega) (by omega)) ?_ ?_ ?_; (focus (simp only [go_sem, seval, reduceCtorEq]; done)); (first | rfl | (focus (simp only [go_sem]; done))))
    simp (disch := omega) only [go_sem, seval, reduceCtorEq]
    (refine ti_call (stridesOf_d (t := t) (L := [y]) hax (by omega) (by simp)) ?_ ?_ ?_; (focus (simp only [go_sem, seval, reduceCtorEq, dv_sing]; done)); (first | rfl | (focus (simp only [go_sem]; done))))
    simp (disch := omega) only [go_sem, seval, reduceCtorEq, List.map_cons, List.map_nil, iv_sing]
    refine wpN_lp (W.length) [false, false, false, false, false, false, false, false, false, false, false, false, false, false, false, false, false, true, true, false, false, false, false, false, false, false, false, false, false, false, false, false, false, false, false, false, false, false, false, false, false, false, false, false, false, false, false, false, false, false, false, false, false, false, false, false, false, false, false, false, false, false, false, false, false, false, false, false, false, false, false, false, false, false, false, false, false, false, false, false, false, false, false, false, false, false, false, false, false, false, false, false, false, false, false, true, true, true, true, true, true, true, true, true, true, true, true, true, true, true, false, false, false, false, false, false, false, false, false, false, false, false, false, false, false, false, false, false, false, false] (fun q => [(94, .d (.int q))]) (fun q => [(6, iv (mix SS (W.map (strideL t.labels t.dims)) q))]) (fun _ => by (simp only [go_sem, seval, reduceCtorEq, dropF_ch, dropF_cons, dropF_nil, cut, cond_true, cond_false]); first | done | rfl) (fun _ => by (simp only [go_sem, seval, reduceCtorEq, cut]); first | done | rfl) (Nat.le_of_ble_eq_true rfl) (by first | (simp only [go_sem, seval, reduceCtorEq, dropF_ch, dropF_cons, dropF_nil, cut, cond_true, cond_false, Int.natCast_zero, Int.natCast_add, Int.natCast_one, mix_zero]; done) | rfl | (simp only [go_sem, seval, reduceCtorEq, dropF_ch, dropF_cons, dropF_nil, cut, cond_true, cond_false, Int.natCast_zero, Int.natCast_add, Int.natCast_one, mix_zero]; rfl)) (by first | (simp only [go_sem, seval, reduceCtorEq, dropF_ch, dropF_cons, dropF_nil, cut, cond_true, cond_false, Int.natCast_zero, Int.natCast_add, Int.natCast_one, mix_zero]; done) | rfl | (simp only [go_sem, seval, reduceCtorEq, dropF_ch, dropF_cons, dropF_nil, cut, cond_true, cond_false, Int.natCast_zero, Int.natCast_add, Int.natCast_one, mix_zero]; rfl)) fun q hq => ?_
    unfold L1_impl_DiagonalTensor
    have hsl : SS.length = (W.map (strideL t.labels t.dims)).length := by simp [hSl]
    have hmlen : (mix SS (W.map (strideL t.labels t.dims)) q).length = W.length := by rw [mix_len hsl]; exact hSl
    by_cases hltq : q < W.length
    · have f1 : (q : Int) < W.length := by omega
      have fg : W[q]? = some W[q] := List.getElem?_eq_getElem hltq
      have hold : (mix SS (W.map (strideL t.labels t.dims)) q)[q]? = some (strideL t.labels t.dims W[q]) := by rw [mix_get hsl, if_neg (Nat.lt_irrefl _)]; simp [hltq]
      have hmn := mix_next hsl (hSg q hltq)
      have hb1 := hsb W[q]
      have hb2 := hsb y
      by_cases hx : W[q] = x
      · have hxe : (W[q] == x) = true := by simp [hx]
        rw [if_pos hx] at hmn
        simp (disch := omega) only [go_sem, seval, reduceCtorEq, f1, fg, hxe, hold]
        refine ⟨by rw [hmlen]; omega, ?_⟩
        (refine Next.drop [false, false, false, false, false, false, false, false, false, false, false, false, false, false, false, false, false, true, true, false, false, false, false, false, false, false, false, false, false, false, false, false, false, false, false, false, false, false, false, false, false, false, false, false, false, false, false, false, false, false, false, false, false, false, false, false, false, false, false, false, false, false, false, false, false, false, false, false, false, false, false, false, false, false, false, false, false, false, false, false, false, false, false, false, false, false, false, false, false, false, false, false, false, false, false, true, true, true, true, true, true, true, true, true, true, true, true, true, true, true, false, false, false, false, false, false, false, false, false, false, false, false, false, false, false, false, false, false, false, false] (by omega) (Nat.le_of_ble_eq_true rfl) ?_ ?_ <;> first | (simp only [go_sem, seval, reduceCtorEq, dropF_ch, dropF_cons, dropF_nil, cut, cond_true, cond_false, Int.natCast_zero, Int.natCast_add, Int.natCast_one, hmn]; done) | rfl | (simp only [go_sem, seval, reduceCtorEq, dropF_ch, dropF_cons, dropF_nil, cut, cond_true, cond_false, Int.natCast_zero, Int.natCast_add, Int.natCast_one, hmn]; rfl) | skip)
      · have hxe : (W[q] == x) = false := by simp [hx]
        rw [if_neg hx, Int.add_zero] at hmn
        have e5 : mix SS (W.map (strideL t.labels t.dims)) (q + 1) = mix SS (W.map (strideL t.labels t.dims)) q := by
          rw [← hmn, put_set (by omega)]
          refine List.ext_getElem? fun z => ?_
          rw [List.getElem?_set]
          split
          · rename_i hz
            subst hz
            rw [if_pos (by omega), hold]
          · rfl
        simp (disch := omega) only [go_sem, seval, reduceCtorEq, f1, fg, hxe]
        (refine Next.drop [false, false, false, false, false, false, false, false, false, false, false, false, false, false, false, false, false, true, true, false, false, false, false, false, false, false, false, false, false, false, false, false, false, false, false, false, false, false, false, false, false, false, false, false, false, false, false, false, false, false, false, false, false, false, false, false, false, false, false, false, false, false, false, false, false, false, false, false, false, false, false, false, false, false, false, false, false, false, false, false, false, false, false, false, false, false, false, false, false, false, false, false, false, false, false, true, true, true, true, true, true, true, true, true, true, true, true, true, true, true, false, false, false, false, false, false, false, false, false, false, false, false, false, false, false, false, false, false, false, false] (by omega) (Nat.le_of_ble_eq_true rfl) ?_ ?_ <;> first | (simp only [go_sem, seval, reduceCtorEq, dropF_ch, dropF_cons, dropF_nil, cut, cond_true, cond_false, Int.natCast_zero, Int.natCast_add, Int.natCast_one, e5]; done) | rfl | (simp only [go_sem, seval, reduceCtorEq, dropF_ch, dropF_cons, dropF_nil, cut, cond_true, cond_false, Int.natCast_zero, Int.natCast_add, Int.natCast_one, e5]; rfl) | skip)
    · have f1 : ¬ (q : Int) < W.length := by omega
      have hmf : mix SS (W.map (strideL t.labels t.dims)) q = SS := mix_full (by simp; omega) (by omega)
      simp (disch := omega) only [go_sem, seval, reduceCtorEq, f1, hmf]
      refine ⟨by omega, ?_⟩
      (refine wpN_lwk (Wk.nilS 4 2 1 _ _ _ rfl rfl) ?_; simp only [go_sem, seval, reduceCtorEq])
      have hd0 : digits (sliD t jb) 0 = List.replicate W.length 0 := by rw [digits_zero, hDl]
      obtain ⟨hNN, hN1⟩ := hS.pN
      have hNn0 := hS.nN
      have htS : List.take W.length SS = SS := List.take_of_length_le (by omega)
      refine wpN_lpS (0) (fun i => sliN t jb - i) [false, false, false, false, false, false, false, false, false, true, false, false, false, false, false, false, false, false, false, false, false, false, false, false, false, false, false, false, false, false, false, false, false, false, false, false, false, false, false, false, false, false, false, false, false, false, false, false, false, false, false, false, false, false, false, false, false, false, false, false, false, false, false, false, false, false, false, false, false, false, false, false, false, false, false, false, false, false, false, false, false, false, false, false, false, false, false, false, false, false, false, false, false, false, false, false, false, false, false, false, false, false, false, false, false, false, false, false, false, false, false, false, false, false, true, true, true, true, true, true, true, true, true, true, true, true, true, true, true, true] (fun i => i < sliN t jb) (fun i => []) (fun i => [(4, [.own 3 0 W.length, .own 5 0 W.length, .own 10 0 (i * wd)]), (9, iv (digits (sliD t jb) (i : Int))), (10, iv (gath t.data wd (diaOff t x y jb) i))]) (fun _ => by (simp only [go_sem, seval, reduceCtorEq, dropF_ch, dropF_cons, dropF_nil, cut, cond_true, cond_false]); first | done | rfl) (fun _ => by (simp only [go_sem, seval, reduceCtorEq, cut]); first | done | rfl) (by omega) (Nat.le_of_ble_eq_true rfl) (by first | (simp only [go_sem, seval, reduceCtorEq, dropF_ch, dropF_cons, dropF_nil, cut, cond_true, cond_false, Int.natCast_zero, Int.natCast_add, Int.natCast_one, hd0, gath, Nat.zero_mul, iv_nil]; done) | rfl | (simp only [go_sem, seval, reduceCtorEq, dropF_ch, dropF_cons, dropF_nil, cut, cond_true, cond_false, Int.natCast_zero, Int.natCast_add, Int.natCast_one, hd0, gath, Nat.zero_mul, iv_nil]; rfl)) (by first | (simp only [go_sem, seval, reduceCtorEq, dropF_ch, dropF_cons, dropF_nil, cut, cond_true, cond_false, Int.natCast_zero, Int.natCast_add, Int.natCast_one, hd0, gath, Nat.zero_mul, iv_nil]; done) | rfl | (simp only [go_sem, seval, reduceCtorEq, dropF_ch, dropF_cons, dropF_nil, cut, cond_true, cond_false, Int.natCast_zero, Int.natCast_add, Int.natCast_one, hd0, gath, Nat.zero_mul, iv_nil]; rfl)) fun i hi => ?_
      unfold L0_impl_DiagonalTensor
      have hdl : (digits (sliD t jb) i).length = W.length := by simp [digits_len, hDl]
      have hdl2 : (digits (sliD t jb) (i + 1)).length = W.length := by simp [digits_len, hDl]
      have ht2 : List.take W.length (digits (sliD t jb) i) = digits (sliD t jb) i := List.take_of_length_le (by omega)
      have hoff := (hoff0 i).1
      have hcut := hD.cut i
      have hst := mul_step (wd := wd) hi
      have hNn : sliN t jb * wd ≤ n * wd := Nat.mul_le_mul_right wd hNn0
      have hgl : (gath t.data wd (diaOff t x y jb) i).length = i * wd := gath_len fun q _ => hD.cut q
      have hofn := (hoff0 i).2.1
      have hcl := cut_len hcut
      have hcd : wd ≤ ((t.data.drop (diaOff t x y jb i * wd)).take wd).length := by omega
      have htt : List.take wd (List.take wd (List.drop (diaOff t x y jb i * wd) t.data)) = List.take wd (List.drop (diaOff t x y jb i * wd) t.data) := List.take_of_length_le (by omega)
      simp only [go_sem, seval, reduceCtorEq]
      (refine gi_call (dotOf_d (a := SS) (b := digits (sliD t jb) i) (by omega) (by omega) (fun q _ => hdotb i q)) ?_ ?_ ?_; (focus (simp only [go_sem, seval, reduceCtorEq, htS, ht2, hdl, hSl]; done)); (first | rfl | (focus (simp only [go_sem]; done))))
      simp (disch := omega) only [go_sem, seval, reduceCtorEq, hoff]
      (refine gi_call (rawElem_d (t := t) (x := diaOff t x y jb i) g1 (by omega) hcut (by omega) (by omega)) ?_ ?_ ?_; (focus (simp only [go_sem, seval, reduceCtorEq]; done)); (first | rfl | (focus (simp only [go_sem]; done))))
      simp (disch := omega) only [go_sem, seval, reduceCtorEq, hcl, hgl, htt]
      refine ⟨by omega, ?_⟩
      (refine ti_callw [9] false (nextIndex_d (ds := sliD t jb) (n := i) (fun d hd => by have := hS.dbd d hd; omega) (by omega) (by omega)) (of_decide_eq_true rfl) ?_ ?_ ?_ ?_ (of_decide_eq_true rfl) ?_; (focus (simp only [go_sem, seval, reduceCtorEq, hDl, htD, hdl, hdl2]; done)); (focus (simp only [go_sem, seval, reduceCtorEq]; done)); (focus (simp only [go_sem, seval, reduceCtorEq, hDl, htD, hdl, hdl2]; done)); (focus (simp only [go_sem, seval, reduceCtorEq]; done)))
      by_cases hlast : i + 1 < sliN t jb
      · have hde : decide (((i : Int) + 1) % prodI (sliD t jb) ≠ 0) = true := by
          rw [hNN, Int.emod_eq_of_lt (by omega) (by omega)]
          exact decide_eq_true (by omega)
        simp (disch := omega) only [go_sem, seval, reduceCtorEq, hde]
        (refine NextS.drop [false, false, false, false, false, false, false, false, false, true, false, false, false, false, false, false, false, false, false, false, false, false, false, false, false, false, false, false, false, false, false, false, false, false, false, false, false, false, false, false, false, false, false, false, false, false, false, false, false, false, false, false, false, false, false, false, false, false, false, false, false, false, false, false, false, false, false, false, false, false, false, false, false, false, false, false, false, false, false, false, false, false, false, false, false, false, false, false, false, false, false, false, false, false, false, false, false, false, false, false, false, false, false, false, false, false, false, false, false, false, false, false, false, false, true, true, true, true, true, true, true, true, true, true, true, true, true, true, true, true] (i + 1) (by omega) (by omega) (Nat.le_of_ble_eq_true rfl) ?_ ?_ <;> first | (simp only [go_sem, seval, reduceCtorEq, dropF_ch, dropF_cons, dropF_nil, cut, cond_true, cond_false, Int.natCast_zero, Int.natCast_add, Int.natCast_one, gath, Nat.add_mul, Nat.one_mul]; done) | rfl | (simp only [go_sem, seval, reduceCtorEq, dropF_ch, dropF_cons, dropF_nil, cut, cond_true, cond_false, Int.natCast_zero, Int.natCast_add, Int.natCast_one, gath, Nat.add_mul, Nat.one_mul]; rfl) | skip)
      · have hde : decide (((i : Int) + 1) % prodI (sliD t jb) ≠ 0) = false := by
          have : (i : Int) + 1 = sliN t jb := by omega
          rw [hNN, this, Int.emod_self]
          rfl
        have hNs : sliN t jb = i + 1 := by omega
        have hst1 : (i + 1) * wd = i * wd + wd := by rw [Nat.add_mul, Nat.one_mul]
        have hgl2 : (gath t.data wd (diaOff t x y jb) (i + 1)).length = i * wd + wd := by rw [gath_len fun q _ => hD.cut q, hst1]
        simp (disch := omega) only [go_sem, seval, reduceCtorEq, hde, g3, ho]
        refine FnEnd.wk Wk.nogA ?_
        (refine FnEnd.mk (Nat.le_of_ble_eq_true rfl) rfl (of_decide_eq_true rfl) ?_ ?_ <;> try simp only [go_sem, seval, reduceCtorEq])
        rw [gath] at hgl2
        all_goals simp only [diaR, hNs, hWg, hDl, hgl2, gath]
end Go.Proofs.Ytmgifmgdfldheaa
