/-
  Contracts: tensors stacked, by the program. No condition.
-/
import Derived.Test.YtmggkcifakbfeaaStkA
namespace Go.Proofs.Ytmggkcifakbfeaa
open Go.RowKit Go.Lift Plain
set_option linter.unusedSimpArgs false
set_option linter.unusedVariables false
set_option maxRecDepth 100000

theorem take_sn (l : List Int) (x : Int) : List.take (l.length + 1) (l ++ [x]) = l ++ [x] := List.take_of_length_le (by simp)
theorem dv_nl : dv [] = [] := rfl
theorem iAlign_f {kk pp nn : Int} {t u : Ten} (a : I64 kk) (b : I64 pp) (c : I64 nn) (ht : TSz 1048576 t) (hu : TSz 1048576 u) :
    Does Try.prog 26 [ringA kk pp nn, tenA t, tenA u] [] (.tup [tenA (alR ⟨kk, pp, nn⟩ t u), .d (.bool (alB ⟨kk, pp, nn⟩ t u))]) [] := does_fzT (iAlign_d a b c ht hu)
theorem al_next {r : Rg} {t0 : Ten} {ts : List Ten} {k : Nat} (hk : k < ts.length) (h : alB r t0 ts[k] = true) (hi : ∀ j (hj : j < ts.length), j < k → alB r t0 ts[j] = true) : ∀ j (hj : j < ts.length), j < k + 1 → alB r t0 ts[j] = true := fun j hj hjk => by
  by_cases e : j = k
  · subst e; exact h
  · exact hi j hj (by omega)
set_option maxHeartbeats 1600000 in
theorem iStackTensors_d {kk pp nn : Int} {ts : List Ten} {x : Int} (a : I64 kk) (b : I64 pp) (c : I64 nn) (h : ts.length ≤ 1048576) (ht : ∀ t ∈ ts, TSz 1048576 t) (hx : I64 x) :
    Does Try.prog 8 [ringA kk pp nn, .d (tens ts), .d (.int x)] [] (.tup [ownT 0 (stackT ⟨kk, pp, nn⟩ ts x), .d (.bool (stackB ⟨kk, pp, nn⟩ ts x))]) (stoF (stackT ⟨kk, pp, nn⟩ ts x)) := by
  have no : skB1 ⟨kk, pp, nn⟩ ts = false → stackB ⟨kk, pp, nn⟩ ts x = false ∧ stackT ⟨kk, pp, nn⟩ ts x = ⟨[], [], []⟩ := fun e => by
    have e1 : stackB ⟨kk, pp, nn⟩ ts x = false := by simp [stackB, e]
    exact ⟨e1, by simp [stackT, e1]⟩
  (refine spec_ofK (by kernel_rfl) Try.func8 k_impl_StackTensors (fnOk (Nat.le_of_ble_eq_true rfl) ?_); unfold C_impl_StackTensors)
  (simp only [Nat.reduceSub, List.length_cons, List.length_nil, Nat.reduceAdd, ch_init1, ch_init2, ch_init3, ch_init4, ch_init5, ch_init6, ch_init7, ch_init8]; try simp only [ch_rep]); (simp only [go_sem, seval, reduceCtorEq, List.replicate])
  (refine gi_call (iRingOk_d kk pp nn) ?_ ?_ ?_; (focus (simp only [go_sem, seval, reduceCtorEq]; done)); (first | rfl | (focus (simp only [go_sem]; done))))
  cases h1 : ringOk ⟨kk, pp, nn⟩
  · have e0 := no (by simp [skB1, h1])
    have e1 := e0.1
    have e2 := e0.2
    simp only [go_sem, seval, reduceCtorEq, h1, e1, e2]
    refine FnEnd.wk (Wk.trans (Wk.nilS 1 0 1 _ _ _ rfl rfl) (Wk.trans (Wk.nilS 1 1 1 _ _ _ rfl rfl) (Wk.trans (Wk.nilS 1 2 1 _ _ _ rfl rfl) Wk.nogA))) ?_
    (refine FnEnd.mk (Nat.le_of_ble_eq_true rfl) rfl (of_decide_eq_true rfl) ?_ ?_ <;> try simp only [go_sem, seval, reduceCtorEq])
  simp only [go_sem, seval, reduceCtorEq, h1]
  by_cases h2 : (ts.length : Int) < 1
  · have e0 := no (by
      have : ¬ (1 ≤ ts.length ∧ ts.length ≤ 8) := by omega
      simp only [skB1, decide_eq_false this, Bool.and_false, Bool.false_and])
    have e1 := e0.1
    have e2 := e0.2
    simp only [go_sem, seval, reduceCtorEq, h2, e1, e2]
    refine FnEnd.wk (Wk.trans (Wk.nilS 1 0 1 _ _ _ rfl rfl) (Wk.trans (Wk.nilS 1 1 1 _ _ _ rfl rfl) (Wk.trans (Wk.nilS 1 2 1 _ _ _ rfl rfl) Wk.nogA))) ?_
    (refine FnEnd.mk (Nat.le_of_ble_eq_true rfl) rfl (of_decide_eq_true rfl) ?_ ?_ <;> try simp only [go_sem, seval, reduceCtorEq])
  simp only [go_sem, seval, reduceCtorEq, h2]
  by_cases h3 : (ts.length : Int) > 8
  · have e0 := no (by
      have : ¬ (1 ≤ ts.length ∧ ts.length ≤ 8) := by omega
      simp only [skB1, decide_eq_false this, Bool.and_false, Bool.false_and])
    have e1 := e0.1
    have e2 := e0.2
    simp only [go_sem, seval, reduceCtorEq, h3, e1, e2]
    refine FnEnd.wk (Wk.trans (Wk.nilS 1 0 1 _ _ _ rfl rfl) (Wk.trans (Wk.nilS 1 1 1 _ _ _ rfl rfl) (Wk.trans (Wk.nilS 1 2 1 _ _ _ rfl rfl) Wk.nogA))) ?_
    (refine FnEnd.mk (Nat.le_of_ble_eq_true rfl) rfl (of_decide_eq_true rfl) ?_ ?_ <;> try simp only [go_sem, seval, reduceCtorEq])
  have hl8 : 1 ≤ ts.length ∧ ts.length ≤ 8 := by omega
  have h0m := hd0_mem hl8.1
  have hs0 := ht _ h0m
  have q0 : ts[0]? = some (hd0 ts) := by
    rw [List.getElem?_eq_getElem (show 0 < ts.length by omega)]
    simp [hd0, List.getD_eq_getElem?_getD, show 0 < ts.length by omega]
  have g0 := tcs_cut q0
  obtain ⟨gl, gd, _⟩ := tcs_get q0
  have d0 : (0 : Int) < ts.length := by omega
  simp only [Nat.zero_mul, List.drop_zero, Nat.zero_add] at g0 gl gd
  simp (disch := omega) only [go_sem, seval, reduceCtorEq, h3, d0, g0]
  refine ⟨by omega, ?_⟩
  (refine ti_call (iTensorOk_d (t := hd0 ts) a b c hs0.up) ?_ ?_ ?_; (focus (simp only [go_sem, seval, reduceCtorEq]; done)); (first | rfl | (focus (simp only [go_sem]; done))))
  cases h4 : tensorOk ⟨kk, pp, nn⟩ (hd0 ts).labels (hd0 ts).dims (hd0 ts).data
  · have e0 := no (by simp [skB1, h4])
    have e1 := e0.1
    have e2 := e0.2
    simp only [go_sem, seval, reduceCtorEq, h4, e1, e2]
    refine FnEnd.wk (Wk.trans (Wk.nilS 1 0 1 _ _ _ rfl rfl) (Wk.trans (Wk.nilS 1 1 1 _ _ _ rfl rfl) (Wk.trans (Wk.nilS 1 2 1 _ _ _ rfl rfl) Wk.nogA))) ?_
    (refine FnEnd.mk (Nat.le_of_ble_eq_true rfl) rfl (of_decide_eq_true rfl) ?_ ?_ <;> try simp only [go_sem, seval, reduceCtorEq])
  obtain ⟨AL, hAL⟩ : ∃ AL, AL = skA ⟨kk, pp, nn⟩ ts := ⟨_, rfl⟩
  have hALl : AL.length = ts.length := by rw [hAL, skA_len]
  have hz0 : Lift.zeros ts.length [AV.nil, AV.nil, AV.nil] = rowI AL ts.length 0 := rowI_zero.symm
  simp (disch := omega) only [go_sem, seval, reduceCtorEq, h4, hz0]
  (repeat (refine And.intro (by omega) ?_))
  have hI0 : ∀ j (hj : j < ts.length), j < 0 → alB ⟨kk, pp, nn⟩ (hd0 ts) ts[j] = true := fun j _ hj => absurd hj (Nat.not_lt_zero j)
  refine wpN_lpI (ts.length) [false, false, false, false, false, false, false, true, false, true, true, true, true, false, false, false, false, false, false, false, false, false, false, false, false, false, false, false, false, false, false, false, false, false, false, false, false, false, false, false, false, false, false, false, false, true, true, true, true, true, true, true, true, true, true, true, true, true, true, true, true, true, true, true, true, true, false, false, false, false, false, false, false, false, false, false, false, false, false, false, false, false, false, false, false, false, false, false, false, false, false, false, false, false, false, false, false, false, false, false, false, false, false, false, false, false, false, false, false, false, false, false, false] (fun i => ∀ j (hj : j < ts.length), j < i → alB ⟨kk, pp, nn⟩ (hd0 ts) ts[j] = true) (fun i => [(44, .d (.int i))]) (fun i => [(2, rowI AL ts.length i)]) (fun _ => by (simp only [go_sem, seval, reduceCtorEq, dropF_ch, dropF_cons, dropF_nil, cut, cond_true, cond_false]); first | done | rfl) (fun _ => by (simp only [go_sem, seval, reduceCtorEq, cut]); first | done | rfl) (hI0) (Nat.le_of_ble_eq_true rfl) (by first | (simp only [go_sem, seval, reduceCtorEq, dropF_ch, dropF_cons, dropF_nil, cut, cond_true, cond_false, Int.natCast_zero, Int.natCast_add, Int.natCast_one]; done) | rfl | (simp only [go_sem, seval, reduceCtorEq, dropF_ch, dropF_cons, dropF_nil, cut, cond_true, cond_false, Int.natCast_zero, Int.natCast_add, Int.natCast_one]; rfl)) (by first | (simp only [go_sem, seval, reduceCtorEq, dropF_ch, dropF_cons, dropF_nil, cut, cond_true, cond_false, Int.natCast_zero, Int.natCast_add, Int.natCast_one]; done) | rfl | (simp only [go_sem, seval, reduceCtorEq, dropF_ch, dropF_cons, dropF_nil, cut, cond_true, cond_false, Int.natCast_zero, Int.natCast_add, Int.natCast_one]; rfl)) fun i hi hii => ?_
  unfold L2_impl_StackTensors
  by_cases hlt : i < ts.length
  · have d1 : (i : Int) < ts.length := by omega
    have g3 := tcs_cut (List.getElem?_eq_getElem hlt)
    have hti := ht ts[i] (List.getElem_mem hlt)
    simp (disch := omega) only [go_sem, seval, reduceCtorEq, d1, d0, g3, g0]
    (repeat (refine And.intro (by omega) ?_))
    (refine gi_call (iAlign_f a b c hs0 hti) ?_ ?_ ?_; (focus (simp only [go_sem, seval, reduceCtorEq]; done)); (first | rfl | (focus (simp only [go_sem]; done))))
    cases hb : alB ⟨kk, pp, nn⟩ (hd0 ts) ts[i]
    · have e0 := no (by
        have : ts.all (alB ⟨kk, pp, nn⟩ (hd0 ts)) = false := by
          cases e : ts.all (alB ⟨kk, pp, nn⟩ (hd0 ts))
          · rfl
          · rw [List.all_eq_true.1 e _ (List.getElem_mem hlt)] at hb; cases hb
        simp only [skB1, this, Bool.and_false])
      have e1 := e0.1
      have e2 := e0.2
      simp only [go_sem, seval, reduceCtorEq, hb, e1, e2]
      refine FnEnd.wk (Wk.trans (Wk.nilS 1 0 1 _ _ _ rfl rfl) (Wk.trans (Wk.nilS 1 1 1 _ _ _ rfl rfl) (Wk.trans (Wk.nilS 1 2 1 _ _ _ rfl rfl) Wk.nogA))) ?_
      (refine FnEnd.mk (Nat.le_of_ble_eq_true rfl) rfl (of_decide_eq_true rfl) ?_ ?_ <;> try simp only [go_sem, seval, reduceCtorEq])
    have hAi : AL[i]'(by omega) = alR ⟨kk, pp, nn⟩ (hd0 ts) ts[i] := by subst hAL; exact skA_at hlt
    have hln := rowI_len (i := i) hALl (by omega)
    have hmd := rowI_mid (i := i) hALl hlt
    have hpt := rowI_put (i := i) hALl (by omega)
    rw [hAi] at hpt
    have hI := al_next hlt hb hii
    simp only [ints] at hpt
    simp (disch := omega) only [go_sem, seval, reduceCtorEq, hb, hmd]
    refine ⟨by omega, by omega, rfl, ?_⟩
    (refine NextI.drop [false, false, false, false, false, false, false, true, false, true, true, true, true, false, false, false, false, false, false, false, false, false, false, false, false, false, false, false, false, false, false, false, false, false, false, false, false, false, false, false, false, false, false, false, false, true, true, true, true, true, true, true, true, true, true, true, true, true, true, true, true, true, true, true, true, true, false, false, false, false, false, false, false, false, false, false, false, false, false, false, false, false, false, false, false, false, false, false, false, false, false, false, false, false, false, false, false, false, false, false, false, false, false, false, false, false, false, false, false, false, false, false, false] (by omega) (hI) (Nat.le_of_ble_eq_true rfl) ?_ ?_ <;> first | (simp only [go_sem, seval, reduceCtorEq, dropF_ch, dropF_cons, dropF_nil, cut, cond_true, cond_false, Int.natCast_zero, Int.natCast_add, Int.natCast_one, hpt]; done) | rfl | (simp only [go_sem, seval, reduceCtorEq, dropF_ch, dropF_cons, dropF_nil, cut, cond_true, cond_false, Int.natCast_zero, Int.natCast_add, Int.natCast_one, hpt]; rfl) | skip)
  have d1 : ¬ (i : Int) < ts.length := by omega
  obtain rfl : i = ts.length := by omega
  have hall : ts.all (alB ⟨kk, pp, nn⟩ (hd0 ts)) = true := List.all_eq_true.2 fun t htm => by
    obtain ⟨j, hj, rfl⟩ := List.mem_iff_getElem.1 htm
    exact hii j hj hj
  have ho : skB1 ⟨kk, pp, nn⟩ ts = true := by simp only [skB1, h1, h4, hall, decide_eq_true hl8, Bool.and_self]
  obtain ⟨wd, n, hF⟩ := skOk ho
  have hra : rowI AL ts.length ts.length = rowD AL := rowI_all hALl
  have hax := hF.ax
  have hax1 := hax.1
  have hax2 := hax.2.1
  simp (disch := omega) only [go_sem, seval, reduceCtorEq, d1, hra, d0, gl, gd]
  (repeat (refine And.intro (by omega) ?_))
  (refine gi_call (copyInts_d (xs := (hd0 ts).labels) (by omega)) ?_ ?_ ?_; (focus (simp only [go_sem, seval, reduceCtorEq]; done)); (first | rfl | (focus (simp only [go_sem]; done))))
  simp (disch := omega) only [go_sem, seval, reduceCtorEq, d0, gl, gd]
  (repeat (refine And.intro (by omega) ?_))
  (refine gi_call (copyInts_d (xs := (hd0 ts).dims) (by omega)) ?_ ?_ ?_; (focus (simp only [go_sem, seval, reduceCtorEq]; done)); (first | rfl | (focus (simp only [go_sem]; done))))
  simp (disch := omega) only [go_sem, seval, reduceCtorEq]
  (repeat (refine And.intro (by omega) ?_))
  have hsz0 := skF_sz ht hx hF [] ⟨by simp, by simp⟩
  (refine ti_call (iTensorSize_d (t := ⟨skL ts x, skD ts, []⟩) hsz0.up) ?_ ?_ ?_; (focus (simp only [go_sem, seval, reduceCtorEq, skL, skD, List.length_append, List.length_cons, List.length_nil, take_sn, dv_nl]; done)); (first | rfl | (focus (simp only [go_sem]; done))))
  by_cases h5 : tsize (skL ts x) (skD ts) = -1
  · have e : stackB ⟨kk, pp, nn⟩ ts x = false := by simp [stackB, h5]
    have e' : stackT ⟨kk, pp, nn⟩ ts x = ⟨[], [], []⟩ := by simp [stackT, e]
    have c5 : (tsize (skL ts x) (skD ts) == -1) = true := by simp [h5]
    simp only [go_sem, seval, reduceCtorEq, c5, e, e']
    refine FnEnd.wk (Wk.trans (Wk.nilS 1 0 1 _ _ _ rfl rfl) (Wk.trans (Wk.nilS 1 1 1 _ _ _ rfl rfl) (Wk.trans (Wk.nilS 1 2 1 _ _ _ rfl rfl) Wk.nogA))) ?_
    (refine FnEnd.mk (Nat.le_of_ble_eq_true rfl) rfl (of_decide_eq_true rfl) ?_ ?_ <;> try simp only [go_sem, seval, reduceCtorEq])
  have e : stackB ⟨kk, pp, nn⟩ ts x = true := by simp [stackB, ho, h5]
  have e' := stackT_yes hF e
  have c5 : (tsize (skL ts x) (skD ts) == -1) = false := by simp [h5]
  have hw1 := hF.wb
  have hp := hF.p
  have hn1 := hF.nb
  have hdl : ∀ t ∈ AL, t.data.length = n * wd := by rw [hAL]; exact hF.dl
  simp only [go_sem, seval, reduceCtorEq, c5, e, e']
  (refine wpN_lwk (Wk.nilS 9 2 1 _ _ _ rfl rfl) ?_; simp only [go_sem, seval, reduceCtorEq])
  have hm0 : stkT wd AL 0 = [] := rfl
  refine wpN_lp (n) [false, false, false, false, false, false, false, false, false, false, false, false, false, false, false, false, true, false, false, false, false, false, false, false, false, false, false, false, false, false, false, false, false, false, false, false, false, false, false, false, false, false, false, false, false, false, false, false, false, false, false, false, false, false, false, false, false, false, false, false, false, false, false, false, false, false, false, false, false, false, false, false, false, false, false, false, false, false, false, false, false, false, false, false, false, false, false, false, true, true, true, true, true, true, true, true, true, true, true, true, true, true, true, true, true, true, true, true, true, true, true, true, false] (fun q => [(14, .d (.int q))]) (fun q => [(9, [.own 5 0 ((hd0 ts).labels.length + 1), .own 8 0 ((hd0 ts).dims.length + 1), .own 10 0 (stkT wd AL q).length]), (10, iv (stkT wd AL q))]) (fun _ => by (simp only [go_sem, seval, reduceCtorEq, dropF_ch, dropF_cons, dropF_nil, cut, cond_true, cond_false]); first | done | rfl) (fun _ => by (simp only [go_sem, seval, reduceCtorEq, cut]); first | done | rfl) (Nat.le_of_ble_eq_true rfl) (by first | (simp only [go_sem, seval, reduceCtorEq, dropF_ch, dropF_cons, dropF_nil, cut, cond_true, cond_false, Int.natCast_zero, Int.natCast_add, Int.natCast_one, hm0, iv_nil, List.length_nil]; done) | rfl | (simp only [go_sem, seval, reduceCtorEq, dropF_ch, dropF_cons, dropF_nil, cut, cond_true, cond_false, Int.natCast_zero, Int.natCast_add, Int.natCast_one, hm0, iv_nil, List.length_nil]; rfl)) (by first | (simp only [go_sem, seval, reduceCtorEq, dropF_ch, dropF_cons, dropF_nil, cut, cond_true, cond_false, Int.natCast_zero, Int.natCast_add, Int.natCast_one, hm0, iv_nil, List.length_nil]; done) | rfl | (simp only [go_sem, seval, reduceCtorEq, dropF_ch, dropF_cons, dropF_nil, cut, cond_true, cond_false, Int.natCast_zero, Int.natCast_add, Int.natCast_one, hm0, iv_nil, List.length_nil]; rfl)) fun q hq => ?_
  unfold L1_impl_StackTensors
  simp (disch := omega) only [go_sem, seval, reduceCtorEq, d0, gd]
  (repeat (refine And.intro (by omega) ?_))
  (refine ti_call (productOf_d (ds := (hd0 ts).dims) (by omega) (fun d hd => (hax.dim d hd).1) (by omega)) ?_ ?_ ?_; (focus (simp only [go_sem, seval, reduceCtorEq]; done)); (first | rfl | (focus (simp only [go_sem]; done))))
  simp only [go_sem, seval, reduceCtorEq, hp]
  by_cases hltq : q < n
  · have d2 : (q : Int) < n := by omega
    have hTl := stkT_len hdl q (by omega)
    have hTb : q * (AL.length * wd) ≤ 4096 * (8 * 6) := Nat.mul_le_mul (by omega) (Nat.mul_le_mul (by omega) (by omega))
    have hm1 : stkR wd q [] = [] := rfl
    simp only [go_sem, seval, reduceCtorEq, d2]
    refine wpN_lp (ts.length) [false, false, false, false, false, false, false, false, false, false, false, false, false, false, false, false, true, false, false, false, false, false, false, false, false, false, false, false, false, false, false, false, false, false, false, false, false, false, false, false, false, false, false, false, false, false, false, false, false, false, false, false, false, false, false, false, false, false, false, false, false, false, false, false, false, false, false, false, false, false, false, false, false, false, false, false, false, false, false, false, false, false, false, false, false, false, false, false, false, false, false, false, false, false, false, false, false, false, false, false, true, true, true, true, true, true, true, true, true, true, true, true, false] (fun i => [(99, .d (.int i))]) (fun i => [(9, [.own 5 0 ((hd0 ts).labels.length + 1), .own 8 0 ((hd0 ts).dims.length + 1), .own 10 0 (stkT wd AL q ++ stkR wd q (AL.take i)).length]), (10, iv (stkT wd AL q ++ stkR wd q (AL.take i)))]) (fun _ => by (simp only [go_sem, seval, reduceCtorEq, dropF_ch, dropF_cons, dropF_nil, cut, cond_true, cond_false]); first | done | rfl) (fun _ => by (simp only [go_sem, seval, reduceCtorEq, cut]); first | done | rfl) (Nat.le_of_ble_eq_true rfl) (by first | (simp only [go_sem, seval, reduceCtorEq, dropF_ch, dropF_cons, dropF_nil, cut, cond_true, cond_false, Int.natCast_zero, Int.natCast_add, Int.natCast_one, List.take_zero, hm1, List.append_nil]; done) | rfl | (simp only [go_sem, seval, reduceCtorEq, dropF_ch, dropF_cons, dropF_nil, cut, cond_true, cond_false, Int.natCast_zero, Int.natCast_add, Int.natCast_one, List.take_zero, hm1, List.append_nil]; rfl)) (by first | (simp only [go_sem, seval, reduceCtorEq, dropF_ch, dropF_cons, dropF_nil, cut, cond_true, cond_false, Int.natCast_zero, Int.natCast_add, Int.natCast_one, List.take_zero, hm1, List.append_nil]; done) | rfl | (simp only [go_sem, seval, reduceCtorEq, dropF_ch, dropF_cons, dropF_nil, cut, cond_true, cond_false, Int.natCast_zero, Int.natCast_add, Int.natCast_one, List.take_zero, hm1, List.append_nil]; rfl)) fun i hi => ?_
    unfold L0_impl_StackTensors
    by_cases hlti : i < ts.length
    · have d3 : (i : Int) < ts.length := by omega
      have hiA : i < AL.length := by omega
      have gA := rowD_cut (List.getElem?_eq_getElem hiA)
      have hsn := stkR_next (wd := wd) (q := q) hiA
      have hdi := hdl AL[i] (List.getElem_mem hiA)
      have hcl := cutE_len (wd := wd) hdi hltq
      have hmul : q * wd + wd ≤ AL[i].data.length := by
        have := Nat.mul_le_mul_right wd (show q + 1 ≤ n by omega)
        rw [Nat.add_mul, Nat.one_mul] at this
        rw [hdi]; exact this
      have hRl := stkR_len (ts := AL.take i) (fun t ht => hdl t (List.mem_of_mem_take ht)) hltq
      have hRb : (AL.take i).length * wd ≤ 8 * 6 := Nat.mul_le_mul (by rw [List.length_take]; omega) (by omega)
      have hdb : AL[i].data.length ≤ 4096 * 6 := by rw [hdi]; exact Nat.mul_le_mul (by omega) (by omega)
      have hcc : (AL[i].data.drop (q * wd)).take wd = cutE AL[i].data wd q := rfl
      have hlen2 : (stkT wd AL q ++ stkR wd q (AL.take i)).length ≤ 1000000 := by rw [List.length_append, hTl, hRl]; omega
      simp (disch := omega) only [go_sem, seval, reduceCtorEq, d3, gA]
      (repeat (refine And.intro (by omega) ?_))
      (refine gi_call (rawElem_d (x := q) (kk := kk) (pp := pp) (nn := nn) (t := AL[i]) hF.w hw1.2 hmul (by omega) (by omega)) ?_ ?_ ?_; (focus (simp only [go_sem, seval, reduceCtorEq, hcc, hcl]; done)); (first | rfl | (focus (simp only [go_sem]; done))))
      simp (disch := omega) only [go_sem, seval, reduceCtorEq, hcc, hcl]
      have hle : (wd ≤ (cutE AL[i].data wd q).length) = True := by simp [hcl]
      have htk : List.take wd (cutE AL[i].data wd q) = cutE AL[i].data wd q := List.take_of_length_le (by omega)
      simp only [go_sem, seval, reduceCtorEq, hle, htk]
      (repeat (refine And.intro (by omega) ?_))
      have hsn2 : stkT wd AL q ++ stkR wd q (AL.take (i + 1)) = stkT wd AL q ++ stkR wd q (AL.take i) ++ cutE AL[i].data wd q := by rw [hsn, List.append_assoc]
      have hln3 : (stkT wd AL q ++ stkR wd q (AL.take i) ++ cutE AL[i].data wd q).length = (stkT wd AL q ++ stkR wd q (AL.take i)).length + wd := by rw [List.length_append, hcl]
      (refine Next.drop [false, false, false, false, false, false, false, false, false, false, false, false, false, false, false, false, true, false, false, false, false, false, false, false, false, false, false, false, false, false, false, false, false, false, false, false, false, false, false, false, false, false, false, false, false, false, false, false, false, false, false, false, false, false, false, false, false, false, false, false, false, false, false, false, false, false, false, false, false, false, false, false, false, false, false, false, false, false, false, false, false, false, false, false, false, false, false, false, false, false, false, false, false, false, false, false, false, false, false, false, true, true, true, true, true, true, true, true, true, true, true, true, false] (by omega) (Nat.le_of_ble_eq_true rfl) ?_ ?_ <;> first | (simp only [go_sem, seval, reduceCtorEq, dropF_ch, dropF_cons, dropF_nil, cut, cond_true, cond_false, Int.natCast_zero, Int.natCast_add, Int.natCast_one, hsn2, hln3]; done) | rfl | (simp only [go_sem, seval, reduceCtorEq, dropF_ch, dropF_cons, dropF_nil, cut, cond_true, cond_false, Int.natCast_zero, Int.natCast_add, Int.natCast_one, hsn2, hln3]; rfl) | skip)
    have d3 : ¬ (i : Int) < ts.length := by omega
    obtain rfl : i = ts.length := by omega
    have htA : AL.take ts.length = AL := List.take_of_length_le (by omega)
    have hst : stkT wd AL (q + 1) = stkT wd AL q ++ stkR wd q AL := rfl
    simp (disch := omega) only [go_sem, seval, reduceCtorEq, d3, htA]
    (refine Next.drop [false, false, false, false, false, false, false, false, false, false, false, false, false, false, false, false, true, false, false, false, false, false, false, false, false, false, false, false, false, false, false, false, false, false, false, false, false, false, false, false, false, false, false, false, false, false, false, false, false, false, false, false, false, false, false, false, false, false, false, false, false, false, false, false, false, false, false, false, false, false, false, false, false, false, false, false, false, false, false, false, false, false, false, false, false, false, false, false, true, true, true, true, true, true, true, true, true, true, true, true, true, true, true, true, true, true, true, true, true, true, true, true, false] (by omega) (Nat.le_of_ble_eq_true rfl) ?_ ?_ <;> first | (simp only [go_sem, seval, reduceCtorEq, dropF_ch, dropF_cons, dropF_nil, cut, cond_true, cond_false, Int.natCast_zero, Int.natCast_add, Int.natCast_one, hst]; done) | rfl | (simp only [go_sem, seval, reduceCtorEq, dropF_ch, dropF_cons, dropF_nil, cut, cond_true, cond_false, Int.natCast_zero, Int.natCast_add, Int.natCast_one, hst]; rfl) | skip)
  have d2 : ¬ (q : Int) < n := by omega
  obtain rfl : q = n := by omega
  simp only [go_sem, seval, reduceCtorEq, d2]
  refine FnEnd.wk Wk.nogA ?_
  have e3 : (skL ts x).length = (hd0 ts).labels.length + 1 := by simp [skL]
  have e4 : (skD ts).length = (hd0 ts).dims.length + 1 := by simp [skD]
  simp only [go_sem, seval, reduceCtorEq, e3, e4, ← hAL]
  (refine FnEnd.mk (Nat.le_of_ble_eq_true rfl) rfl (of_decide_eq_true rfl) ?_ ?_ <;> try simp only [go_sem, seval, reduceCtorEq])
  rfl
end Go.Proofs.Ytmggkcifakbfeaa
