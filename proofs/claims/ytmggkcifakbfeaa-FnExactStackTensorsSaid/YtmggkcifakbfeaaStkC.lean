/-
  Contracts: tensors stacked, by the reference. No condition.
-/
import Derived.Test.YtmggkcifakbfeaaStkB
namespace Go.Proofs.Ytmggkcifakbfeaa
open Go.RowKit Go.Lift Plain
set_option linter.unusedSimpArgs false
set_option linter.unusedVariables false
set_option maxRecDepth 100000

theorem l07Fits_f {kk pp nn : Int} {t u : Ten} (a : I64 kk) (b : I64 pp) (c : I64 nn) (ht : TSz 1048576 t) (hu : TSz 1048576 u) :
    Does Try.prog 19 [ringA kk pp nn, tenA t, tenA u] [] (.tup [tenA (alF ⟨kk, pp, nn⟩ t u), .d (.bool (alB ⟨kk, pp, nn⟩ t u))]) [] := does_fzT (l07Fits_d a b c ht hu)
theorem rowA_snoc {ts : List Ten} {i : Nat} (hi : i < ts.length) : rowD (ts.take i) ++ [.d (ints ts[i].labels), .d (ints ts[i].dims), .d (ints ts[i].data)] = rowD (ts.take (i + 1)) := by rw [take_ss hi, rowD_app, rowD_one]
set_option maxHeartbeats 1600000 in
theorem sStackTensors_d {kk pp nn : Int} {ts : List Ten} {x : Int} (a : I64 kk) (b : I64 pp) (c : I64 nn) (h : ts.length ≤ 1048576) (ht : ∀ t ∈ ts, TSz 1048576 t) (hx : I64 x) :
    Does Try.prog 5 [ringA kk pp nn, .d (tens ts), .d (.int x)] [] (.tup [ownT 0 (stackT ⟨kk, pp, nn⟩ ts x), .d (.bool (stackB ⟨kk, pp, nn⟩ ts x))]) (stoF (stackT ⟨kk, pp, nn⟩ ts x)) := by
  have no : skB1 ⟨kk, pp, nn⟩ ts = false → stackB ⟨kk, pp, nn⟩ ts x = false ∧ stackT ⟨kk, pp, nn⟩ ts x = ⟨[], [], []⟩ := fun e => by
    have e1 : stackB ⟨kk, pp, nn⟩ ts x = false := by simp [stackB, e]
    exact ⟨e1, by simp [stackT, e1]⟩
  (refine spec_ofK (by kernel_rfl) Try.func5 k_spec_StackTensors (fnOk (Nat.le_of_ble_eq_true rfl) ?_); unfold C_spec_StackTensors)
  (simp only [Nat.reduceSub, List.length_cons, List.length_nil, Nat.reduceAdd, ch_init1, ch_init2, ch_init3, ch_init4, ch_init5, ch_init6, ch_init7, ch_init8]; try simp only [ch_rep]); (simp only [go_sem, seval, reduceCtorEq, List.replicate])
  (refine gi_call (sRingOk_d kk pp nn) ?_ ?_ ?_; (focus (simp only [go_sem, seval, reduceCtorEq]; done)); (first | rfl | (focus (simp only [go_sem]; done))))
  cases h1 : ringOk ⟨kk, pp, nn⟩
  · have e0 := no (by simp [skB1, h1])
    have e1 := e0.1
    have e2 := e0.2
    simp only [go_sem, seval, reduceCtorEq, h1, e1, e2]
    refine FnEnd.wk (Wk.trans (Wk.nilS 1 0 1 _ _ _ rfl rfl) (Wk.trans (Wk.nilS 1 1 1 _ _ _ rfl rfl) (Wk.trans (Wk.nilS 1 2 1 _ _ _ rfl rfl) Wk.nogA))) ?_
    (refine FnEnd.mk (Nat.le_of_ble_eq_true rfl) rfl (of_decide_eq_true rfl) ?_ ?_ <;> try simp only [go_sem, seval, reduceCtorEq])
  simp only [go_sem, seval, reduceCtorEq, h1]
  (refine gi_call (l01In_d (ts.length : Int) 1 8) ?_ ?_ ?_; (focus (simp only [go_sem, seval, reduceCtorEq]; done)); (first | rfl | (focus (simp only [go_sem]; done))))
  by_cases h2 : (1 : Int) ≤ ts.length ∧ (ts.length : Int) ≤ 8
  rotate_left
  · have e0 := no (by
      have : ¬ (1 ≤ ts.length ∧ ts.length ≤ 8) := by omega
      simp only [skB1, decide_eq_false this, Bool.and_false, Bool.false_and])
    have e1 := e0.1
    have e2 := e0.2
    have c2 := decide_eq_false h2
    simp only [go_sem, seval, reduceCtorEq, c2, e1, e2]
    refine FnEnd.wk (Wk.trans (Wk.nilS 1 0 1 _ _ _ rfl rfl) (Wk.trans (Wk.nilS 1 1 1 _ _ _ rfl rfl) (Wk.trans (Wk.nilS 1 2 1 _ _ _ rfl rfl) Wk.nogA))) ?_
    (refine FnEnd.mk (Nat.le_of_ble_eq_true rfl) rfl (of_decide_eq_true rfl) ?_ ?_ <;> try simp only [go_sem, seval, reduceCtorEq])
  have c2 := decide_eq_true h2
  have hl8 : 1 ≤ ts.length ∧ ts.length ≤ 8 := by omega
  have h0m := hd0_mem hl8.1
  have hs0 := ht _ h0m
  have q0 : ts[0]? = some (hd0 ts) := by
    rw [List.getElem?_eq_getElem (show 0 < ts.length by omega)]
    simp [hd0, List.getD_eq_getElem?_getD, show 0 < ts.length by omega]
  have g0 := tcs_cut q0
  obtain ⟨gl, gd, _⟩ := tcs_get q0
  have d0 : (0 : Int) < ts.length := by omega
  simp only [Nat.zero_mul, List.drop_zero, Nat.zero_add] at g0 gl gd
  simp (disch := omega) only [go_sem, seval, reduceCtorEq, c2, d0, g0]
  refine ⟨by omega, ?_⟩
  (refine ti_call (sTensorOk_d (t := hd0 ts) a b c hs0.up) ?_ ?_ ?_; (focus (simp only [go_sem, seval, reduceCtorEq]; done)); (first | rfl | (focus (simp only [go_sem]; done))))
  cases h4 : tensorOk ⟨kk, pp, nn⟩ (hd0 ts).labels (hd0 ts).dims (hd0 ts).data
  · have e0 := no (by simp [skB1, h4])
    have e1 := e0.1
    have e2 := e0.2
    simp only [go_sem, seval, reduceCtorEq, h4, e1, e2]
    refine FnEnd.wk (Wk.trans (Wk.nilS 1 0 1 _ _ _ rfl rfl) (Wk.trans (Wk.nilS 1 1 1 _ _ _ rfl rfl) (Wk.trans (Wk.nilS 1 2 1 _ _ _ rfl rfl) Wk.nogA))) ?_
    (refine FnEnd.mk (Nat.le_of_ble_eq_true rfl) rfl (of_decide_eq_true rfl) ?_ ?_ <;> try simp only [go_sem, seval, reduceCtorEq])
  have hax := (tensorOk_facts h4).2.1
  have hax1 := hax.1
  have hax2 := hax.2.1
  obtain ⟨AL, hAL⟩ : ∃ AL, AL = skA ⟨kk, pp, nn⟩ ts := ⟨_, rfl⟩
  have hALl : AL.length = ts.length := by rw [hAL, skA_len]
  simp (disch := omega) only [go_sem, seval, reduceCtorEq, h4, d0, gl, gd]
  (repeat (refine And.intro (by omega) ?_))
  (refine gi_call (l05Ints_d (xs := (hd0 ts).labels) (by omega)) ?_ ?_ ?_; (focus (simp only [go_sem, seval, reduceCtorEq]; done)); (first | rfl | (focus (simp only [go_sem]; done))))
  simp (disch := omega) only [go_sem, seval, reduceCtorEq, d0, gl, gd]
  (repeat (refine And.intro (by omega) ?_))
  (refine gi_call (l05Ints_d (xs := (hd0 ts).dims) (by omega)) ?_ ?_ ?_; (focus (simp only [go_sem, seval, reduceCtorEq]; done)); (first | rfl | (focus (simp only [go_sem]; done))))
  simp (disch := omega) only [go_sem, seval, reduceCtorEq]
  (repeat (refine And.intro (by omega) ?_))
  have hI0 : ∀ j (hj : j < ts.length), j < 0 → alB ⟨kk, pp, nn⟩ (hd0 ts) ts[j] = true := fun j _ hj => absurd hj (Nat.not_lt_zero j)
  have hr0 : rowD [] = [] := rfl
  refine wpN_lpI (ts.length) [false, false, false, false, false, false, false, true, false, false, false, true, true, true, false, false, false, false, false, false, false, false, false, false, false, false, false, false, false, false, false, false, false, false, false, false, false, false, false, false, false, false, false, false, false, false, false, false, false, false, false, false, false, true, false, false, false, true, true, true, true, true, true, true, true, true, true, true, true, true, true, true, true, true, true, true, true, false, false, false, false, false, false, false, false, false, false, false, false, false, false, false, false, false, false, false, false, false, false, false, false, false, false, false, false, false] (fun i => ∀ j (hj : j < ts.length), j < i → alB ⟨kk, pp, nn⟩ (hd0 ts) ts[j] = true) (fun i => [(9, .own 9 0 i), (56, .d (.int i))]) (fun i => [(9, rowD (AL.take i))]) (fun _ => by (simp only [go_sem, seval, reduceCtorEq, dropF_ch, dropF_cons, dropF_nil, cut, cond_true, cond_false]); first | done | rfl) (fun _ => by (simp only [go_sem, seval, reduceCtorEq, cut]); first | done | rfl) (hI0) (Nat.le_of_ble_eq_true rfl) (by first | (simp only [go_sem, seval, reduceCtorEq, dropF_ch, dropF_cons, dropF_nil, cut, cond_true, cond_false, Int.natCast_zero, Int.natCast_add, Int.natCast_one, List.take_zero, hr0]; done) | rfl | (simp only [go_sem, seval, reduceCtorEq, dropF_ch, dropF_cons, dropF_nil, cut, cond_true, cond_false, Int.natCast_zero, Int.natCast_add, Int.natCast_one, List.take_zero, hr0]; rfl)) (by first | (simp only [go_sem, seval, reduceCtorEq, dropF_ch, dropF_cons, dropF_nil, cut, cond_true, cond_false, Int.natCast_zero, Int.natCast_add, Int.natCast_one, List.take_zero, hr0]; done) | rfl | (simp only [go_sem, seval, reduceCtorEq, dropF_ch, dropF_cons, dropF_nil, cut, cond_true, cond_false, Int.natCast_zero, Int.natCast_add, Int.natCast_one, List.take_zero, hr0]; rfl)) fun i hi hii => ?_
  unfold L2_spec_StackTensors
  by_cases hlt : i < ts.length
  · have d1 : (i : Int) < ts.length := by omega
    have g3 := tcs_cut (List.getElem?_eq_getElem hlt)
    have hti := ht ts[i] (List.getElem_mem hlt)
    simp (disch := omega) only [go_sem, seval, reduceCtorEq, d1, d0, g3, g0]
    (repeat (refine And.intro (by omega) ?_))
    (refine gi_call (l07Fits_f a b c hs0 hti) ?_ ?_ ?_; (focus (simp only [go_sem, seval, reduceCtorEq]; done)); (first | rfl | (focus (simp only [go_sem]; done))))
    cases hb : alB ⟨kk, pp, nn⟩ (hd0 ts) ts[i]
    · have e0 := no (by
        have : ts.all (alB ⟨kk, pp, nn⟩ (hd0 ts)) = false := by
          cases e : ts.all (alB ⟨kk, pp, nn⟩ (hd0 ts))
          · rfl
          · rw [List.all_eq_true.1 e _ (List.getElem_mem hlt)] at hb; cases hb
        simp only [skB1, this, Bool.and_false])
      have e1 := e0.1
      have e2 := e0.2
      simp only [go_sem, seval, reduceCtorEq, hb, e1, e2]
      refine FnEnd.wk (Wk.trans (Wk.nilS 1 0 1 _ _ _ rfl rfl) (Wk.trans (Wk.nilS 1 1 1 _ _ _ rfl rfl) (Wk.trans (Wk.nilS 1 2 1 _ _ _ rfl rfl) Wk.nogA))) ?_
      (refine FnEnd.mk (Nat.le_of_ble_eq_true rfl) rfl (of_decide_eq_true rfl) ?_ ?_ <;> try simp only [go_sem, seval, reduceCtorEq])
    have hAi : AL[i]'(by omega) = alR ⟨kk, pp, nn⟩ (hd0 ts) ts[i] := by subst hAL; exact skA_at hlt
    have hpt := rowA_snoc (ts := AL) (i := i) (by omega)
    rw [hAi] at hpt
    have hI := al_next hlt hb hii
    have hfy := alF_yes hb
    have hln := rowD_take_len (ts := AL) (i := i) (by omega)
    have htl : (AL.take i).length = i := by rw [List.length_take]; omega
    simp only [ints] at hpt
    simp (disch := omega) only [go_sem, seval, reduceCtorEq, hb, hfy, htl]
    (repeat (refine And.intro (by omega) ?_))
    (refine NextI.drop [false, false, false, false, false, false, false, true, false, false, false, true, true, true, false, false, false, false, false, false, false, false, false, false, false, false, false, false, false, false, false, false, false, false, false, false, false, false, false, false, false, false, false, false, false, false, false, false, false, false, false, false, false, true, false, false, false, true, true, true, true, true, true, true, true, true, true, true, true, true, true, true, true, true, true, true, true, false, false, false, false, false, false, false, false, false, false, false, false, false, false, false, false, false, false, false, false, false, false, false, false, false, false, false, false, false] (by omega) (hI) (Nat.le_of_ble_eq_true rfl) ?_ ?_ <;> first | (simp only [go_sem, seval, reduceCtorEq, dropF_ch, dropF_cons, dropF_nil, cut, cond_true, cond_false, Int.natCast_zero, Int.natCast_add, Int.natCast_one, hpt]; done) | rfl | (simp only [go_sem, seval, reduceCtorEq, dropF_ch, dropF_cons, dropF_nil, cut, cond_true, cond_false, Int.natCast_zero, Int.natCast_add, Int.natCast_one, hpt]; rfl) | skip)
  have d1 : ¬ (i : Int) < ts.length := by omega
  obtain rfl : i = ts.length := by omega
  have hall : ts.all (alB ⟨kk, pp, nn⟩ (hd0 ts)) = true := List.all_eq_true.2 fun t htm => by
    obtain ⟨j, hj, rfl⟩ := List.mem_iff_getElem.1 htm
    exact hii j hj hj
  have ho : skB1 ⟨kk, pp, nn⟩ ts = true := by simp only [skB1, h1, h4, hall, decide_eq_true hl8, Bool.and_self]
  obtain ⟨wd, n, hF⟩ := skOk ho
  have htA : AL.take ts.length = AL := List.take_of_length_le (by omega)
  simp (disch := omega) only [go_sem, seval, reduceCtorEq, d1, htA]
  have hsz0 := skF_sz ht hx hF [] ⟨by simp, by simp⟩
  (refine ti_call (sTensorSize_d (t := ⟨skL ts x, skD ts, []⟩) hsz0.up) ?_ ?_ ?_; (focus (simp only [go_sem, seval, reduceCtorEq, skL, skD, List.length_append, List.length_cons, List.length_nil, take_sn, dv_nl]; done)); (first | rfl | (focus (simp only [go_sem]; done))))
  by_cases h5 : tsize (skL ts x) (skD ts) = -1
  · have e : stackB ⟨kk, pp, nn⟩ ts x = false := by simp [stackB, h5]
    have e' : stackT ⟨kk, pp, nn⟩ ts x = ⟨[], [], []⟩ := by simp [stackT, e]
    have c5 : tsize (skL ts x) (skD ts) < 0 := tsize_neg.2 h5
    simp only [go_sem, seval, reduceCtorEq, c5, e, e']
    refine FnEnd.wk (Wk.trans (Wk.nilS 1 0 1 _ _ _ rfl rfl) (Wk.trans (Wk.nilS 1 1 1 _ _ _ rfl rfl) (Wk.trans (Wk.nilS 1 2 1 _ _ _ rfl rfl) Wk.nogA))) ?_
    (refine FnEnd.mk (Nat.le_of_ble_eq_true rfl) rfl (of_decide_eq_true rfl) ?_ ?_ <;> try simp only [go_sem, seval, reduceCtorEq])
  have e : stackB ⟨kk, pp, nn⟩ ts x = true := by simp [stackB, ho, h5]
  have e' := stackT_yes hF e
  have c5 : ¬ tsize (skL ts x) (skD ts) < 0 := fun e => h5 (tsize_neg.1 e)
  have hw1 := hF.wb
  have hp := hF.p
  have hn1 := hF.nb
  have hdl : ∀ t ∈ AL, t.data.length = n * wd := by rw [hAL]; exact hF.dl
  have hmn : min (prodI (hd0 ts).dims) 4097 = (n : Int) := by omega
  simp only [go_sem, seval, reduceCtorEq, c5, e, e']
  (refine wpN_lwk (Wk.nilS 8 2 1 _ _ _ rfl rfl) ?_; simp only [go_sem, seval, reduceCtorEq])
  have hm0 : stkT wd AL 0 = [] := rfl
  refine wpN_lp (n) [false, false, false, false, false, false, false, false, false, false, false, false, false, false, false, false, true, false, false, false, false, false, false, false, false, false, false, false, false, false, false, false, false, false, false, false, false, false, false, false, false, false, false, false, false, false, false, false, false, false, false, false, false, false, false, false, false, false, false, false, false, false, false, false, false, false, false, false, false, false, false, false, false, false, false, false, false, false, false, false, false, true, true, true, true, true, true, true, true, true, true, true, true, true, true, true, true, true, true, true, true, true, true, true, true, false] (fun q => [(14, .d (.int q))]) (fun q => [(8, [.own 4 0 ((hd0 ts).labels.length + 1), .own 7 0 ((hd0 ts).dims.length + 1), .own 10 0 (stkT wd AL q).length]), (10, iv (stkT wd AL q))]) (fun _ => by (simp only [go_sem, seval, reduceCtorEq, dropF_ch, dropF_cons, dropF_nil, cut, cond_true, cond_false]); first | done | rfl) (fun _ => by (simp only [go_sem, seval, reduceCtorEq, cut]); first | done | rfl) (Nat.le_of_ble_eq_true rfl) (by first | (simp only [go_sem, seval, reduceCtorEq, dropF_ch, dropF_cons, dropF_nil, cut, cond_true, cond_false, Int.natCast_zero, Int.natCast_add, Int.natCast_one, hm0, iv_nil, List.length_nil]; done) | rfl | (simp only [go_sem, seval, reduceCtorEq, dropF_ch, dropF_cons, dropF_nil, cut, cond_true, cond_false, Int.natCast_zero, Int.natCast_add, Int.natCast_one, hm0, iv_nil, List.length_nil]; rfl)) (by first | (simp only [go_sem, seval, reduceCtorEq, dropF_ch, dropF_cons, dropF_nil, cut, cond_true, cond_false, Int.natCast_zero, Int.natCast_add, Int.natCast_one, hm0, iv_nil, List.length_nil]; done) | rfl | (simp only [go_sem, seval, reduceCtorEq, dropF_ch, dropF_cons, dropF_nil, cut, cond_true, cond_false, Int.natCast_zero, Int.natCast_add, Int.natCast_one, hm0, iv_nil, List.length_nil]; rfl)) fun q hq => ?_
  unfold L1_spec_StackTensors
  simp (disch := omega) only [go_sem, seval, reduceCtorEq, d0, gd]
  (repeat (refine And.intro (by omega) ?_))
  (refine ti_call (l05Product_d (ds := (hd0 ts).dims) (lim := 4096) (by omega) (fun d hd => by have := hax.dim d hd; omega) (by omega)) ?_ ?_ ?_; (focus (simp only [go_sem, seval, reduceCtorEq, hmn]; done)); (first | rfl | (focus (simp only [go_sem]; done))))
  simp only [go_sem, seval, reduceCtorEq, hmn]
  by_cases hltq : q < n
  · have d2 : (q : Int) < n := by omega
    have hTl := stkT_len hdl q (by omega)
    have hTb : q * (AL.length * wd) ≤ 4096 * (8 * 6) := Nat.mul_le_mul (by omega) (Nat.mul_le_mul (by omega) (by omega))
    have hm1 : stkR wd q [] = [] := rfl
    simp only [go_sem, seval, reduceCtorEq, d2]
    refine wpN_lp (ts.length) [false, false, false, false, false, false, false, false, false, false, false, false, false, false, false, false, true, false, false, false, false, false, false, false, false, false, false, false, false, false, false, false, false, false, false, false, false, false, false, false, false, false, false, false, false, false, false, false, false, false, false, false, false, false, false, false, false, false, false, false, false, false, false, false, false, false, false, false, false, false, false, false, false, false, false, false, false, false, false, false, false, false, false, false, false, false, false, false, false, false, false, false, false, true, true, true, true, true, true, true, true, true, true, true, true, false] (fun i => [(92, .d (.int i))]) (fun i => [(8, [.own 4 0 ((hd0 ts).labels.length + 1), .own 7 0 ((hd0 ts).dims.length + 1), .own 10 0 (stkT wd AL q ++ stkR wd q (AL.take i)).length]), (10, iv (stkT wd AL q ++ stkR wd q (AL.take i)))]) (fun _ => by (simp only [go_sem, seval, reduceCtorEq, dropF_ch, dropF_cons, dropF_nil, cut, cond_true, cond_false]); first | done | rfl) (fun _ => by (simp only [go_sem, seval, reduceCtorEq, cut]); first | done | rfl) (Nat.le_of_ble_eq_true rfl) (by first | (simp only [go_sem, seval, reduceCtorEq, dropF_ch, dropF_cons, dropF_nil, cut, cond_true, cond_false, Int.natCast_zero, Int.natCast_add, Int.natCast_one, List.take_zero, hm1, List.append_nil]; done) | rfl | (simp only [go_sem, seval, reduceCtorEq, dropF_ch, dropF_cons, dropF_nil, cut, cond_true, cond_false, Int.natCast_zero, Int.natCast_add, Int.natCast_one, List.take_zero, hm1, List.append_nil]; rfl)) (by first | (simp only [go_sem, seval, reduceCtorEq, dropF_ch, dropF_cons, dropF_nil, cut, cond_true, cond_false, Int.natCast_zero, Int.natCast_add, Int.natCast_one, List.take_zero, hm1, List.append_nil]; done) | rfl | (simp only [go_sem, seval, reduceCtorEq, dropF_ch, dropF_cons, dropF_nil, cut, cond_true, cond_false, Int.natCast_zero, Int.natCast_add, Int.natCast_one, List.take_zero, hm1, List.append_nil]; rfl)) fun i hi => ?_
    unfold L0_spec_StackTensors
    by_cases hlti : i < ts.length
    · have d3 : (i : Int) < ts.length := by omega
      have hiA : i < AL.length := by omega
      have gA := rowD_cut (List.getElem?_eq_getElem hiA)
      have hsn := stkR_next (wd := wd) (q := q) hiA
      have hdi := hdl AL[i] (List.getElem_mem hiA)
      have hcl := cutE_len (wd := wd) hdi hltq
      have hmul : q * wd + wd ≤ AL[i].data.length := by
        have := Nat.mul_le_mul_right wd (show q + 1 ≤ n by omega)
        rw [Nat.add_mul, Nat.one_mul] at this
        rw [hdi]; exact this
      have hRl := stkR_len (ts := AL.take i) (fun t ht => hdl t (List.mem_of_mem_take ht)) hltq
      have hRb : (AL.take i).length * wd ≤ 8 * 6 := Nat.mul_le_mul (by rw [List.length_take]; omega) (by omega)
      have hdb : AL[i].data.length ≤ 4096 * 6 := by rw [hdi]; exact Nat.mul_le_mul (by omega) (by omega)
      have hcc : (AL[i].data.drop (q * wd)).take wd = cutE AL[i].data wd q := rfl
      have hlen2 : (stkT wd AL q ++ stkR wd q (AL.take i)).length ≤ 1000000 := by rw [List.length_append, hTl, hRl]; omega
      simp (disch := omega) only [go_sem, seval, reduceCtorEq, d3, gA]
      (repeat (refine And.intro (by omega) ?_))
      (refine gi_call (l05Get_d (x := q) (kk := kk) (pp := pp) (nn := nn) (t := AL[i]) hF.w hw1.2 hmul (by omega) (by omega)) ?_ ?_ ?_; (focus (simp only [go_sem, seval, reduceCtorEq, hcc, hcl]; done)); (first | rfl | (focus (simp only [go_sem]; done))))
      simp (disch := omega) only [go_sem, seval, reduceCtorEq, hcc, hcl]
      have hle : (wd ≤ (cutE AL[i].data wd q).length) = True := by simp [hcl]
      have htk : List.take wd (cutE AL[i].data wd q) = cutE AL[i].data wd q := List.take_of_length_le (by omega)
      simp only [go_sem, seval, reduceCtorEq, hle, htk]
      (repeat (refine And.intro (by omega) ?_))
      have hsn2 : stkT wd AL q ++ stkR wd q (AL.take (i + 1)) = stkT wd AL q ++ stkR wd q (AL.take i) ++ cutE AL[i].data wd q := by rw [hsn, List.append_assoc]
      have hln3 : (stkT wd AL q ++ stkR wd q (AL.take i) ++ cutE AL[i].data wd q).length = (stkT wd AL q ++ stkR wd q (AL.take i)).length + wd := by rw [List.length_append, hcl]
      (refine Next.drop [false, false, false, false, false, false, false, false, false, false, false, false, false, false, false, false, true, false, false, false, false, false, false, false, false, false, false, false, false, false, false, false, false, false, false, false, false, false, false, false, false, false, false, false, false, false, false, false, false, false, false, false, false, false, false, false, false, false, false, false, false, false, false, false, false, false, false, false, false, false, false, false, false, false, false, false, false, false, false, false, false, false, false, false, false, false, false, false, false, false, false, false, false, true, true, true, true, true, true, true, true, true, true, true, true, false] (by omega) (Nat.le_of_ble_eq_true rfl) ?_ ?_ <;> first | (simp only [go_sem, seval, reduceCtorEq, dropF_ch, dropF_cons, dropF_nil, cut, cond_true, cond_false, Int.natCast_zero, Int.natCast_add, Int.natCast_one, hsn2, hln3]; done) | rfl | (simp only [go_sem, seval, reduceCtorEq, dropF_ch, dropF_cons, dropF_nil, cut, cond_true, cond_false, Int.natCast_zero, Int.natCast_add, Int.natCast_one, hsn2, hln3]; rfl) | skip)
    have d3 : ¬ (i : Int) < ts.length := by omega
    obtain rfl : i = ts.length := by omega
    have hst : stkT wd AL (q + 1) = stkT wd AL q ++ stkR wd q AL := rfl
    simp (disch := omega) only [go_sem, seval, reduceCtorEq, d3, htA]
    (refine Next.drop [false, false, false, false, false, false, false, false, false, false, false, false, false, false, false, false, true, false, false, false, false, false, false, false, false, false, false, false, false, false, false, false, false, false, false, false, false, false, false, false, false, false, false, false, false, false, false, false, false, false, false, false, false, false, false, false, false, false, false, false, false, false, false, false, false, false, false, false, false, false, false, false, false, false, false, false, false, false, false, false, false, true, true, true, true, true, true, true, true, true, true, true, true, true, true, true, true, true, true, true, true, true, true, true, true, false] (by omega) (Nat.le_of_ble_eq_true rfl) ?_ ?_ <;> first | (simp only [go_sem, seval, reduceCtorEq, dropF_ch, dropF_cons, dropF_nil, cut, cond_true, cond_false, Int.natCast_zero, Int.natCast_add, Int.natCast_one, hst]; done) | rfl | (simp only [go_sem, seval, reduceCtorEq, dropF_ch, dropF_cons, dropF_nil, cut, cond_true, cond_false, Int.natCast_zero, Int.natCast_add, Int.natCast_one, hst]; rfl) | skip)
  have d2 : ¬ (q : Int) < n := by omega
  obtain rfl : q = n := by omega
  simp only [go_sem, seval, reduceCtorEq, d2]
  refine FnEnd.wk Wk.nogA ?_
  have e3 : (skL ts x).length = (hd0 ts).labels.length + 1 := by simp [skL]
  have e4 : (skD ts).length = (hd0 ts).dims.length + 1 := by simp [skD]
  simp only [go_sem, seval, reduceCtorEq, e3, e4, ← hAL]
  (refine FnEnd.mk (Nat.le_of_ble_eq_true rfl) rfl (of_decide_eq_true rfl) ?_ ?_ <;> try simp only [go_sem, seval, reduceCtorEq])
  rfl
theorem stackT_sz {r : Rg} {ts : List Ten} {x : Int} (ht : ∀ t ∈ ts, TSz 1048576 t) (hx : I64 x) : TSz 1048576 (stackT r ts x) := by
  by_cases ho : stackB r ts x = true
  · have h1 : skB1 r ts = true := by simp only [stackB, Bool.and_eq_true] at ho; exact ho.1
    obtain ⟨wd, n, h⟩ := skOk h1
    rw [stackT_yes h ho]
    refine skF_sz ht hx h _ ⟨?_, fun y hy => ?_⟩
    · rw [stkT_len h.dl n (Nat.le_refl _), skA_len]
      have := h.len
      have := h.nb
      have := h.wb
      have : n * (ts.length * wd) ≤ 4096 * (8 * 6) := Nat.mul_le_mul (by omega) (Nat.mul_le_mul (by omega) (by omega))
      omega
    · obtain ⟨t, ht1, hy1⟩ := stkT_mem hy
      obtain ⟨u, hu, rfl⟩ := List.mem_map.1 ht1
      have hb : alB r (hd0 ts) u = true := by
        simp only [skB1, Bool.and_eq_true] at h1
        exact List.all_eq_true.1 h1.2 u hu
      rw [alR_yes hb] at hy1
      exact (ht u hu).x.wf y (gath_mem y hy1)
  · rw [stackT, if_neg ho]
    exact ⟨⟨by simp, by simp⟩, ⟨by simp, by simp⟩, ⟨by simp, by simp⟩⟩
end Go.Proofs.Ytmggkcifakbfeaa
