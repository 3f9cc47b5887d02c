/-
  Contracts: diagonals of tensors, by the reference. No condition.
-/
import Derived.Test.YtmgifmgdfldheaaConP
namespace Go.Proofs.Ytmgifmgdfldheaa
open Go.RowKit Go.Lift Plain
set_option linter.unusedSimpArgs false
set_option linter.unusedVariables false
set_option maxRecDepth 100000

theorem dia_fill {t : Ten} {x y : Int} {wd n ja jb : Nat} (h : DiaOk t x y wd n ja jb) (xs old : List Int) :
    (fillX t.labels (wo t.labels y) xs old (wo t.labels y).length)[ja]? = some (atL (wo t.labels y) xs x) ∧
    (fillX t.labels (wo t.labels y) xs old (wo t.labels y).length).set jb (atL (wo t.labels y) xs x) = t.labels.map (diaV (wo t.labels y) xs x y) := by
  have hal := h.al
  have hbl := h.s.jl
  constructor
  · have hl : ja < (fillX t.labels (wo t.labels y) xs old (wo t.labels y).length).length := by rw [fillX_len]; exact hal
    rw [List.getElem?_eq_getElem hl]
    simp only [fillX, List.getElem_map, List.getElem_range, getD_of hal, h.la]
    rw [if_pos (by rw [List.take_length]; exact h.aW)]
  · refine List.ext_getElem (by simp [fillX_len]) fun j h1 h2 => ?_
    have hj : j < t.labels.length := by simpa using h2
    rw [List.getElem_set]
    simp only [fillX, List.getElem_map, List.getElem_range, getD_of hj, List.take_length, diaV]
    by_cases e : jb = j
    · subst e
      rw [if_pos rfl, if_pos h.s.lx]
    · have hne : t.labels[j] ≠ y := fun e' => e (nodup_at h.s.nodup hbl hj (h.s.lx.trans e'.symm))
      rw [if_neg e, if_neg hne, if_pos (wo_mem.2 ⟨List.getElem_mem hj, hne⟩)]
set_option maxHeartbeats 1600000 in
theorem sDiagonalTensor_d {kk pp nn : Int} {t : Ten} {x y : Int} (a : I64 kk) (b : I64 pp) (c : I64 nn) (h : TSz 1048576 t) :
    Does Try.prog 45 [ringA kk pp nn, tenA t, .d (.int x), .d (.int y)] [] (.tup [ownT 0 (diaT ⟨kk, pp, nn⟩ t x y), .d (.bool (diaB ⟨kk, pp, nn⟩ t x y))]) (stoF (diaT ⟨kk, pp, nn⟩ t x y)) := by
  have hxl := h.x.len
  (refine spec_of (by kernel_rfl) Try.func45 k_spec_DiagonalTensor (fnOk (Nat.le_of_ble_eq_true rfl) ?_); unfold C_spec_DiagonalTensor)
  (simp only [Nat.reduceSub, List.length_cons, List.length_nil, Nat.reduceAdd, ch_init1, ch_init2, ch_init3, ch_init4, ch_init5, ch_init6, ch_init7, ch_init8]; try simp only [ch_rep]); (simp only [go_sem, seval, reduceCtorEq, List.replicate])
  (refine ti_call (l05Find_d (xs := t.labels) (x := x) h.l.up.len) ?_ ?_ ?_; (focus (simp only [go_sem, seval, reduceCtorEq]; done)); (first | rfl | (focus (simp only [go_sem]; done))))
  simp only [go_sem, seval, reduceCtorEq]
  (refine ti_call (l05Find_d (xs := t.labels) (x := y) h.l.up.len) ?_ ?_ ?_; (focus (simp only [go_sem, seval, reduceCtorEq]; done)); (first | rfl | (focus (simp only [go_sem]; done))))
  simp only [go_sem, seval, reduceCtorEq]
  (refine gi_call (sTensorOk_d (t := t) a b c h.up) ?_ ?_ ?_; (focus (simp only [go_sem, seval, reduceCtorEq]; done)); (first | rfl | (focus (simp only [go_sem]; done))))
  cases h1 : tensorOk ⟨kk, pp, nn⟩ t.labels t.dims t.data
  · have e1 : diaB ⟨kk, pp, nn⟩ t x y = false := by simp [diaB, h1]
    have e2 : diaT ⟨kk, pp, nn⟩ t x y = ⟨[], [], []⟩ := by simp [diaT, e1]
    simp only [go_sem, seval, reduceCtorEq, h1, e1, e2]
    refine FnEnd.wk (Wk.trans (Wk.nilS 2 0 1 _ _ _ rfl rfl) (Wk.trans (Wk.nilS 2 1 1 _ _ _ rfl rfl) (Wk.trans (Wk.nilS 2 2 1 _ _ _ rfl rfl) Wk.nogA))) ?_
    (refine FnEnd.mk (Nat.le_of_ble_eq_true rfl) rfl (of_decide_eq_true rfl) ?_ ?_ <;> try simp only [go_sem, seval, reduceCtorEq])
  have hax := (tensorOk_facts h1).2.1
  by_cases hmx : x ∈ t.labels
  rotate_left
  · have e1 : diaB ⟨kk, pp, nn⟩ t x y = false := by simp [diaB, hmx]
    have e2 : diaT ⟨kk, pp, nn⟩ t x y = ⟨[], [], []⟩ := by simp [diaT, e1]
    have e3 := place_no hmx
    simp only [go_sem, seval, reduceCtorEq, h1, e3, e1, e2]
    refine FnEnd.wk (Wk.trans (Wk.nilS 2 0 1 _ _ _ rfl rfl) (Wk.trans (Wk.nilS 2 1 1 _ _ _ rfl rfl) (Wk.trans (Wk.nilS 2 2 1 _ _ _ rfl rfl) Wk.nogA))) ?_
    (refine FnEnd.mk (Nat.le_of_ble_eq_true rfl) rfl (of_decide_eq_true rfl) ?_ ?_ <;> try simp only [go_sem, seval, reduceCtorEq])
  obtain ⟨ja, p1, p2, p3, p4⟩ := dimAt_get hax.len hmx
  obtain ⟨ja', p5, p6, p7, _⟩ := place_mem hmx
  obtain rfl : ja = ja' := by omega
  have c1 : ¬ (ja : Int) < 0 := by omega
  have c2 : (ja : Int) < t.dims.length := by omega
  by_cases hmy : y ∈ t.labels
  rotate_left
  · have e1 : diaB ⟨kk, pp, nn⟩ t x y = false := by simp [diaB, hmy]
    have e2 : diaT ⟨kk, pp, nn⟩ t x y = ⟨[], [], []⟩ := by simp [diaT, e1]
    have e3 := place_no hmy
    simp only [go_sem, seval, reduceCtorEq, h1, p3, c1, e3, e1, e2]
    refine FnEnd.wk (Wk.trans (Wk.nilS 2 0 1 _ _ _ rfl rfl) (Wk.trans (Wk.nilS 2 1 1 _ _ _ rfl rfl) (Wk.trans (Wk.nilS 2 2 1 _ _ _ rfl rfl) Wk.nogA))) ?_
    (refine FnEnd.mk (Nat.le_of_ble_eq_true rfl) rfl (of_decide_eq_true rfl) ?_ ?_ <;> try simp only [go_sem, seval, reduceCtorEq])
  obtain ⟨jb, q1, q2, q3, q4⟩ := dimAt_get hax.len hmy
  obtain ⟨jb', q5, q6, q7, _⟩ := place_mem hmy
  obtain rfl : jb = jb' := by omega
  have c3 : ¬ (jb : Int) < 0 := by omega
  have c4 : (jb : Int) < t.dims.length := by omega
  by_cases hjj : ja = jb
  · have hxy : x = y := by subst hjj; exact p7.symm.trans q7
    have e1 : diaB ⟨kk, pp, nn⟩ t x y = false := by simp [diaB, hxy]
    have e2 : diaT ⟨kk, pp, nn⟩ t x y = ⟨[], [], []⟩ := by simp [diaT, e1]
    have e3 : ((ja : Int) == jb) = true := by simp [hjj]
    simp only [go_sem, seval, reduceCtorEq, h1, p3, q3, c1, c3, e3, e1, e2]
    refine FnEnd.wk (Wk.trans (Wk.nilS 2 0 1 _ _ _ rfl rfl) (Wk.trans (Wk.nilS 2 1 1 _ _ _ rfl rfl) (Wk.trans (Wk.nilS 2 2 1 _ _ _ rfl rfl) Wk.nogA))) ?_
    (refine FnEnd.mk (Nat.le_of_ble_eq_true rfl) rfl (of_decide_eq_true rfl) ?_ ?_ <;> try simp only [go_sem, seval, reduceCtorEq])
  have e3 : ((ja : Int) == jb) = false := by simp; omega
  by_cases hdd : dimAt t x = dimAt t y
  rotate_left
  · have e1 : diaB ⟨kk, pp, nn⟩ t x y = false := by simp [diaB, hdd]
    have e2 : diaT ⟨kk, pp, nn⟩ t x y = ⟨[], [], []⟩ := by simp [diaT, e1]
    have e4 : (dimAt t x != dimAt t y) = true := by simp [hdd]
    simp only [go_sem, seval, reduceCtorEq, h1, p3, q3, c1, c2, c3, c4, p4, q4, e3, e4, e1, e2]
    refine FnEnd.wk (Wk.trans (Wk.nilS 2 0 1 _ _ _ rfl rfl) (Wk.trans (Wk.nilS 2 1 1 _ _ _ rfl rfl) (Wk.trans (Wk.nilS 2 2 1 _ _ _ rfl rfl) Wk.nogA))) ?_
    (refine FnEnd.mk (Nat.le_of_ble_eq_true rfl) rfl (of_decide_eq_true rfl) ?_ ?_ <;> try simp only [go_sem, seval, reduceCtorEq])
  have e4 : (dimAt t x != dimAt t y) = false := by simp [hdd]
  have hxy : x ≠ y := fun e => by
    subst e
    omega
  have ho : diaB ⟨kk, pp, nn⟩ t x y = true := by simp only [diaB, h1, Bool.true_and, decide_eq_true_eq]; exact ⟨hmx, hmy, hxy, hdd⟩
  obtain ⟨wd, n, ja', jb', g1, g2, hD, g3⟩ := diaB_ok ho
  have hja := hD.place
  have hjb := hD.s.place
  obtain rfl : ja = ja' := by omega
  obtain rfl : jb = jb' := by omega
  have hS := hD.s
  have hn1 := hS.n1
  have hpn := hS.pn
  have hwb := hS.w1
  have hdl3 := hS.dl
  have hl12 := hax.1
  have hal := hax.len
  simp only [go_sem, seval, reduceCtorEq, h1, p3, q3, c1, c2, c3, c4, p4, q4, e3, e4]
  (refine wpN_lwk (Wk.nilS 3 0 1 _ _ _ rfl rfl) ?_; simp only [go_sem, seval, reduceCtorEq])
  (refine wpN_lwk (Wk.nilS 3 1 1 _ _ _ rfl rfl) ?_; simp only [go_sem, seval, reduceCtorEq])
  generalize hF : (fun k : Nat => (t.labels.take k).filter (· != y)) = F
  have hF0 : F 0 = [] := by rw [← hF]; rfl
  have hFl : ∀ k, (F k).length ≤ 12 := fun k => by
    rw [← hF]
    have := filter_len t.labels k (· != y)
    simp only
    omega
  have hFn : F t.labels.length = wo t.labels y := by rw [← hF]; simp [wo]
  refine wpN_lp (t.labels.length) [false, false, false, false, false, false, false, false, false, false, false, false, false, true, true, false, false, false, false, false, false, false, false, false, false, false, false, false, false, false, false, false, false, false, false, false, false, false, false, false, false, false, false, false, false, false, false, false, false, false, false, false, false, false, false, false, false, false, false, false, false, false, false, false, true, true, true, true, true, true, true, true, true, true, true, true, true, true, true, true, true, true, true, true, true, true, true, true, false, false, false, false, false, false, false, false, false, false, false, false, false, false, false, false, false, false, false, false, false, false, false, false, false, false, false, false, false, false, false, false, false, false, false, false, false, false, false, false, false, false, false, false, false, false, false, false, false, false, false, false, false] (fun k => [(63, .d (.int k))]) (fun k => [(3, [.own 4 0 (F k).length, .own 5 0 (F k).length, .nil]), (4, iv (F k)), (5, iv ((F k).map (dimAt t)))]) (fun _ => by (simp only [go_sem, seval, reduceCtorEq, dropF_ch, dropF_cons, dropF_nil, cut, cond_true, cond_false]); first | done | rfl) (fun _ => by (simp only [go_sem, seval, reduceCtorEq, cut]); first | done | rfl) (Nat.le_of_ble_eq_true rfl) (by first | (simp only [go_sem, seval, reduceCtorEq, dropF_ch, dropF_cons, dropF_nil, cut, cond_true, cond_false, Int.natCast_zero, Int.natCast_add, Int.natCast_one, hF0, List.map_nil, iv_nil]; done) | rfl | (simp only [go_sem, seval, reduceCtorEq, dropF_ch, dropF_cons, dropF_nil, cut, cond_true, cond_false, Int.natCast_zero, Int.natCast_add, Int.natCast_one, hF0, List.map_nil, iv_nil]; rfl)) (by first | (simp only [go_sem, seval, reduceCtorEq, dropF_ch, dropF_cons, dropF_nil, cut, cond_true, cond_false, Int.natCast_zero, Int.natCast_add, Int.natCast_one, hF0, List.map_nil, iv_nil]; done) | rfl | (simp only [go_sem, seval, reduceCtorEq, dropF_ch, dropF_cons, dropF_nil, cut, cond_true, cond_false, Int.natCast_zero, Int.natCast_add, Int.natCast_one, hF0, List.map_nil, iv_nil]; rfl)) fun k hk => ?_
  unfold L2_spec_DiagonalTensor
  by_cases hlt : k < t.labels.length
  · have d1 : (k : Int) < t.labels.length := by omega
    have g : t.labels[k]? = some t.labels[k] := List.getElem?_eq_getElem hlt
    have hkd : k < t.dims.length := by omega
    have g2 : t.dims[k]? = some (dimAt t t.labels[k]) := by rw [List.getElem?_eq_getElem hkd, dimAt_at hax hlt hkd]
    have d2 : (k : Int) < t.dims.length := by omega
    have hfl := hFl k
    by_cases hkj : k = jb
    · have hne : ((k : Int) != jb) = false := by simp [hkj]
      have hx : t.labels[k] = y := by have := hS.lx; subst hkj; exact this
      have hstep : F (k + 1) = F k := by rw [← hF]; exact filter_no hlt (by simp [hx])
      simp (disch := omega) only [go_sem, seval, reduceCtorEq, d1, g, hne]
      (refine Next.drop [false, false, false, false, false, false, false, false, false, false, false, false, false, true, true, false, false, false, false, false, false, false, false, false, false, false, false, false, false, false, false, false, false, false, false, false, false, false, false, false, false, false, false, false, false, false, false, false, false, false, false, false, false, false, false, false, false, false, false, false, false, false, false, false, true, true, true, true, true, true, true, true, true, true, true, true, true, true, true, true, true, true, true, true, true, true, true, true, false, false, false, false, false, false, false, false, false, false, false, false, false, false, false, false, false, false, false, false, false, false, false, false, false, false, false, false, false, false, false, false, false, false, false, false, false, false, false, false, false, false, false, false, false, false, false, false, false, false, false, false, false] (by omega) (Nat.le_of_ble_eq_true rfl) ?_ ?_ <;> first | (simp only [go_sem, seval, reduceCtorEq, dropF_ch, dropF_cons, dropF_nil, cut, cond_true, cond_false, Int.natCast_zero, Int.natCast_add, Int.natCast_one, hstep]; done) | rfl | (simp only [go_sem, seval, reduceCtorEq, dropF_ch, dropF_cons, dropF_nil, cut, cond_true, cond_false, Int.natCast_zero, Int.natCast_add, Int.natCast_one, hstep]; rfl) | skip)
    · have hne : ((k : Int) != jb) = true := by simp; omega
      have hx : t.labels[k] ≠ y := fun e => by
        have := nodup_at hS.nodup hlt hS.jl (e.trans hS.lx.symm)
        omega
      have hstep : F (k + 1) = F k ++ [t.labels[k]] := by rw [← hF]; exact filter_yes hlt (by simpa using hx)
      have hml : ((F k).map (dimAt t)).length = (F k).length := by simp
      simp (disch := omega) only [go_sem, seval, reduceCtorEq, d1, d2, g, g2, hne]
      refine ⟨by omega, by omega, ?_⟩
      (refine Next.drop [false, false, false, false, false, false, false, false, false, false, false, false, false, true, true, false, false, false, false, false, false, false, false, false, false, false, false, false, false, false, false, false, false, false, false, false, false, false, false, false, false, false, false, false, false, false, false, false, false, false, false, false, false, false, false, false, false, false, false, false, false, false, false, false, true, true, true, true, true, true, true, true, true, true, true, true, true, true, true, true, true, true, true, true, true, true, true, true, false, false, false, false, false, false, false, false, false, false, false, false, false, false, false, false, false, false, false, false, false, false, false, false, false, false, false, false, false, false, false, false, false, false, false, false, false, false, false, false, false, false, false, false, false, false, false, false, false, false, false, false, false] (by omega) (Nat.le_of_ble_eq_true rfl) ?_ ?_ <;> first | (simp only [go_sem, seval, reduceCtorEq, dropF_ch, dropF_cons, dropF_nil, cut, cond_true, cond_false, Int.natCast_zero, Int.natCast_add, Int.natCast_one, hstep, List.map_append, List.map_cons, List.map_nil, List.length_append]; done) | rfl | (simp only [go_sem, seval, reduceCtorEq, dropF_ch, dropF_cons, dropF_nil, cut, cond_true, cond_false, Int.natCast_zero, Int.natCast_add, Int.natCast_one, hstep, List.map_append, List.map_cons, List.map_nil, List.length_append]; rfl) | skip)
  · have d1 : ¬ (k : Int) < t.labels.length := by omega
    have hkl : k = t.labels.length := by omega
    subst hkl
    have hWl := hS.len
    have hDs := hS.dims
    have hDl := hS.dlen
    have hoff0 := hD.off
    have hidx0 := hD.idx
    have hfil := dia_fill hD
    have hWm : ∀ z ∈ wo t.labels y, z ∈ t.labels := fun z hz => (wo_mem.1 hz).1
    have hWn := hD.wn
    simp (disch := omega) only [go_sem, seval, reduceCtorEq, d1, hFn, hDs]
    generalize hWg : wo t.labels y = W at *
    (refine wpN_lwk (Wk.nilS 3 2 1 _ _ _ rfl rfl) ?_; simp only [go_sem, seval, reduceCtorEq])
    obtain ⟨hNN, hN1⟩ := hS.pN
    have hNn0 := hS.nN
    have htD : List.take W.length (sliD t jb) = sliD t jb := List.take_of_length_le (by omega)
    have hDm : ((W.map (dimAt t)).length) = W.length := by simp
    refine wpN_lp (sliN t jb) [false, false, false, false, false, false, false, false, false, false, false, false, false, false, false, false, true, true, true, true, false, false, false, false, false, false, false, false, false, false, false, false, false, false, false, false, false, false, false, false, false, false, false, false, false, false, false, false, false, false, false, false, false, false, false, false, false, false, false, false, false, false, false, false, false, false, false, false, false, false, false, false, false, false, false, false, false, false, false, false, false, false, false, false, false, false, false, false, true, true, true, true, true, true, true, true, true, true, true, true, true, true, true, true, true, true, true, true, true, true, true, true, true, true, true, true, true, true, true, true, true, true, true, true, true, true, true, true, true, true, true, true, true, true, true, true, true, true, true, true, false] (fun i => [(15, .d (.int i))]) (fun i => [(3, [.own 4 0 W.length, .own 5 0 W.length, .own 6 0 (i * wd)]), (6, iv (gath t.data wd (diaOff t x y jb) i))]) (fun _ => by (simp only [go_sem, seval, reduceCtorEq, dropF_ch, dropF_cons, dropF_nil, cut, cond_true, cond_false]); first | done | rfl) (fun _ => by (simp only [go_sem, seval, reduceCtorEq, cut]); first | done | rfl) (Nat.le_of_ble_eq_true rfl) (by first | (simp only [go_sem, seval, reduceCtorEq, dropF_ch, dropF_cons, dropF_nil, cut, cond_true, cond_false, Int.natCast_zero, Int.natCast_add, Int.natCast_one, gath, Nat.zero_mul, iv_nil]; done) | rfl | (simp only [go_sem, seval, reduceCtorEq, dropF_ch, dropF_cons, dropF_nil, cut, cond_true, cond_false, Int.natCast_zero, Int.natCast_add, Int.natCast_one, gath, Nat.zero_mul, iv_nil]; rfl)) (by first | (simp only [go_sem, seval, reduceCtorEq, dropF_ch, dropF_cons, dropF_nil, cut, cond_true, cond_false, Int.natCast_zero, Int.natCast_add, Int.natCast_one, gath, Nat.zero_mul, iv_nil]; done) | rfl | (simp only [go_sem, seval, reduceCtorEq, dropF_ch, dropF_cons, dropF_nil, cut, cond_true, cond_false, Int.natCast_zero, Int.natCast_add, Int.natCast_one, gath, Nat.zero_mul, iv_nil]; rfl)) fun i hi => ?_
    unfold L1_spec_DiagonalTensor
    simp only [go_sem, seval, reduceCtorEq]
    (refine ti_call (l05Product_d (ds := sliD t jb) (lim := 4096) (by omega) (fun d hd => by have := hS.dbd d hd; omega) (by omega)) ?_ ?_ ?_; (focus (simp only [go_sem, seval, reduceCtorEq, hDl, htD]; done)); (first | rfl | (focus (simp only [go_sem]; done))))
    have hmn : min (prodI (sliD t jb)) 4097 = sliN t jb := by omega
    by_cases hlti : i < sliN t jb
    · have f2 : (i : Int) < sliN t jb := by omega
      have hst := mul_step (wd := wd) hlti
      have hNn : sliN t jb * wd ≤ n * wd := Nat.mul_le_mul_right wd hNn0
      have hnw : n * wd ≤ 4096 * 6 := Nat.mul_le_mul (by omega) hwb.2
      simp (disch := omega) only [go_sem, seval, reduceCtorEq, hmn, f2]
      (refine ti_call (l05Index_d (ds := sliD t jb) (n := i) (fun d hd => by have := hS.dbd d hd; omega) (by omega) (by omega)) ?_ ?_ ?_; (focus (simp only [go_sem, seval, reduceCtorEq, hDl, htD]; done)); (first | rfl | (focus (simp only [go_sem]; done))))
      simp (disch := omega) only [go_sem, seval, reduceCtorEq, hDl]
      refine ⟨by omega, ?_⟩
      have hof := hoff0 i
      have hid := hidx0 i
      have hxl2 : (digits (sliD t jb) i).length = W.length := by rw [digits_len, hDl]
      generalize hxs : digits (sliD t jb) i = xs at *
      have hold : (List.replicate t.dims.length (0 : Int)).length = t.labels.length := by simp [hal]
      refine wpN_lp (W.length) [false, false, false, false, false, false, false, false, false, false, false, false, false, false, false, false, false, false, true, true, false, false, false, false, false, false, false, false, false, false, false, false, false, false, false, false, false, false, false, false, false, false, false, false, false, false, false, false, false, false, false, false, false, false, false, false, false, false, false, false, false, false, false, false, false, false, false, false, false, false, false, false, false, false, false, false, false, false, false, false, false, false, false, false, false, false, false, false, false, false, false, false, false, false, false, false, false, false, false, false, false, false, false, false, false, false, false, true, true, true, true, true, true, true, true, true, true, true, true, true, true, true, false, false, false, false, false, false, false, false, false, false, false, false, false, false, false, false, false, false, false] (fun q => [(106, .d (.int q))]) (fun q => [(8, iv (fillX t.labels W xs (List.replicate t.dims.length 0) q))]) (fun _ => by (simp only [go_sem, seval, reduceCtorEq, dropF_ch, dropF_cons, dropF_nil, cut, cond_true, cond_false]); first | done | rfl) (fun _ => by (simp only [go_sem, seval, reduceCtorEq, cut]); first | done | rfl) (Nat.le_of_ble_eq_true rfl) (by first | (simp only [go_sem, seval, reduceCtorEq, dropF_ch, dropF_cons, dropF_nil, cut, cond_true, cond_false, Int.natCast_zero, Int.natCast_add, Int.natCast_one, fillX_zero hold]; done) | rfl | (simp only [go_sem, seval, reduceCtorEq, dropF_ch, dropF_cons, dropF_nil, cut, cond_true, cond_false, Int.natCast_zero, Int.natCast_add, Int.natCast_one, fillX_zero hold]; rfl)) (by first | (simp only [go_sem, seval, reduceCtorEq, dropF_ch, dropF_cons, dropF_nil, cut, cond_true, cond_false, Int.natCast_zero, Int.natCast_add, Int.natCast_one, fillX_zero hold]; done) | rfl | (simp only [go_sem, seval, reduceCtorEq, dropF_ch, dropF_cons, dropF_nil, cut, cond_true, cond_false, Int.natCast_zero, Int.natCast_add, Int.natCast_one, fillX_zero hold]; rfl)) fun q hq => ?_
      unfold L0_spec_DiagonalTensor
      by_cases hltq : q < W.length
      · have f3 : (q : Int) < W.length := by omega
        have hm := hWm W[q] (List.getElem_mem hltq)
        obtain ⟨p, hp, r1, r2, _⟩ := place_mem hm
        have gx : xs[q]? = some (xs.getD q 0) := by rw [getD_of (by omega)]; exact List.getElem?_eq_getElem (by omega)
        have gW : W[q]? = some W[q] := List.getElem?_eq_getElem hltq
        have f4 : (p : Int) < t.dims.length := by omega
        have hfl := fillX_len t.labels W xs (List.replicate t.dims.length 0) q
        have hfs := fillX_step (xs := xs) (old := List.replicate t.dims.length 0) hS.nodup hWn hltq hm
        rw [r1, Int.toNat_natCast] at hfs
        have hput : (fillX t.labels W xs (List.replicate t.dims.length 0) q).take p ++ [xs.getD q 0] ++ (fillX t.labels W xs (List.replicate t.dims.length 0) q).drop (p + 1) = fillX t.labels W xs (List.replicate t.dims.length 0) (q + 1) := by rw [put_set (by omega), hfs]
        simp (disch := omega) only [go_sem, seval, reduceCtorEq, f3, gW, gx]
        (refine gi_call (l05Find_d (xs := t.labels) (x := W[q]) h.l.up.len) ?_ ?_ ?_; (focus (simp only [go_sem, seval, reduceCtorEq]; done)); (first | rfl | (focus (simp only [go_sem]; done))))
        simp (disch := omega) only [go_sem, seval, reduceCtorEq, r1, f3, f4, gx]
        refine ⟨by omega, ?_⟩
        (refine Next.drop [false, false, false, false, false, false, false, false, false, false, false, false, false, false, false, false, false, false, true, true, false, false, false, false, false, false, false, false, false, false, false, false, false, false, false, false, false, false, false, false, false, false, false, false, false, false, false, false, false, false, false, false, false, false, false, false, false, false, false, false, false, false, false, false, false, false, false, false, false, false, false, false, false, false, false, false, false, false, false, false, false, false, false, false, false, false, false, false, false, false, false, false, false, false, false, false, false, false, false, false, false, false, false, false, false, false, false, true, true, true, true, true, true, true, true, true, true, true, true, true, true, true, false, false, false, false, false, false, false, false, false, false, false, false, false, false, false, false, false, false, false] (by omega) (Nat.le_of_ble_eq_true rfl) ?_ ?_ <;> first | (simp only [go_sem, seval, reduceCtorEq, dropF_ch, dropF_cons, dropF_nil, cut, cond_true, cond_false, Int.natCast_zero, Int.natCast_add, Int.natCast_one, hput]; done) | rfl | (simp only [go_sem, seval, reduceCtorEq, dropF_ch, dropF_cons, dropF_nil, cut, cond_true, cond_false, Int.natCast_zero, Int.natCast_add, Int.natCast_one, hput]; rfl) | skip)
      · have f3 : ¬ (q : Int) < W.length := by omega
        have hqW : q = W.length := by omega
        subst hqW
        obtain ⟨hf1, hf2⟩ := hfil xs (List.replicate t.dims.length 0)
        have hfl := fillX_len t.labels W xs (List.replicate t.dims.length 0) W.length
        have hput : (fillX t.labels W xs (List.replicate t.dims.length 0) W.length).take jb ++ [atL W xs x] ++ (fillX t.labels W xs (List.replicate t.dims.length 0) W.length).drop (jb + 1) = t.labels.map (diaV W xs x y) := by rw [put_set (by omega), hf2]
        have hcut := hD.cut i
        have hcl := cut_len hcut
        have htt : List.take wd (List.take wd (List.drop (diaOff t x y jb i * wd) t.data)) = List.take wd (List.drop (diaOff t x y jb i * wd) t.data) := List.take_of_length_le (by omega)
        have hgl : (gath t.data wd (diaOff t x y jb) i).length = i * wd := gath_len fun q _ => hD.cut q
        have hmt : List.take t.dims.length (t.labels.map (diaV W xs x y)) = t.labels.map (diaV W xs x y) := List.take_of_length_le (by simp [hal])
        have hxw : ∀ z ∈ t.labels.map (diaV W xs x y), I64 z := fun z hz => by
          obtain ⟨q, hq, rfl⟩ := List.mem_iff_getElem.1 hz
          have h1 := hid.2 q (by simp at hq; omega)
          have h2 := hax.dim (t.dims.getD q 0) (by rw [getD_of (by simp at hq; omega)]; exact List.getElem_mem _)
          unfold idxAt at h1
          rw [getD_of hq] at h1
          exact ⟨by omega, by omega⟩
        simp (disch := omega) only [go_sem, seval, reduceCtorEq, f3, hf1, c2, c4, hput]
        refine ⟨by omega, ?_⟩
        (refine gi_call (l05Offset_d (ds := t.dims) (is := t.labels.map (diaV W xs x y)) h.d.up ⟨by simp; omega, hxw⟩ hid hax.dim (by omega)) ?_ ?_ ?_; (focus (simp only [go_sem, seval, reduceCtorEq, hmt, hal]; done)); (first | rfl | (focus (simp only [go_sem]; done))))
        simp (disch := omega) only [go_sem, seval, reduceCtorEq, hof]
        (refine gi_call (l05Get_d (t := t) (x := diaOff t x y jb i) g1 (by omega) hcut (by omega) (by omega)) ?_ ?_ ?_; (focus (simp only [go_sem, seval, reduceCtorEq]; done)); (first | rfl | (focus (simp only [go_sem]; done))))
        simp (disch := omega) only [go_sem, seval, reduceCtorEq, hcl, hgl, htt]
        refine ⟨by omega, ?_⟩
        (refine Next.drop [false, false, false, false, false, false, false, false, false, false, false, false, false, false, false, false, true, true, true, true, false, false, false, false, false, false, false, false, false, false, false, false, false, false, false, false, false, false, false, false, false, false, false, false, false, false, false, false, false, false, false, false, false, false, false, false, false, false, false, false, false, false, false, false, false, false, false, false, false, false, false, false, false, false, false, false, false, false, false, false, false, false, false, false, false, false, false, false, true, true, true, true, true, true, true, true, true, true, true, true, true, true, true, true, true, true, true, true, true, true, true, true, true, true, true, true, true, true, true, true, true, true, true, true, true, true, true, true, true, true, true, true, true, true, true, true, true, true, true, true, false] (by omega) (Nat.le_of_ble_eq_true rfl) ?_ ?_ <;> first | (simp only [go_sem, seval, reduceCtorEq, dropF_ch, dropF_cons, dropF_nil, cut, cond_true, cond_false, Int.natCast_zero, Int.natCast_add, Int.natCast_one, gath, Nat.add_mul, Nat.one_mul]; done) | rfl | (simp only [go_sem, seval, reduceCtorEq, dropF_ch, dropF_cons, dropF_nil, cut, cond_true, cond_false, Int.natCast_zero, Int.natCast_add, Int.natCast_one, gath, Nat.add_mul, Nat.one_mul]; rfl) | skip)
    · have hiN : i = sliN t jb := by omega
      have f2 : ¬ (sliN t jb : Int) < sliN t jb := by omega
      have hgl : (gath t.data wd (diaOff t x y jb) (sliN t jb)).length = sliN t jb * wd := gath_len fun q _ => hD.cut q
      rw [hiN]
      simp (disch := omega) only [go_sem, seval, reduceCtorEq, hmn, f2, g3, ho]
      refine FnEnd.wk Wk.nogA ?_
      (refine FnEnd.mk (Nat.le_of_ble_eq_true rfl) rfl (of_decide_eq_true rfl) ?_ ?_ <;> try simp only [go_sem, seval, reduceCtorEq])
      all_goals simp only [diaR, hgl, hDl, hWg]
end Go.Proofs.Ytmgifmgdfldheaa
